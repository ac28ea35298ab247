/-
  Texts of one proof, one behind the other.
-/
import Derived.Test.YtpgcdbhjmlcfaaaGreatDoorP2
set_option linter.all false
section
namespace Go.Am
open Go
structure Stp where
 ks : List Nat
 es : List Ent
 g : Bool
 x : AV
def Stp.app (p : Stp) (o : Oper) (S : St) : St := ({ S with mem := putAll S.mem p.es } : St).put o.dst p.g p.x
def lkDst (all : List Oper) (j : Nat) : List Nat :=
 match all[j]? with
 | some o => match o.dst with | some t => [t] | none => []
 | none => []
def looks (all : List Oper) (o : Oper) : List Nat :=
 (o.op.operands.toList.filterMap fun | .tmp t => some t | _ => none) ++ (match o.guard with | some (j, _) => lkDst all j | none => [])
structure Agree (all : List Oper) (o : Oper) (ks : List Nat) (S' S : St) : Prop where
 n : S'.n = S.n
 gl : S'.gl = S.gl
 keys : S'.mem.map (·.key) = S.mem.map (·.key)
 env : ∀ t ∈ looks all o, Env.lk S'.env t = Env.lk S.env t
 mem : ∀ k ∈ ks, Mem.get S'.mem k = Mem.get S.mem k
def StepL (P : Program) (all : List Oper) (S : St) (o : Oper) (p : Stp) : Prop :=
 ∀ S', Agree all o p.ks S' S → ∀ φ G a w, Rel φ G S' a w → ∀ (next : Act → World → Prop) (R : Exit → Act → World → Prop),
  (∀ φ' a' w', Rel φ' G (p.app o S') a' w' → Keeps φ S'.mem w φ' (p.app o S').mem w' → next a' w') →
  if Region.wanted o (yielded all.toArray a.tmps) then o.wp P a w next R else next (a.put o.dst undef) w
def StepI (P : Program) (I : Mem → Prop) (all : List Oper) (S : St) (o : Oper) (p : Stp) : Prop :=
 ∀ S', Agree all o p.ks S' S → I S'.mem → ∀ φ G a w, Rel φ G S' a w → ∀ (next : Act → World → Prop) (R : Exit → Act → World → Prop),
  (∀ φ' a' w', Rel φ' G (p.app o S') a' w' → Keeps φ S'.mem w φ' (p.app o S').mem w' → next a' w') →
  if Region.wanted o (yielded all.toArray a.tmps) then o.wp P a w next R else next (a.put o.dst undef) w
theorem StepL.toI {P : Program} {I : Mem → Prop} {all : List Oper} {S : St} {o : Oper} {p : Stp} (h : StepL P all S o p) : StepI P I all S o p := fun S' ha _ => h S' ha
inductive Cert (P : Program) (I : Mem → Prop) (all : List Oper) : List Oper → St → List Stp → St → Prop
 | nil (S) : Cert P I all [] S [] S
 | cons (o rest S p ps S1) (hk : ∀ e ∈ p.es, e.key ∈ p.ks) (hI : ∀ m, I m → I (putAll m p.es)) (h : StepI P I all S o p) (hr : Cert P I all rest (p.app o S) ps S1) : Cert P I all (o :: rest) S (p :: ps) S1
def preds (o : Oper) : List Nat := (o.after.toList.filter (Region.binds .any)).map (·.on)
def ancs : List Oper → List (List Nat) → List (List Nat)
 | [], acc => acc
 | o :: r, acc => ancs r (acc ++ [((preds o).flatMap fun p => p :: acc.getD p []).eraseDups])
def disj (l r : List Nat) : Bool := l.all fun x => !r.contains x
def apartB (all : List Oper) (o o' : Oper) (p p' : Stp) : Bool :=
 disj o.dst.toList (looks all o') && disj o'.dst.toList (looks all o) && disj o.dst.toList o'.dst.toList && disj (p.es.map (·.key)) p'.ks && disj (p'.es.map (·.key)) p.ks
def ordAt (all : List Oper) (ps : List Stp) (an : List (List Nat)) (j : Nat) : Bool :=
 match all[j]?, ps[j]? with
 | some o, some p => (preds o).all (fun i => decide (i < j)) && (List.range j).all fun i => (an.getD j []).contains i || (match all[i]?, ps[i]? with
  | some o', some p' => apartB all o' o p' p
  | _, _ => false)
 | _, _ => false
def ordOk (all : List Oper) (ps : List Stp) : Bool := (List.range all.length).all (ordAt all ps (ancs all []))
theorem ancs_append : ∀ (l : List Oper) (acc : List (List Nat)), ∃ r, ancs l acc = acc ++ r ∧ r.length = l.length
 | [], acc => ⟨[], by simp [ancs]⟩
 | o :: l, acc => by
  obtain ⟨r, h1, h2⟩ := ancs_append l (acc ++ [((preds o).flatMap fun p => p :: acc.getD p []).eraseDups])
  exact ⟨((preds o).flatMap fun p => p :: acc.getD p []).eraseDups :: r, by rw [ancs, h1, List.append_assoc, List.singleton_append], by simp [h2]⟩
theorem mem_eraseDups {l : List Nat} {x : Nat} : x ∈ l.eraseDups ↔ x ∈ l := List.mem_eraseDups
theorem ancs_spec : ∀ (l : List Oper) (acc : List (List Nat)) (j : Nat) (o : Oper), l[j]? = some o → (∀ p ∈ preds o, p < acc.length + j) →
 ∀ i, i ∈ (ancs l acc).getD (acc.length + j) [] ↔ ∃ p ∈ preds o, i = p ∨ i ∈ (ancs l acc).getD p []
 | [], acc, j, o, h, _ => by simp at h
 | x :: l, acc, j, o, h, hp => by
  simp only [ancs]
  cases j with
  | zero =>
   simp at h; subst h
   obtain ⟨r, h1, _⟩ := ancs_append l (acc ++ [((preds x).flatMap fun p => p :: acc.getD p []).eraseDups])
   rw [h1]
   intro i
   have e1 : (acc ++ [((preds x).flatMap fun p => p :: acc.getD p []).eraseDups] ++ r).getD (acc.length + 0) [] = ((preds x).flatMap fun p => p :: acc.getD p []).eraseDups := by
    simp [List.getD_eq_getElem?_getD, List.append_assoc]
   rw [e1, mem_eraseDups, List.mem_flatMap]
   constructor
   · rintro ⟨p, hpm, hi⟩
     refine ⟨p, hpm, ?_⟩
     have hlt := hp p hpm
     rcases List.mem_cons.1 hi with rfl | hi
     · exact .inl rfl
     · right
       rw [List.getD_eq_getElem?_getD] at hi ⊢
       rw [List.append_assoc, List.getElem?_append_left (by omega)]
       exact hi
   · rintro ⟨p, hpm, hi⟩
     refine ⟨p, hpm, ?_⟩
     have hlt := hp p hpm
     rcases hi with rfl | hi
     · simp
     · rw [List.getD_eq_getElem?_getD, List.append_assoc, List.getElem?_append_left (by omega), ← List.getD_eq_getElem?_getD] at hi
       exact List.mem_cons_of_mem _ hi
  | succ j =>
   have := ancs_spec l (acc ++ [((preds x).flatMap fun p => p :: acc.getD p []).eraseDups]) j o (by simpa using h) (fun p hpm => by have := hp p hpm; simp; omega)
   simp only [List.length_append, List.length_cons, List.length_nil] at this
   rw [show acc.length + (j + 1) = acc.length + (0 + 1) + j by omega]
   exact this
theorem anc_closed {all : List Oper} {L : Nat → Prop} (hp : ∀ j o, all[j]? = some o → ∀ p ∈ preds o, p < j) (hL : ∀ j o, all[j]? = some o → L j → ∀ p ∈ preds o, L p) :
 ∀ j, (∃ o, all[j]? = some o) → ∀ i, i ∈ (ancs all []).getD j [] → i < j ∧ ((∀ o, all[j]? = some o → ∀ p ∈ preds o, L p) → L i) := by
 intro j
 induction j using Nat.strongRecOn with
 | _ j ih =>
  rintro ⟨o, ho⟩ i hi
  have hs := (ancs_spec all [] j o ho (fun p hpm => by simpa using hp j o ho p hpm) i)
  simp only [List.length_nil, Nat.zero_add] at hs
  obtain ⟨p, hpm, h⟩ := hs.1 hi
  have hpj := hp j o ho p hpm
  rcases h with rfl | h
  · exact ⟨hpj, fun hh => hh o ho i hpm⟩
  · have hjl : j < all.length := (List.getElem?_eq_some_iff.1 ho).1
    obtain ⟨op, hop⟩ : ∃ op, all[p]? = some op := ⟨all[p], by simp [show p < all.length by omega]⟩
    obtain ⟨h1, h2⟩ := ih p hpj ⟨op, hop⟩ i h
    exact ⟨by omega, fun hh => h2 (fun o' ho' q hq => hL p o' ho' (hh o ho p hpm) q hq)⟩
def runAll (all : List Oper) (ps : List Stp) (S : St) (l : List Nat) : St :=
 l.foldl (fun S i => match all[i]?, ps[i]? with | some o, some p => p.app o S | _, _ => S) S
theorem app_n (p : Stp) (o : Oper) (S : St) : (p.app o S).n = S.n := by simp [Stp.app, put_n]
theorem app_gl (p : Stp) (o : Oper) (S : St) : (p.app o S).gl = S.gl := by cases h : o.dst <;> simp [Stp.app, h, St.put]
theorem app_keys (p : Stp) (o : Oper) (S : St) : (p.app o S).mem.map (·.key) = S.mem.map (·.key) := by simp [Stp.app, put_mem, putAll_keys]
theorem app_lk (p : Stp) (o : Oper) (S : St) (t : Nat) : Env.lk (p.app o S).env t = if o.dst = some t then some (p.g, p.x) else Env.lk S.env t := by
 cases hd : o.dst with
 | none => simp [Stp.app, St.put, hd]
 | some d =>
  by_cases h : d = t
  · subst h; simp [Stp.app, St.put, hd, Env.lk]
  · simp [Stp.app, St.put, hd, Env.lk, h]
theorem putAll_get_ne : ∀ (es : List Ent) (m : Mem) (k : Nat), k ∉ es.map (·.key) → Mem.get (putAll m es) k = Mem.get m k
 | [], m, k, _ => rfl
 | e :: r, m, k, h => by
  simp only [List.map_cons, List.mem_cons, not_or] at h
  rw [putAll, putAll_get_ne r _ k h.2, Mem.get_set_ne (fun he => h.1 he.symm)]
theorem putAll_get_eq : ∀ (es : List Ent) (m m' : Mem) (k : Nat), m.map (·.key) = m'.map (·.key) → (k ∈ es.map (·.key) ∨ Mem.get m k = Mem.get m' k) → Mem.get (putAll m es) k = Mem.get (putAll m' es) k
 | [], m, m', k, _, h => by simpa [putAll] using h
 | e :: r, m, m', k, hk, h => by
  simp only [putAll]
  refine putAll_get_eq r _ _ k (by rw [Mem.set_keys, Mem.set_keys, hk]) ?_
  by_cases he : e.key = k
  · right
    subst he
    by_cases hin : e.key ∈ m.map (·.key)
    · rw [Mem.get_set_same hin, Mem.get_set_same (hk ▸ hin)]
    · have none_of : ∀ (m : Mem), e.key ∉ m.map (·.key) → Mem.get (Mem.set m e) e.key = none := by
       intro m hm
       cases hg : Mem.get (Mem.set m e) e.key with
       | none => rfl
       | some y =>
        obtain ⟨h1, h2⟩ := Mem.get_mem hg
        have : y.key ∈ (Mem.set m e).map (·.key) := List.mem_map_of_mem h1
        rw [Mem.set_keys, h2] at this
        exact absurd this hm
      rw [none_of m hin, none_of m' (hk ▸ hin)]
  · rw [Mem.get_set_ne he, Mem.get_set_ne he]
    rcases h with h | h
    · simp only [List.map_cons, List.mem_cons] at h
      rcases h with h | h
      · exact absurd h.symm he
      · exact .inl h
    · exact .inr h
theorem app_get_ne (p : Stp) (o : Oper) (S : St) (k : Nat) (h : k ∉ p.es.map (·.key)) : Mem.get (p.app o S).mem k = Mem.get S.mem k := by
 simp only [Stp.app, put_mem]; exact putAll_get_ne _ _ _ h
section
variable {all : List Oper} {ps : List Stp} {S : St}
theorem runAll_n (l : List Nat) : ∀ (S : St), (runAll all ps S l).n = S.n := by
 induction l with
 | nil => exact fun _ => rfl
 | cons i l ih =>
  intro S
  have e1 : runAll all ps S (i :: l) = runAll all ps (runAll all ps S [i]) l := by simp [runAll]
  rw [e1, ih]
  simp only [runAll, List.foldl_cons, List.foldl_nil]
  split
  · exact app_n ..
  · rfl
theorem runAll_gl (l : List Nat) : ∀ (S : St), (runAll all ps S l).gl = S.gl := by
 induction l with
 | nil => exact fun _ => rfl
 | cons i l ih =>
  intro S
  have e1 : runAll all ps S (i :: l) = runAll all ps (runAll all ps S [i]) l := by simp [runAll]
  rw [e1, ih]
  simp only [runAll, List.foldl_cons, List.foldl_nil]
  split
  · exact app_gl ..
  · rfl
theorem runAll_keys (l : List Nat) : ∀ (S : St), (runAll all ps S l).mem.map (·.key) = S.mem.map (·.key) := by
 induction l with
 | nil => exact fun _ => rfl
 | cons i l ih =>
  intro S
  have e1 : runAll all ps S (i :: l) = runAll all ps (runAll all ps S [i]) l := by simp [runAll]
  rw [e1, ih]
  simp only [runAll, List.foldl_cons, List.foldl_nil]
  split
  · exact app_keys ..
  · rfl
theorem runAll_append (l l' : List Nat) (S : St) : runAll all ps S (l ++ l') = runAll all ps (runAll all ps S l) l' := by simp [runAll]
theorem runAll_lk (t : Nat) (q : Nat → Bool) (l : List Nat) : ∀ (S S' : St), (∀ i ∈ l, ∀ o, all[i]? = some o → o.dst = some t → q i = true) → Env.lk S.env t = Env.lk S'.env t → Env.lk (runAll all ps S l).env t = Env.lk (runAll all ps S' (l.filter q)).env t := by
 induction l with
 | nil => intro S S' _ h; exact h
 | cons i l ih =>
  intro S S' hq h
  have e1 : runAll all ps S (i :: l) = runAll all ps (runAll all ps S [i]) l := by simp [runAll]
  have hq' : ∀ i' ∈ l, ∀ o, all[i']? = some o → o.dst = some t → q i' = true := fun i' hi' => hq i' (List.mem_cons_of_mem _ hi')
  rw [e1]
  by_cases hqi : q i = true
  · rw [List.filter_cons_of_pos hqi]
    have e2 : runAll all ps S' (i :: l.filter q) = runAll all ps (runAll all ps S' [i]) (l.filter q) := by simp [runAll]
    rw [e2]
    refine ih _ _ hq' ?_
    simp only [runAll, List.foldl_cons, List.foldl_nil]
    split
    · rw [app_lk, app_lk, h]
    · exact h
  · rw [List.filter_cons_of_neg hqi]
    refine ih _ _ hq' ?_
    simp only [runAll, List.foldl_cons, List.foldl_nil]
    split
    · rename_i o p ho hp
      rw [app_lk, if_neg (fun hd => hqi (hq i (by simp) o ho hd)), h]
    · exact h
theorem runAll_get (k : Nat) (q : Nat → Bool) (l : List Nat) : ∀ (S S' : St), (∀ i ∈ l, ∀ p, ps[i]? = some p → k ∈ p.es.map (·.key) → q i = true) → S.mem.map (·.key) = S'.mem.map (·.key) → Mem.get S.mem k = Mem.get S'.mem k → Mem.get (runAll all ps S l).mem k = Mem.get (runAll all ps S' (l.filter q)).mem k := by
 induction l with
 | nil => intro S S' _ _ h; exact h
 | cons i l ih =>
  intro S S' hq hk h
  have e1 : runAll all ps S (i :: l) = runAll all ps (runAll all ps S [i]) l := by simp [runAll]
  have hq' : ∀ i' ∈ l, ∀ p, ps[i']? = some p → k ∈ p.es.map (·.key) → q i' = true := fun i' hi' => hq i' (List.mem_cons_of_mem _ hi')
  rw [e1]
  by_cases hqi : q i = true
  · rw [List.filter_cons_of_pos hqi]
    have e2 : runAll all ps S' (i :: l.filter q) = runAll all ps (runAll all ps S' [i]) (l.filter q) := by simp [runAll]
    rw [e2]
    refine ih _ _ hq' (by rw [runAll_keys, runAll_keys, hk]) ?_
    simp only [runAll, List.foldl_cons, List.foldl_nil]
    split
    · simp only [Stp.app, put_mem]
      exact putAll_get_eq _ _ _ k hk (.inr h)
    · exact h
  · rw [List.filter_cons_of_neg hqi]
    refine ih _ _ hq' (by rw [runAll_keys, hk]) ?_
    simp only [runAll, List.foldl_cons, List.foldl_nil]
    split
    · rename_i o p ho hp
      rw [app_get_ne _ _ _ _ (fun hd => hqi (hq i (by simp) p hp hd)), h]
    · exact h
end
structure Eqv (S' S : St) : Prop where
 n : S'.n = S.n
 gl : S'.gl = S.gl
 mem : S'.mem = S.mem
 env : ∀ t, Env.lk S'.env t = Env.lk S.env t
theorem Rel.eqv {φ G S S' a w} (h : Rel φ G S' a w) (he : Eqv S' S) : Rel φ G S a w :=
 ⟨by rw [← he.n]; exact h.size, h.defers, fun t x hx => by rw [← he.mem]; exact h.env t x (by rw [he.env]; exact hx), by rw [← he.mem]; exact h.mem, by rw [← he.gl, ← he.mem]; exact h.glob⟩
theorem Mem.ext {m m' : Mem} (hn : (m.map (·.key)).Nodup) (hk : m.map (·.key) = m'.map (·.key)) (h : ∀ k, Mem.get m k = Mem.get m' k) : m = m' := by
 induction m generalizing m' with
 | nil => cases m' with | nil => rfl | cons _ _ => simp at hk
 | cons e r ih =>
  cases m' with
  | nil => simp at hk
  | cons e' r' =>
   simp only [List.map_cons, List.cons.injEq] at hk
   simp only [List.map_cons, List.nodup_cons] at hn
   have h0 := h e.key
   simp only [Mem.get, if_true, hk.1] at h0
   cases h0
   congr 1
   refine ih hn.2 hk.2 fun k => ?_
   have := h k
   simp only [Mem.get] at this
   by_cases he : e.key = k
   · subst he
     have nn : ∀ {r : Mem}, e.key ∉ r.map (·.key) → Mem.get r e.key = none := by
      intro r hr
      cases hg : Mem.get r e.key with
      | none => rfl
      | some y => obtain ⟨h1, h2⟩ := Mem.get_mem hg; exact absurd (h2 ▸ List.mem_map_of_mem h1) hr
     rw [nn hn.1, nn (by rw [← hk.2]; exact hn.1)]
   · simpa [he] using this
def lst (n : Nat) (f : Nat → Bool) : List Nat := (List.range n).filter f
theorem range_split {j n : Nat} (h : j < n) : List.range n = List.range j ++ j :: List.range' (j + 1) (n - j - 1) := by
 have h2 : (j :: List.range' (j + 1) (n - j - 1)) = List.range' j (n - j) := by
  rw [show n - j = (n - j - 1) + 1 by omega, List.range'_succ]; simp
 rw [h2, List.range_eq_range', List.range_eq_range']
 rw [show List.range' 0 n = List.range' 0 (j + (n - j)) by rw [show j + (n - j) = n by omega]]
 rw [← List.range'_append_1]; simp
theorem lst_split {j n : Nat} {f : Nat → Bool} (h : j < n) (hf : f j = false) : lst n f = (List.range j).filter f ++ (List.range' (j + 1) (n - j - 1)).filter f := by
 rw [lst, range_split h, List.filter_append, List.filter_cons_of_neg (by simp [hf])]
theorem lst_split1 {j n : Nat} {f g : Nat → Bool} (h : j < n) (hg : g j = true) (hne : ∀ i, i ≠ j → g i = f i) : lst n g = (List.range j).filter f ++ j :: (List.range' (j + 1) (n - j - 1)).filter f := by
 rw [lst, range_split h, List.filter_append, List.filter_cons_of_pos hg]
 congr 1
 · exact List.filter_congr fun i hi => hne i (by have := List.mem_range.1 hi; omega)
 · congr 1
   exact List.filter_congr fun i hi => hne i (by have := List.mem_range'_1.1 hi; omega)
theorem disj_spec {l r : List Nat} (h : disj l r = true) {x : Nat} (hl : x ∈ l) (hr : x ∈ r) : False := by
 have := List.all_eq_true.1 h x hl
 simp at this
 exact this hr
structure Apart (all : List Oper) (o o' : Oper) (p p' : Stp) : Prop where
 a : ∀ t, o.dst = some t → t ∉ looks all o'
 b : ∀ t, o'.dst = some t → t ∉ looks all o
 c : ∀ t, o.dst = some t → o'.dst ≠ some t
 d : ∀ k ∈ p.es.map (·.key), k ∉ p'.ks
 e : ∀ k ∈ p'.es.map (·.key), k ∉ p.ks
theorem apartB_spec {all o o' p p'} (h : apartB all o o' p p' = true) : Apart all o o' p p' := by
 simp only [apartB, Bool.and_eq_true] at h
 obtain ⟨⟨⟨⟨h1, h2⟩, h3⟩, h4⟩, h5⟩ := h
 exact ⟨fun t ht hl => disj_spec h1 (by simp [ht]) hl, fun t ht hl => disj_spec h2 (by simp [ht]) hl, fun t ht hl => disj_spec h3 (x := t) (by simp [ht]) (by simp [hl]), fun k hk hl => disj_spec h4 hk hl, fun k hk hl => disj_spec h5 hk hl⟩
section
variable {all : List Oper} {ps : List Stp}
theorem ordOk_spec (h : ordOk all ps = true) {j : Nat} {o : Oper} (ho : all[j]? = some o) : ∃ p, ps[j]? = some p ∧ (∀ i ∈ preds o, i < j) ∧
 ∀ i, i < j → i ∈ (ancs all []).getD j [] ∨ ∃ o' p', all[i]? = some o' ∧ ps[i]? = some p' ∧ Apart all o' o p' p := by
 have hj : j < all.length := (List.getElem?_eq_some_iff.1 ho).1
 have h1 := List.all_eq_true.1 h j (List.mem_range.2 hj)
 unfold ordAt at h1
 rw [ho] at h1
 cases hp : ps[j]? with
 | none => rw [hp] at h1; simp at h1
 | some p =>
  rw [hp] at h1
  simp only [Bool.and_eq_true, List.all_eq_true, decide_eq_true_eq, Bool.or_eq_true, List.mem_range] at h1
  refine ⟨p, rfl, h1.1, fun i hi => ?_⟩
  rcases h1.2 i hi with h2 | h2
  · exact .inl (by simpa using h2)
  · right
    split at h2
    · rename_i o' p' ho' hp'; exact ⟨o', p', ho', hp', apartB_spec h2⟩
    · cases h2
theorem Cert.at {P : Program} {I : Mem → Prop} {rest : List Oper} {S0 S : St} {qs : List Stp} {S1 : St} (h : Cert P I all rest S qs S1) : ∀ (pre : List Oper) (pp : List Stp), pre.length = pp.length → all = pre ++ rest → ps = pp ++ qs → runAll all ps S0 (List.range pre.length) = S →
 runAll all ps S0 (List.range all.length) = S1 ∧ ps.length = all.length ∧ ∀ j o p, pre.length ≤ j → all[j]? = some o → ps[j]? = some p → (∀ e ∈ p.es, e.key ∈ p.ks) ∧ (∀ m, I m → I (putAll m p.es)) ∧ StepI P I all (runAll all ps S0 (List.range j)) o p := by
 induction h with
 | nil S =>
  intro pre pp hl ha hps hS
  simp only [List.append_nil] at ha hps
  subst ha hps
  refine ⟨hS, hl.symm, fun j o p hj ho _ => ?_⟩
  rw [List.getElem?_eq_none (by omega)] at ho
  cases ho
 | cons o rest S p qs S1 hk hI hst hr ih =>
  intro pre pp hl ha hps hS
  have e1 : all[pre.length]? = some o := by rw [ha]; simp
  have e2 : ps[pre.length]? = some p := by rw [hps, hl]; simp
  obtain ⟨h1, h2, h3⟩ := ih (pre ++ [o]) (pp ++ [p]) (by simp [hl]) (by rw [ha]; simp) (by rw [hps]; simp) (by
   rw [List.length_append, List.length_singleton, List.range_succ, runAll_append, hS]
   simp [runAll, e1, e2])
  refine ⟨h1, h2, fun j o' p' hj ho' hp' => ?_⟩
  rcases Nat.eq_or_lt_of_le hj with rfl | hj
  · rw [e1] at ho'; rw [e2] at hp'
    cases ho'; cases hp'
    exact ⟨hk, hI, by rw [hS]; exact hst⟩
  · exact h3 j o' p' (by simp; omega) ho' hp'
variable {S : St} {f : Nat → Bool}
def Closed (all : List Oper) (f : Nat → Bool) : Prop := ∀ j o, all[j]? = some o → f j = true → ∀ p ∈ preds o, f p = true
theorem ready_agree (hlen : ps.length = all.length) (hord : ordOk all ps = true) (hcl : Closed all f) {j : Nat} {o : Oper} {p : Stp} (ho : all[j]? = some o) (hp : ps[j]? = some p) (hj : f j = false) (hpre : ∀ i ∈ preds o, f i = true) :
 Agree all o p.ks (runAll all ps S (lst all.length f)) (runAll all ps S (List.range j)) := by
 have hlt : j < all.length := (List.getElem?_eq_some_iff.1 ho).1
 have hpl : ∀ j o, all[j]? = some o → ∀ p ∈ preds o, p < j := fun j o ho => (ordOk_spec hord ho).choose_spec.2.1
 obtain ⟨p0, hp0, _, hap⟩ := ordOk_spec hord ho
 rw [hp] at hp0; cases hp0
 -- what stands ahead of j is listed
 have hanc : ∀ i ∈ (ancs all []).getD j [], i < j ∧ f i = true := fun i hi => by
  obtain ⟨h1, h2⟩ := anc_closed (L := fun i => f i = true) hpl (fun j o ho hf => hcl j o ho hf) j ⟨o, ho⟩ i hi
  exact ⟨h1, h2 fun o' ho' => by rw [ho] at ho'; cases ho'; exact hpre⟩
 let q : Nat → Bool := fun i => (ancs all []).getD j [] |>.contains i
 have hq : ∀ i, q i = true ↔ i ∈ (ancs all []).getD j [] := fun i => by simp [q]
 -- any other listed one, and any other ahead in the text, is apart
 have hother : ∀ i, (i < j ∨ (j < i ∧ f i = true)) → q i = false → ∀ oi pi, all[i]? = some oi → ps[i]? = some pi → Apart all oi o pi p ∨ Apart all o oi p pi := by
  rintro i (hi | ⟨hi, hfi⟩) hqi oi pi hoi hpi
  · rcases hap i hi with h | ⟨o', p', ho', hp', h⟩
    · rw [(hq i).2 h] at hqi; cases hqi
    · rw [hoi] at ho'; rw [hpi] at hp'; cases ho'; cases hp'
      exact .inl h
  · obtain ⟨pi', hpi', _, hapi⟩ := ordOk_spec hord hoi
    rw [hpi] at hpi'; cases hpi'
    rcases hapi j hi with h | ⟨o', p', ho', hp', h⟩
    · have := (anc_closed (L := fun i => f i = true) hpl (fun j o ho hf => hcl j o ho hf) i ⟨oi, hoi⟩ j h).2 (fun o' ho' => by rw [hoi] at ho'; cases ho'; exact hcl i oi hoi hfi)
      simp [hj] at this
    · rw [ho] at ho'; rw [hp] at hp'; cases ho'; cases hp'
      exact .inr h
 have hfilter : (lst all.length f).filter q = (List.range j).filter q := by
  rw [lst_split hlt hj, List.filter_append, List.filter_filter, List.filter_filter]
  have : (List.range' (j + 1) (all.length - j - 1)).filter (fun a => q a && f a) = [] := by
   rw [List.filter_eq_nil_iff]
   intro i hi
   have := (List.mem_range'_1.1 hi).1
   simp only [Bool.and_eq_true, not_and]
   intro hqi
   have := (hanc i ((hq i).1 hqi)).1
   omega
  rw [this, List.append_nil]
  refine List.filter_congr fun i hi => ?_
  cases hqi : q i with
  | false => rfl
  | true => simp [(hanc i ((hq i).1 hqi)).2]
 have hl : ∀ i ∈ lst all.length f, i < j ∨ (j < i ∧ f i = true) := fun i hi => by
  have hfi := (List.mem_filter.1 hi).2
  rcases Nat.lt_trichotomy i j with h | h | h
  · exact .inl h
  · subst h; simp [hj] at hfi
  · exact .inr ⟨h, hfi⟩
 have hr : ∀ i ∈ List.range j, i < j ∨ (j < i ∧ f i = true) := fun i hi => .inl (List.mem_range.1 hi)
 refine ⟨by rw [runAll_n, runAll_n], by rw [runAll_gl, runAll_gl], by rw [runAll_keys, runAll_keys], fun t ht => ?_, fun k hk => ?_⟩
 · have key : ∀ l : List Nat, (∀ i ∈ l, i < j ∨ (j < i ∧ f i = true)) → ∀ i ∈ l, ∀ oi, all[i]? = some oi → oi.dst = some t → q i = true := by
    intro l hl i hi oi hoi hd
    cases hqi : q i with
    | true => rfl
    | false =>
     obtain ⟨pi, hpi, _⟩ := ordOk_spec hord hoi
     rcases hother i (hl i hi) hqi oi pi hoi hpi with h | h
     · exact absurd ht (h.a t hd)
     · exact absurd ht (h.b t hd)
   rw [runAll_lk t q _ S S (key _ hl) rfl, runAll_lk t q (List.range j) S S (key _ hr) rfl, hfilter]
 · have key : ∀ l : List Nat, (∀ i ∈ l, i < j ∨ (j < i ∧ f i = true)) → ∀ i ∈ l, ∀ pi, ps[i]? = some pi → k ∈ pi.es.map (·.key) → q i = true := by
    intro l hl i hi pi hpi hd
    cases hqi : q i with
    | true => rfl
    | false =>
     have hil : i < ps.length := (List.getElem?_eq_some_iff.1 hpi).1
     cases hoi : all[i]? with
     | none =>
      rw [List.getElem?_eq_none_iff] at hoi
      omega
     | some oi =>
      rcases hother i (hl i hi) hqi oi pi hoi hpi with h | h
      · exact absurd hk (h.d k hd)
      · exact absurd hk (h.e k hd)
   rw [runAll_get k q _ S S (key _ hl) rfl rfl, runAll_get k q (List.range j) S S (key _ hr) rfl rfl, hfilter]
theorem ready_step (hlen : ps.length = all.length) (hord : ordOk all ps = true) (hcl : Closed all f) (hks : ∀ (j : Nat) (p : Stp), ps[j]? = some p → ∀ e ∈ p.es, e.key ∈ p.ks) (hnd : (S.mem.map (·.key)).Nodup) {j : Nat} {o : Oper} {p : Stp} (ho : all[j]? = some o) (hp : ps[j]? = some p) (hj : f j = false) {g : Nat → Bool} (hg : g j = true) (hgf : ∀ i, i ≠ j → g i = f i) :
 Eqv (p.app o (runAll all ps S (lst all.length f))) (runAll all ps S (lst all.length g)) := by
 have hlt : j < all.length := (List.getElem?_eq_some_iff.1 ho).1
 have hpl : ∀ j o, all[j]? = some o → ∀ p ∈ preds o, p < j := fun j o ho => (ordOk_spec hord ho).choose_spec.2.1
 have hlate : ∀ i ∈ (List.range' (j + 1) (all.length - j - 1)).filter f, ∀ oi pi, all[i]? = some oi → ps[i]? = some pi → Apart all o oi p pi := by
  intro i hi oi pi hoi hpi
  obtain ⟨hi, hfi⟩ := List.mem_filter.1 hi
  have hji := (List.mem_range'_1.1 hi).1
  obtain ⟨pi', hpi', _, hapi⟩ := ordOk_spec hord hoi
  rw [hpi] at hpi'; cases hpi'
  rcases hapi j (by omega) with h | ⟨o', p', ho', hp', h⟩
  · have := (anc_closed (L := fun i => f i = true) hpl (fun j o ho hf => hcl j o ho hf) i ⟨oi, hoi⟩ j h).2 (fun o' ho' => by rw [hoi] at ho'; cases ho'; exact hcl i oi hoi hfi)
    simp [hj] at this
  · rw [ho] at ho'; rw [hp] at hp'; cases ho'; cases hp'
    exact h
 rw [lst_split1 hlt hg hgf, lst_split hlt hj]
 generalize hL1 : (List.range j).filter f = L1
 generalize hL2 : (List.range' (j + 1) (all.length - j - 1)).filter f = L2 at hlate
 have hne1 : ∀ i ∈ L1 ++ L2, i ≠ j := by
  intro i hi
  rw [← hL1, ← hL2] at hi
  rcases List.mem_append.1 hi with h | h
  · have := List.mem_range.1 (List.mem_filter.1 h).1; omega
  · have := (List.mem_range'_1.1 (List.mem_filter.1 h).1).1; omega
 have hpsall : ∀ {i pi}, ps[i]? = some pi → ∃ oi, all[i]? = some oi := fun {i pi} h => by
  have := (List.getElem?_eq_some_iff.1 h).1
  exact ⟨all[i]'(by omega), List.getElem?_eq_getElem _⟩
 let q : Nat → Bool := fun i => i != j
 have hf1 : (L1 ++ j :: L2).filter q = L1 ++ L2 := by
  rw [List.filter_append, List.filter_cons_of_neg (by simp [q]), ← List.filter_append, List.filter_eq_self]
  intro i hi; simpa [q] using hne1 i hi
 have hone : ∀ S, runAll all ps S (L1 ++ j :: L2) = runAll all ps (p.app o (runAll all ps S L1)) L2 := fun S => by
  rw [runAll_append]
  simp [runAll, ho, hp]
 have hkeys : (p.app o (runAll all ps S (L1 ++ L2))).mem.map (·.key) = (runAll all ps S (L1 ++ j :: L2)).mem.map (·.key) := by
  rw [app_keys, runAll_keys, runAll_keys]
 refine ⟨by rw [app_n, runAll_n, runAll_n], by rw [app_gl, runAll_gl, runAll_gl], Mem.ext (by rw [app_keys, runAll_keys]; exact hnd) hkeys fun k => ?_, fun t => ?_⟩
 · by_cases hk : k ∈ p.es.map (·.key)
   · have h1 : Mem.get (p.app o (runAll all ps S (L1 ++ L2))).mem k = Mem.get (p.app o (runAll all ps S L1)).mem k := by
      simp only [Stp.app, put_mem]
      exact putAll_get_eq _ _ _ k (by rw [runAll_keys, runAll_keys]) (.inl hk)
     rw [h1, hone]
     rw [runAll_get k (fun _ => false) L2 _ (p.app o (runAll all ps S L1)) ?_ rfl rfl]
     · rw [List.filter_eq_nil_iff.2 (by simp)]; rfl
     · intro i hi pi hpi hki
       obtain ⟨oi, hoi⟩ := hpsall hpi
       have := (hlate i hi oi pi hoi hpi).e k hki
       obtain ⟨e, he, rfl⟩ := List.mem_map.1 hk
       exact absurd (hks j p hp e he) this
   · rw [app_get_ne _ _ _ _ hk, runAll_get k q (L1 ++ j :: L2) S S ?_ rfl rfl, hf1]
     intro i hi pi hpi hki
     by_cases hij : i = j
     · subst hij; rw [hp] at hpi; cases hpi; exact absurd hki hk
     · simpa [q] using hij
 · rw [app_lk]
   by_cases hd : o.dst = some t
   · rw [if_pos hd, hone]
     rw [runAll_lk t (fun _ => false) L2 _ (p.app o (runAll all ps S L1)) ?_ rfl]
     · rw [List.filter_eq_nil_iff.2 (by simp)]; simp [runAll, app_lk, hd]
     · intro i hi oi hoi hdi
       obtain ⟨pi, hpi, _⟩ := ordOk_spec hord hoi
       exact absurd hdi ((hlate i hi oi pi hoi hpi).c t hd)
   · rw [if_neg hd, runAll_lk t q (L1 ++ j :: L2) S S ?_ rfl, hf1]
     intro i hi oi hoi hdi
     by_cases hij : i = j
     · subst hij; rw [ho] at hoi; cases hoi; exact absurd hdi hd
     · simpa [q] using hij
theorem wpAny_cert {P : Program} {S0 S1 : St} {φ0 : Phi} {G : Fr} {w0 : World} {Q : Exit → Act → World → Prop} {I : Mem → Prop} (hI0 : I S0.mem) (hc : Cert P I all all S0 ps S1) (hord : ordOk all ps = true) (hnd : (S0.mem.map (·.key)).Nodup)
 (hQ : ∀ φ' a' w', Rel φ' G S1 a' w' → Keeps φ0 S0.mem w0 φ' S1.mem w' → Q .normal a' w') :
 ∀ (fuel : Nat) (listed : Array Bool) φ a w, listed.size = all.length → Closed all (fun i => listed.getD i false) → Rel φ G (runAll all ps S0 (lst all.length fun i => listed.getD i false)) a w → Keeps φ0 S0.mem w0 φ (runAll all ps S0 (lst all.length fun i => listed.getD i false)).mem w →
  ((List.range all.length).filter fun i => !listed.getD i false).length ≤ fuel → wpAny P .any all.toArray Q fuel listed a w := by
 obtain ⟨hfin, hlen, hst⟩ := Cert.at (ps := ps) (S0 := S0) hc [] [] rfl rfl rfl rfl
 have hks : ∀ (j : Nat) (p : Stp), ps[j]? = some p → ∀ e ∈ p.es, e.key ∈ p.ks := fun j p hp => by
  have hjl : j < ps.length := (List.getElem?_eq_some_iff.1 hp).1
  exact (hst j (all[j]'(by omega)) p (by simp) (by simp) hp).1
 have hIs : ∀ l : List Nat, I (runAll all ps S0 l).mem := by
  have key : ∀ (l : List Nat) (S : St), I S.mem → I (runAll all ps S l).mem := by
   intro l
   induction l with
   | nil => exact fun _ h => h
   | cons i l ih =>
    intro S h
    have e1 : runAll all ps S (i :: l) = runAll all ps (runAll all ps S [i]) l := by simp [runAll]
    rw [e1]
    refine ih _ ?_
    simp only [runAll, List.foldl_cons, List.foldl_nil]
    split
    · rename_i o p ho hp
      simp only [Stp.app, put_mem]
      exact (hst i o p (by simp) ho hp).2.1 _ h
    · exact h
  exact fun l => key l S0 hI0
 -- the first that isn't listed is ready
 have first : ∀ (f : Nat → Bool) (n : Nat), n ≤ all.length → (∀ i, i < n → f i = true) ∨ ∃ i, i < n ∧ f i = false ∧ ∀ i', i' < i → f i' = true := by
  intro f n
  induction n with
  | zero => exact fun _ => .inl (fun i hi => by omega)
  | succ n ih =>
   intro hn
   rcases ih (by omega) with h | ⟨i, h1, h2, h3⟩
   · cases hf : f n with
     | true =>
      refine .inl fun i hi => ?_
      rcases Nat.lt_succ_iff_lt_or_eq.1 hi with h' | h'
      · exact h i h'
      · rw [h']; exact hf
     | false => exact .inr ⟨n, by omega, hf, h⟩
   · exact .inr ⟨i, by omega, h2, h3⟩
 have done : ∀ (listed : Array Bool) φ a w, listed.size = all.length → Rel φ G (runAll all ps S0 (lst all.length fun i => listed.getD i false)) a w → Keeps φ0 S0.mem w0 φ (runAll all ps S0 (lst all.length fun i => listed.getD i false)).mem w → Region.ready .any all.toArray listed = [] → Q .normal a w := by
  intro listed φ a w hsz hr hk hemp
  have hall : ∀ i, i < all.length → listed.getD i false = true := by
   rcases first (fun i => listed.getD i false) all.length (Nat.le_refl _) with h | ⟨i, h1, h2, h3⟩
   · exact h
   · exfalso
     have : i ∈ Region.ready .any all.toArray listed := by
      rw [mem_ready]
      refine ⟨?_, all[i], by simp [h1], fun e he hb => ?_⟩
      · have : i < listed.size := by omega
        simp only [Array.getD_eq_getD_getElem?, Array.getElem?_eq_getElem this, Option.getD_some] at h2 ⊢
        exact h2
      · obtain ⟨p, _, hp, _⟩ := ordOk_spec hord (show all[i]? = some all[i] by simp [h1])
        exact h3 e.on (hp e.on (by
         simp only [preds, List.mem_map, List.mem_filter]
         exact ⟨e, ⟨by simpa using he, hb⟩, rfl⟩))
     rw [hemp] at this
     cases this
  have hl : (lst all.length fun i => listed.getD i false) = List.range all.length := by
   rw [lst, List.filter_eq_self]
   intro i hi
   exact hall i (List.mem_range.1 hi)
  rw [hl, hfin] at hr hk
  exact hQ φ a w hr hk
 intro fuel
 induction fuel with
 | zero =>
  intro listed φ a w hsz hcl hr hk hf
  have hemp : Region.ready .any all.toArray listed = [] := by
   cases h : Region.ready .any all.toArray listed with
   | nil => rfl
   | cons i r =>
    exfalso
    have hi : i ∈ Region.ready .any all.toArray listed := by rw [h]; simp
    rw [mem_ready] at hi
    obtain ⟨h0, o, ho, _⟩ := hi
    have hil : i < all.length := by
     have := (Array.getElem?_eq_some_iff.1 ho).1; simpa using this
    have h0' : listed.getD i false = false := by
     have : i < listed.size := by omega
     simp only [Array.getD_eq_getD_getElem?, Array.getElem?_eq_getElem this, Option.getD_some] at h0 ⊢
     exact h0
    have : i ∈ (List.range all.length).filter fun i => !listed.getD i false := List.mem_filter.2 ⟨List.mem_range.2 hil, by simp [h0']⟩
    have := List.length_pos_of_mem this
    omega
  exact ⟨hemp, done listed φ a w hsz hr hk hemp⟩
 | succ fuel ih =>
  intro listed φ a w hsz hcl hr hk hf
  refine ⟨done listed φ a w hsz hr hk, fun i hi => ?_⟩
  rw [mem_ready] at hi
  obtain ⟨h0, o, ho, hafter⟩ := hi
  have ho' : all[i]? = some o := by simpa using ho
  have hil : i < all.length := (List.getElem?_eq_some_iff.1 ho').1
  have hil2 : i < listed.size := by omega
  have h0' : listed.getD i false = false := by
   simp only [Array.getD_eq_getD_getElem?, Array.getElem?_eq_getElem hil2, Option.getD_some] at h0 ⊢
   exact h0
  have hpre : ∀ k ∈ preds o, listed.getD k false = true := by
   intro k hk'
   simp only [preds, List.mem_map, List.mem_filter] at hk'
   obtain ⟨e, ⟨he, hb⟩, rfl⟩ := hk'
   exact hafter e (by simpa using he) hb
  obtain ⟨p, hp, _⟩ := ordOk_spec hord ho'
  obtain ⟨hke, _, hstep⟩ := hst i o p (by simp) ho' hp
  have hag := ready_agree (S := S0) hlen hord hcl ho' hp h0' hpre
  have hset : (listed.setIfInBounds i true).getD i false = true := by simp [hil2]
  have hsne : ∀ k, k ≠ i → (listed.setIfInBounds i true).getD k false = listed.getD k false := fun k hk' => getD_set_ne false (Ne.symm hk')
  have heq := ready_step (S := S0) (f := fun i => listed.getD i false) (g := fun k => (listed.setIfInBounds i true).getD k false) hlen hord hcl hks hnd ho' hp h0' hset hsne
  have hcl' : Closed all (fun k => (listed.setIfInBounds i true).getD k false) := by
   intro k ok hok hfk x hx
   by_cases hxi : x = i
   · subst hxi; exact hset
   · show (listed.setIfInBounds i true).getD x false = true
     rw [hsne x hxi]
     by_cases hki : k = i
     · subst hki; rw [ho'] at hok; cases hok; exact hpre x hx
     · exact hcl k ok hok ((hsne k hki).symm.trans hfk) x hx
  have hcount : ((List.range all.length).filter fun k => !(listed.setIfInBounds i true).getD k false).length ≤ fuel := by
   have h1 : (List.range all.length).filter (fun k => !(listed.setIfInBounds i true).getD k false) = ((List.range all.length).filter fun k => !listed.getD k false).filter (fun k => k != i) := by
    rw [List.filter_filter]
    refine List.filter_congr fun k _ => ?_
    by_cases hki : k = i
    · subst hki; rw [hset]; simp
    · rw [hsne k hki]; simp [hki]
   have hmem : i ∈ (List.range all.length).filter fun k => !listed.getD k false := List.mem_filter.2 ⟨List.mem_range.2 hil, by simp [h0']⟩
   rw [h1]
   have : (((List.range all.length).filter fun k => !listed.getD k false).filter (fun k => k != i)).length < ((List.range all.length).filter fun k => !listed.getD k false).length := by
    rw [List.length_filter_lt_length_iff_exists]
    exact ⟨i, hmem, by simp⟩
   omega
  have hs := hstep _ hag (hIs _) φ G a w hr (wpAny P .any all.toArray Q fuel (listed.setIfInBounds i true)) Q (fun φ' a' w' hr' hk' =>
   ih _ φ' a' w' (by simpa using hsz) hcl' (hr'.eqv heq) (by rw [← heq.mem]; exact hk.trans hk') hcount)
  unfold wpOp
  rw [ho]
  simp only
  split at hs
  · rename_i hw; rw [if_pos hw]; exact .inl hs
  · rename_i hw; rw [if_neg hw]; exact hs
end
theorem region_draw {P : Program} {S S1 : St} {id : Nat} {ops : List Oper} {ps : List Stp} {I : Mem → Prop} (hI0 : I S.mem) (hm : P.follows .mixedOrders = true) (hc : Cert P I ops ops S ps S1) (hord : ordOk ops ps = true) {φ G a w} (hr : Rel φ G S a w) {Q : Exit → Act → World → Prop}
 (hQ : ∀ φ' a' w', Rel φ' G S1 a' w' → Keeps φ S.mem w φ' S1.mem w' → Q .normal a' w') : (Code.region id ops.toArray true).wp P Q a w := by
 refine wp_region_any hm ?_
 have hdr : Rel φ G S a { w with drawn := w.drawn + 1 } := hr.grow (fun _ _ => rfl) (Nat.le_refl _)
 have hl0 : (lst ops.length fun i => (Array.replicate ops.length false).getD i false) = [] := by
  rw [lst, List.filter_eq_nil_iff]
  intro i hi
  simp [Array.getD_eq_getD_getElem?, List.mem_range.1 hi]
 refine wpAny_cert (S0 := S) (φ0 := φ) (w0 := w) (G := G) hI0 hc hord hr.mem.nodup (fun φ' a' w' hr' hk' => hQ φ' a' w' hr' hk') _ _ φ a _ (by simp) ?_ ?_ ?_ ?_
 · intro j o _ hj
   exfalso
   simp only [Array.getD_eq_getD_getElem?] at hj
   by_cases h : j < ops.length
   · simp [h] at hj
   · simp [h] at hj
 · simp only [List.size_toArray]; rw [hl0]; exact hdr
 · simp only [List.size_toArray]; rw [hl0]; exact Keeps.grow (fun _ _ => rfl) (Nat.le_refl _) rfl rfl rfl
 · simp only [List.size_toArray]
   exact Nat.le_trans (List.length_filter_le _ _) (by simp)
theorem cert_n {P : Program} {I : Mem → Prop} {ops : List Oper} {S S1 : St} {ps : List Stp} (hc : Cert P I ops ops S ps S1) : S1.n = S.n ∧ S1.gl = S.gl := by
 obtain ⟨hfin, _, _⟩ := Cert.at (ps := ps) (S0 := S) hc [] [] rfl rfl rfl rfl
 rw [← hfin]
 exact ⟨runAll_n .., runAll_gl ..⟩
def dstApart (all : List Oper) (o o' : Oper) : Bool := disj o.dst.toList (looks all o') && disj o'.dst.toList (looks all o) && disj o.dst.toList o'.dst.toList
def ordSAt (all : List Oper) (nd : List (List Nat)) (an : List (List Nat)) (j : Nat) : Bool :=
 match all[j]? with
 | some o => (preds o).all (fun i => decide (i < j)) && (List.range j).all fun i => (an.getD j []).contains i || (match all[i]? with
  | some o' => dstApart all o' o && ((nd.getD i []).contains j && (nd.getD j []).contains i)
  | none => false)
 | none => false
def ordS (all : List Oper) (nd : List (List Nat)) : Bool := (List.range all.length).all (ordSAt all nd (ancs all []))
def ordK (ps : List Stp) (es : List Ent) : List Nat → Bool
 | [] => true
 | j :: r => (match ps[j]? with | some q => disj (es.map (·.key)) q.ks | none => false) && ordK ps es r
def ordE (ps : List Stp) (js : List Nat) : List Ent → Bool
 | [] => true
 | e :: es => ordK ps (e :: es) js
def ordL (ps : List Stp) : List (List Nat) → List Stp → Bool
 | _, [] => true
 | [], p :: r => ordE ps [] p.es && ordL ps [] r
 | js :: nd, p :: r => ordE ps js p.es && ordL ps nd r
def ordD (nd : List (List Nat)) (ps : List Stp) : Bool := ordL ps nd ps
theorem ordL_get {ps : List Stp} : ∀ {nd : List (List Nat)} {l : List Stp}, ordL ps nd l = true → ∀ i p, l[i]? = some p → ordE ps (nd.getD i []) p.es = true
 | _, [], _, i, p, hp => by simp at hp
 | [], q :: r, h, i, p, hp => by
  simp only [ordL, Bool.and_eq_true] at h
  cases i with
  | zero => simp at hp; subst hp; simpa using h.1
  | succ i => have := ordL_get h.2 i p (by simpa using hp); simpa using this
 | js :: nd, q :: r, h, i, p, hp => by
  simp only [ordL, Bool.and_eq_true] at h
  cases i with
  | zero => simp at hp; subst hp; simpa using h.1
  | succ i => have := ordL_get h.2 i p (by simpa using hp); simpa using this
theorem ordK_get {ps : List Stp} {es : List Ent} : ∀ {js : List Nat}, ordK ps es js = true → ∀ j ∈ js, ∀ q, ps[j]? = some q → disj (es.map (·.key)) q.ks = true
 | [], _, j, hj, _, _ => by simp at hj
 | k :: r, h, j, hj, q, hq => by
  simp only [ordK, Bool.and_eq_true] at h
  rcases List.mem_cons.1 hj with rfl | hj
  · have := h.1; rw [hq] at this; exact this
  · exact ordK_get h.2 j hj q hq
theorem ordE_get {ps : List Stp} {js : List Nat} : ∀ {es : List Ent}, ordE ps js es = true → ∀ j ∈ js, ∀ q, ps[j]? = some q → disj (es.map (·.key)) q.ks = true
 | [], _, _, _, _, _ => rfl
 | _ :: _, h, j, hj, q, hq => ordK_get h j hj q hq
theorem ord_of {all : List Oper} {nd : List (List Nat)} {ps : List Stp} (hs : ordS all nd = true) (hd : ordD nd ps = true) (hl : ps.length = all.length) : ordOk all ps = true := by
 unfold ordOk
 refine List.all_eq_true.2 fun j hj => ?_
 have h1 := List.all_eq_true.1 hs j hj
 have hj' : j < all.length := List.mem_range.1 hj
 unfold ordSAt at h1
 unfold ordAt
 have hpj : ps[j]? = some (ps[j]'(by omega)) := by simp [hl, hj']
 rw [hpj]
 cases ho : all[j]? with
 | none => rw [ho] at h1; cases h1
 | some o =>
  rw [ho] at h1
  simp only [Bool.and_eq_true, List.all_eq_true, decide_eq_true_eq, Bool.or_eq_true, List.mem_range] at h1 ⊢
  refine ⟨h1.1, fun i hi => ?_⟩
  rcases h1.2 i hi with h2 | h2
  · exact .inl h2
  · right
    have hpi : ps[i]? = some (ps[i]'(by omega)) := by simp [show i < ps.length by omega]
    cases hoi : all[i]? with
    | none => rw [hoi] at h2; cases h2
    | some o' =>
     rw [hoi] at h2
     rw [hpi]
     simp only [Bool.and_eq_true] at h2
     simp only [apartB]
     have e1 := ordE_get (ordL_get hd i _ hpi) j (by simpa using h2.2.1) _ hpj
     have e2 := ordE_get (ordL_get hd j _ hpj) i (by simpa using h2.2.2) _ hpi
     have e3 := h2.1
     simp only [dstApart, Bool.and_eq_true] at e3
     simp only [Bool.and_eq_true]
     exact ⟨⟨e3, e1⟩, e2⟩
def LastFree (all : List Oper) : Prop := ∀ i, i + 1 < all.length → i ∈ (ancs all []).getD (all.length - 1) []
theorem lastFree_of {all : List Oper} {nd : List (List Nat)} (hs : ordS all nd = true) (hn : nd.getD (all.length - 1) [] = []) : LastFree all := by
 intro i hi
 have h1 := List.all_eq_true.1 hs (all.length - 1) (List.mem_range.2 (by omega))
 unfold ordSAt at h1
 rw [List.getElem?_eq_getElem (by omega)] at h1
 simp only [Bool.and_eq_true, List.all_eq_true, Bool.or_eq_true, List.mem_range] at h1
 rcases h1.2 i (by omega) with h2 | h2
 · simpa using h2
 · rw [List.getElem?_eq_getElem (by omega)] at h2
   simp only [Bool.and_eq_true] at h2
   have := h2.2.2
   rw [hn] at this
   cases this
def dmS : Stp := ⟨[], [], false, .junk⟩
section
variable {all : List Oper} {ps : List Stp}
theorem Cert.at2 {P : Program} {I : Mem → Prop} {rest : List Oper} {S0 S : St} {qs : List Stp} {S1 : St} (h : Cert P I all rest S qs S1) : ∀ (pre : List Oper) (pp : List Stp) (tl : List Oper) (tq : List Stp), pre.length = pp.length → all = pre ++ rest ++ tl → ps = pp ++ qs ++ tq → runAll all ps S0 (List.range pre.length) = S →
 runAll all ps S0 (List.range (pre.length + rest.length)) = S1 ∧ qs.length = rest.length ∧ ∀ j o p, pre.length ≤ j → j < pre.length + rest.length → all[j]? = some o → ps[j]? = some p → (∀ e ∈ p.es, e.key ∈ p.ks) ∧ (∀ m, I m → I (putAll m p.es)) ∧ StepI P I all (runAll all ps S0 (List.range j)) o p := by
 induction h with
 | nil S =>
  intro pre pp tl tq hl ha hps hS
  exact ⟨by simpa using hS, rfl, fun j o p hj hj2 _ => by simp at hj2; omega⟩
 | cons o rest S p qs S1 hk hI hst hr ih =>
  intro pre pp tl tq hl ha hps hS
  have e1 : all[pre.length]? = some o := by rw [ha]; simp
  have e2 : ps[pre.length]? = some p := by rw [hps, hl]; simp
  obtain ⟨h1, h2, h3⟩ := ih (pre ++ [o]) (pp ++ [p]) tl tq (by simp [hl]) (by rw [ha]; simp) (by rw [hps]; simp) (by
   rw [List.length_append, List.length_singleton, List.range_succ, runAll_append, hS]
   simp [runAll, e1, e2])
  refine ⟨by rw [← h1]; simp; congr 2; omega, by simp [h2], fun j o' p' hj hj2 ho' hp' => ?_⟩
  rcases Nat.eq_or_lt_of_le hj with rfl | hj
  · rw [e1] at ho'; rw [e2] at hp'
    cases ho'; cases hp'
    exact ⟨hk, hI, by rw [hS]; exact hst⟩
  · exact h3 j o' p' (by simp; omega) (by simp at hj2 ⊢; omega) ho' hp'
theorem wpAny_last {P : Program} {S0 S1 : St} {φ0 : Phi} {G : Fr} {w0 : World} {Q : Exit → Act → World → Prop} {I : Mem → Prop} {init : List Oper} {ol : Oper} (hall : all = init ++ [ol]) (hlf : LastFree all) (hI0 : I S0.mem) {qs : List Stp} (hc : Cert P I all init S0 qs S1) (hps : ps = qs ++ [dmS]) (hord : ordOk all ps = true) (hnd : (S0.mem.map (·.key)).Nodup)
 (hlast : ∀ φ a w, Rel φ G S1 a w → Keeps φ0 S0.mem w0 φ S1.mem w → ∀ next : Act → World → Prop, (∀ a' w', Q .normal a' w' → next a' w') → if Region.wanted ol (yielded all.toArray a.tmps) then ol.wp P a w next Q else next (a.put ol.dst undef) w) :
 ∀ (fuel : Nat) (listed : Array Bool) φ a w, listed.size = all.length → listed.getD init.length false = false → Closed all (fun i => listed.getD i false) → Rel φ G (runAll all ps S0 (lst all.length fun i => listed.getD i false)) a w → Keeps φ0 S0.mem w0 φ (runAll all ps S0 (lst all.length fun i => listed.getD i false)).mem w →
  ((List.range all.length).filter fun i => !listed.getD i false).length ≤ fuel → wpAny P .any all.toArray Q fuel listed a w := by
 obtain ⟨hfin, hlq, hst⟩ := Cert.at2 (ps := ps) (S0 := S0) hc [] [] [ol] [dmS] rfl (by simp [hall]) (by simp [hps]) rfl
 have hln : all.length = init.length + 1 := by rw [hall]; simp
 have hlp : ps.length = all.length := by rw [hps, hln]; simp [hlq]
 have hoL : all[init.length]? = some ol := by rw [hall]; simp
 have hpL : ps[init.length]? = some dmS := by rw [hps, ← hlq]; simp
 have hks : ∀ (j : Nat) (p : Stp), ps[j]? = some p → ∀ e ∈ p.es, e.key ∈ p.ks := fun j p hp => by
  have hjl : j < ps.length := (List.getElem?_eq_some_iff.1 hp).1
  by_cases hj : j < init.length
  · exact (hst j (all[j]'(by omega)) p (by simp) (by simpa using hj) (by simp) hp).1
  · have : j = init.length := by omega
    subst this
    rw [hpL] at hp; cases hp
    simp [dmS]
 have hpl : ∀ j o, all[j]? = some o → ∀ p ∈ preds o, p < j := fun j o ho => (ordOk_spec hord ho).choose_spec.2.1
 have hIs : ∀ l : List Nat, I (runAll all ps S0 l).mem := by
  have key : ∀ (l : List Nat) (S : St), I S.mem → I (runAll all ps S l).mem := by
   intro l
   induction l with
   | nil => exact fun _ h => h
   | cons i l ih =>
    intro S h
    have e1 : runAll all ps S (i :: l) = runAll all ps (runAll all ps S [i]) l := by simp [runAll]
    rw [e1]
    refine ih _ ?_
    simp only [runAll, List.foldl_cons, List.foldl_nil]
    split
    · rename_i o p ho hp
      simp only [Stp.app, put_mem]
      have hil : i < all.length := (List.getElem?_eq_some_iff.1 ho).1
      by_cases hi : i < init.length
      · exact (hst i o p (by simp) (by simpa using hi) ho hp).2.1 _ h
      · have : i = init.length := by omega
        subst this
        rw [hpL] at hp; cases hp
        exact h
    · exact h
  exact fun l => key l S0 hI0
 have first : ∀ (f : Nat → Bool) (n : Nat), n ≤ all.length → (∀ i, i < n → f i = true) ∨ ∃ i, i < n ∧ f i = false ∧ ∀ i', i' < i → f i' = true := by
  intro f n
  induction n with
  | zero => exact fun _ => .inl (fun i hi => by omega)
  | succ n ih =>
   intro hn
   rcases ih (by omega) with h | ⟨i, h1, h2, h3⟩
   · cases hf : f n with
     | true =>
      refine .inl fun i hi => ?_
      rcases Nat.lt_succ_iff_lt_or_eq.1 hi with h' | h'
      · exact h i h'
      · rw [h']; exact hf
     | false => exact .inr ⟨n, by omega, hf, h⟩
   · exact .inr ⟨i, by omega, h2, h3⟩
 have rdy : ∀ (listed : Array Bool), listed.size = all.length → Region.ready .any all.toArray listed = [] → ∀ i, i < all.length → listed.getD i false = true := by
  intro listed hsz hemp
  rcases first (fun i => listed.getD i false) all.length (Nat.le_refl _) with h | ⟨i, h1, h2, h3⟩
  · exact h
  · exfalso
    have : i ∈ Region.ready .any all.toArray listed := by
     rw [mem_ready]
     refine ⟨?_, all[i], by simp [h1], fun e he hb => ?_⟩
     · have : i < listed.size := by omega
       simp only [Array.getD_eq_getD_getElem?, Array.getElem?_eq_getElem this, Option.getD_some] at h2 ⊢
       exact h2
     · obtain ⟨p, _, hp, _⟩ := ordOk_spec hord (show all[i]? = some all[i] by simp [h1])
       exact h3 e.on (hp e.on (by
        simp only [preds, List.mem_map, List.mem_filter]
        exact ⟨e, ⟨by simpa using he, hb⟩, rfl⟩))
    rw [hemp] at this
    cases this
 have notr : ∀ (listed : Array Bool), listed.size = all.length → (∀ i, i < all.length → listed.getD i false = true) → Region.ready .any all.toArray listed = [] := by
  intro listed hsz hall1
  cases h : Region.ready .any all.toArray listed with
  | nil => rfl
  | cons i r =>
   exfalso
   have hi : i ∈ Region.ready .any all.toArray listed := by rw [h]; simp
   rw [mem_ready] at hi
   obtain ⟨h0, o, ho, _⟩ := hi
   have hil : i < all.length := by
    have := (Array.getElem?_eq_some_iff.1 ho).1; simpa using this
   have := hall1 i hil
   have h2 : i < listed.size := by omega
   simp only [Array.getD_eq_getD_getElem?, Array.getElem?_eq_getElem h2, Option.getD_some] at h0 this
   rw [h0] at this
   cases this
 intro fuel
 induction fuel with
 | zero =>
  intro listed φ a w hsz hjf hcl hr hk hf
  exfalso
  have : init.length ∈ (List.range all.length).filter fun i => !listed.getD i false := List.mem_filter.2 ⟨List.mem_range.2 (by omega), by simp only [hjf]; rfl⟩
  have := List.length_pos_of_mem this
  omega
 | succ fuel ih =>
  intro listed φ a w hsz hjf hcl hr hk hf
  refine ⟨fun hemp => ?_, fun i hi => ?_⟩
  · have := rdy listed hsz hemp init.length (by omega)
    rw [hjf] at this; cases this
  rw [mem_ready] at hi
  obtain ⟨h0, o, ho, hafter⟩ := hi
  have ho' : all[i]? = some o := by simpa using ho
  have hil : i < all.length := (List.getElem?_eq_some_iff.1 ho').1
  have hil2 : i < listed.size := by omega
  have h0' : listed.getD i false = false := by
   simp only [Array.getD_eq_getD_getElem?, Array.getElem?_eq_getElem hil2, Option.getD_some] at h0 ⊢
   exact h0
  have hpre : ∀ k ∈ preds o, listed.getD k false = true := by
   intro k hk'
   simp only [preds, List.mem_map, List.mem_filter] at hk'
   obtain ⟨e, ⟨he, hb⟩, rfl⟩ := hk'
   exact hafter e (by simpa using he) hb
  have hset : (listed.setIfInBounds i true).getD i false = true := by simp [hil2]
  have hsne : ∀ k, k ≠ i → (listed.setIfInBounds i true).getD k false = listed.getD k false := fun k hk' => getD_set_ne false (Ne.symm hk')
  by_cases hiL : i = init.length
  · subst hiL
    rw [hoL] at ho'
    cases ho'
    have hoth : ∀ k, k < init.length → listed.getD k false = true := by
     intro k hk1
     have hka : k ∈ (ancs all []).getD init.length [] := by
      have := hlf k (by omega)
      rw [hln] at this
      simpa using this
     exact (anc_closed (L := fun i => listed.getD i false = true) hpl (fun j o ho hf => hcl j o ho hf) init.length ⟨ol, hoL⟩ k hka).2 (fun o' ho2 => by rw [hoL] at ho2; cases ho2; exact hpre)
    have hl : (lst all.length fun i => listed.getD i false) = List.range init.length := by
     rw [lst, hln, List.range_succ, List.filter_append]
     have e1 : (List.range init.length).filter (fun i => listed.getD i false) = List.range init.length := by
      rw [List.filter_eq_self]
      intro k hk1
      exact hoth k (List.mem_range.1 hk1)
     rw [e1]
     simp only [List.filter_cons, List.filter_nil]
     rw [h0']
     simp
    have hfin' : runAll all ps S0 (List.range init.length) = S1 := by simpa using hfin
    rw [hl, hfin'] at hr hk
    have hs := hlast φ a w hr hk (wpAny P .any all.toArray Q fuel (listed.setIfInBounds init.length true)) (fun a' w' hq => by
     have hemp := notr (listed.setIfInBounds init.length true) (by simpa using hsz) (fun k hk1 => by
      by_cases hki : k = init.length
      · subst hki; exact hset
      · rw [hsne k hki]; exact hoth k (by omega))
     cases fuel with
     | zero => exact ⟨hemp, hq⟩
     | succ fuel => exact ⟨fun _ => hq, fun i hi => by rw [hemp] at hi; cases hi⟩)
    unfold wpOp
    rw [ho]
    simp only
    split at hs
    · rename_i hw; rw [if_pos hw]; exact .inl hs
    · rename_i hw; rw [if_neg hw]; exact hs
  · have hii : i < init.length := by omega
    obtain ⟨p, hp, _⟩ := ordOk_spec hord ho'
    obtain ⟨hke, _, hstep⟩ := hst i o p (by simp) (by simpa using hii) ho' hp
    have hag := ready_agree (S := S0) hlp hord hcl ho' hp h0' hpre
    have heq := ready_step (S := S0) (f := fun i => listed.getD i false) (g := fun k => (listed.setIfInBounds i true).getD k false) hlp hord hcl hks hnd ho' hp h0' hset hsne
    have hcl' : Closed all (fun k => (listed.setIfInBounds i true).getD k false) := by
     intro k ok hok hfk x hx
     by_cases hxi : x = i
     · subst hxi; exact hset
     · show (listed.setIfInBounds i true).getD x false = true
       rw [hsne x hxi]
       by_cases hki : k = i
       · subst hki; rw [ho'] at hok; cases hok; exact hpre x hx
       · exact hcl k ok hok ((hsne k hki).symm.trans hfk) x hx
    have hcount : ((List.range all.length).filter fun k => !(listed.setIfInBounds i true).getD k false).length ≤ fuel := by
     have h1 : (List.range all.length).filter (fun k => !(listed.setIfInBounds i true).getD k false) = ((List.range all.length).filter fun k => !listed.getD k false).filter (fun k => k != i) := by
      rw [List.filter_filter]
      refine List.filter_congr fun k _ => ?_
      by_cases hki : k = i
      · subst hki; rw [hset]; simp
      · rw [hsne k hki]; simp [hki]
     have hmem : i ∈ (List.range all.length).filter fun k => !listed.getD k false := List.mem_filter.2 ⟨List.mem_range.2 hil, by simp [h0']⟩
     rw [h1]
     have : (((List.range all.length).filter fun k => !listed.getD k false).filter (fun k => k != i)).length < ((List.range all.length).filter fun k => !listed.getD k false).length := by
      rw [List.length_filter_lt_length_iff_exists]
      exact ⟨i, hmem, by simp⟩
     omega
    have hs := hstep _ hag (hIs _) φ G a w hr (wpAny P .any all.toArray Q fuel (listed.setIfInBounds i true)) Q (fun φ' a' w' hr' hk' =>
     ih _ φ' a' w' (by simpa using hsz) (by rw [hsne _ (Ne.symm hiL)]; exact hjf) hcl' (hr'.eqv heq) (by rw [← heq.mem]; exact hk.trans hk') hcount)
    unfold wpOp
    rw [ho]
    simp only
    split at hs
    · rename_i hw; rw [if_pos hw]; exact .inl hs
    · rename_i hw; rw [if_neg hw]; exact hs
end
theorem region_last {P : Program} {S S1 : St} {id : Nat} {ops init : List Oper} {ol : Oper} {qs : List Stp} {I : Mem → Prop} (hall : ops = init ++ [ol]) (hlf : LastFree ops) (hI0 : I S.mem) (hm : P.follows .mixedOrders = true) (hc : Cert P I ops init S qs S1) (hord : ordOk ops (qs ++ [dmS]) = true) {φ G a w} (hr : Rel φ G S a w) {Q : Exit → Act → World → Prop}
 (hlast : ∀ φ' a' w', Rel φ' G S1 a' w' → Keeps φ S.mem w φ' S1.mem w' → ∀ next : Act → World → Prop, (∀ a' w', Q .normal a' w' → next a' w') → if Region.wanted ol (yielded ops.toArray a'.tmps) then ol.wp P a' w' next Q else next (a'.put ol.dst undef) w') : (Code.region id ops.toArray true).wp P Q a w := by
 refine wp_region_any hm ?_
 have hdr : Rel φ G S a { w with drawn := w.drawn + 1 } := hr.grow (fun _ _ => rfl) (Nat.le_refl _)
 have hl0 : (lst ops.length fun i => (Array.replicate ops.length false).getD i false) = [] := by
  rw [lst, List.filter_eq_nil_iff]
  intro i hi
  simp [Array.getD_eq_getD_getElem?, List.mem_range.1 hi]
 refine wpAny_last (S0 := S) (φ0 := φ) (w0 := w) (G := G) hall hlf hI0 hc rfl hord hr.mem.nodup hlast _ _ φ a _ (by simp) ?_ ?_ ?_ ?_ ?_
 · simp only [Array.getD_eq_getD_getElem?]
   rw [hall]; simp
 · intro j o _ hj
   exfalso
   simp only [Array.getD_eq_getD_getElem?] at hj
   by_cases h : j < ops.length
   · simp [h] at hj
   · simp [h] at hj
 · simp only [List.size_toArray]; rw [hl0]; exact hdr
 · simp only [List.size_toArray]; rw [hl0]; exact Keeps.grow (fun _ _ => rfl) (Nat.le_refl _) rfl rfl rfl
 · simp only [List.size_toArray]
   exact Nat.le_trans (List.length_filter_le _ _) (by simp)
def verSum : Mem → Nat
 | [] => 0
 | e :: r => e.ver + verSum r
def verSums : List Stp → Nat
 | [] => 0
 | p :: r => verSum p.es + verSums r
def killM (N : Nat) : Mem → Mem
 | [] => []
 | e :: r => (match decide (100 ≤ e.key) with | true => ⟨e.key, N, .dead⟩ | false => e) :: killM N r
def St.kill (S : St) (N : Nat) : St := { S with env := [], mem := killM N S.mem }
def farE : List Ent → Bool
 | [] => true
 | e :: r => decide (100 ≤ e.key) && farE r
def farJ (ps : List Stp) : List Nat → Bool
 | [] => true
 | i :: r => (match ps[i]? with | some p => farE p.es | none => false) && farJ ps r
theorem verSum_le : ∀ {m : Mem} {e : Ent}, e ∈ m → e.ver ≤ verSum m
 | _ :: r, e, h => by
  rcases List.mem_cons.1 h with rfl | h
  · simp only [verSum]; omega
  · have := verSum_le (m := r) h; simp only [verSum]; omega
theorem verSums_le : ∀ {ps : List Stp} {p : Stp}, p ∈ ps → verSum p.es ≤ verSums ps
 | _ :: r, p, h => by
  rcases List.mem_cons.1 h with rfl | h
  · simp only [verSums]; omega
  · have := verSums_le (ps := r) h; simp only [verSums]; omega
theorem killM_keys (N : Nat) : ∀ m : Mem, (killM N m).map (·.key) = m.map (·.key)
 | [] => rfl
 | e :: r => by
  simp only [killM, List.map_cons, killM_keys N r]
  split <;> rfl
theorem mem_killM {N : Nat} : ∀ {m : Mem} {e : Ent}, e ∈ killM N m → (∃ e0 ∈ m, 100 ≤ e0.key ∧ e = ⟨e0.key, N, .dead⟩) ∨ (e ∈ m ∧ e.key < 100)
 | e0 :: r, e, h => by
  simp only [killM, List.mem_cons] at h
  rcases h with h | h
  · by_cases hk : 100 ≤ e0.key
    · simp only [hk, decide_true] at h
      exact .inl ⟨e0, by simp, hk, h⟩
    · simp only [hk, decide_false] at h
      subst h
      exact .inr ⟨by simp, by omega⟩
  · rcases mem_killM h with ⟨e1, h1, h2, h3⟩ | ⟨h1, h2⟩
    · exact .inl ⟨e1, List.mem_cons_of_mem _ h1, h2, h3⟩
    · exact .inr ⟨List.mem_cons_of_mem _ h1, h2⟩
theorem killM_get (N : Nat) (k : Nat) : ∀ m : Mem, Mem.get (killM N m) k = (Mem.get m k).map fun e => match decide (100 ≤ e.key) with | true => ⟨e.key, N, .dead⟩ | false => e
 | [] => rfl
 | e :: r => by
  have e1 : (match decide (100 ≤ e.key) with | true => (⟨e.key, N, .dead⟩ : Ent) | false => e).key = e.key := by split <;> rfl
  simp only [killM, Mem.get, e1]
  split
  · rfl
  · exact killM_get N k r
def killφ (φ : Phi) (N : Nat) : Phi := fun k => match φ k with
 | some L => some (match decide (100 ≤ k) with | true => { L with ver := N } | false => L)
 | none => none
theorem killφ_near {φ : Phi} {N k : Nat} (h : k < 100) : killφ φ N k = φ k := by
 unfold killφ
 have : decide (100 ≤ k) = false := by simp; omega
 rw [this]
 cases φ k <;> rfl
theorem killφ_far {φ : Phi} {N k : Nat} {L : Loc} (h : 100 ≤ k) (hL : φ k = some L) : killφ φ N k = some { L with ver := N } := by
 unfold killφ
 have : decide (100 ≤ k) = true := by simp; omega
 rw [this, hL]
theorem kill_ok {φ : Phi} {G : Fr} {S : St} {a : Act} {w : World} {N : Nat} (h : Rel φ G S a w) (hv : ∀ e ∈ S.mem, e.ver < N) :
 Rel (killφ φ N) G (S.kill N) a w ∧ Keeps φ S.mem w (killφ φ N) (S.kill N).mem w := by
 have hle : φ.le (killφ φ N) := by
  intro k L hL
  by_cases hk : 100 ≤ k
  · obtain ⟨e, he, rfl⟩ := List.mem_map.1 (h.mem.dom k L hL)
    obtain ⟨L', hL', hve, _⟩ := h.mem.ents e he
    rw [hL] at hL'
    cases hL'
    have := hv e he
    exact ⟨_, killφ_far hk hL, by simp only; omega, fun hh => by simp only at hh; omega⟩
  · exact ⟨L, by rw [killφ_near (by omega)]; exact hL, Nat.le_refl _, fun _ => rfl⟩
 have hown : ∀ b, Own (killφ φ N) (killM N S.mem) b → Own φ S.mem b := by
  rintro b ⟨e, he, L, hL, ho⟩
  rcases mem_killM he with ⟨e0, h0, h1, rfl⟩ | ⟨h0, h1⟩
  · exact ho.elim
  · rw [killφ_near h1] at hL
    exact ⟨e, h0, L, hL, ho⟩
 have hF : ∀ b, Fo G (killφ φ N) (killM N S.mem) b → Fo G φ S.mem b := fun b => Or.imp id (hown b)
 have hk : Keeps φ S.mem w (killφ φ N) (S.kill N).mem w := ⟨hle, fun _ _ _ => rfl, fun b _ hb => hown b hb, Nat.le_refl _, rfl, rfl, rfl⟩
 refine ⟨⟨h.size, h.defers, (fun t x hx => nomatch hx), ⟨?_, ?_, ?_, ?_, ?_, h.mem.bound⟩, h.glob.mono (fun _ _ _ => rfl) (Nat.le_refl _) (fun b _ hb => hF b hb)⟩, hk⟩
 · show ((killM N S.mem).map (·.key)).Nodup
   rw [killM_keys]; exact h.mem.nodup
 · intro k L hL
   show k ∈ (killM N S.mem).map (·.key)
   rw [killM_keys]
   unfold killφ at hL
   cases hp : φ k with
   | none => rw [hp] at hL; cases hL
   | some L0 => exact h.mem.dom k L0 hp
 · intro e he
   rcases mem_killM he with ⟨e0, h0, h1, rfl⟩ | ⟨h0, h1⟩
   · obtain ⟨L, hL, _, _⟩ := h.mem.ents e0 h0
     exact ⟨_, killφ_far h1 hL, rfl, trivial⟩
   · obtain ⟨L, hL, hve, hc⟩ := h.mem.ents e h0
     exact ⟨L, by rw [killφ_near h1]; exact hL, hve, hc.mono hle (fun _ _ _ => rfl) (Nat.le_refl _) (fun b _ hb => hF b hb) (fun _ _ => rfl)⟩
 · rintro e he e' he' L L' hL hL' ⟨b, ho, ho'⟩
   rcases mem_killM he with ⟨e0, h0, h1, rfl⟩ | ⟨h0, h1⟩
   · exact ho.elim
   · rcases mem_killM he' with ⟨e1, h2, h3, rfl⟩ | ⟨h2, h3⟩
     · exact ho'.elim
     · rw [killφ_near h1] at hL
       rw [killφ_near h3] at hL'
       exact h.mem.apart e h0 e' h2 L L' hL hL' ⟨b, ho, ho'⟩
 · intro b hb
   exact h.mem.notG b (hown b hb)
def StepQ (P : Program) (all : List Oper) (S : St) (o : Oper) (p : Stp) (t : TypeId) (x : D) : Prop :=
 ∀ S', Agree all o p.ks S' S → ∀ φ G a w, Rel φ G S' a w → ∀ (next : Act → World → Prop) (R : Exit → Act → World → Prop),
  (∀ φ' a' w' v, Rel φ' G { S' with mem := putAll S'.mem p.es } a' w' → Keeps φ S'.mem w φ' (putAll S'.mem p.es) w' → DRel w' (Fo G φ' (putAll S'.mem p.es)) x v → R (.panic [{ v := .iface t v, recovered := false }]) a' w') →
  if Region.wanted o (yielded all.toArray a.tmps) then o.wp P a w next R else next (a.put o.dst undef) w
section
variable {all : List Oper} {ps : List Stp}
theorem mem_set_or {m : Mem} {x e : Ent} (h : e ∈ Mem.set m x) : e ∈ m ∨ e = x := by
 induction m with
 | nil => exact .inl h
 | cons y r ih =>
  simp only [Mem.set] at h
  split at h
  · rcases List.mem_cons.1 h with h | h
    · exact .inr h
    · exact .inl (List.mem_cons_of_mem _ h)
  · rcases List.mem_cons.1 h with h | h
    · exact .inl (by simp [h])
    · rcases ih h with h | h
      · exact .inl (List.mem_cons_of_mem _ h)
      · exact .inr h
theorem putAll_or : ∀ {es : List Ent} {m : Mem} {e : Ent}, e ∈ putAll m es → e ∈ m ∨ e ∈ es
 | [], m, e, h => .inl h
 | x :: r, m, e, h => by
  have h1 : e ∈ putAll (Mem.set m x) r := h
  rcases putAll_or h1 with h | h
  · rcases mem_set_or h with h | h
    · exact .inl h
    · exact .inr (by simp [h])
  · exact .inr (List.mem_cons_of_mem _ h)
theorem runAll_ver (B : Nat) (hps : ∀ p ∈ ps, ∀ e ∈ p.es, e.ver < B) : ∀ (l : List Nat) (S : St), (∀ e ∈ S.mem, e.ver < B) → ∀ e ∈ (runAll all ps S l).mem, e.ver < B
 | [], S, h => h
 | i :: l, S, h => by
  have e1 : runAll all ps S (i :: l) = runAll all ps (runAll all ps S [i]) l := by simp [runAll]
  rw [e1]
  refine runAll_ver B hps l _ ?_
  simp only [runAll, List.foldl_cons, List.foldl_nil]
  split
  · rename_i o p ho hp
    simp only [Stp.app, put_mem]
    intro e he
    rcases putAll_or he with he | he
    · exact h e he
    · exact hps p (List.mem_of_getElem? hp) e he
  · exact h
variable {S : St} {f : Nat → Bool}
theorem runAll_near (hlen : ps.length = all.length) (hord : ordOk all ps = true) (hcl : Closed all f) {j : Nat} {o : Oper} (ho : all[j]? = some o) (hj : f j = false) (hpre : ∀ i ∈ preds o, f i = true)
 (hfar : ∀ i p, ps[i]? = some p → i ≠ j → i ∉ (ancs all []).getD j [] → j ∉ (ancs all []).getD i [] → ∀ e ∈ p.es, 100 ≤ e.key) {k : Nat} (hk : k < 100) :
 Mem.get (runAll all ps S (lst all.length f)).mem k = Mem.get (runAll all ps S (List.range j)).mem k := by
 have hlt : j < all.length := (List.getElem?_eq_some_iff.1 ho).1
 have hpl : ∀ j o, all[j]? = some o → ∀ p ∈ preds o, p < j := fun j o ho => (ordOk_spec hord ho).choose_spec.2.1
 have hanc : ∀ i ∈ (ancs all []).getD j [], i < j ∧ f i = true := fun i hi => by
  obtain ⟨h1, h2⟩ := anc_closed (L := fun i => f i = true) hpl (fun j o ho hf => hcl j o ho hf) j ⟨o, ho⟩ i hi
  exact ⟨h1, h2 fun o' ho' => by rw [ho] at ho'; cases ho'; exact hpre⟩
 have hdesc : ∀ i, f i = true → i < all.length → j ∉ (ancs all []).getD i [] := by
  intro i hfi hil hji
  obtain ⟨oi, hoi⟩ : ∃ oi, all[i]? = some oi := ⟨all[i], by simp [hil]⟩
  have := (anc_closed (L := fun i => f i = true) hpl (fun j o ho hf => hcl j o ho hf) i ⟨oi, hoi⟩ j hji).2 (fun o' ho' => by rw [hoi] at ho'; cases ho'; exact hcl i oi hoi hfi)
  simp [hj] at this
 let q : Nat → Bool := fun i => (ancs all []).getD j [] |>.contains i
 have hq : ∀ i, q i = true ↔ i ∈ (ancs all []).getD j [] := fun i => by simp [q]
 have hfilter : (lst all.length f).filter q = (List.range j).filter q := by
  rw [lst_split hlt hj, List.filter_append, List.filter_filter, List.filter_filter]
  have h2 : (List.range' (j + 1) (all.length - j - 1)).filter (fun a => q a && f a) = [] := by
   rw [List.filter_eq_nil_iff]
   intro i hi
   have := (List.mem_range'_1.1 hi).1
   simp only [Bool.and_eq_true, not_and]
   intro hqi
   have := (hanc i ((hq i).1 hqi)).1
   omega
  rw [h2, List.append_nil]
  refine List.filter_congr fun i hi => ?_
  cases hqi : q i with
  | false => simp
  | true => simp [(hanc i ((hq i).1 hqi)).2]
 have far : ∀ i p, ps[i]? = some p → i ≠ j → q i = false → j ∉ (ancs all []).getD i [] → k ∉ p.es.map (·.key) := by
  intro i p hp hij hqi hji hkm
  obtain ⟨e, he, rfl⟩ := List.mem_map.1 hkm
  have := hfar i p hp hij (fun h => by rw [(hq i).2 h] at hqi; cases hqi) hji e he
  omega
 have side : ∀ (i : Nat) (p : Stp), i ≠ j → j ∉ (ancs all []).getD i [] → ps[i]? = some p → k ∈ p.es.map (·.key) → q i = true := by
  intro i p hij hji hp hkm
  cases hqi : q i with
  | true => rfl
  | false => exact absurd hkm (far i p hp hij hqi hji)
 rw [runAll_get k q (lst all.length f) S S (fun i hi p hp hkm => by
  have hi' := List.mem_filter.1 hi
  have hil := List.mem_range.1 hi'.1
  refine side i p (fun h => by subst h; simp [hj] at hi') (hdesc i hi'.2 hil) hp hkm) rfl rfl,
  runAll_get k q (List.range j) S S (fun i hi p hp hkm => by
   have hil := List.mem_range.1 hi
   refine side i p (by omega) (fun h => ?_) hp hkm
   obtain ⟨oi, hoi⟩ : ∃ oi, all[i]? = some oi := ⟨all[i]'(by omega), by simp [show i < all.length by omega]⟩
   have := (anc_closed (L := fun _ => True) hpl (fun _ _ _ _ _ _ => trivial) i ⟨oi, hoi⟩ j h).1
   omega) rfl rfl, hfilter]
theorem wpAny_pan {P : Program} {S0 S1 : St} {φ0 : Phi} {G : Fr} {w0 : World} {Q : Exit → Act → World → Prop} {j : Nat} {oj : Oper} {pj : Stp} {t : TypeId} {x : D}
 (hlen : ps.length = all.length) (hord : ordOk all ps = true) (hnd : (S0.mem.map (·.key)).Nodup) (hks : ∀ (i : Nat) (p : Stp), ps[i]? = some p → ∀ e ∈ p.es, e.key ∈ p.ks)
 (hst : ∀ i o p, all[i]? = some o → ps[i]? = some p → i ≠ j → j ∉ (ancs all []).getD i [] → StepL P all (runAll all ps S0 (List.range i)) o p)
 (hoj : all[j]? = some oj) (hpj : ps[j]? = some pj) (hpan : StepQ P all (runAll all ps S0 (List.range j)) oj pj t x)
 (hfar : ∀ i p, ps[i]? = some p → i ≠ j → i ∉ (ancs all []).getD j [] → j ∉ (ancs all []).getD i [] → ∀ e ∈ p.es, 100 ≤ e.key)
 (hn1 : S1.n = S0.n) (hg1 : S1.gl = S0.gl) (he1 : S1.env = []) (hm1 : S1.mem = killM (verSum S0.mem + verSums ps + 1) (putAll (runAll all ps S0 (List.range j)).mem pj.es))
 (hQ : ∀ φ' a' w' v, Rel φ' G S1 a' w' → Keeps φ0 S0.mem w0 φ' S1.mem w' → DRel w' (Fo G φ' S1.mem) x v → Q (.panic [{ v := .iface t v, recovered := false }]) a' w') :
 ∀ (fuel : Nat) (listed : Array Bool) φ a w, listed.size = all.length → Closed all (fun i => listed.getD i false) → listed.getD j false = false → Rel φ G (runAll all ps S0 (lst all.length fun i => listed.getD i false)) a w → Keeps φ0 S0.mem w0 φ (runAll all ps S0 (lst all.length fun i => listed.getD i false)).mem w →
  ((List.range all.length).filter fun i => !listed.getD i false).length ≤ fuel → wpAny P .any all.toArray Q fuel listed a w := by
 have hjl : j < all.length := (List.getElem?_eq_some_iff.1 hoj).1
 have hpl : ∀ j o, all[j]? = some o → ∀ p ∈ preds o, p < j := fun j o ho => (ordOk_spec hord ho).choose_spec.2.1
 have first : ∀ (f : Nat → Bool) (n : Nat), n ≤ all.length → (∀ i, i < n → f i = true) ∨ ∃ i, i < n ∧ f i = false ∧ ∀ i', i' < i → f i' = true := by
  intro f n
  induction n with
  | zero => exact fun _ => .inl (fun i hi => by omega)
  | succ n ih =>
   intro hn
   rcases ih (by omega) with h | ⟨i, h1, h2, h3⟩
   · cases hf : f n with
     | true =>
      refine .inl fun i hi => ?_
      rcases Nat.lt_succ_iff_lt_or_eq.1 hi with h' | h'
      · exact h i h'
      · rw [h']; exact hf
     | false => exact .inr ⟨n, by omega, hf, h⟩
   · exact .inr ⟨i, by omega, h2, h3⟩
 have done : ∀ (listed : Array Bool), listed.size = all.length → listed.getD j false = false → Region.ready .any all.toArray listed = [] → False := by
  intro listed hsz hjf hemp
  rcases first (fun i => listed.getD i false) all.length (Nat.le_refl _) with h | ⟨i, h1, h2, h3⟩
  · have := h j hjl; simp only [hjf] at this; cases this
  · have : i ∈ Region.ready .any all.toArray listed := by
     rw [mem_ready]
     refine ⟨?_, all[i], by simp [h1], fun e he hb => ?_⟩
     · have : i < listed.size := by omega
       simp only [Array.getD_eq_getD_getElem?, Array.getElem?_eq_getElem this, Option.getD_some] at h2 ⊢
       exact h2
     · obtain ⟨p, _, hp, _⟩ := ordOk_spec hord (show all[i]? = some all[i] by simp [h1])
       exact h3 e.on (hp e.on (by
        simp only [preds, List.mem_map, List.mem_filter]
        exact ⟨e, ⟨by simpa using he, hb⟩, rfl⟩))
    rw [hemp] at this
    cases this
 intro fuel
 induction fuel with
 | zero =>
  intro listed φ a w hsz hcl hjf hr hk hf
  exfalso
  have : j ∈ (List.range all.length).filter fun i => !listed.getD i false := List.mem_filter.2 ⟨List.mem_range.2 hjl, by simp [hjf]⟩
  have := List.length_pos_of_mem this
  omega
 | succ fuel ih =>
  intro listed φ a w hsz hcl hjf hr hk hf
  refine ⟨fun h => (done listed hsz hjf h).elim, fun i hi => ?_⟩
  rw [mem_ready] at hi
  obtain ⟨h0, o, ho, hafter⟩ := hi
  have ho' : all[i]? = some o := by simpa using ho
  have hil : i < all.length := (List.getElem?_eq_some_iff.1 ho').1
  have hil2 : i < listed.size := by omega
  have h0' : listed.getD i false = false := by
   simp only [Array.getD_eq_getD_getElem?, Array.getElem?_eq_getElem hil2, Option.getD_some] at h0 ⊢
   exact h0
  have hpre : ∀ k ∈ preds o, listed.getD k false = true := by
   intro k hk'
   simp only [preds, List.mem_map, List.mem_filter] at hk'
   obtain ⟨e, ⟨he, hb⟩, rfl⟩ := hk'
   exact hafter e (by simpa using he) hb
  by_cases hij : i = j
  · subst hij
    rw [hoj] at ho'
    cases ho'
    have hag := ready_agree (S := S0) hlen hord hcl hoj hpj h0' hpre
    have hs := hpan _ hag φ G a w hr (wpAny P .any all.toArray Q fuel (listed.setIfInBounds i true)) Q (fun φ' a' w' v hr' hk' hv => by
     have hB1 : ∀ p ∈ ps, ∀ e ∈ p.es, e.ver < verSum S0.mem + verSums ps + 1 := by
      intro p hp e he
      have h1 := verSum_le he
      have h2 := verSums_le hp
      omega
     have hB2 : ∀ e ∈ S0.mem, e.ver < verSum S0.mem + verSums ps + 1 := by
      intro e he
      have h1 := verSum_le he
      omega
     have hver : ∀ e ∈ putAll (runAll all ps S0 (lst all.length fun i => listed.getD i false)).mem pj.es, e.ver < verSum S0.mem + verSums ps + 1 := by
      intro e he
      rcases putAll_or he with he | he
      · exact runAll_ver _ hB1 _ _ hB2 e he
      · exact hB1 pj (List.mem_of_getElem? hpj) e he
     obtain ⟨hr2, hk2⟩ := kill_ok hr' hver
     have hmem : killM (verSum S0.mem + verSums ps + 1) (putAll (runAll all ps S0 (lst all.length fun i => listed.getD i false)).mem pj.es) = S1.mem := by
      rw [hm1]
      refine Mem.ext ?_ ?_ fun k => ?_
      · rw [killM_keys, putAll_keys, runAll_keys]; exact hnd
      · simp only [killM_keys, putAll_keys, runAll_keys]
      · rw [killM_get, killM_get]
        by_cases hk100 : k < 100
        · congr 1
          exact putAll_get_eq _ _ _ k (by simp only [runAll_keys]) (.inr (runAll_near hlen hord hcl hoj h0' hpre hfar hk100))
        · have hkey : ∀ (m : Mem), (Mem.get m k).map (fun e : Ent => match decide (100 ≤ e.key) with | true => (⟨e.key, verSum S0.mem + verSums ps + 1, .dead⟩ : Ent) | false => e) = if k ∈ m.map (·.key) then some ⟨k, verSum S0.mem + verSums ps + 1, .dead⟩ else none := by
           intro m
           cases hg : Mem.get m k with
           | none =>
            rw [if_neg]
            · rfl
            · intro hkm
              obtain ⟨e, he, hek⟩ := List.mem_map.1 hkm
              have : ∀ (m : Mem), e ∈ m → Mem.get m k ≠ none := by
               intro m
               induction m with
               | nil => intro h; cases h
               | cons y r ihr =>
                intro h
                simp only [Mem.get]
                split
                · simp
                · rename_i hy
                  rcases List.mem_cons.1 h with rfl | h
                  · exact absurd hek hy
                  · exact ihr h
              exact this m he hg
           | some e =>
            obtain ⟨h1, h2⟩ := Mem.get_mem hg
            have : decide (100 ≤ e.key) = true := by simp; omega
            simp only [Option.map_some, this]
            rw [if_pos (h2 ▸ List.mem_map_of_mem h1), h2]
          rw [hkey, hkey]
          simp only [putAll_keys, runAll_keys]
     have hS : ({ (runAll all ps S0 (lst all.length fun i => listed.getD i false)) with mem := putAll (runAll all ps S0 (lst all.length fun i => listed.getD i false)).mem pj.es } : St).kill (verSum S0.mem + verSums ps + 1) = S1 := by
      have a1 : (runAll all ps S0 (lst all.length fun i => listed.getD i false)).n = S1.n := by rw [runAll_n, hn1]
      have a2 : (runAll all ps S0 (lst all.length fun i => listed.getD i false)).gl = S1.gl := by rw [runAll_gl, hg1]
      unfold St.kill
      simp only [hmem, a1, a2]
      rw [← he1]
     rw [hS] at hr2 hk2
     refine hQ _ a' w' v hr2 (hk.trans (hk'.trans hk2)) (hv.mono (fun _ _ _ => rfl) (Nat.le_refl _) (fun b hb => Or.imp id (hk2.own b hb))))
    unfold wpOp
    rw [ho]
    simp only
    split at hs
    · rename_i hw; rw [if_pos hw]; exact .inl hs
    · rename_i hw; rw [if_neg hw]; exact hs
  · obtain ⟨p, hp, _⟩ := ordOk_spec hord ho'
    have hdesc : j ∉ (ancs all []).getD i [] := by
     intro hji
     have := (anc_closed (L := fun i => listed.getD i false = true) hpl (fun j o ho hf => hcl j o ho hf) i ⟨o, ho'⟩ j hji).2 (fun o' ho2 => by rw [ho'] at ho2; cases ho2; exact hpre)
     rw [hjf] at this
     cases this
    have hstep := hst i o p ho' hp hij hdesc
    have hag := ready_agree (S := S0) hlen hord hcl ho' hp h0' hpre
    have hset : (listed.setIfInBounds i true).getD i false = true := by simp [hil2]
    have hsne : ∀ k, k ≠ i → (listed.setIfInBounds i true).getD k false = listed.getD k false := fun k hk' => getD_set_ne false (Ne.symm hk')
    have heq := ready_step (S := S0) (f := fun i => listed.getD i false) (g := fun k => (listed.setIfInBounds i true).getD k false) hlen hord hcl hks hnd ho' hp h0' hset hsne
    have hcl' : Closed all (fun k => (listed.setIfInBounds i true).getD k false) := by
     intro k ok hok hfk x hx
     by_cases hxi : x = i
     · subst hxi; exact hset
     · show (listed.setIfInBounds i true).getD x false = true
       rw [hsne x hxi]
       by_cases hki : k = i
       · subst hki; rw [ho'] at hok; cases hok; exact hpre x hx
       · exact hcl k ok hok ((hsne k hki).symm.trans hfk) x hx
    have hcount : ((List.range all.length).filter fun k => !(listed.setIfInBounds i true).getD k false).length ≤ fuel := by
     have h1 : (List.range all.length).filter (fun k => !(listed.setIfInBounds i true).getD k false) = ((List.range all.length).filter fun k => !listed.getD k false).filter (fun k => k != i) := by
      rw [List.filter_filter]
      refine List.filter_congr fun k _ => ?_
      by_cases hki : k = i
      · subst hki; rw [hset]; simp
      · rw [hsne k hki]; simp [hki]
     have hmem : i ∈ (List.range all.length).filter fun k => !listed.getD k false := List.mem_filter.2 ⟨List.mem_range.2 hil, by simp [h0']⟩
     rw [h1]
     have : (((List.range all.length).filter fun k => !listed.getD k false).filter (fun k => k != i)).length < ((List.range all.length).filter fun k => !listed.getD k false).length := by
      rw [List.length_filter_lt_length_iff_exists]
      exact ⟨i, hmem, by simp⟩
     omega
    have hs := hstep _ hag φ G a w hr (wpAny P .any all.toArray Q fuel (listed.setIfInBounds i true)) Q (fun φ' a' w' hr' hk' =>
     ih _ φ' a' w' (by simpa using hsz) hcl' (by rw [hsne j (fun h => hij h.symm)]; exact hjf) (hr'.eqv heq) (by rw [← heq.mem]; exact hk.trans hk') hcount)
    unfold wpOp
    rw [ho]
    simp only
    split at hs
    · rename_i hw; rw [if_pos hw]; exact .inl hs
    · rename_i hw; rw [if_neg hw]; exact hs
end
inductive Gh where
 | trim (k : Nat)
 | freeze (k : Nat)
 | adopt (kb j k sz : Nat)
 | rekey (k k2 : Nat)
 | opn (k k2 : Nat)
 | cls (k k2 : Nat)
 | shut (k : Nat)
 | adoptV (kb j k : Nat)
abbrev CallFn := FuncId → List AV → List Cont → Option (Out × List (Nat × Cont))
structure Ctx where
 P : Program
 gl : List (Nat × D)
 keep : FuncId → Nat → List Nat
 gh : FuncId → Nat → List Gh
 md : FuncId → Nat → Bool
 fp : FuncId → FPol
 od : FuncId → Nat → List (List Nat)
 orc : FuncId → Option (List AV → Option AV)
 fl : FuncId → Nat → List (Nat × Nat)
 ov : Option CallFn
def callable (P : Program) (g : FuncId) : Bool :=
 match P.funcs[g]? with
 | some fn => fn.body.isSome && !(fn.name == "runtime.NumGoroutine")
 | none => false
mutual
def ptrKeys : AV → List Nat
 | .vec _ _ _ _ => []
 | .ptr k _ _ => [k]
 | .eptr k _ _ _ => [k]
 | .agg cs => ptrsKeys cs
 | .fn _ cap => avsKeys cap
 | .tup vs => ptrsKeys vs
 | _ => []
def ptrsKeys : List AV → List Nat
 | [] => []
 | x :: r => ptrKeys x ++ ptrsKeys r
end
mutual
def vecKeys : AV → List Nat
 | .vec k _ _ _ => [k]
 | .agg cs => vecsKeys cs
 | .tup vs => vecsKeys vs
 | _ => []
def vecsKeys : List AV → List Nat
 | [] => []
 | x :: r => vecKeys x ++ vecsKeys r
end
def argKeys (mt : List Nat) : Nat → List AV → List Nat
 | _, [] => []
 | i, x :: r => (match mt.contains i with | true => avKeys x | false => ptrKeys x) ++ argKeys mt (i + 1) r
def argBor (mt : List Nat) : Nat → List AV → List Nat
 | _, [] => []
 | i, x :: r => (match mt.contains i with | true => [] | false => vecKeys x) ++ argBor mt (i + 1) r
structure CRes where
 out : Out
 es : List Ent
 ks : List Nat
def upO (ρ bs : List Nat) : Out → Out
 | .ret x => .ret (up ρ bs x)
 | .panic t x => .panic t x
def plainO : Out → Bool
 | .ret x => plainAV x
 | .panic _ x => plainD x
def plainL : List (Nat × Cont) → Bool
 | [] => true
 | (_, c) :: r => plainC c && plainL r
def frOk (m : Mem) (ρ : List Nat) : List Nat → Bool
 | [] => true
 | k :: r => (Mem.get m k).isSome && !ρ.contains k && frOk m ρ r
def callBack (m : Mem) (k0 : Nat) (ρ B : List Nat) : Option (Out × List (Nat × Cont)) → Option CRes
 | some (out, l2) =>
  if (decide (ρ.length ≤ l2.length) && frOk m ρ (List.range' (k0 + 1) (l2.length - ρ.length)) && (B.isEmpty || (plainO out && plainL l2))) = true then
   some ⟨upO (ρ ++ List.range' (k0 + 1) (l2.length - ρ.length)) (base m 0 ρ ++ base m 1 (List.range' (k0 + 1) (l2.length - ρ.length))) out,
    backL (ρ ++ List.range' (k0 + 1) (l2.length - ρ.length)) (base m 0 ρ ++ base m 1 (List.range' (k0 + 1) (l2.length - ρ.length))) 0 l2, ρ ++ B ++ List.range' (k0 + 1) (l2.length - ρ.length)⟩
  else none
 | none => none
def frzO (n0 : Nat) (l2 : List (Nat × Cont)) : Out → Out
 | .ret x => .ret (vw (mkM 0 l2) (List.range n0) (fun _ => true) (fun _ v => v) x).norm
 | .panic t x => .panic t x
def frzR (n0 : Nat) (b : Bool) : Option (Out × List (Nat × Cont)) → Option (Out × List (Nat × Cont))
 | some (out, l2) => if (b && decide (n0 < l2.length)) = true then some (frzO n0 l2 out, selL (mkM 0 l2) (List.range n0) (fun _ => true) (fun _ v => v) 0 (List.range n0)) else some (out, l2)
 | none => none
def vwArgs (rw : Bool) (m : Mem) (ρ B : List Nat) : List AV → List AV
 | [] => []
 | y :: r => nrm rw (vw m ρ (fun k => B.contains k) nv0 y) :: vwArgs rw m ρ B r
def conts : List (Nat × Cont) → List Cont
 | [] => []
 | (_, c) :: r => c :: conts r
def callOp3 (cl : CallFn) (m : Mem) (k0 : Nat) (g : FuncId) (ys : List AV) (rw : Bool) (ρ B : List Nat) : Option CRes :=
 callBack m k0 ρ B (frzR ρ.length (Mem.get m (k0 + 1)).isNone (cl g (vwArgs rw m ρ B ys) (conts (selL m ρ (fun k => B.contains k) nv0 0 ρ))))
def callOp2 (cl : CallFn) (m : Mem) (k0 : Nat) (g : FuncId) (ys : List AV) (mt ρ : List Nat) : Option CRes :=
 callOp3 cl m k0 g ys (mt.contains 1000) ρ ((argBor mt 0 ys).filter fun k => !ρ.contains k)
def callOp (cl : CallFn) (m : Mem) (k0 : Nat) (g : FuncId) (ys : List AV) (mt : List Nat) : Option CRes :=
 callOp2 cl m k0 g ys mt (collect m 64 (argKeys mt 0 ys) [])
def putC (S : St) (d : Option Nat) : Option CRes → Option (XE × St)
 | some ⟨.ret x, es, _⟩ => some (.normal, ({ S with mem := putAll S.mem es } : St).put d true x)
 | some ⟨.panic t x, es, _⟩ => some (.panic t x, { S with mem := putAll S.mem es })
 | none => none
def argVals (S : St) : List Operand → List AV
 | [] => []
 | x :: r => (S.opd x).2 :: argVals S r
def fnIdN (n g : Nat) : FuncId :=
 match decide (n ≤ g) with
 | true => g - n
 | false => g
def fnId (g : FuncId) : FuncId := fnIdN bnB g
def fnArgsN (n g : Nat) (ys caps : List AV) : List AV :=
 match decide (n ≤ g) with
 | true => caps ++ ys
 | false => ys ++ caps
def fnArgs (g : FuncId) (ys caps : List AV) : List AV := fnArgsN bnB g ys caps
def callVal (X : Ctx) (cl : CallFn) (S : St) (o : Oper) (args : List Operand) : Bool × AV → Option CRes
 | (true, .fn g caps) => if okAll S args = true then callOp cl S.mem (keyOf o) (fnId g) (fnArgs g (argVals S args) caps) (X.fp (fnId g)).mut_ else none
 | _ => none
def panicVal (S : St) : Bool × AV → Option (XE × St)
 | (true, .ifc t d) => some (.panic t d, S)
 | _ => none
def specOp (X : Ctx) (cl : CallFn) (S : St) (o : Oper) : Option (XE × St) :=
 match o.op with
 | .call { callee := .value fv, args, .. } => putC S o.dst (callVal X cl S o args.toList (S.opd fv))
 | .panic x => panicVal S (S.opd x)
 | _ => none
def stepOp (X : Ctx) (cl : CallFn) (S : St) (o : Oper) : Res → Option (XE × St)
 | .val c x => if (opOk S o && c) = true then some (.normal, S.put o.dst true x) else none
 | .upd c x e => if (opOk S o && c) = true then some (.normal, ({ S with mem := Mem.set S.mem e } : St).put o.dst true x) else none
 | .no => specOp X cl S o
def guardOp (X : Ctx) (cl : CallFn) (S : St) (o : Oper) (b : Bool) : Res → Option (XE × St)
 | .val c x => if b = true → (opOk S o && c) = true then some (.normal, S.put o.dst b x) else none
 | r => if b = true then stepOp X cl S o r else some (.normal, S.put o.dst true .junk)
def St.cz (S : St) (d : Option Nat) (b : Bool) : St := S.put d true (.d (.bool b))
def dstAt (all : List Oper) (j : Nat) : Option Nat :=
 match all[j]? with
 | some o => o.dst
 | none => none
inductive GV where
 | tru (t : Bool)
 | skip
 | bad
def gvD : D → GV
 | .bool t => .tru t
 | _ => .bad
def gvT : List AV → GV
 | [] => .skip
 | _ :: _ => .bad
def gvA : AV → GV
 | .d x => gvD x
 | .tup vs => gvT vs
 | _ => .bad
def gval : Option (Bool × AV) → GV
 | some (true, x) => gvA x
 | _ => .bad
theorem gval_tru {x : Option (Bool × AV)} {t : Bool} (h : gval x = .tru t) : x = some (true, .d (.bool t)) := by
 rcases x with _ | ⟨g, y⟩
 · cases h
 · cases g
   · cases h
   · cases y with
     | d y => cases y <;> simp_all [gval, gvA, gvD]
     | tup vs => cases vs <;> simp_all [gval, gvA, gvT]
     | _ => cases h
theorem gval_skip {x : Option (Bool × AV)} (h : gval x = .skip) : x = some (true, .tup []) := by
 rcases x with _ | ⟨g, y⟩
 · cases h
 · cases g
   · cases h
   · cases y with
     | d y => cases y <;> simp_all [gval, gvA, gvD]
     | tup vs => cases vs <;> simp_all [gval, gvA, gvT]
     | _ => cases h
def gstep (X : Ctx) (cl : CallFn) (md : Bool) (all : List Oper) (S : St) (o : Oper) : Option (XE × St) :=
 match o.guard with
 | none => stepOp X cl S o (stepv X.P S o)
 | some (j, want) => match gval (grd all S j) with
  | .tru t => match md with
   | false => guardOp X cl S o (t == want) (stepv X.P S o)
   | true => if (t == want) = true then stepOp X cl (S.cz (dstAt all j) want) o (stepv X.P (S.cz (dstAt all j) want) o) else some (.normal, (S.cz (dstAt all j) (!want)).put o.dst true (.tup []))
  | .skip => some (.normal, S.put o.dst true (.tup []))
  | .bad => none
def andThen (r : Option (XE × St)) (k : St → Option (XE × St)) : Option (XE × St) :=
 match r with
 | some (.normal, S) => k S
 | r => r
def runOps (X : Ctx) (cl : CallFn) (md : Bool) (all : List Oper) : List Oper → St → Option (XE × St)
 | [], S => some (.normal, S)
 | o :: r, S => andThen (gstep X cl md all S o) (runOps X cl md all r)
def dcall (S : St) (o : Oper) : Option CRes → Option (St × Stp)
 | some ⟨.ret x, es, ks⟩ => some ((⟨ks, es, true, x⟩ : Stp).app o S, ⟨ks, es, true, x⟩)
 | _ => none
def dspec (X : Ctx) (cl : CallFn) (S : St) (o : Oper) : Option (St × Stp) :=
 match o.op with
 | .call { callee := .value fv, args, .. } => dcall S o (callVal X cl S o args.toList (S.opd fv))
 | _ => none
def dstep (X : Ctx) (cl : CallFn) (S : St) (o : Oper) : Res → Option (St × Stp)
 | .val c x => if (opOk S o && c) = true then some (S.put o.dst true x, ⟨touch S o, [], true, x⟩) else none
 | .upd c x e => if (opOk S o && c && (touch S o).contains e.key) = true then some (({ S with mem := Mem.set S.mem e } : St).put o.dst true x, ⟨touch S o, [e], true, x⟩) else none
 | .no => dspec X cl S o
def dguard (X : Ctx) (cl : CallFn) (S : St) (o : Oper) (b : Bool) : Res → Option (St × Stp)
 | .val c x => if b = true → (opOk S o && c) = true then some (S.put o.dst b x, ⟨touch S o, [], b, x⟩) else none
 | r => if b = true then dstep X cl S o r else some (S.put o.dst true .junk, ⟨[], [], true, .junk⟩)
def dgstep (X : Ctx) (cl : CallFn) (md : Bool) (all : List Oper) (S : St) (o : Oper) : Option (St × Stp) :=
 match o.guard with
 | none => dstep X cl S o (stepv X.P S o)
 | some (j, want) => match gval (grd all S j) with
  | .tru t => match md with
   | false => dguard X cl S o (t == want) (stepv X.P S o)
   | true => if (t == want) = true then dstep X cl (S.cz (dstAt all j) want) o (stepv X.P (S.cz (dstAt all j) want) o) else some ((S.cz (dstAt all j) (!want)).put o.dst true (.tup []), ⟨[], [], true, .tup []⟩)
  | .skip => some (S.put o.dst true (.tup []), ⟨[], [], true, .tup []⟩)
  | .bad => none
def dThen (acc : List Stp) (r : Option (St × Stp)) (k : St → List Stp → Option (XE × St)) : Option (XE × St) :=
 match r with
 | some (S, p) => k S (p :: acc)
 | none => none
structure Pan where
 S : St
 t : TypeId
 x : D
 es : List Ent
 ks : List Nat
def panC (S : St) : Option CRes → Option Pan
 | some ⟨.panic t x, es, ks⟩ => some ⟨{ S with mem := putAll S.mem es }, t, x, es, ks⟩
 | _ => none
def panS (X : Ctx) (cl : CallFn) (S : St) (o : Oper) : Option Pan :=
 match o.op with
 | .call { callee := .value fv, args, .. } => panC S (callVal X cl S o args.toList (S.opd fv))
 | _ => none
def panR (X : Ctx) (cl : CallFn) (S : St) (o : Oper) : Res → Option Pan
 | .no => panS X cl S o
 | _ => none
def panO (X : Ctx) (cl : CallFn) (S : St) (o : Oper) : Option Pan :=
 match o.guard with
 | none => panR X cl S o (stepv X.P S o)
 | some _ => none
def pOps (X : Ctx) (md : Bool) (all : List Oper) (js : List Nat) : Nat → List Oper → St → List Stp → Option (List Stp)
 | _, [], _, acc => some acc.reverse
 | i, o :: r, S, acc => match js.contains i with
  | true => match dgstep X (fun _ _ _ => none) md all S o with
   | some (S1, p) => pOps X md all js (i + 1) r S1 (p :: acc)
   | none => none
  | false => pOps X md all js (i + 1) r (S.put o.dst false .junk) (⟨[], [], false, .junk⟩ :: acc)
def pEnd (nd : Nat × List (List Nat)) (js : List Nat) (t : TypeId) (x : D) (S : St) : Option (List Stp) → Option (XE × St)
 | some ps => if (ordD nd.2 ps && farJ ps js) = true then some (.panic t x, S.kill (nd.1 + verSums ps + 1)) else none
 | none => none
def panE (X : Ctx) (md : Bool) (nd : Nat × List (List Nat)) (all r : List Oper) (d : Option Nat) (acc : List Stp) (q : Pan) : Option (XE × St) :=
 pEnd nd (nd.2.getD acc.length []) q.t q.x q.S (pOps X md all (nd.2.getD acc.length []) (acc.length + 1) r (q.S.put d true .junk) (⟨q.ks, q.es, true, .junk⟩ :: acc))
def drwO (X : Ctx) (cl : CallFn) (md : Bool) (nd : Nat × List (List Nat)) (all r : List Oper) (S : St) (o : Oper) (acc : List Stp) (k : St → List Stp → Option (XE × St)) : Option Pan → Option (XE × St)
 | some q => panE X md nd all r o.dst acc q
 | none => dThen acc (dgstep X cl md all S o) k
def drwOps (X : Ctx) (cl : CallFn) (md : Bool) (nd : Nat × List (List Nat)) (all : List Oper) : List Oper → St → List Stp → Option (XE × St)
 | [], S, acc => if ordD nd.2 acc.reverse = true then some (.normal, S) else none
 | o :: r, S, acc => drwO X cl md nd all r S o acc (drwOps X cl md nd all r) (panO X cl S o)
structure Cl where
 k : Nat
 v : Nat
 j : Nat
 x : AV
 vv : Bool
def eqA : AV → AV → Bool
 | .vec a b c d, .vec a' b' c' d' => decide (a = a') && decide (b = b') && decide (c = c') && decide (d = d')
 | .ptr a b c, .ptr a' b' c' => decide (a = a') && decide (b = b') && decide (c = c')
 | .d (.int k n), .d (.int k' n') => decide (k = k') && decide (n = n')
 | .d (.bool b), .d (.bool b') => decide (b = b')
 | _, _ => false
def ents (m : Mem) : List (Nat × Nat) → Option (List Cl)
 | [] => some []
 | (k, j) :: r => match Mem.get m k, ents m r with
  | some ⟨_, v, .box cs⟩, some l => match cs[j]? with
   | some x => some (⟨k, v, j, x, false⟩ :: l)
   | none => none
  | some ⟨_, v, .vv rows (some x)⟩, some l => some (⟨k, v, rows.length, x, true⟩ :: l)
  | _, _ => none
def clB (q : Cl) : Option AV → Bool
 | some x => eqA x q.x
 | none => false
def clE (q : Cl) (v : Nat) : Cont → Bool
 | .box cs => !q.vv && decide (v = q.v) && clB q cs[q.j]?
 | .vv rows (some x) => q.vv && decide (v = q.v) && decide (rows.length = q.j) && eqA x q.x
 | _ => false
def invE (e : Ent) : List Cl → Bool
 | [] => true
 | q :: r => (match decide (e.key = q.k) with | true => clE q e.ver e.cont | false => true) && invE e r
def invEs (LI : List Cl) : List Ent → Bool
 | [] => true
 | e :: r => invE e LI && invEs LI r
def findC (b : Bool) (k v j : Nat) : List Cl → Option AV
 | [] => none
 | q :: r => match decide (b = q.vv) && decide (k = q.k) && decide (v = q.v) && decide (j = q.j) with | true => some q.x | false => findC b k v j r
def hasC (b : Bool) (k v : Nat) : List Cl → Bool
 | [] => false
 | q :: r => match decide (b = q.vv) && decide (k = q.k) && decide (v = q.v) with | true => true | false => hasC b k v r
def lookL (P : Program) (LI : List Cl) (t : TypeId) : Bool × AV → Option AV
 | (true, .ptr k v off) => match (tk P t).agg, decide (tk P t = .other) with
  | false, false => findC false k v off LI
  | _, _ => none
 | (true, .eptr k v i j) => match (tk P t).agg, decide (tk P t = .other), decide (j = 0) with
  | false, false, true => findC true k v i LI
  | _, _, _ => none
 | _ => none
def lookF (LI : List Cl) : Option Nat → Bool × AV → Option AV
 | some n, (true, .ptr k v off) => match hasC false k v LI with | true => some (.ptr k v (off + n)) | false => none
 | _, _ => none
def lookN (LI : List Cl) : Bool × AV → Option AV
 | (true, .ptr k v off) => match hasC false k v LI with | true => some (.ptr k v off) | false => none
 | _ => none
def lookX (P : Program) (LI : List Cl) : TK → Bool × AV → Bool × AV → Option AV
 | .slice e, (true, .vec k v off len), (true, .d (.int _ n)) => match decide (tsz P e = some 1), hasC true k v LI, decide (0 ≤ n), decide (n.toNat < len) with
  | true, true, true, true => some (.eptr k v (off + n.toNat) 0)
  | _, _, _, _ => none
 | _, _, _ => none
def lookG (P : Program) (LI : List Cl) (S : St) : Op → Option AV
 | .load t x => lookL P LI t (S.opd x)
 | .fieldAddr s x f => lookF LI (foff P s f) (S.opd x)
 | .nilCheck x => lookN LI (S.opd x)
 | .indexAddr t x i => lookX P LI (tk P t) (S.opd x) (S.opd i)
 | _ => none
def lookI (P : Program) (LI : List Cl) (S : St) (o : Oper) : Option AV :=
 match o.guard with
 | none => lookG P LI S o.op
 | some _ => none
def chkI (LI : List Cl) : Option (St × Stp) → Option (St × Stp)
 | some (S, p) => if invEs LI p.es = true then some (S, p) else none
 | none => none
def stepI (X : Ctx) (cl : CallFn) (md : Bool) (LI : List Cl) (all : List Oper) (S : St) (o : Oper) : Option AV → Option (St × Stp)
 | some x => some (S.put o.dst true x, ⟨[], [], true, x⟩)
 | none => chkI LI (dgstep X cl md all S o)
def isLast : List Nat → List Oper → Bool
 | [], [] => true
 | _, _ => false
def drwL (X : Ctx) (cl : CallFn) (md : Bool) (nd : List (List Nat)) (all : List Oper) (S : St) (o : Oper) (acc : List Stp) : Option (XE × St) :=
 if ordD nd acc.reverse = true then runOps X cl md all [o] S else none
def drwI (X : Ctx) (cl : CallFn) (md : Bool) (nd : List (List Nat)) (LI : List Cl) (all : List Oper) : List Oper → St → List Stp → Option (XE × St)
 | [], S, acc => if ordD nd acc.reverse = true then some (.normal, S) else none
 | o :: r, S, acc => match isLast (nd.getD acc.length []) r with
  | true => drwL X cl md nd all S o acc
  | false => dThen acc (stepI X cl md LI all S o (lookI X.P LI S o)) (drwI X cl md nd LI all r)
def drwE (X : Ctx) (cl : CallFn) (md : Bool) (nd : List (List Nat)) (all : List Oper) (S : St) : Option (List Cl) → Option (XE × St)
 | some LI => drwI X cl md nd LI all all S []
 | none => none
def drwA (X : Ctx) (cl : CallFn) (md : Bool) (nd : List (List Nat)) (all : List Oper) (S : St) : List (Nat × Nat) → Option (XE × St)
 | [] => drwOps X cl md (verSum S.mem, nd) all all S []
 | q :: r => drwE X cl md nd all S (ents S.mem (q :: r))
def St.adopt (S : St) (kb j k sz : Nat) : St :=
 match Mem.get S.mem kb, Mem.get S.mem k with
 | some ⟨_, vb, .box cs⟩, some ⟨_, v, _⟩ => match cs[j]? with
  | some (.lit (.slice none 0 0)) => if kb = k then S else { S with mem := Mem.set (Mem.set S.mem ⟨k, v + 1, .vec sz []⟩) ⟨kb, vb, .box (cs.set j (.vec k (v + 1) 0 0))⟩ }
  | _ => S
 | _, _ => S
def rkAV (k v k2 v2 : Nat) : AV → AV
 | .vec k0 v0 o l => if k0 = k ∧ v0 = v then .vec k2 v2 o l else .vec k0 v0 o l
 | x => x
def mapB (τ : AV → AV) : Mem → Mem
 | [] => []
 | e :: r => ⟨e.key, e.ver, mapC τ e.cont⟩ :: mapB τ r
def St.rekey (S : St) (k k2 : Nat) : St :=
 match Mem.get S.mem k, Mem.get S.mem k2 with
 | some ⟨_, v, .vec sz rows⟩, some ⟨_, v2, _⟩ => if k = k2 then S else { S with env := mapEnv (rkAV k v k2 (v2 + 1)) S.env, mem := Mem.set (Mem.set (mapB (rkAV k v k2 (v2 + 1)) S.mem) ⟨k, v + 1, .dead⟩) ⟨k2, v2 + 1, .vec sz rows⟩ }
 | _, _ => S
def St.opn (S : St) (k k2 : Nat) : St :=
 match Mem.get S.mem k, Mem.get S.mem k2 with
 | some ⟨_, v, .vv rows none⟩, some ⟨_, v2, _⟩ => match rows.getLast? with
  | some xs => if k = k2 then S else { S with mem := Mem.set (Mem.set S.mem ⟨k, v, .vv rows.dropLast (some (.vec k2 (v2 + 1) 0 xs.length))⟩) ⟨k2, v2 + 1, .vec 1 xs⟩ }
  | none => S
 | _, _ => S
def St.cls (S : St) (k k2 : Nat) : St :=
 match Mem.get S.mem k, Mem.get S.mem k2 with
 | some ⟨_, v, .vv rows (some (.vec k3 v3 0 len))⟩, some ⟨_, v2, .vec 1 xs⟩ => if k = k2 then S else if k3 = k2 ∧ v3 = v2 ∧ len = xs.length then { S with mem := Mem.set (Mem.set S.mem ⟨k, v, .vv (rows ++ [xs]) none⟩) ⟨k2, v2 + 1, .dead⟩ } else S
 | _, _ => S
def St.shut (S : St) (k : Nat) : St :=
 match Mem.get S.mem k with
 | some ⟨_, v, .vv rows (some _)⟩ => { S with mem := Mem.set S.mem ⟨k, v, .vv rows none⟩ }
 | _ => S
def St.adoptV (S : St) (kb j k : Nat) : St :=
 match Mem.get S.mem kb, Mem.get S.mem k with
 | some ⟨_, vb, .box cs⟩, some ⟨_, v, _⟩ => match cs[j]? with
  | some (.lit (.slice none 0 0)) => if kb = k then S else { S with mem := Mem.set (Mem.set S.mem ⟨kb, vb, .box (cs.set j (.vec k (v + 1) 0 0))⟩) ⟨k, v + 1, .vv [] none⟩ }
  | _ => S
 | _, _ => S
def Gh.go (S : St) : Gh → St
 | .opn k k2 => S.opn k k2
 | .cls k k2 => S.cls k k2
 | .shut k => S.shut k
 | .adoptV kb j k => S.adoptV kb j k
 | .trim k => S.trim1 k
 | .freeze k => S.freeze k
 | .adopt kb j k sz => S.adopt kb j k sz
 | .rekey k k2 => S.rekey k k2
def ghs (S : St) : List Gh → St
 | [] => S
 | g :: r => ghs (g.go S) r
def mapN (k : St → St) : Option (XE × St) → Option (XE × St)
 | some (.normal, S) => some (.normal, k S)
 | r => r
def inBlk (id : Nat) : Option (XE × St) → Option (XE × St)
 | some (.exit id', S) => if id' = id then some (.normal, S) else some (.exit id', S)
 | r => r
def iter (f : St → Option (XE × St)) : Nat → St → Option (XE × St)
 | 0, _ => none
 | n + 1, S => andThen (f S) (iter f n)
def condB (a b : Option (XE × St)) : Bool × AV → Option (XE × St)
 | (true, .d (.bool t)) => if t = true then a else b
 | _ => none
def St.leave (X : Ctx) (f : FuncId) (id : Nat) (S : St) : St := ghs (S.prune (X.keep f id)) (X.gh f id)
def den (X : Ctx) (f : FuncId) (cl : CallFn) (n : Nat) : Code → St → Option (XE × St)
 | .skip, S => some (.normal, S)
 | .region id ops draw, S => match draw with
  | false => mapN (St.leave X f id) (runOps X cl (X.md f id) ops.toList ops.toList S)
  | true => mapN (St.leave X f id) (drwA X cl (X.md f id) (X.od f id) ops.toList S (X.fl f id))
 | .seq a b, S => andThen (den X f cl n a S) (den X f cl n b)
 | .cond c a b, S => condB (den X f cl n a S) (den X f cl n b S) (S.opd c)
 | .block id c, S => inBlk id (den X f cl n c S)
 | .loop c, S => iter (den X f cl n c) n S
 | .exit id, S => some (.exit id, ghs S (X.gh f (id + 1000000)))
 | .ret, S => some (.ret, S)
 | _, _ => none
def fin (P : Program) (p : FPol) (n0 : Nat) (rs : List ResultVar) : Option (XE × St) → Option (Out × List (Nat × Cont))
 | some (.normal, S) => finish P p n0 rs S
 | some (.ret, S) => finish P p n0 rs S
 | some (.panic t x, S) => finPanic p n0 t x S
 | _ => none
def runFn (X : Ctx) (f : FuncId) (cl : CallFn) (n : Nat) (fn : Func) (c : Code) (args : List AV) (cs : List Cont) : Option (Out × List (Nat × Cont)) :=
 if (decide (args.length ≤ fn.ntmps) && decide (cs.length ≤ 100) && (X.fp f).sites.all (fun k => decide (100 ≤ k)) && decide (X.fp f).sites.Nodup) = true then
  fin X.P (X.fp f) cs.length fn.results.toList (den X f cl n c (entry fn.ntmps X.gl args cs (X.fp f).sites))
 else none
def emptyVec : Option (Out × List (Nat × Cont)) → Option Nat
 | some (.ret (.vec 0 0 0 0), [(0, .vec sz [])]) => some sz
 | _ => none
def splitRun (r1 r2 : Option (Out × List (Nat × Cont))) : Option (Out × List (Nat × Cont)) :=
 match emptyVec r1, emptyVec r2 with
 | some a, some b => if a = b then r1 else none
 | _, _ => none
def runSplit (run : List AV → Option (Out × List (Nat × Cont))) (args : List AV) : Bool → Option (Out × List (Nat × Cont))
 | true => match args with
  | .d (.list []) :: r => splitRun (run (.lit (.slice none 0 0) :: r)) (run (.nn :: r))
  | args => run args
 | false => run args
def orcAns (h : List AV → Option AV) (args : List AV) : List Cont → Option (Out × List (Nat × Cont))
 | [] => match h args with
  | some d => some (.ret d, [])
  | none => none
 | _ :: _ => none
def liftO (h : List D → Option D) (args : List AV) : Option AV := match toDs args with
 | some ds => (h ds).map .d
 | none => none
abbrev DF := FuncId × List AV
def dfv (S : St) (args : List Operand) : Bool × AV → Option DF
 | (true, .fn g caps) => if (okAll S args && decide (g < bnB)) = true then some (g, argVals S args ++ caps) else none
 | _ => none
def deferOf (S : St) (o : Oper) : Option DF :=
 match o.guard, o.op with
 | none, .defer { callee := .value fv, args, .. } => dfv S args.toList (S.opd fv)
 | _, _ => none
def isDefer (o : Oper) : Bool :=
 match o.op with
 | .defer _ => true
 | _ => false
abbrev XD := Option (XE × St × List DF)
def nextD (k : St → XD) (ds : List DF) : Option (XE × St) → XD
 | some (.normal, S) => k S
 | some (e, S) => some (e, S, ds)
 | none => none
def runOpsD (X : Ctx) (cl : CallFn) (md : Bool) (all : List Oper) : List Oper → St → List DF → XD
 | [], S, ds => some (.normal, S, ds)
 | o :: r, S, ds => match deferOf S o with
  | some d => runOpsD X cl md all r (S.put o.dst true .junk) (d :: ds)
  | none => nextD (fun S1 => runOpsD X cl md all r S1 ds) ds (gstep X cl md all S o)
def hasDef (ops : List Oper) : Bool := ops.any isDefer
def leaveD (k : St → St) : XD → XD
 | some (.normal, S, ds) => some (.normal, k S, ds)
 | r => r
def addD (ds : List DF) : Option (XE × St) → XD
 | some (e, S) => some (e, S, ds)
 | none => none
def seqD (k : St → List DF → XD) : XD → XD
 | some (.normal, S, ds) => k S ds
 | r => r
def denD (X : Ctx) (f : FuncId) (cl : CallFn) (n : Nat) : Code → St → List DF → XD
 | .seq a b, S, ds => seqD (denD X f cl n b) (denD X f cl n a S ds)
 | .region id ops draw, S, ds => match !draw && hasDef ops.toList with
  | true => leaveD (St.leave X f id) (runOpsD X cl (X.md f id) ops.toList ops.toList S ds)
  | false => addD ds (den X f cl n (.region id ops draw) S)
 | c, S, ds => addD ds (den X f cl n c S)
def isRecover (o : Oper) : Bool :=
 match o.guard, o.op with
 | none, .call { callee := .builtin .recover, args, .. } => args.toList.isEmpty
 | _, _ => false
def denR (X : Ctx) (f : FuncId) (cl : CallFn) (n : Nat) (rv : AV) : Code → St → Option (XE × St)
 | .seq a b, S => andThen (denR X f cl n rv a S) (den X f cl n b)
 | .region id ops draw, S => match draw, ops.toList with
  | false, o :: r => if isRecover o = true then mapN (St.leave X f id) (runOps X cl (X.md f id) (o :: r) r (S.put o.dst true rv)) else none
  | _, _ => none
 | _, _ => none
def finR (P : Program) (p : FPol) (n0 : Nat) (rs : List ResultVar) : Option (XE × St) → Option (Out × List (Nat × Cont))
 | some (.normal, S) => finish P p n0 rs S
 | some (.ret, S) => finish P p n0 rs S
 | _ => none
def runFnR (X : Ctx) (f : FuncId) (cl : CallFn) (n : Nat) (fn : Func) (c : Code) (args : List AV) (cs : List Cont) : Option (Out × List (Nat × Cont)) :=
 match args.getLast? with
 | some rv => if (decide (args.dropLast.length ≤ fn.ntmps) && decide (cs.length ≤ 100) && (X.fp f).sites.all (fun k => decide (100 ≤ k)) && decide (X.fp f).sites.Nodup) = true then
  finR X.P (X.fp f) cs.length fn.results.toList (denR X f cl n rv c (entry fn.ntmps X.gl args.dropLast cs (X.fp f).sites))
  else none
 | none => none
def recA : XE → Option AV
 | .normal => some (.lit .nilIface)
 | .ret => some (.lit .nilIface)
 | .panic t x => some (.ifc t x)
 | .exit _ => none
def memC (S : St) : Option CRes → Option St
 | some ⟨.ret _, es, _⟩ => some { S with mem := putAll S.mem es }
 | _ => none
def finM (X : Ctx) (p : FPol) (n0 : Nat) (rs : List ResultVar) : Option St → Option (Out × List (Nat × Cont))
 | some S => finish X.P p n0 rs S
 | none => none
def finD1 (X : Ctx) (p : FPol) (n0 : Nat) (rs : List ResultVar) (clR : CallFn) (S : St) (d : DF) : Option AV → Option (Out × List (Nat × Cont))
 | some rv => finM X p n0 rs (memC S (callOp clR S.mem 0 d.1 (d.2 ++ [rv]) (X.fp d.1).mut_))
 | none => none
def finD (X : Ctx) (p : FPol) (n0 : Nat) (rs : List ResultVar) (clR : CallFn) : XD → Option (Out × List (Nat × Cont))
 | some (e, S, []) => fin X.P p n0 rs (some (e, S))
 | some (e, S, [d]) => finD1 X p n0 rs clR S d (recA e)
 | _ => none
def runFnD (X : Ctx) (f : FuncId) (cl clR : CallFn) (n : Nat) (fn : Func) (c : Code) (args : List AV) (cs : List Cont) : Option (Out × List (Nat × Cont)) :=
 if (decide (args.length ≤ fn.ntmps) && decide (cs.length ≤ 100) && (X.fp f).sites.all (fun k => decide (100 ≤ k)) && decide (X.fp f).sites.Nodup) = true then
  finD X (X.fp f) cs.length fn.results.toList clR (denD X f cl n c (entry fn.ntmps X.gl args cs (X.fp f).sites) [])
 else none
def defC : Code → Bool
 | .seq a b => defC a || defC b
 | .region _ ops _ => hasDef ops.toList
 | _ => false
def recFn (X : Ctx) (n : Nat) (cl : CallFn) : CallFn := fun g args cs =>
 match X.P.funcs[g]? with
 | some fn => match fn.body with
  | some c => runFnR X g cl n fn c args cs
  | none => none
 | none => none
def bodyRun (X : Ctx) (f : FuncId) (cl : CallFn) (n : Nat) (fn : Func) (c : Code) (args : List AV) (cs : List Cont) : Bool → Option (Out × List (Nat × Cont))
 | true => runFnD X f cl (recFn X n cl) n fn c args cs
 | false => runSplit (fun args => runFn X f cl n fn c args cs) args (X.fp f).split
def callN (X : Ctx) : Nat → CallFn
 | 0, _, _, _ => none
 | n + 1, f, args, cs => match X.ov with
  | some cl => cl f args cs
  | none => match X.orc f with
   | some h => orcAns h args cs
   | none => match X.P.funcs[f]? with
    | some fn => match fn.body with
     | some c => bodyRun X f (callN X n) n fn c args cs (defC c)
     | none => none
    | none => none
def ClOk (X : Ctx) (cl : CallFn) : Prop := ∀ g args cs out l, cl g args cs = some (out, l) →
 callable X.P g = true ∧ Ev X.P X.gl g args (inM 0 cs) fun o m => o = out ∧ m = mkM 0 l
theorem run_callFunc {P : Program} {g : FuncId} {vs : Array Value} {w : World} (h : callable P g = true) : (callFunc g vs).run P w = .ok (.enter g vs) w := by
 unfold callable at h
 split at h
 · rename_i fn hf
   simp only [Bool.and_eq_true, Bool.not_eq_true'] at h
   have h1 : fn.body.isNone = false := by
    have := h.1
    cases hb : fn.body <;> simp_all
   have h2 : fn.name ≠ "runtime.NumGoroutine" := by simpa using h.2
   have h3 : fn.body ≠ none := by intro hb; simp [hb] at h1
   simp [callFunc, hf, h2, h3]
 · cases h
theorem get_none {m : Mem} {k : Nat} : Mem.get m k = none ↔ k ∉ m.map (·.key) := by
 induction m with
 | nil => simp [Mem.get]
 | cons e r ih =>
  simp only [Mem.get, List.map_cons, List.mem_cons, not_or]
  split
  · rename_i h; simp [h]
  · rename_i h; rw [ih]; constructor
    · exact fun hh => ⟨fun he => h he.symm, hh⟩
    · exact fun hh => hh.2
theorem isNone_keys {m m' : Mem} (hk : m'.map (·.key) = m.map (·.key)) (k : Nat) : (Mem.get m' k).isNone = (Mem.get m k).isNone := by
 have := get_none (m := m) (k := k)
 have h2 := get_none (m := m') (k := k)
 rw [hk, ← this] at h2
 cases h : Mem.get m k <;> cases h' : Mem.get m' k <;> simp_all
theorem collect_sub (m : Mem) : ∀ (n : Nat) (todo acc : List Nat), ∀ k ∈ acc, k ∈ collect m n todo acc
 | 0, todo, acc, k, h => h
 | n + 1, [], acc, k, h => h
 | n + 1, t :: todo, acc, k, h => by
  simp only [collect]
  split
  · exact collect_sub m n todo acc k h
  · exact collect_sub m n _ _ k (List.mem_append_left _ h)
theorem collect_loc {m m' : Mem} (hk : m'.map (·.key) = m.map (·.key)) : ∀ (n : Nat) (todo acc : List Nat), (∀ k ∈ collect m n todo acc, Mem.get m' k = Mem.get m k) → collect m' n todo acc = collect m n todo acc
 | 0, todo, acc, _ => rfl
 | n + 1, [], acc, _ => rfl
 | n + 1, t :: todo, acc, h => by
  simp only [collect, isNone_keys hk t] at h ⊢
  split
  · rename_i hc
    rw [hc] at h
    exact collect_loc hk n todo acc h
  · rename_i hc
    rw [hc] at h
    have e : Mem.get m' t = Mem.get m t := h t (collect_sub m n _ _ t (by simp))
    rw [e]
    exact collect_loc hk n _ _ h
mutual
theorem vw_loc {m m' : Mem} {ρ : List Nat} {bor : Nat → Bool} {nv : Nat → Nat → Nat} (hk : m'.map (·.key) = m.map (·.key)) (h : ∀ k, (k ∈ ρ ∨ bor k = true) → Mem.get m' k = Mem.get m k) : ∀ y : AV, vw m' ρ bor nv y = vw m ρ bor nv y
 | .ptr k ver off => by
  by_cases hkρ : k ∈ ρ
  · simp only [vw, h k (.inl hkρ)]
  · have h0 : ∀ m0 : Mem, vw m0 ρ bor nv (.ptr k ver off) = .junk := by
     intro m0
     simp only [vw, findK_none (ρ := ρ) (k := k) (j := 0) |>.2 hkρ]
     cases Mem.get m0 k <;> rfl
    rw [h0, h0]
 | .vec k ver off len => by
  by_cases hkρ : k ∈ ρ ∨ bor k = true
  · simp only [vw, h k hkρ]
  · simp only [not_or] at hkρ
    have h0 : ∀ m0 : Mem, vw m0 ρ bor nv (.vec k ver off len) = .junk := by
     intro m0
     simp only [vw, findK_none (ρ := ρ) (k := k) (j := 0) |>.2 hkρ.1, hkρ.2]
     cases Mem.get m0 k with
     | none => rfl
     | some e =>
      obtain ⟨_, _, c⟩ := e
      cases c <;> simp
    rw [h0, h0]
 | .eptr k ver i j => by
  by_cases hkρ : k ∈ ρ
  · simp only [vw, h k (.inl hkρ)]
  · have h0 : ∀ m0 : Mem, vw m0 ρ bor nv (.eptr k ver i j) = .junk := by
     intro m0
     simp only [vw, findK_none (ρ := ρ) (k := k) (j := 0) |>.2 hkρ]
     cases Mem.get m0 k <;> rfl
    rw [h0, h0]
 | .agg cs => by simp only [vw, vws_loc hk h cs]
 | .fn f cap => by simp only [vw, vws_loc hk h cap]
 | .tup vs => by simp only [vw, vws_loc hk h vs]
 | .junk => rfl
 | .d x => rfl
 | .rptr x j => rfl
 | .ifc t x => rfl
 | .lit v => rfl
 | .nn => rfl
 | .err => rfl
theorem vws_loc {m m' : Mem} {ρ : List Nat} {bor : Nat → Bool} {nv : Nat → Nat → Nat} (hk : m'.map (·.key) = m.map (·.key)) (h : ∀ k, (k ∈ ρ ∨ bor k = true) → Mem.get m' k = Mem.get m k) : ∀ l : List AV, vws m' ρ bor nv l = vws m ρ bor nv l
 | [] => rfl
 | x :: r => by simp only [vws, vw_loc hk h x, vws_loc hk h r]
end
theorem selL_loc {m m' : Mem} {ρ : List Nat} {bor : Nat → Bool} {nv : Nat → Nat → Nat} (hk : m'.map (·.key) = m.map (·.key)) (h : ∀ k, (k ∈ ρ ∨ bor k = true) → Mem.get m' k = Mem.get m k) :
 ∀ (l : List Nat) (i : Nat), (∀ k ∈ l, k ∈ ρ) → selL m' ρ bor nv i l = selL m ρ bor nv i l
 | [], i, _ => rfl
 | k :: r, i, hl => by
  simp only [selL, h k (.inl (hl k (by simp))), selL_loc hk h r (i + 1) (fun x hx => hl x (by simp [hx]))]
  congr 1
  cases Mem.get m k with
  | none => rfl
  | some e =>
   simp only [selE, Prod.mk.injEq, true_and]
   cases e.cont with
   | box cs => simp only [selC, vws_loc hk h cs]
   | vv rows y =>
    cases y with
    | none => rfl
    | some x => simp only [selC, Option.map_some, vw_loc hk h x]
   | _ => rfl
theorem vwArgs_loc {b : Bool} {m m' : Mem} {ρ B : List Nat} (hk : m'.map (·.key) = m.map (·.key)) (h : ∀ k, (k ∈ ρ ∨ B.contains k = true) → Mem.get m' k = Mem.get m k) : ∀ l : List AV, vwArgs b m' ρ B l = vwArgs b m ρ B l
 | [] => rfl
 | x :: r => by simp only [vwArgs, vw_loc (nv := nv0) hk h x, vwArgs_loc hk h r]
theorem base_loc {m m' : Mem} (d : Nat) : ∀ (l : List Nat), (∀ k ∈ l, Mem.get m' k = Mem.get m k) → base m' d l = base m d l
 | [], _ => rfl
 | k :: r, h => by simp only [base, h k (by simp), base_loc d r (fun x hx => h x (by simp [hx]))]
theorem frOk_loc {m m' : Mem} (ρ : List Nat) (hk : m'.map (·.key) = m.map (·.key)) : ∀ (l : List Nat), frOk m' ρ l = frOk m ρ l
 | [] => rfl
 | k :: r => by
  have : (Mem.get m' k).isSome = (Mem.get m k).isSome := by
   have := isNone_keys hk k
   cases h : Mem.get m k <;> cases h' : Mem.get m' k <;> simp_all
  simp only [frOk, this, frOk_loc ρ hk r]
theorem callOp_loc {cl : CallFn} {m m' : Mem} {k0 : Nat} {g : FuncId} {ys : List AV} {mt : List Nat} {res : CRes} (hk : m'.map (·.key) = m.map (·.key)) (h : callOp cl m k0 g ys mt = some res) (hs : ∀ k ∈ res.ks, Mem.get m' k = Mem.get m k) :
 callOp cl m' k0 g ys mt = some res := by
 unfold callOp callOp2 callOp3 at h ⊢
 obtain ⟨ρ, hρ⟩ : ∃ ρ, ρ = collect m 64 (argKeys mt 0 ys) [] := ⟨_, rfl⟩
 rw [← hρ] at h
 obtain ⟨B, hB⟩ : ∃ B, B = (argBor mt 0 ys).filter fun k => !ρ.contains k := ⟨_, rfl⟩
 rw [← hB] at h
 have hks : ∀ k, k ∈ ρ ∨ B.contains k = true → Mem.get m' k = Mem.get m k := by
  intro k hk2
  refine hs k ?_
  unfold callBack at h
  split at h
  · split at h
    · cases h
      simp only [List.mem_append]
      rcases hk2 with h1 | h1
      · exact .inl (.inl h1)
      · exact .inl (.inr (by simpa using h1))
    · cases h
  · cases h
 have e1 : collect m' 64 (argKeys mt 0 ys) [] = ρ := by
  rw [hρ]; exact collect_loc hk 64 _ _ (fun k hk2 => hks k (.inl (hρ ▸ hk2)))
 rw [e1, ← hB, vwArgs_loc hk hks, selL_loc hk hks ρ 0 (fun _ h => h), isNone_keys hk]
 unfold callBack at h ⊢
 split
 · rename_i out l2 hcl
   rw [hcl] at h
   simp only at h
   rw [frOk_loc ρ hk]
   split
   · rename_i hc
     rw [if_pos hc] at h
     cases h
     have e2 : ∀ d, base m' d ρ = base m d ρ := fun d => base_loc d ρ (fun k hk2 => hks k (.inl hk2))
     have e3 : ∀ d, base m' d (List.range' (k0 + 1) (l2.length - ρ.length)) = base m d (List.range' (k0 + 1) (l2.length - ρ.length)) := fun d => base_loc d _ (fun k hk2 => hs k (by simp only [List.mem_append]; exact .inr hk2))
     rw [e2, e3]
   · rename_i hc
     rw [if_neg hc] at h; cases h
 · rename_i hcl
   rw [hcl] at h; cases h
theorem argVals_get (S : St) : ∀ (l : List Operand) (i : Nat), (argVals S l)[i]? = (l[i]?).map fun x => (S.opd x).2
 | [], i => by simp [argVals]
 | x :: r, i => by cases i with | zero => simp [argVals] | succ i => simp [argVals, argVals_get S r i]
theorem argVals_length (S : St) : ∀ (l : List Operand), (argVals S l).length = l.length
 | [] => rfl
 | x :: r => by simp [argVals, argVals_length S r]
theorem vwArgs_get (b m ρ B) : ∀ (l : List AV) (i : Nat), (vwArgs b m ρ B l)[i]? = (l[i]?).map fun y => nrm b (vw m ρ (fun k => B.contains k) nv0 y)
 | [], i => by simp [vwArgs]
 | x :: r, i => by cases i with | zero => simp [vwArgs] | succ i => simp [vwArgs, vwArgs_get b m ρ B r i]
theorem vwArgs_length (b m ρ B) : ∀ (l : List AV), (vwArgs b m ρ B l).length = l.length
 | [] => rfl
 | x :: r => by simp [vwArgs, vwArgs_length b m ρ B r]
theorem inM_conts (m ρ bor) : ∀ (l : List Nat) (i j : Nat), inM i (conts (selL m ρ bor nv0 j l)) = mkM i (selL m ρ bor nv0 j l)
 | [], i, j => rfl
 | k :: r, i, j => by
  have : selE m ρ bor nv0 j (Mem.get m k) = (0, (selE m ρ bor nv0 j (Mem.get m k)).2) := by
   cases Mem.get m k <;> rfl
  simp only [selL]
  rw [this]
  simp only [conts, inM, mkM, inM_conts m ρ bor r (i + 1) (j + 1)]
theorem frOk_all {m : Mem} {ρ : List Nat} : ∀ {l : List Nat}, frOk m ρ l = true → ∀ k ∈ l, (Mem.get m k).isSome = true ∧ k ∉ ρ
 | [], _, k, hk => by simp at hk
 | x :: r, h, k, hk => by
  simp only [frOk, Bool.and_eq_true, Bool.not_eq_true', List.contains_eq_mem, decide_eq_false_iff_not] at h
  rcases List.mem_cons.1 hk with rfl | hk
  · exact h.1
  · exact frOk_all h.2 k hk
theorem plainL_all : ∀ {l : List (Nat × Cont)}, plainL l = true → ∀ e ∈ l, plainC e.2 = true
 | [], _, e, he => by simp at he
 | (v, c) :: r, h, e, he => by
  simp only [plainL, Bool.and_eq_true] at h
  rcases List.mem_cons.1 he with rfl | he
  · exact h.1
  · exact plainL_all h.2 e he
theorem mkM_get : ∀ (l : List (Nat × Cont)) (i k : Nat), i ≤ k → k < i + l.length → (Mem.get (mkM i l) k).isSome = true
 | [], i, k, h1, h2 => by simp at h2; omega
 | (v, c) :: r, i, k, h1, h2 => by
  simp only [mkM, Mem.get]
  split
  · rfl
  · rename_i hne
    exact mkM_get r (i + 1) k (by have hne2 : i ≠ k := hne; omega) (by simp at h2; omega)
theorem Ev.frz {P : Program} {gl f args} {cs : List Cont} {out : Out} {l2 : List (Nat × Cont)} (h : Ev P gl f args (inM 0 cs) fun o m => o = out ∧ m = mkM 0 l2) (hl : cs.length ≤ l2.length) :
 Ev P gl f args (inM 0 cs) fun o m => o = frzO cs.length l2 out ∧ m = mkM 0 (selL (mkM 0 l2) (List.range cs.length) (fun _ => true) (fun _ v => v) 0 (List.range cs.length)) := by
 intro φ G w vs hm hg hla ha
 refine (h φ G w vs hm hg hla ha).mono ?_
 rintro e w' ⟨φ', m', out', ⟨rfl, rfl⟩, hm', hk', hout⟩
 obtain ⟨s1, s2, s3⟩ := sel_mem (G1 := G) (ρ := List.range cs.length) (bor := fun _ => true) (nv := fun _ v => v) hm' List.nodup_range (fun k hk => mkM_get l2 0 k (Nat.zero_le _) (by simp at hk; omega)) (fun b h => .inl h) (fun b h => hm'.notG b h.own)
  (fun k e L b hg _ _ hL ho => hm'.notG _ ⟨e, (Mem.get_mem hg).1, L, by rw [(Mem.get_mem hg).2]; exact hL, ho⟩)
 refine ⟨_, _, _, ⟨rfl, rfl⟩, s1, ⟨?_, hk'.old, ?_, hk'.size, hk'.os, hk'.tape, hk'.output⟩, ?_⟩
 · intro k L hL
   have hk : k < cs.length := by
    have := hm.dom k L hL
    rw [inM_mk, mkM_keys] at this
    simpa using this
   obtain ⟨L', h1, h2, h3⟩ := hk'.le k L hL
   exact ⟨L', by simp [Phi.sel, hk, h1], h2, h3⟩
 · intro b hb ho
   exact hk'.own b hb ((sel_own (φ := φ') (nv := fun _ v => v) (bor := fun _ => true) (fun k hk => mkM_get l2 0 k (Nat.zero_le _) (by simp at hk; omega)) b).1 ho).own
 · cases out' with
   | ret x =>
    cases e with
    | returned v => exact (s2 x v hout).norm
    | _ => exact hout.elim
   | panic t x =>
    cases e with
    | panicked chain =>
     obtain ⟨v, hc, hx⟩ := hout
     exact ⟨v, hc, hx.mono (fun _ _ _ => rfl) (Nat.le_refl _) (fun b _ => s3 b)⟩
    | _ => exact hout.elim
theorem conts_length : ∀ (l : List (Nat × Cont)), (conts l).length = l.length
 | [] => rfl
 | (_, _) :: r => by simp [conts, conts_length r]
theorem frzR_some {n0 : Nat} {b : Bool} {r : Option (Out × List (Nat × Cont))} {out : Out} {l : List (Nat × Cont)} (h : frzR n0 b r = some (out, l)) : ∃ out0 l0, r = some (out0, l0) ∧
 ((out = out0 ∧ l = l0) ∨ (n0 < l0.length ∧ out = frzO n0 l0 out0 ∧ l = selL (mkM 0 l0) (List.range n0) (fun _ => true) (fun _ v => v) 0 (List.range n0))) := by
 cases r with
 | none => cases h
 | some p =>
  obtain ⟨o0, l0⟩ := p
  refine ⟨o0, l0, rfl, ?_⟩
  simp only [frzR] at h
  split at h
  · rename_i hc
    simp only [Bool.and_eq_true, decide_eq_true_eq] at hc
    simp only [Option.some.injEq, Prod.mk.injEq] at h
    exact .inr ⟨hc.2, h.1.symm, h.2.symm⟩
  · simp only [Option.some.injEq, Prod.mk.injEq] at h
    exact .inl ⟨h.1.symm, h.2.symm⟩
theorem fnIdN_s {n g : Nat} (h : g < n) : fnIdN n g = g := by
 unfold fnIdN
 rw [decide_eq_false (Nat.not_le.2 h)]
theorem fnArgsN_s {n g : Nat} (h : g < n) (ys caps : List AV) : fnArgsN n g ys caps = ys ++ caps := by
 unfold fnArgsN
 rw [decide_eq_false (Nat.not_le.2 h)]
theorem fnIdN_b (n g : Nat) : fnIdN n (g + n) = g := by
 unfold fnIdN
 rw [decide_eq_true (Nat.le_add_left n g)]
 exact Nat.add_sub_cancel g n
theorem fnArgsN_b (n g : Nat) (ys caps : List AV) : fnArgsN n (g + n) ys caps = caps ++ ys := by
 unfold fnArgsN
 rw [decide_eq_true (Nat.le_add_left n g)]
theorem fnId_s {g : FuncId} (h : g < bnB) : fnId g = g := fnIdN_s h
theorem fnArgs_s {g : FuncId} (h : g < bnB) (ys caps : List AV) : fnArgs g ys caps = ys ++ caps := fnArgsN_s h ys caps
theorem fnId_b (g : FuncId) : fnId (g + bnB) = g := fnIdN_b bnB g
theorem fnArgs_b (g : FuncId) (ys caps : List AV) : fnArgs (g + bnB) ys caps = caps ++ ys := fnArgsN_b bnB g ys caps
theorem callOp_ok {X : Ctx} {cl : CallFn} (hcl : ClOk X cl) {S : St} {o : Oper} {fv : Operand} {args : Array Operand} {tys : Array TypeId} {g g0 : FuncId} {caps : List AV} {k0 : Nat} {mt : List Nat} {res : CRes}
 (ho : o.op = .call { callee := .value fv, args, argTypes := tys }) (hfv : S.opd fv = (true, .fn g0 caps)) (hg0 : fnId g0 = g) (hok : okAll S args.toList = true)
 (h : callOp cl S.mem k0 g (fnArgs g0 (argVals S args.toList) caps) mt = some res) (hgl : S.gl = X.gl) {φ G a w} (hr : Rel φ G S a w) {next : Act → World → Prop} {R : Exit → Act → World → Prop}
 (hret : ∀ x, res.out = .ret x → ∀ φ' w' v, Rel φ' G { S with mem := putAll S.mem res.es } a w' → Keeps φ S.mem w φ' (putAll S.mem res.es) w' → AVRel φ' w' (Fo G φ' (putAll S.mem res.es)) x v → next (a.put o.dst v) w')
 (hpan : ∀ t x, res.out = .panic t x → ∀ φ' w' v, Rel φ' G { S with mem := putAll S.mem res.es } a w' → Keeps φ S.mem w φ' (putAll S.mem res.es) w' → DRel w' (Fo G φ' (putAll S.mem res.es)) x v → R (.panic [{ v := .iface t v, recovered := false }]) a w') : o.wp X.P a w next R := by
 unfold callOp callOp2 callOp3 at h
 obtain ⟨ρ, hρ⟩ : ∃ ρ, ρ = collect S.mem 64 (argKeys mt 0 (fnArgs g0 (argVals S args.toList) caps)) [] := ⟨_, rfl⟩
 have hcol := collect_ok S.mem 64 (argKeys mt 0 (fnArgs g0 (argVals S args.toList) caps)) [] List.nodup_nil (by simp)
 rw [← hρ] at h hcol
 generalize (argBor mt 0 (fnArgs g0 (argVals S args.toList) caps)).filter (fun k => !ρ.contains k) = B at h
 clear hρ
 obtain ⟨hn, hall⟩ := hcol
 unfold callBack at h
 split at h
 · rename_i out l2 hcall
   split at h
   · rename_i hc
     cases h
     have hcall2 : callable X.P g = true ∧ Ev X.P X.gl g (vwArgs (mt.contains 1000) S.mem ρ B (fnArgs g0 (argVals S args.toList) caps)) (inM 0 (conts (selL S.mem ρ (fun k => B.contains k) nv0 0 ρ))) fun o m => o = out ∧ m = mkM 0 l2 := by
      obtain ⟨out0, l0, h0, h1⟩ := frzR_some hcall
      obtain ⟨hc0, hev0⟩ := hcl _ _ _ _ _ h0
      refine ⟨hc0, ?_⟩
      rcases h1 with ⟨rfl, rfl⟩ | ⟨hlt, rfl, rfl⟩
      · exact hev0
      · have hcl2 : (conts (selL S.mem ρ (fun k => B.contains k) nv0 0 ρ)).length = ρ.length := by rw [conts_length, selL_length]
        have := hev0.frz (by rw [hcl2]; omega)
        rw [hcl2] at this
        exact this
     obtain ⟨hcallable, hev⟩ := hcall2
     simp only [Bool.and_eq_true, Bool.or_eq_true, decide_eq_true_eq] at hc
     obtain ⟨⟨hlen, hfr⟩, hpl⟩ := hc
     rw [inM_conts] at hev
     obtain ⟨v1, v2, v3⟩ := call_view (B := B) hr.mem hn hall
     have hfe := hr.opd fv (by rw [hfv])
     rw [hfv] at hfe
     generalize hfq : a.eval fv = fval at hfe
     have hargs : ∃ vs : Array Value, (execOp a.eval o).run X.P w = .ok (.enter g vs) w ∧ (fnArgs g0 (argVals S args.toList) caps).length = vs.size ∧ ∀ (i : Nat) y v, (fnArgs g0 (argVals S args.toList) caps)[i]? = some y → vs[i]? = some v → AVRel φ w (Fo G φ S.mem) y v := by
      have hone : ∀ (i : Nat) y v, (argVals S args.toList)[i]? = some y → (args.map a.eval)[i]? = some v → AVRel φ w (Fo G φ S.mem) y v := by
       intro i y v hy hv
       rw [argVals_get] at hy
       simp only [Array.getElem?_map, Option.map_eq_some_iff] at hv
       obtain ⟨z, hz, rfl⟩ := hv
       obtain ⟨z', hz', rfl⟩ := Option.map_eq_some_iff.1 hy
       rw [Array.getElem?_toList, hz] at hz'
       cases hz'
       exact hr.opd z (okAll_mem hok z (by simpa using Array.mem_of_getElem? hz))
      have hal : (argVals S args.toList).length = (args.map a.eval).size := by rw [argVals_length]; simp
      have happ : ∀ (l r : List AV) (la ra : Array Value), l.length = la.size → r.length = ra.size → (∀ (i : Nat) y v, l[i]? = some y → la[i]? = some v → AVRel φ w (Fo G φ S.mem) y v) → (∀ (i : Nat) y v, r[i]? = some y → ra[i]? = some v → AVRel φ w (Fo G φ S.mem) y v) →
       ∀ (i : Nat) y v, (l ++ r)[i]? = some y → (la ++ ra)[i]? = some v → AVRel φ w (Fo G φ S.mem) y v := by
       intro l r la ra h1 h2 h3 h4 i y v hy hv
       by_cases hi : i < l.length
       · rw [List.getElem?_append_left hi] at hy
         rw [Array.getElem?_append_left (by omega)] at hv
         exact h3 i y v hy hv
       · rw [List.getElem?_append_right (by omega)] at hy
         rw [Array.getElem?_append_right (by omega), ← h1] at hv
         exact h4 _ y v hy hv
      cases hfe with
      | fn _ _ ca hlt hlc hcr =>
       have e2 : g0 = g := by rw [← hg0, fnId_s hlt]
       subst e2
       refine ⟨args.map a.eval ++ ca, by simp [execOp, ho, resolve, hfq, Deferred.ofValue, invoke, run_callFunc hcallable], ?_, ?_⟩
       · rw [fnArgs_s hlt, List.length_append, hal, hlc, Array.size_append]
       · rw [fnArgs_s hlt]
         exact happ _ _ _ _ hal hlc hone hcr
      | bnd f _ ca hlc hcr =>
       have e2 : f = g := by rw [← hg0, fnId_b]
       subst e2
       refine ⟨ca ++ args.map a.eval, by simp [execOp, ho, resolve, hfq, Deferred.ofValue, invoke, run_callFunc hcallable], ?_, ?_⟩
       · rw [fnArgs_b, List.length_append, hal, hlc, Array.size_append]
       · rw [fnArgs_b]
         exact happ _ _ _ _ hlc hal hcr hone
     obtain ⟨vs, hrun, hlen2, hrel⟩ := hargs
     · unfold Oper.wp
       rw [hrun]
       have hlenA : (vwArgs (mt.contains 1000) S.mem ρ B (fnArgs g0 (argVals S args.toList) caps)).length = vs.size := by
        rw [vwArgs_length]; exact hlen2
       have hav : ∀ (i : Nat) x v, (vwArgs (mt.contains 1000) S.mem ρ B (fnArgs g0 (argVals S args.toList) caps))[i]? = some x → vs[i]? = some v → AVRel (φ.sel ρ nv0) w (Fo (GCall φ G S.mem ρ B) (φ.sel ρ nv0) (mkM 0 (selL S.mem ρ (fun k => B.contains k) nv0 0 ρ))) x v := by
        intro i x v hx hv
        rw [vwArgs_get] at hx
        obtain ⟨y, hy, rfl⟩ := Option.map_eq_some_iff.1 hx
        exact (v2 y v (hrel i y v hy hv)).nrm
       have hglob : GlobRel w (Fo (GCall φ G S.mem ρ B) (φ.sel ρ nv0) (mkM 0 (selL S.mem ρ (fun k => B.contains k) nv0 0 ρ))) X.gl := by
        rw [← hgl]
        exact hr.glob.mono (fun _ _ _ => rfl) (Nat.le_refl _) (fun b _ => v3 b)
       refine (hev (φ.sel ρ nv0) (GCall φ G S.mem ρ B) w _ v1 hglob hlenA hav).mono ?_
       rintro e w' ⟨φ2, m2, out', ⟨rfl, rfl⟩, hm2, hk2, hout⟩
       have hBpl : B = [] ∨ (plainO out' = true ∧ plainL l2 = true) := hpl.imp (by simp) id
       obtain ⟨φ', hm', hk', hup⟩ := call_back (B := B) hr.mem hn hall (fr := List.range' (k0 + 1) (l2.length - ρ.length)) List.nodup_range' (frOk_all hfr) hm2 hk2 (by simp; omega) (hBpl.imp id fun hp => plainL_all hp.2)
       have hr' := hr.turn hm' hk'
       cases out' with
       | ret x =>
        cases e with
        | returned v => exact hret _ rfl φ' w' v hr' hk' (hup x v (hBpl.imp id fun hp => hp.1) hout)
        | _ => exact hout.elim
       | panic t x =>
        cases e with
        | panicked chain =>
         obtain ⟨v, rfl, hx⟩ := hout
         have := hup (.d x) v (hBpl.imp id fun hp => hp.1) (.d _ _ hx)
         cases this with
         | d _ _ hd => exact hpan t x rfl φ' w' v hr' hk' hd
        | _ => exact hout.elim
   · cases h
 · cases h
abbrev Is (e : XE) (S' : St) : XE → St → Prop := fun e' S'' => e' = e ∧ S'' = S'
def OpD (P : Program) (S : St) (o : Oper) (e : XE) (S' : St) : Prop :=
 S'.n = S.n ∧ S'.gl = S.gl ∧ (e = .normal ∨ ∃ t x, e = .panic t x) ∧ ∀ φ G a w, Rel φ G S a w → ∀ (next : Act → World → Prop) (R : Exit → Act → World → Prop),
  (e = .normal → ∀ φ' a' w', Rel φ' G S' a' w' → Keeps φ S.mem w φ' S'.mem w' → next a' w') →
  (∀ t x, e = .panic t x → ∀ φ' a' w' v, Rel φ' G S' a' w' → Keeps φ S.mem w φ' S'.mem w' → DRel w' (Fo G φ' S'.mem) x v → R (.panic [{ v := .iface t v, recovered := false }]) a' w') → o.wp P a w next R
theorem put_gl (S : St) (d g x) : (S.put d g x).gl = S.gl := by cases d <;> rfl
section
variable {X : Ctx} {cl : CallFn} {S S' : St} {o : Oper} {e : XE}
theorem opD_val {c : Bool} {x : AV} {gb : Bool} (hs : stepv X.P S o = .val c x) (hok : (opOk S o && c) = true) (hd : ∀ t, o.dst = some t → t < S.n) : OpD X.P S o .normal (S.put o.dst gb x) := by
 simp only [Bool.and_eq_true] at hok
 have := stepv_ok X.P S o hok.1
 rw [hs] at this
 refine ⟨put_n .., put_gl .., .inl rfl, fun φ G a w hr next R hn _ => ?_⟩
 exact val_step this hok.2 hr hd (fun a' w' hr' hk' => hn rfl φ a' w' hr' (by rw [put_mem]; exact hk'))
theorem opD_upd {c : Bool} {x : AV} {ent : Ent} (hs : stepv X.P S o = .upd c x ent) (hok : (opOk S o && c) = true) (hd : ∀ t, o.dst = some t → t < S.n) : OpD X.P S o .normal (({ S with mem := Mem.set S.mem ent } : St).put o.dst true x) := by
 simp only [Bool.and_eq_true] at hok
 have := stepv_ok X.P S o hok.1
 rw [hs] at this
 refine ⟨put_n .., put_gl .., .inl rfl, fun φ G a w hr next R hn _ => ?_⟩
 exact upd_step this hok.2 hr hd (fun φ' a' w' hr' hk' => hn rfl φ' a' w' hr' (by rw [put_mem]; exact hk'))
theorem callVal_some {args : List Operand} {fv : Bool × AV} {res : CRes} (h : callVal X cl S o args fv = some res) : ∃ g caps, fv = (true, .fn g caps) ∧ okAll S args = true ∧ callOp cl S.mem (keyOf o) (fnId g) (fnArgs g (argVals S args) caps) (X.fp (fnId g)).mut_ = some res := by
 unfold callVal at h
 split at h
 · rename_i g caps
   split at h
   · rename_i hok; exact ⟨g, caps, rfl, hok, h⟩
   · cases h
 · cases h
theorem opD_call (hcl : ClOk X cl) {fv : Operand} {args : Array Operand} {tys : Array TypeId} (ho : o.op = .call { callee := .value fv, args, argTypes := tys }) (hgl : S.gl = X.gl) (hd : ∀ t, o.dst = some t → t < S.n)
 (h : putC S o.dst (callVal X cl S o args.toList (S.opd fv)) = some (e, S')) : OpD X.P S o e S' := by
 cases hcv : callVal X cl S o args.toList (S.opd fv) with
 | none => rw [hcv] at h; cases h
 | some res =>
  rw [hcv] at h
  obtain ⟨g, caps, hfv, hok, hcall⟩ := callVal_some hcv
  obtain ⟨out, es, ks⟩ := res
  cases out with
  | ret x =>
   simp only [putC, Option.some.injEq, Prod.mk.injEq] at h
   obtain ⟨rfl, rfl⟩ := h
   refine ⟨put_n .., put_gl .., .inl rfl, fun φ G a w hr next R hn _ => ?_⟩
   refine callOp_ok hcl ho hfv rfl hok hcall hgl hr (fun x' hx φ' w' v hr' hk' hv => ?_) (fun t x' hx => by cases hx)
   cases hx
   exact hn rfl φ' _ w' (hr'.put o.dst hd true x v (fun _ => hv)) (by rw [put_mem]; exact hk')
  | panic t x =>
   simp only [putC, Option.some.injEq, Prod.mk.injEq] at h
   obtain ⟨rfl, rfl⟩ := h
   refine ⟨rfl, rfl, .inr ⟨t, x, rfl⟩, fun φ G a w hr next R _ hp => ?_⟩
   refine callOp_ok hcl ho hfv rfl hok hcall hgl hr (fun x' hx => by cases hx) (fun t' x' hx φ' w' v hr' hk' hv => ?_)
   cases hx
   exact hp t x rfl φ' a w' v hr' hk' hv
theorem opD_panic {x : Operand} (ho : o.op = .panic x) (h : panicVal S (S.opd x) = some (e, S')) : OpD X.P S o e S' := by
 cases hx : S.opd x with
 | mk g y =>
  rw [hx] at h
  unfold panicVal at h
  split at h
  · rename_i t d heq
    cases heq
    simp only [Option.some.injEq, Prod.mk.injEq] at h
    obtain ⟨rfl, rfl⟩ := h
    refine ⟨rfl, rfl, .inr ⟨t, d, rfl⟩, fun φ G a w hr next R _ hp => ?_⟩
    have hv := hr.opd x (by rw [hx])
    rw [hx] at hv
    generalize hev : a.eval x = u at hv
    cases hv with
    | ifc _ _ v hd =>
     have hrun : (execOp a.eval o).run X.P w = .halt (.panic (.iface t v)) w := by
      simp [execOp, ho, hev, Instr.panic]
     unfold Oper.wp
     rw [hrun]
     exact hp t d rfl φ a w v hr (Keeps.refl ..) hd
  · cases h
theorem stepOp_ok (hcl : ClOk X cl) (hgl : S.gl = X.gl) (hd : ∀ t, o.dst = some t → t < S.n) (h : stepOp X cl S o (stepv X.P S o) = some (e, S')) : OpD X.P S o e S' := by
 generalize hs : stepv X.P S o = r at h
 cases r with
 | val c x =>
  simp only [stepOp] at h
  split at h
  · rename_i hok; cases h; exact opD_val hs hok hd
  · cases h
 | upd c x ent =>
  simp only [stepOp] at h
  split at h
  · rename_i hok; cases h; exact opD_upd hs hok hd
  · cases h
 | no =>
  simp only [stepOp, specOp] at h
  split at h
  · rename_i fv args tys ho; exact opD_call hcl ho hgl hd h
  · rename_i x ho; exact opD_panic ho h
  · cases h
def GopD (P : Program) (all : List Oper) (S : St) (o : Oper) (e : XE) (S' : St) : Prop :=
 S'.n = S.n ∧ S'.gl = S.gl ∧ (e = .normal ∨ ∃ t x, e = .panic t x) ∧ ∀ φ G a w, Rel φ G S a w → ∀ (next : Act → World → Prop) (R : Exit → Act → World → Prop),
  (e = .normal → ∀ φ' a' w', Rel φ' G S' a' w' → Keeps φ S.mem w φ' S'.mem w' → next a' w') →
  (∀ t x, e = .panic t x → ∀ φ' a' w' v, Rel φ' G S' a' w' → Keeps φ S.mem w φ' S'.mem w' → DRel w' (Fo G φ' S'.mem) x v → R (.panic [{ v := .iface t v, recovered := false }]) a' w') →
  if Region.wanted o (yielded all.toArray a.tmps) then o.wp P a w next R else next (a.put o.dst undef) w
theorem gop_yes {all : List Oper} (h : OpD X.P S o e S') (hw : ∀ φ G a w, Rel φ G S a w → Region.wanted o (yielded all.toArray a.tmps) = true) : GopD X.P all S o e S' := by
 obtain ⟨h1, h2, h3, h4⟩ := h
 refine ⟨h1, h2, h3, fun φ G a w hr next R hn hp => ?_⟩
 rw [if_pos (hw φ G a w hr)]
 exact h4 φ G a w hr next R hn hp
theorem undef_rel {φ : Phi} {w : World} {F : Nat → Prop} {x : AV} (hx : x = .junk ∨ x = .tup []) : AVRel φ w F x undef := by
 rcases hx with rfl | rfl
 · exact .junk _
 · exact .tup [] #[] rfl (fun i c v h => by simp at h)
theorem skip_yield {all : List Oper} {j : Nat} {φ G a w} (h : Rel φ G S a w) (hg : grd all S j = some (true, .tup [])) : yielded all.toArray a.tmps j = none := by
 unfold grd at hg
 split at hg
 · rename_i o ho
   split at hg
   · rename_i t ht
     have h1 := h.env t _ hg
     unfold yielded
     simp only [List.getElem?_toArray, ho, Option.bind_some, ht]
     rw [Array.getD_eq_getD_getElem?] at h1
     cases hq : a.tmps[t]? with
     | none => rfl
     | some v =>
      rw [hq] at h1
      simp only [Option.getD_some] at h1
      cases h1
      rfl
   · cases hg
 · cases hg
theorem gop_no {all : List Oper} {gb : Bool} {x : AV} (hx : gb = true → x = .junk ∨ x = .tup []) (hd : ∀ t, o.dst = some t → t < S.n) (hw : ∀ φ G a w, Rel φ G S a w → Region.wanted o (yielded all.toArray a.tmps) = false) : GopD X.P all S o .normal (S.put o.dst gb x) := by
 refine ⟨put_n .., put_gl .., .inl rfl, fun φ G a w hr next R hn _ => ?_⟩
 rw [if_neg (by rw [hw φ G a w hr]; simp)]
 exact hn rfl φ _ w (hr.put o.dst hd gb x undef (fun hg => undef_rel (hx hg))) (by rw [put_mem]; exact Keeps.refl ..)
theorem wanted_of {all : List Oper} {j : Nat} {want t : Bool} (hg : o.guard = some (j, want)) (hgr : grd all S j = some (true, .d (.bool t))) {φ G a w} (hr : Rel φ G S a w) : Region.wanted o (yielded all.toArray a.tmps) = (t == want) := by
 have hy := grd_yield hr hgr
 simp only [Region.wanted, hg, hy]
 cases t <;> cases want <;> rfl
theorem cz_n (S : St) (d b) : (S.cz d b).n = S.n := put_n ..
theorem cz_gl (S : St) (d b) : (S.cz d b).gl = S.gl := put_gl ..
theorem cz_mem (S : St) (d b) : (S.cz d b).mem = S.mem := put_mem ..
theorem cz_lk {all : List Oper} {S : St} {j : Nat} {t b : Bool} (hgr : grd all S j = some (true, .d (.bool t))) (hb : t = b) (u : Nat) : Env.lk (S.cz (dstAt all j) b).env u = Env.lk S.env u := by
 subst hb
 unfold grd at hgr
 unfold St.cz dstAt
 split at hgr
 · rename_i oj hj
   split at hgr
   · rename_i d hd
     simp only [hj, hd, St.put, Env.lk]
     split
     · rename_i hu; subst hu; exact hgr.symm
     · rfl
   · cases hgr
 · cases hgr
theorem cz_rel {all : List Oper} {S : St} {j : Nat} {t b : Bool} (hgr : grd all S j = some (true, .d (.bool t))) (hb : t = b) {φ G a w} (hr : Rel φ G S a w) : Rel φ G (S.cz (dstAt all j) b) a w :=
 Rel.eqv hr ⟨(cz_n ..).symm, (cz_gl ..).symm, (cz_mem ..).symm, fun u => (cz_lk hgr hb u).symm⟩
theorem gstep_ok {all : List Oper} (hcl : ClOk X cl) (hgl : S.gl = X.gl) (hd : ∀ t, o.dst = some t → t < S.n) {md : Bool} (h : gstep X cl md all S o = some (e, S')) : GopD X.P all S o e S' := by
 unfold gstep at h
 split at h
 · rename_i hg
   exact gop_yes (stepOp_ok hcl hgl hd h) (fun _ _ _ _ _ => by simp [Region.wanted, hg])
 · rename_i j want hg
   split at h
   · rename_i t hgr
     replace hgr := gval_tru hgr
     have hw : ∀ φ G a w, Rel φ G S a w → Region.wanted o (yielded all.toArray a.tmps) = (t == want) := fun φ G a w hr => wanted_of hg hgr hr
     have other : ∀ {r : Res}, stepv X.P S o = r → (if (t == want) = true then stepOp X cl S o r else some (.normal, S.put o.dst true .junk)) = some (e, S') → GopD X.P all S o e S' := by
      intro r hs h
      split at h
      · rename_i hb
        exact gop_yes (stepOp_ok hcl hgl hd (by rw [hs]; exact h)) (fun φ G a w hr => by rw [hw φ G a w hr]; exact hb)
      · rename_i hb
        cases h
        exact gop_no (fun _ => .inl rfl) hd (fun φ G a w hr => by rw [hw φ G a w hr]; simpa using hb)
     cases md with
     | true =>
      simp only at h
      have hcz : ∀ b, t = b → ∀ φ G a w, Rel φ G S a w → Rel φ G (S.cz (dstAt all j) b) a w := fun b hb φ G a w hr => cz_rel hgr hb hr
      split at h
      · rename_i hb
        have hb' : t = want := by simpa using hb
        have := stepOp_ok (S := S.cz (dstAt all j) want) hcl (by rw [cz_gl]; exact hgl) (fun t ht => by rw [cz_n]; exact hd t ht) h
        obtain ⟨h1, h2, h3, h4⟩ := this
        refine gop_yes ⟨by rw [h1, cz_n], by rw [h2, cz_gl], h3, fun φ G a w hr next R hn hp => ?_⟩ (fun φ G a w hr => by rw [hw φ G a w hr]; exact hb)
        have h5 := h4 φ G a w (hcz want hb' φ G a w hr) next R
        rw [cz_mem] at h5
        exact h5 hn hp
      · rename_i hb
        have hb' : t = !want := by cases t <;> cases want <;> simp_all
        cases h
        refine ⟨by rw [put_n, cz_n], by rw [put_gl, cz_gl], .inl rfl, fun φ G a w hr next R hn _ => ?_⟩
        rw [if_neg (by rw [hw φ G a w hr]; simpa using hb)]
        exact hn rfl φ _ w ((hcz _ hb' φ G a w hr).put o.dst (fun t ht => by rw [cz_n]; exact hd t ht) true (.tup []) undef (fun _ => undef_rel (.inr rfl))) (by rw [put_mem, cz_mem]; exact Keeps.refl ..)
     | false =>
     simp only at h
     unfold guardOp at h
     split at h
     · rename_i c x hs
       split at h
       · rename_i hc
         cases h
         cases hb : (t == want)
         · exact gop_no (by simp) hd (fun φ G a w hr => by rw [hw φ G a w hr]; exact hb)
         · exact gop_yes (opD_val hs (hc hb) hd) (fun φ G a w hr => by rw [hw φ G a w hr]; exact hb)
       · cases h
     · rename_i r hr
       exact other rfl h
   · rename_i hgr
     replace hgr := gval_skip hgr
     cases h
     exact gop_no (fun _ => .inr rfl) hd (fun φ G a w hr => by
      simp only [Region.wanted, hg, skip_yield hr hgr]
      cases want <;> rfl)
   · cases h
theorem andThen_some {r : Option (XE × St)} {k : St → Option (XE × St)} {y : XE × St} (h : andThen r k = some y) : (∃ S1, r = some (.normal, S1) ∧ k S1 = some y) ∨ (r = some y ∧ y.1 ≠ .normal) := by
 unfold andThen at h
 split at h
 · rename_i S1; exact .inl ⟨S1, rfl, h⟩
 · rename_i hr
   refine .inr ⟨h, fun he => ?_⟩
   obtain ⟨e, S1⟩ := y
   simp only at he
   subst he
   exact hr S1 h
theorem Keeps.post {n : Nat} {φ φ' : Phi} {G : Fr} {m : Mem} {w w' : World} {e : XE} {S' : St} {a' : Act} (hn : S'.n = n) (hr : Rel φ' G S' a' w') (hk : Keeps φ m w φ' S'.mem w') (he : e = .normal) : Post n φ G m w (Is e S') .normal a' w' :=
 ⟨φ', S', hn, ⟨he.symm, rfl⟩, hr, hk⟩
theorem runOps_ok {md : Bool} {all : List Oper} (hcl : ClOk X cl) : ∀ (ops : List Oper) (S : St) (e : XE) (S' : St), runOps X cl md all ops S = some (e, S') → S.gl = X.gl → dstsOk S.n ops = true →
 S'.n = S.n ∧ S'.gl = S.gl ∧ ∀ φ G a w, Rel φ G S a w → ∀ Q : Exit → Act → World → Prop, (∀ e' a' w', Post S.n φ G S.mem w (Is e S') e' a' w' → Q e' a' w') → wpList X.P all.toArray Q ops a w
 | [], S, e, S', h, hgl, hd => by
  simp only [runOps, Option.some.injEq, Prod.mk.injEq] at h
  obtain ⟨rfl, rfl⟩ := h
  exact ⟨rfl, rfl, fun φ G a w hr Q hQ => hQ _ _ _ (Keeps.post rfl hr (Keeps.refl ..) rfl)⟩
 | o :: rest, S, e, S', h, hgl, hd => by
  simp only [dstsOk, List.all_cons, Bool.and_eq_true] at hd
  obtain ⟨hd0, hd⟩ := hd
  have hdo : ∀ t, o.dst = some t → t < S.n := fun t ht => by rw [ht] at hd0; simpa using hd0
  simp only [runOps] at h
  rcases andThen_some h with ⟨S1, h1, h2⟩ | ⟨h1, h2⟩
  · obtain ⟨hn1, hg1, _, hop⟩ := gstep_ok hcl hgl hdo h1
    obtain ⟨hn2, hg2, hrest⟩ := runOps_ok hcl rest S1 e S' h2 (hg1.trans hgl) (by rw [hn1]; exact hd)
    refine ⟨hn2.trans hn1, hg2.trans hg1, fun φ G a w hr Q hQ => ?_⟩
    have := hop φ G a w hr (wpList X.P all.toArray Q rest) Q
     (fun _ φ' a' w' hr' hk' => hrest φ' G a' w' hr' Q (fun e' a2 w2 hp => hQ e' a2 w2 (by rw [← hn1]; exact hp.weaken hk'))) (fun t x he => by cases he)
    unfold wpList
    split
    · rename_i hw; rw [if_pos hw] at this; exact .inl this
    · rename_i hw; rw [if_neg hw] at this; exact this
  · obtain ⟨hn1, hg1, hee, hop⟩ := gstep_ok hcl hgl hdo h1
    refine ⟨hn1, hg1, fun φ G a w hr Q hQ => ?_⟩
    have := hop φ G a w hr (wpList X.P all.toArray Q rest) Q
     (fun he => absurd he h2) (fun t x he φ' a' w' v hr' hk' hv => hQ _ _ _ ⟨φ', S', t, x, v, rfl, hv, hn1, ⟨he.symm, rfl⟩, hr', hk'⟩)
    unfold wpList
    split
    · rename_i hw; rw [if_pos hw] at this; exact .inl this
    · rename_i hw; rw [if_neg hw] at this; exact this
theorem agree_opd {all : List Oper} {ks : List Nat} {S' S : St} (h : Agree all o ks S' S) {x : Operand} (hx : x ∈ o.op.operands.toList) : S'.opd x = S.opd x := by
 cases x with
 | tmp t =>
  simp only [St.opd]
  rw [h.env t (by simp only [looks, List.mem_append, List.mem_filterMap]; exact .inl ⟨.tmp t, hx, rfl⟩)]
 | global g => simp only [St.opd, h.gl]
 | _ => rfl
theorem agree_grd {all : List Oper} {ks : List Nat} {S' S : St} (h : Agree all o ks S' S) {j want} (hg : o.guard = some (j, want)) : Am.grd all S' j = Am.grd all S j := by
 unfold Am.grd
 split
 · rename_i oj hj
   split
   · rename_i t ht
     exact h.env t (by simp only [looks, List.mem_append, hg, lkDst, hj, ht]; exact .inr (by simp))
   · rfl
 · rfl
theorem okAll_loc {S' S : St} : ∀ {l : List Operand}, (∀ x ∈ l, S'.opd x = S.opd x) → okAll S' l = okAll S l
 | [], _ => rfl
 | x :: r, h => by simp only [okAll, h x (by simp), okAll_loc (l := r) (fun y hy => h y (List.mem_cons_of_mem _ hy))]
theorem argVals_loc {S' S : St} : ∀ {l : List Operand}, (∀ x ∈ l, S'.opd x = S.opd x) → argVals S' l = argVals S l
 | [], _ => rfl
 | x :: r, h => by simp only [argVals, h x (by simp), argVals_loc (l := r) (fun y hy => h y (List.mem_cons_of_mem _ hy))]
theorem opOk_loc {S' S : St} (h : ∀ x ∈ o.op.operands.toList, S'.opd x = S.opd x) : opOk S' o = opOk S o := by
 unfold opOk
 split
 · rfl
 · exact okAll_loc h
theorem stepL_val {all : List Oper} {c : Bool} {x : AV} {gb : Bool} (hd : ∀ t, o.dst = some t → t < S.n) (hs : stepv X.P S o = .val c x) (hok : (opOk S o && c) = true)
 (hw : ∀ S', Agree all o (touch S o) S' S → ∀ φ G a w, Rel φ G S' a w → Region.wanted o (yielded all.toArray a.tmps) = true) : StepL X.P all S o ⟨touch S o, [], gb, x⟩ := by
 intro S' ha φ G a w hr next R hn
 rw [if_pos (hw S' ha φ G a w hr)]
 have hx : ∀ x ∈ o.op.operands.toList, S'.opd x = S.opd x := fun x hx => agree_opd ha hx
 have hs' : stepv X.P S' o = .val c x := by rw [stepv_loc hx ha.mem]; exact hs
 obtain ⟨_, _, _, h4⟩ := opD_val (gb := gb) hs' (by rw [opOk_loc hx]; exact hok) (fun t ht => by rw [ha.n]; exact hd t ht)
 exact h4 φ G a w hr next R (fun _ φ' a' w' hr' hk' => hn φ' a' w' hr' hk') (fun t x he => by cases he)
theorem stepL_upd {all : List Oper} {c : Bool} {x : AV} {ent : Ent} (hd : ∀ t, o.dst = some t → t < S.n) (hs : stepv X.P S o = .upd c x ent) (hok : (opOk S o && c) = true)
 (hw : ∀ S', Agree all o (touch S o) S' S → ∀ φ G a w, Rel φ G S' a w → Region.wanted o (yielded all.toArray a.tmps) = true) : StepL X.P all S o ⟨touch S o, [ent], true, x⟩ := by
 intro S' ha φ G a w hr next R hn
 rw [if_pos (hw S' ha φ G a w hr)]
 have hx : ∀ x ∈ o.op.operands.toList, S'.opd x = S.opd x := fun x hx => agree_opd ha hx
 have hs' : stepv X.P S' o = .upd c x ent := by rw [stepv_loc hx ha.mem]; exact hs
 obtain ⟨_, _, _, h4⟩ := opD_upd hs' (by rw [opOk_loc hx]; exact hok) (fun t ht => by rw [ha.n]; exact hd t ht)
 exact h4 φ G a w hr next R (fun _ φ' a' w' hr' hk' => hn φ' a' w' hr' hk') (fun t x he => by cases he)
theorem stepL_skip {all : List Oper} {ks : List Nat} {gb : Bool} {x : AV} (hd : ∀ t, o.dst = some t → t < S.n) (hx : gb = true → x = .junk ∨ x = .tup [])
 (hw : ∀ S', Agree all o ks S' S → ∀ φ G a w, Rel φ G S' a w → Region.wanted o (yielded all.toArray a.tmps) = false) : StepL X.P all S o ⟨ks, [], gb, x⟩ := by
 intro S' ha φ G a w hr next R hn
 rw [if_neg (by rw [hw S' ha φ G a w hr]; simp)]
 exact hn φ _ w (hr.put o.dst (fun t ht => by rw [ha.n]; exact hd t ht) gb x undef (fun hg => undef_rel (hx hg))) (by simp only [Stp.app, put_mem]; exact Keeps.refl ..)
theorem stepL_call {all : List Oper} (hcl : ClOk X cl) (hgl : S.gl = X.gl) (hd : ∀ t, o.dst = some t → t < S.n) {fv : Operand} {args : Array Operand} {tys : Array TypeId} (ho : o.op = .call { callee := .value fv, args, argTypes := tys })
 {x : AV} {es : List Ent} {ks : List Nat} (h : callVal X cl S o args.toList (S.opd fv) = some ⟨.ret x, es, ks⟩)
 (hw : ∀ S', Agree all o ks S' S → ∀ φ G a w, Rel φ G S' a w → Region.wanted o (yielded all.toArray a.tmps) = true) : StepL X.P all S o ⟨ks, es, true, x⟩ := by
 intro S' ha φ G a w hr next R hn
 rw [if_pos (hw S' ha φ G a w hr)]
 have hx : ∀ x ∈ o.op.operands.toList, S'.opd x = S.opd x := fun x hx => agree_opd ha hx
 have hxa : ∀ x ∈ args.toList, S'.opd x = S.opd x := fun x hxm => hx x (by simp [ho, Op.operands, Call.operands]; exact .inr (by simpa using hxm))
 obtain ⟨g, caps, hfv, hok, hcall⟩ := callVal_some h
 have hfv' : S'.opd fv = (true, .fn g caps) := by rw [hx fv (by simp [ho, Op.operands, Call.operands])]; exact hfv
 have hcall' : callOp cl S'.mem (keyOf o) (fnId g) (fnArgs g (argVals S' args.toList) caps) (X.fp (fnId g)).mut_ = some ⟨.ret x, es, ks⟩ := by
  rw [argVals_loc hxa]
  exact callOp_loc ha.keys hcall (fun k hk => ha.mem k hk)
 refine callOp_ok hcl ho hfv' rfl (by rw [okAll_loc hxa]; exact hok) hcall' (ha.gl.trans hgl) hr (fun x' hx' φ' w' v hr' hk' hv => ?_) (fun t x' hx' => by cases hx')
 cases hx'
 exact hn φ' _ w' (hr'.put o.dst (fun t ht => by show t < S'.n; rw [ha.n]; exact hd t ht) true x v (fun _ => hv)) (by simp only [Stp.app, put_mem]; exact hk')
theorem dstep_ok {all : List Oper} {S1 : St} {p : Stp} (hcl : ClOk X cl) (hgl : S.gl = X.gl) (hd : ∀ t, o.dst = some t → t < S.n) {r : Res} (hs : stepv X.P S o = r) (h : dstep X cl S o r = some (S1, p))
 (hw : ∀ (ks : List Nat) S', Agree all o ks S' S → ∀ φ G a w, Rel φ G S' a w → Region.wanted o (yielded all.toArray a.tmps) = true) : S1 = p.app o S ∧ (∀ e ∈ p.es, e.key ∈ p.ks) ∧ StepL X.P all S o p := by
 cases r with
 | val c x =>
  simp only [dstep] at h
  split at h
  · rename_i hok; cases h; exact ⟨rfl, by simp, stepL_val hd hs hok (hw _)⟩
  · cases h
 | upd c x ent =>
  simp only [dstep] at h
  split at h
  · rename_i hok
    cases h
    simp only [Bool.and_eq_true, List.contains_eq_mem, decide_eq_true_eq] at hok
    exact ⟨rfl, by simpa using hok.2, stepL_upd hd hs (by simpa using hok.1) (hw _)⟩
  · cases h
 | no =>
  simp only [dstep, dspec] at h
  split at h
  · rename_i fv args tys ho
    cases hcv : callVal X cl S o args.toList (S.opd fv) with
    | none => rw [hcv] at h; cases h
    | some res =>
     rw [hcv] at h
     obtain ⟨out, es, ks⟩ := res
     cases out with
     | panic => cases h
     | ret x =>
      cases h
      refine ⟨rfl, ?_, stepL_call hcl hgl hd ho hcv (hw _)⟩
      obtain ⟨g, caps, hfv, hok, hcall⟩ := callVal_some hcv
      unfold callOp callOp2 callOp3 callBack at hcall
      split at hcall
      · rename_i out l2 _
        split at hcall
        · rename_i hc
          simp only [Bool.and_eq_true, decide_eq_true_eq] at hc
          simp only [Option.some.injEq, CRes.mk.injEq] at hcall
          obtain ⟨_, rfl, rfl⟩ := hcall
          intro e he
          obtain ⟨j, v, c, hj, rfl⟩ := backL_mem.1 he
          have hjl := (List.getElem?_eq_some_iff.1 hj).1
          simp only [Nat.zero_add]
          generalize collect S.mem 64 (argKeys (X.fp (fnId g)).mut_ 0 (fnArgs g (argVals S args.toList) caps)) [] = ρ at hc hjl ⊢
          have hlt : j < (ρ ++ List.range' (keyOf o + 1) (l2.length - ρ.length)).length := by simp; omega
          have hm := List.getElem_mem hlt
          have e2 : (ρ ++ List.range' (keyOf o + 1) (l2.length - ρ.length)).getD j 0 = (ρ ++ List.range' (keyOf o + 1) (l2.length - ρ.length))[j] := by
           rw [List.getD_eq_getElem?_getD, List.getElem?_eq_getElem hlt]; rfl
          rw [e2]
          rcases List.mem_append.1 hm with h1 | h1
          · exact List.mem_append_left _ (List.mem_append_left _ h1)
          · exact List.mem_append_right _ h1
        · cases hcall
      · cases hcall
  · cases h
theorem Eqv.refl (S : St) : Eqv S S := ⟨rfl, rfl, rfl, fun _ => rfl⟩
theorem Eqv.symm {S S' : St} (h : Eqv S S') : Eqv S' S := ⟨h.n.symm, h.gl.symm, h.mem.symm, fun t => (h.env t).symm⟩
theorem Eqv.trans {S S' S'' : St} (h : Eqv S S') (k : Eqv S' S'') : Eqv S S'' := ⟨h.n.trans k.n, h.gl.trans k.gl, h.mem.trans k.mem, fun t => (h.env t).trans (k.env t)⟩
theorem Eqv.app {S S' : St} (h : Eqv S S') (p : Stp) (o : Oper) : Eqv (p.app o S) (p.app o S') :=
 ⟨by rw [app_n, app_n, h.n], by rw [app_gl, app_gl, h.gl], by simp only [Stp.app, put_mem, h.mem], fun t => by rw [app_lk, app_lk, h.env]⟩
theorem Agree.eqv {all : List Oper} {ks : List Nat} {S' S S0 : St} (h : Agree all o ks S' S) (he : Eqv S S0) : Agree all o ks S' S0 :=
 ⟨h.n.trans he.n, h.gl.trans he.gl, by rw [h.keys, he.mem], fun t ht => (h.env t ht).trans (he.env t), fun k hk => by rw [h.mem k hk, he.mem]⟩
theorem StepL.eqv {P : Program} {all : List Oper} {S S0 : St} {p : Stp} (h : StepL P all S o p) (he : Eqv S S0) : StepL P all S0 o p := fun S' ha => h S' (ha.eqv he.symm)
theorem StepI.eqv {P : Program} {I : Mem → Prop} {all : List Oper} {S S0 : St} {p : Stp} (h : StepI P I all S o p) (he : Eqv S S0) : StepI P I all S0 o p := fun S' ha => h S' (ha.eqv he.symm)
theorem cert_eqv {P : Program} {I : Mem → Prop} {all ops : List Oper} {S S1 : St} {ps : List Stp} (h : Cert P I all ops S ps S1) : ∀ {S0 : St}, Eqv S S0 → ∃ S2, Cert P I all ops S0 ps S2 ∧ Eqv S1 S2 := by
 induction h with
 | nil S => exact fun he => ⟨_, .nil _, he⟩
 | cons o rest S p ps S1 hk hI h hr ih =>
  intro S0 he
  obtain ⟨S2, h2, h3⟩ := ih (he.app p o)
  exact ⟨S2, .cons o rest S0 p ps S2 hk hI (h.eqv he) h2, h3⟩
theorem cz_eqv {all : List Oper} {S : St} {j : Nat} {t b : Bool} (hgr : grd all S j = some (true, .d (.bool t))) (hb : t = b) : Eqv (S.cz (dstAt all j) b) S :=
 ⟨cz_n .., cz_gl .., cz_mem .., fun u => cz_lk hgr hb u⟩
theorem dgstep_ok {md : Bool} {all : List Oper} {S1 : St} {p : Stp} (hcl : ClOk X cl) (hgl : S.gl = X.gl) (hd : ∀ t, o.dst = some t → t < S.n) (h : dgstep X cl md all S o = some (S1, p)) : Eqv S1 (p.app o S) ∧ (∀ e ∈ p.es, e.key ∈ p.ks) ∧ StepL X.P all S o p := by
 have yes : ∀ {r : Res}, stepv X.P S o = r → dstep X cl S o r = some (S1, p) → (∀ (ks : List Nat) S', Agree all o ks S' S → ∀ φ G a w, Rel φ G S' a w → Region.wanted o (yielded all.toArray a.tmps) = true) → Eqv S1 (p.app o S) ∧ (∀ e ∈ p.es, e.key ∈ p.ks) ∧ StepL X.P all S o p := by
  intro r hs h hw
  obtain ⟨h1, h2, h3⟩ := dstep_ok hcl hgl hd hs h hw
  exact ⟨by rw [h1]; exact Eqv.refl _, h2, h3⟩
 unfold dgstep at h
 split at h
 · rename_i hg
   exact yes rfl h (fun _ _ _ _ _ _ _ _ => by simp [Region.wanted, hg])
 · rename_i j want hg
   split at h
   · rename_i t hgr
     replace hgr := gval_tru hgr
     have hw : ∀ (ks : List Nat) S', Agree all o ks S' S → ∀ φ G a w, Rel φ G S' a w → Region.wanted o (yielded all.toArray a.tmps) = (t == want) :=
      fun ks S' ha φ G a w hr => wanted_of hg (by rw [agree_grd ha hg]; exact hgr) hr
     have other : ∀ {r : Res}, stepv X.P S o = r → (if (t == want) = true then dstep X cl S o r else some (S.put o.dst true .junk, ⟨[], [], true, .junk⟩)) = some (S1, p) → Eqv S1 (p.app o S) ∧ (∀ e ∈ p.es, e.key ∈ p.ks) ∧ StepL X.P all S o p := by
      intro r hs h
      split at h
      · rename_i hb
        exact yes hs h (fun ks S' ha φ G a w hr => by rw [hw ks S' ha φ G a w hr]; exact hb)
      · rename_i hb
        cases h
        exact ⟨Eqv.refl _, by simp, stepL_skip hd (fun _ => .inl rfl) (fun S' ha φ G a w hr => by rw [hw _ S' ha φ G a w hr]; simpa using hb)⟩
     cases md with
     | true =>
      simp only at h
      split at h
      · rename_i hb
        have hb' : t = want := by simpa using hb
        have he := cz_eqv hgr hb'
        obtain ⟨h1, h2, h3⟩ := dstep_ok (S := S.cz (dstAt all j) want) hcl (by rw [cz_gl]; exact hgl) (fun t ht => by rw [cz_n]; exact hd t ht) rfl h
         (fun ks S' ha φ G a w hr => by rw [hw ks S' (ha.eqv he) φ G a w hr]; exact hb)
        exact ⟨by rw [h1]; exact he.app p o, h2, h3.eqv he⟩
      · rename_i hb
        have hb' : t = !want := by cases t <;> cases want <;> simp_all
        cases h
        have he := cz_eqv hgr hb'
        exact ⟨he.app ⟨[], [], true, .tup []⟩ o, by simp, stepL_skip hd (fun _ => .inr rfl) (fun S' ha φ G a w hr => by rw [hw _ S' ha φ G a w hr]; simpa using hb)⟩
     | false =>
     simp only at h
     unfold dguard at h
     split at h
     · rename_i c x hs
       split at h
       · rename_i hc
         cases h
         refine ⟨Eqv.refl _, by simp, ?_⟩
         cases hb : (t == want)
         · exact stepL_skip hd (by simp) (fun S' ha φ G a w hr => by rw [hw _ S' ha φ G a w hr]; exact hb)
         · exact stepL_val hd hs (hc hb) (fun S' ha φ G a w hr => by rw [hw _ S' ha φ G a w hr]; exact hb)
       · cases h
     · exact other rfl h
   · rename_i hgr
     replace hgr := gval_skip hgr
     cases h
     exact ⟨Eqv.refl _, by simp, stepL_skip hd (fun _ => .inr rfl) (fun S' ha φ G a w hr => by
      have := skip_yield hr (by rw [agree_grd ha hg]; exact hgr)
      simp only [Region.wanted, hg, this]
      cases want <;> rfl)⟩
   · cases h
inductive CertG (T : Nat → St → Oper → Stp → Prop) : Nat → List Oper → St → List Stp → Prop
 | nil (i S) : CertG T i [] S []
 | cons (i o rest S p ps) (h : T i S o p) (hr : CertG T (i + 1) rest (p.app o S) ps) : CertG T i (o :: rest) S (p :: ps)
theorem CertG.eqv {T : Nat → St → Oper → Stp → Prop} (hT : ∀ i S S0 o p, Eqv S S0 → T i S o p → T i S0 o p) {i : Nat} {ops : List Oper} {S : St} {ps : List Stp} (h : CertG T i ops S ps) : ∀ {S0 : St}, Eqv S S0 → CertG T i ops S0 ps := by
 induction h with
 | nil i S => exact fun _ => .nil _ _
 | cons i o rest S p ps h hr ih => exact fun he => .cons _ _ _ _ _ _ (hT _ _ _ _ _ he h) (ih (he.app p o))
theorem CertG.mono {T T' : Nat → St → Oper → Stp → Prop} {i : Nat} {ops : List Oper} {S : St} {ps : List Stp} (h : CertG T i ops S ps) : (∀ k S o p, i ≤ k → T k S o p → T' k S o p) → CertG T' i ops S ps := by
 induction h with
 | nil i S => exact fun _ => .nil _ _
 | cons i o rest S p ps h hr ih => exact fun hk => .cons _ _ _ _ _ _ (hk _ _ _ _ (Nat.le_refl _) h) (ih fun k S o p hi => hk k S o p (by omega))
theorem CertG.len {T : Nat → St → Oper → Stp → Prop} {i : Nat} {ops : List Oper} {S : St} {ps : List Stp} (h : CertG T i ops S ps) : ps.length = ops.length := by
 induction h with
 | nil i S => rfl
 | cons i o rest S p ps h hr ih => simp [ih]
theorem CertG.at {T : Nat → St → Oper → Stp → Prop} {all : List Oper} {ps : List Stp} {i : Nat} {rest : List Oper} {S0 S : St} {qs : List Stp} (h : CertG T i rest S qs) : ∀ (pre : List Oper) (pp : List Stp), pre.length = i → pre.length = pp.length → all = pre ++ rest → ps = pp ++ qs → runAll all ps S0 (List.range pre.length) = S →
 ∀ j o p, pre.length ≤ j → all[j]? = some o → ps[j]? = some p → T j (runAll all ps S0 (List.range j)) o p := by
 induction h with
 | nil i S =>
  intro pre pp hi hl ha hps hS j o p hj ho
  simp only [List.append_nil] at ha
  subst ha
  rw [List.getElem?_eq_none (by omega)] at ho
  cases ho
 | cons i o rest S p qs hT hr ih =>
  intro pre pp hi hl ha hps hS j o' p' hj ho' hp'
  have e1 : all[pre.length]? = some o := by rw [ha]; simp
  have e2 : ps[pre.length]? = some p := by rw [hps, hl]; simp
  rcases Nat.eq_or_lt_of_le hj with rfl | hj
  · rw [e1] at ho'; rw [e2] at hp'
    cases ho'; cases hp'
    rw [hS, hi]; exact hT
  · exact ih (pre ++ [o]) (pp ++ [p]) (by simp [hi]) (by simp [hl]) (by rw [ha]; simp) (by rw [hps]; simp) (by
     rw [List.length_append, List.length_singleton, List.range_succ, runAll_append, hS]
     simp [runAll, e1, e2]) j o' p' (by simp; omega) ho' hp'
theorem StepQ.eqv {P : Program} {all : List Oper} {S S0 : St} {p : Stp} {t : TypeId} {x : D} (h : StepQ P all S o p t x) (he : Eqv S S0) : StepQ P all S0 o p t x := fun S' ha => h S' (ha.eqv he.symm)
def TT (P : Program) (all : List Oper) (j : Nat) (js : List Nat) (t : TypeId) (x : D) (N : Nat) (S1 : St) (i : Nat) (S : St) (o : Oper) (p : Stp) : Prop :=
 (∀ e ∈ p.es, e.key ∈ p.ks) ∧ (i ≠ j → (i < j ∨ js.contains i = true) → StepL P all S o p) ∧ (i = j → StepQ P all S o p t x ∧ S1.n = S.n ∧ S1.gl = S.gl ∧ S1.mem = killM N (putAll S.mem p.es))
theorem TT.eqv {P : Program} {all : List Oper} {j : Nat} {js : List Nat} {t : TypeId} {x : D} {N : Nat} {S1 : St} (i : Nat) (S S0 : St) (o : Oper) (p : Stp) (he : Eqv S S0) (h : TT P all j js t x N S1 i S o p) : TT P all j js t x N S1 i S0 o p :=
 ⟨h.1, fun a b => (h.2.1 a b).eqv he, fun a => ⟨(h.2.2 a).1.eqv he, (h.2.2 a).2.1.trans he.n, (h.2.2 a).2.2.1.trans he.gl, by rw [← he.mem]; exact (h.2.2 a).2.2.2⟩⟩
theorem cl0_ok {X : Ctx} : ClOk X (fun _ _ _ => none) := fun g args cs out l h => by cases h
theorem pOps_cert {md : Bool} {all : List Oper} {js : List Nat} : ∀ (ops : List Oper) (i : Nat) (S : St) (acc qs : List Stp), pOps X md all js i ops S acc = some qs → S.gl = X.gl → dstsOk S.n ops = true →
 ∃ ps, qs = acc.reverse ++ ps ∧ CertG (fun i S o p => (∀ e ∈ p.es, e.key ∈ p.ks) ∧ (js.contains i = true → StepL X.P all S o p)) i ops S ps
 | [], i, S, acc, qs, h, hgl, hd => by
  simp only [pOps, Option.some.injEq] at h
  exact ⟨[], by simp [h], .nil _ _⟩
 | o :: rest, i, S, acc, qs, h, hgl, hd => by
  simp only [dstsOk, List.all_cons, Bool.and_eq_true] at hd
  obtain ⟨hd0, hd⟩ := hd
  have hdo : ∀ t, o.dst = some t → t < S.n := fun t ht => by rw [ht] at hd0; simpa using hd0
  simp only [pOps] at h
  cases hj : js.contains i with
  | true =>
   rw [hj] at h
   simp only at h
   cases hg : dgstep X (fun _ _ _ => none) md all S o with
   | none => rw [hg] at h; cases h
   | some q =>
    obtain ⟨S2, p⟩ := q
    rw [hg] at h
    simp only at h
    obtain ⟨heq, hks, hst⟩ := dgstep_ok cl0_ok hgl hdo hg
    obtain ⟨ps, h1, h2⟩ := pOps_cert rest (i + 1) S2 (p :: acc) qs h (by rw [heq.gl, app_gl]; exact hgl) (by rw [heq.n, app_n]; exact hd)
    exact ⟨p :: ps, by rw [h1]; simp, .cons _ _ _ _ _ _ ⟨hks, fun _ => hst⟩ (h2.eqv (fun _ _ _ _ _ he h => ⟨h.1, fun a => (h.2 a).eqv he⟩) heq)⟩
  | false =>
   rw [hj] at h
   simp only at h
   obtain ⟨ps, h1, h2⟩ := pOps_cert rest (i + 1) (S.put o.dst false .junk) _ qs h (by rw [put_gl]; exact hgl) (by rw [put_n]; exact hd)
   exact ⟨⟨[], [], false, .junk⟩ :: ps, by rw [h1]; simp, .cons _ _ _ _ _ _ ⟨by simp, fun hh => by rw [hj] at hh; cases hh⟩ h2⟩
theorem panO_some {q : Pan} (h : panO X cl S o = some q) : o.guard = none ∧ stepv X.P S o = .no ∧ ∃ fv args tys, o.op = .call { callee := .value fv, args, argTypes := tys } ∧ callVal X cl S o args.toList (S.opd fv) = some ⟨.panic q.t q.x, q.es, q.ks⟩ ∧ q.S = { S with mem := putAll S.mem q.es } := by
 unfold panO at h
 split at h
 · rename_i hg
   unfold panR at h
   split at h
   · rename_i hs
     refine ⟨hg, hs, ?_⟩
     unfold panS at h
     split at h
     · rename_i fv args tys ho
       unfold panC at h
       split at h
       · rename_i t x es ks hc
         cases h
         exact ⟨fv, args, tys, ho, hc, rfl⟩
       · cases h
     · cases h
   · cases h
 · cases h
theorem callVal_keys {args : List Operand} {fv : Bool × AV} {out : Out} {es : List Ent} {ks : List Nat} (hcv : callVal X cl S o args fv = some ⟨out, es, ks⟩) : ∀ e ∈ es, e.key ∈ ks := by
 obtain ⟨g, caps, hfv, hok, hcall⟩ := callVal_some hcv
 unfold callOp callOp2 callOp3 callBack at hcall
 split at hcall
 · rename_i out l2 _
   split at hcall
   · rename_i hc
     simp only [Bool.and_eq_true, decide_eq_true_eq] at hc
     simp only [Option.some.injEq, CRes.mk.injEq] at hcall
     obtain ⟨_, rfl, rfl⟩ := hcall
     intro e he
     obtain ⟨j, v, c, hj, rfl⟩ := backL_mem.1 he
     have hjl := (List.getElem?_eq_some_iff.1 hj).1
     simp only [Nat.zero_add]
     generalize collect S.mem 64 (argKeys (X.fp (fnId g)).mut_ 0 (fnArgs g (argVals S args) caps)) [] = ρ at hc hjl ⊢
     have hlt : j < (ρ ++ List.range' (keyOf o + 1) (l2.length - ρ.length)).length := by simp; omega
     have hm := List.getElem_mem hlt
     have e2 : (ρ ++ List.range' (keyOf o + 1) (l2.length - ρ.length)).getD j 0 = (ρ ++ List.range' (keyOf o + 1) (l2.length - ρ.length))[j] := by
      rw [List.getD_eq_getElem?_getD, List.getElem?_eq_getElem hlt]; rfl
     rw [e2]
     rcases List.mem_append.1 hm with h1 | h1
     · exact List.mem_append_left _ (List.mem_append_left _ h1)
     · exact List.mem_append_right _ h1
   · cases hcall
 · cases hcall
theorem stepQ_call {all : List Oper} (hcl : ClOk X cl) (hgl : S.gl = X.gl) {fv : Operand} {args : Array Operand} {tys : Array TypeId} (hg : o.guard = none) (ho : o.op = .call { callee := .value fv, args, argTypes := tys })
 {t : TypeId} {x : D} {es : List Ent} {ks : List Nat} (h : callVal X cl S o args.toList (S.opd fv) = some ⟨.panic t x, es, ks⟩) : StepQ X.P all S o ⟨ks, es, true, .junk⟩ t x := by
 intro S' ha φ G a w hr next R hn
 rw [if_pos (by simp [Region.wanted, hg])]
 have hx : ∀ x ∈ o.op.operands.toList, S'.opd x = S.opd x := fun x hx => agree_opd ha hx
 have hxa : ∀ x ∈ args.toList, S'.opd x = S.opd x := fun x hxm => hx x (by simp [ho, Op.operands, Call.operands]; exact .inr (by simpa using hxm))
 obtain ⟨g, caps, hfv, hok, hcall⟩ := callVal_some h
 have hfv' : S'.opd fv = (true, .fn g caps) := by rw [hx fv (by simp [ho, Op.operands, Call.operands])]; exact hfv
 have hcall' : callOp cl S'.mem (keyOf o) (fnId g) (fnArgs g (argVals S' args.toList) caps) (X.fp (fnId g)).mut_ = some ⟨.panic t x, es, ks⟩ := by
  rw [argVals_loc hxa]
  exact callOp_loc ha.keys hcall (fun k hk => ha.mem k hk)
 refine callOp_ok hcl ho hfv' rfl (by rw [okAll_loc hxa]; exact hok) hcall' (ha.gl.trans hgl) hr (fun x' hx' => by cases hx') (fun t' x' hx' φ' w' v hr' hk' hv => ?_)
 cases hx'
 exact hn φ' a w' v hr' hk' hv
theorem drwOps_cert {md : Bool} {nd : Nat × List (List Nat)} {all : List Oper} (hcl : ClOk X cl) : ∀ (ops : List Oper) (S : St) (acc : List Stp) (e : XE) (S1 : St), drwOps X cl md nd all ops S acc = some (e, S1) → S.gl = X.gl → dstsOk S.n ops = true →
 (e = .normal ∧ ∃ ps S2, Cert X.P (fun _ => True) all ops S ps S2 ∧ Eqv S1 S2 ∧ ordD nd.2 (acc.reverse ++ ps) = true) ∨
 (∃ t x j ps, e = .panic t x ∧ acc.length ≤ j ∧ j < acc.length + ops.length ∧ CertG (TT X.P all j (nd.2.getD j []) t x (nd.1 + verSums (acc.reverse ++ ps) + 1) S1) acc.length ops S ps ∧ ordD nd.2 (acc.reverse ++ ps) = true ∧ farJ (acc.reverse ++ ps) (nd.2.getD j []) = true ∧ S1.env = [])
 | [], S, acc, e, S1, h, hgl, hd => by
  simp only [drwOps] at h
  split at h
  · rename_i hord
    cases h
    exact .inl ⟨rfl, [], S, .nil S, Eqv.refl _, by simpa using hord⟩
  · cases h
 | o :: rest, S, acc, e, S1, h, hgl, hd => by
  have hd' := hd
  simp only [dstsOk, List.all_cons, Bool.and_eq_true] at hd
  obtain ⟨hd0, hd⟩ := hd
  have hdo : ∀ t, o.dst = some t → t < S.n := fun t ht => by rw [ht] at hd0; simpa using hd0
  simp only [drwOps] at h
  cases hp : panO X cl S o with
  | some q =>
   right
   rw [hp] at h
   simp only [drwO, panE] at h
   obtain ⟨hg, hs, fv, args, tys, ho, hc, hqS⟩ := panO_some hp
   obtain ⟨qS, t, x, es, ks⟩ := q
   simp only at hc hqS h
   subst hqS
   cases hpo : pOps X md all (nd.2.getD acc.length []) (acc.length + 1) rest (({ S with mem := putAll S.mem es } : St).put o.dst true .junk) (⟨ks, es, true, .junk⟩ :: acc) with
   | none => rw [hpo] at h; cases h
   | some qs =>
    rw [hpo] at h
    simp only [pEnd] at h
    split at h
    · rename_i hof
      simp only [Bool.and_eq_true] at hof
      obtain ⟨rfl, rfl⟩ : XE.panic t x = e ∧ St.kill { S with mem := putAll S.mem es } (nd.1 + verSums qs + 1) = S1 := by simpa using h
      obtain ⟨ps, rfl, hcert⟩ := pOps_cert rest (acc.length + 1) _ _ _ hpo (by rw [put_gl]; exact hgl) (by rw [put_n]; exact hd)
      have e1 : (⟨ks, es, true, .junk⟩ :: acc : List Stp).reverse ++ ps = acc.reverse ++ (⟨ks, es, true, .junk⟩ :: ps) := by simp
      rw [e1] at hof ⊢
      refine ⟨t, x, acc.length, ⟨ks, es, true, .junk⟩ :: ps, rfl, Nat.le_refl _, by simp, .cons _ _ _ _ _ _ ⟨callVal_keys hc, fun hh => absurd rfl hh, fun _ => ⟨stepQ_call hcl hgl hg ho hc, rfl, rfl, rfl⟩⟩ (hcert.mono fun k S o p hk hT => ?_), hof.1, hof.2, rfl⟩
      exact ⟨hT.1, fun _ hh => hT.2 (hh.resolve_left (by omega)), fun hh => by omega⟩
    · cases h
  | none =>
   rw [hp] at h
   simp only [drwO] at h
   cases hg : dgstep X cl md all S o with
   | none => rw [hg] at h; cases h
   | some q =>
    obtain ⟨S2, p⟩ := q
    rw [hg] at h
    simp only [dThen] at h
    obtain ⟨heq, hks, hst⟩ := dgstep_ok hcl hgl hdo hg
    rcases drwOps_cert hcl rest S2 (p :: acc) e S1 h (by rw [heq.gl, app_gl]; exact hgl) (by rw [heq.n, app_n]; exact hd) with ⟨he, ps, S3, hc, he3, hord⟩ | ⟨t, x, j, ps, he, hj1, hj2, hc, hord, hfar, henv⟩
    · left
      obtain ⟨S4, hc4, he4⟩ := cert_eqv hc heq
      exact ⟨he, p :: ps, S4, .cons o rest S p ps S4 hks (fun _ _ => trivial) hst.toI hc4, he3.trans he4, by simpa using hord⟩
    · right
      have e1 : (p :: acc).reverse ++ ps = acc.reverse ++ (p :: ps) := by simp
      rw [e1] at hord hfar hc
      simp only [List.length_cons] at hj1 hj2 hc
      exact ⟨t, x, j, p :: ps, he, by omega, by simp; omega, .cons _ _ _ _ _ _ ⟨hks, fun _ _ => hst, fun hh => by omega⟩ (hc.eqv TT.eqv heq), hord, hfar, henv⟩
def cellOf : Bool → Cont → Nat → Option AV
 | false, .box cs, j => cs[j]?
 | true, .vv rows (some x), j => if rows.length = j then some x else none
 | _, _, _ => none
def InvM (LI : List Cl) (m : Mem) : Prop := ∀ q ∈ LI, ∃ c, Mem.get m q.k = some ⟨q.k, q.v, c⟩ ∧ cellOf q.vv c q.j = some q.x
theorem cellOf_box {c : Cont} {j : Nat} {x : AV} (h : cellOf false c j = some x) : ∃ cs, c = .box cs ∧ cs[j]? = some x := by
 cases c with
 | box cs => exact ⟨cs, rfl, h⟩
 | dead => cases h
 | vec _ _ => cases h
 | vv _ _ => cases h
theorem cellOf_vv {c : Cont} {j : Nat} {x : AV} (h : cellOf true c j = some x) : ∃ rows, c = .vv rows (some x) ∧ rows.length = j := by
 cases c with
 | box cs => cases h
 | dead => cases h
 | vec _ _ => cases h
 | vv rows y =>
  cases y with
  | none => cases h
  | some y =>
   simp only [cellOf] at h
   split at h
   · rename_i hj; cases h; exact ⟨rows, rfl, hj⟩
   · cases h
theorem eqA_eq : ∀ {x y : AV}, eqA x y = true → x = y := by
 intro x y h
 unfold eqA at h
 split at h
 · simp only [Bool.and_eq_true, decide_eq_true_eq] at h
   obtain ⟨⟨⟨rfl, rfl⟩, rfl⟩, rfl⟩ := h; rfl
 · simp only [Bool.and_eq_true, decide_eq_true_eq] at h
   obtain ⟨⟨rfl, rfl⟩, rfl⟩ := h; rfl
 · simp only [Bool.and_eq_true, decide_eq_true_eq] at h
   obtain ⟨rfl, rfl⟩ := h; rfl
 · simp only [decide_eq_true_eq] at h
   subst h; rfl
 · cases h
theorem ents_inv {m : Mem} : ∀ {fl : List (Nat × Nat)} {LI : List Cl}, ents m fl = some LI → InvM LI m
 | [], LI, h => by simp [ents] at h; subst h; exact fun q hq => by simp at hq
 | (k, j) :: r, LI, h => by
  unfold ents at h
  split at h
  · rename_i key v cs l hg hl
    split at h
    · rename_i x hx
      cases h
      have hk : key = k := (Mem.get_mem hg).2
      subst hk
      intro q hq
      rcases List.mem_cons.1 hq with rfl | hq
      · exact ⟨.box cs, hg, hx⟩
      · exact ents_inv hl q hq
    · cases h
  · rename_i key v rows x l hg hl
    cases h
    have hk : key = k := (Mem.get_mem hg).2
    subst hk
    intro q hq
    rcases List.mem_cons.1 hq with rfl | hq
    · exact ⟨.vv rows (some x), hg, by simp [cellOf]⟩
    · exact ents_inv hl q hq
  · cases h
theorem clE_some {q : Cl} {v : Nat} {c : Cont} (h : clE q v c = true) : v = q.v ∧ cellOf q.vv c q.j = some q.x := by
 unfold clE at h
 split at h
 · rename_i cs
   simp only [Bool.and_eq_true, decide_eq_true_eq, Bool.not_eq_true'] at h
   obtain ⟨⟨h1, h2⟩, h3⟩ := h
   refine ⟨h2, ?_⟩
   rw [h1]
   simp only [cellOf]
   unfold clB at h3
   split at h3
   · rename_i x hx; rw [hx, eqA_eq h3]
   · cases h3
 · rename_i rows x
   simp only [Bool.and_eq_true, decide_eq_true_eq] at h
   obtain ⟨⟨⟨h1, h2⟩, h3⟩, h4⟩ := h
   refine ⟨h2, ?_⟩
   rw [h1]
   simp only [cellOf, h3, if_true, eqA_eq h4]
 · cases h
theorem invE_get {e : Ent} : ∀ {LI : List Cl}, invE e LI = true → ∀ q ∈ LI, e.key = q.k → ∃ c, e = ⟨q.k, q.v, c⟩ ∧ cellOf q.vv c q.j = some q.x
 | [], _, q, hq, _ => by simp at hq
 | p :: r, h, q, hq, hk => by
  simp only [invE, Bool.and_eq_true] at h
  rcases List.mem_cons.1 hq with rfl | hq
  · have h1 := h.1
    simp only [hk, decide_true] at h1
    obtain ⟨key, ver, cont⟩ := e
    simp only at hk h1
    subst hk
    obtain ⟨rfl, h2⟩ := clE_some h1
    exact ⟨cont, rfl, h2⟩
  · exact invE_get h.2 q hq hk
theorem invEs_put {LI : List Cl} : ∀ {es : List Ent}, invEs LI es = true → ∀ m, InvM LI m → InvM LI (putAll m es)
 | [], _, m, hm => hm
 | e :: r, h, m, hm => by
  simp only [invEs, Bool.and_eq_true] at h
  refine invEs_put h.2 _ (fun q hq => ?_)
  obtain ⟨cs, h1, h2⟩ := hm q hq
  by_cases hk : e.key = q.k
  · obtain ⟨cs', he, hx⟩ := invE_get h.1 q hq hk
    refine ⟨cs', ?_, hx⟩
    have hin : e.key ∈ m.map (·.key) := by
     obtain ⟨h3, h4⟩ := Mem.get_mem h1
     rw [hk]; exact List.mem_map_of_mem h3
    rw [← hk, Mem.get_set_same hin, he]
  · exact ⟨cs, by rw [Mem.get_set_ne hk]; exact h1, h2⟩
theorem findC_mem {b : Bool} {k v j : Nat} {x : AV} : ∀ {LI : List Cl}, findC b k v j LI = some x → ∃ q ∈ LI, q.vv = b ∧ q.k = k ∧ q.v = v ∧ q.j = j ∧ q.x = x
 | [], h => by simp [findC] at h
 | q :: r, h => by
  unfold findC at h
  split at h
  · rename_i hb
    simp only [Bool.and_eq_true, decide_eq_true_eq] at hb
    cases h
    exact ⟨q, by simp, hb.1.1.1.symm, hb.1.1.2.symm, hb.1.2.symm, hb.2.symm, rfl⟩
  · obtain ⟨q', h1, h2⟩ := findC_mem h
    exact ⟨q', by simp [h1], h2⟩
theorem hasC_mem {b : Bool} {k v : Nat} : ∀ {LI : List Cl}, hasC b k v LI = true → ∃ q ∈ LI, q.vv = b ∧ q.k = k ∧ q.v = v
 | [], h => by simp [hasC] at h
 | q :: r, h => by
  unfold hasC at h
  split at h
  · rename_i hb
    simp only [Bool.and_eq_true, decide_eq_true_eq] at hb
    exact ⟨q, by simp, hb.1.1.symm, hb.1.2.symm, hb.2.symm⟩
  · obtain ⟨q', h1, h2⟩ := hasC_mem h
    exact ⟨q', by simp [h1], h2⟩
theorem inv_box {LI : List Cl} {m : Mem} (hm : InvM LI m) {q : Cl} (hq : q ∈ LI) (hv : q.vv = false) : ∃ cs, Mem.get m q.k = some ⟨q.k, q.v, .box cs⟩ ∧ cs[q.j]? = some q.x := by
 obtain ⟨c, h1, h2⟩ := hm q hq
 rw [hv] at h2
 obtain ⟨cs, rfl, h3⟩ := cellOf_box h2
 exact ⟨cs, h1, h3⟩
theorem inv_vv {LI : List Cl} {m : Mem} (hm : InvM LI m) {q : Cl} (hq : q ∈ LI) (hv : q.vv = true) : ∃ rows, Mem.get m q.k = some ⟨q.k, q.v, .vv rows (some q.x)⟩ ∧ rows.length = q.j := by
 obtain ⟨c, h1, h2⟩ := hm q hq
 rw [hv] at h2
 obtain ⟨cs, rfl, h3⟩ := cellOf_vv h2
 exact ⟨cs, h1, h3⟩
theorem lookG_ok {P : Program} {LI : List Cl} {S : St} {x : AV} (h : lookG P LI S o.op = some x) (hm : InvM LI S.mem) : ∃ c, stepv P S o = .val c x ∧ (opOk S o && c) = true := by
 unfold lookG at h
 split at h
 · rename_i t y ho
   unfold lookL at h
   split at h
   · rename_i k v off heq
     split at h
     · rename_i hagg hoth
       obtain ⟨q, hq, hvv, rfl, rfl, rfl, rfl⟩ := findC_mem h
       obtain ⟨cs, h1, h2⟩ := inv_box hm hq hvv
       have hlt : q.j < cs.length := (List.getElem?_eq_some_iff.1 h2).1
       refine ⟨true, ?_, by simp [opOk, ho, okAll, Op.operands, heq]⟩
       unfold stepv
       rw [ho]
       simp only [heq, loadR, h1, hagg, h2, Option.getD_some]
       simp only [decide_eq_false_iff_not] at hoth
       simp [hoth, hlt]
     · cases h
   · rename_i k v i j heq
     split at h
     · rename_i hagg hoth hj
       obtain ⟨q, hq, hvv, rfl, rfl, rfl, rfl⟩ := findC_mem h
       obtain ⟨rows, h1, h2⟩ := inv_vv hm hq hvv
       simp only [decide_eq_true_eq] at hj
       subst hj
       refine ⟨true, ?_, by simp [opOk, ho, okAll, Op.operands, heq]⟩
       unfold stepv
       rw [ho]
       simp only [heq, loadR, h1, hagg]
       simp only [decide_eq_false_iff_not] at hoth
       simp [hoth, h2]
     · cases h
   · cases h
 · rename_i s y f ho
   unfold lookF at h
   split at h
   · rename_i n k v off hn heq
     split at h
     · rename_i hc
       cases h
       obtain ⟨q, hq, hvv, rfl, rfl⟩ := hasC_mem hc
       obtain ⟨cs, h1, h2⟩ := inv_box hm hq hvv
       refine ⟨true, ?_, by simp [opOk, ho, okAll, Op.operands, heq]⟩
       unfold stepv
       rw [ho]
       simp [heq, fieldRm, hn, h1]
     · cases h
   · cases h
 · rename_i y ho
   unfold lookN at h
   split at h
   · rename_i k v off heq
     split at h
     · rename_i hc
       cases h
       obtain ⟨q, hq, hvv, rfl, rfl⟩ := hasC_mem hc
       obtain ⟨cs, h1, h2⟩ := inv_box hm hq hvv
       refine ⟨true, ?_, by simp [opOk, ho, okAll, Op.operands, heq]⟩
       unfold stepv
       rw [ho]
       simp [heq, nilCheckR, h1]
     · cases h
   · cases h
 · rename_i t y z ho
   unfold lookX at h
   split at h
   · rename_i e k v off len kd n htk heq heq2
     split at h
     · rename_i hsz hc hn0 hnl
       cases h
       simp only [decide_eq_true_eq] at hsz hn0 hnl
       obtain ⟨q, hq, hvv, rfl, rfl⟩ := hasC_mem hc
       obtain ⟨rows, h1, h2⟩ := inv_vv hm hq hvv
       refine ⟨true, ?_, by simp [opOk, ho, okAll, Op.operands, heq, heq2]⟩
       unfold stepv
       rw [ho]
       simp [heq, heq2, indexR, htk, hsz, h1, hn0, hnl]
     · cases h
   · cases h
 · cases h
theorem lookG_loc {P : Program} {LI : List Cl} {S' S : St} (h : ∀ x ∈ o.op.operands.toList, S'.opd x = S.opd x) : lookG P LI S' o.op = lookG P LI S o.op := by
 unfold lookG
 split
 · rename_i t y ho; rw [h y (by simp [ho, Op.operands])]
 · rename_i s y f ho; rw [h y (by simp [ho, Op.operands])]
 · rename_i y ho; rw [h y (by simp [ho, Op.operands])]
 · rename_i t y z ho; rw [h y (by simp [ho, Op.operands]), h z (by simp [ho, Op.operands])]
 · rfl
theorem stepI_look {all : List Oper} {LI : List Cl} {x : AV} (hd : ∀ t, o.dst = some t → t < S.n) (h : lookI X.P LI S o = some x) : StepI X.P (InvM LI) all S o ⟨[], [], true, x⟩ := by
 intro S' ha hI φ G a w hr next R hn
 unfold lookI at h
 split at h
 · rename_i hg
   rw [if_pos (by simp [Region.wanted, hg])]
   have hx : ∀ x ∈ o.op.operands.toList, S'.opd x = S.opd x := fun x hx => agree_opd ha hx
   obtain ⟨c, hs', hok⟩ := lookG_ok (by rw [lookG_loc hx]; exact h) hI
   obtain ⟨_, _, _, h4⟩ := opD_val (gb := true) hs' hok (fun t ht => by rw [ha.n]; exact hd t ht)
   exact h4 φ G a w hr next R (fun _ φ' a' w' hr' hk' => hn φ' a' w' hr' hk') (fun t x he => by cases he)
 · cases h
theorem isLast_some {l : List Nat} {r : List Oper} (h : isLast l r = true) : l = [] ∧ r = [] := by
 cases l <;> cases r <;> simp_all [isLast]
theorem ord_more {all : List Oper} {nd : List (List Nat)} {ps : List Stp} (hs : ordS all nd = true) (hl : ps.length + 1 = all.length) (hn : nd.getD (all.length - 1) [] = []) (hd : ordD nd ps = true) : ordOk all (ps ++ [dmS]) = true := by
 have hlf := lastFree_of hs hn
 unfold ordOk
 refine List.all_eq_true.2 fun j hj => ?_
 have h1 := List.all_eq_true.1 hs j hj
 have hj' : j < all.length := List.mem_range.1 hj
 unfold ordSAt at h1
 unfold ordAt
 have hpj : (ps ++ [dmS])[j]? = some ((ps ++ [dmS])[j]'(by simp; omega)) := by simp [hl, hj']
 rw [hpj]
 cases ho : all[j]? with
 | none => rw [ho] at h1; cases h1
 | some o =>
  rw [ho] at h1
  simp only [Bool.and_eq_true, List.all_eq_true, decide_eq_true_eq, Bool.or_eq_true, List.mem_range] at h1 ⊢
  refine ⟨h1.1, fun i hi => ?_⟩
  by_cases hjl : j + 1 = all.length
  · left
    have := hlf i (by omega)
    rw [← hjl] at this
    simpa using this
  · rcases h1.2 i hi with h2 | h2
    · exact .inl h2
    · right
      have hji : j < ps.length := by omega
      have hpi : (ps ++ [dmS])[i]? = some (ps[i]'(by omega)) := by rw [List.getElem?_append_left (by omega)]; simp [show i < ps.length by omega]
      have hpj2 : (ps ++ [dmS])[j]'(by simp; omega) = ps[j]'hji := List.getElem_append_left hji
      rw [hpj2]
      cases hoi : all[i]? with
      | none => rw [hoi] at h2; cases h2
      | some o' =>
       rw [hoi] at h2
       rw [hpi]
       simp only [Bool.and_eq_true] at h2
       simp only [apartB]
       have e1 := ordE_get (ordL_get hd i _ (List.getElem?_eq_getElem (show i < ps.length by omega))) j (by simpa using h2.2.1) _ (List.getElem?_eq_getElem hji)
       have e2 := ordE_get (ordL_get hd j _ (List.getElem?_eq_getElem hji)) i (by simpa using h2.2.2) _ (List.getElem?_eq_getElem (show i < ps.length by omega))
       have e3 := h2.1
       simp only [dstApart, Bool.and_eq_true] at e3
       simp only [Bool.and_eq_true]
       exact ⟨⟨e3, e1⟩, e2⟩
def DrwEnd (P : Program) (I : Mem → Prop) (nd : List (List Nat)) (all ops : List Oper) (S : St) (acc : List Stp) (e : XE) (S1 : St) : Prop :=
 (e = .normal ∧ ∃ ps S2, Cert P I all ops S ps S2 ∧ Eqv S1 S2 ∧ ordD nd (acc.reverse ++ ps) = true) ∨
  (∃ init ol ps S2, ops = init ++ [ol] ∧ Cert P I all init S ps S2 ∧ nd.getD (all.length - 1) [] = [] ∧ ordD nd (acc.reverse ++ ps) = true ∧ GopD P all S2 ol e S1)
theorem GopD.eqv {P : Program} {all : List Oper} {S S0 S1 : St} {e : XE} (h : GopD P all S o e S1) (he : Eqv S S0) : GopD P all S0 o e S1 := by
 obtain ⟨h1, h2, h3, h4⟩ := h
 refine ⟨h1.trans he.n, h2.trans he.gl, h3, fun φ G a w hr next R hn hp => ?_⟩
 have := h4 φ G a w (hr.eqv he.symm) next R
 rw [he.mem] at this
 exact this hn hp
theorem drwI_cert {md : Bool} {nd : List (List Nat)} {LI : List Cl} {all : List Oper} (hcl : ClOk X cl) : ∀ (ops : List Oper) (S : St) (acc : List Stp) (e : XE) (S1 : St), acc.length + ops.length = all.length → drwI X cl md nd LI all ops S acc = some (e, S1) → S.gl = X.gl → dstsOk S.n ops = true →
 DrwEnd X.P (InvM LI) nd all ops S acc e S1
 | [], S, acc, e, S1, _, h, hgl, hd => by
  simp only [drwI] at h
  split at h
  · rename_i hord
    cases h
    exact .inl ⟨rfl, [], S, .nil S, Eqv.refl _, by simpa using hord⟩
  · cases h
 | o :: rest, S, acc, e, S1, hlen, h, hgl, hd => by
  have hd' := hd
  simp only [dstsOk, List.all_cons, Bool.and_eq_true] at hd
  obtain ⟨hd0, hd⟩ := hd
  have hdo : ∀ t, o.dst = some t → t < S.n := fun t ht => by rw [ht] at hd0; simpa using hd0
  simp only [List.length_cons] at hlen
  simp only [drwI] at h
  cases hil : isLast (nd.getD acc.length []) rest with
  | true =>
   rw [hil] at h
   simp only [drwL] at h
   obtain ⟨hnd, rfl⟩ := isLast_some hil
   split at h
   · rename_i hord
     right
     refine ⟨[], o, [], S, rfl, .nil S, ?_, by simpa using hord, ?_⟩
     · have : all.length - 1 = acc.length := by simp at hlen; omega
       rw [this]; exact hnd
     · simp only [runOps] at h
       rcases andThen_some h with ⟨S3, h1, h2⟩ | ⟨h1, h2⟩
       · cases h2
         exact gstep_ok hcl hgl hdo h1
       · exact gstep_ok hcl hgl hdo h1
   · cases h
  | false =>
  rw [hil] at h
  simp only at h
  have glue : ∀ (p : Stp) (S' : St), (∀ e ∈ p.es, e.key ∈ p.ks) → (∀ m, InvM LI m → InvM LI (putAll m p.es)) → StepI X.P (InvM LI) all S o p → Eqv S' (p.app o S) → drwI X cl md nd LI all rest S' (p :: acc) = some (e, S1) → DrwEnd X.P (InvM LI) nd all (o :: rest) S acc e S1 := by
   intro p S' hk hI hst heq hrun
   rcases drwI_cert hcl rest S' (p :: acc) e S1 (by simp; omega) hrun (by rw [heq.gl, app_gl]; exact hgl) (by rw [heq.n, app_n]; exact hd) with ⟨he, ps, S3, hc, he3, hord⟩ | ⟨init, ol, ps, S3, hr, hc, hn, hord, hlast⟩
   · obtain ⟨S4, hc4, he4⟩ := cert_eqv hc heq
     exact .inl ⟨he, p :: ps, S4, .cons o rest S p ps S4 hk hI hst hc4, he3.trans he4, by simpa using hord⟩
   · obtain ⟨S4, hc4, he4⟩ := cert_eqv hc heq
     exact .inr ⟨o :: init, ol, p :: ps, S4, by rw [hr]; rfl, .cons o init S p ps S4 hk hI hst hc4, hn, by simpa using hord, hlast.eqv he4⟩
  cases hl : lookI X.P LI S o with
  | some x =>
   rw [hl] at h
   simp only [stepI, dThen] at h
   exact glue ⟨[], [], true, x⟩ _ (by simp) (fun _ h => h) (stepI_look (X := X) (all := all) hdo hl) (Eqv.refl _) h
  | none =>
   rw [hl] at h
   simp only [stepI] at h
   cases hg : dgstep X cl md all S o with
   | none => rw [hg] at h; cases h
   | some q =>
    obtain ⟨S2, p⟩ := q
    rw [hg] at h
    simp only [chkI] at h
    split at h
    · rename_i hinv
      simp only [dThen] at h
      obtain ⟨heq, hks, hst⟩ := dgstep_ok hcl hgl hdo hg
      exact glue p S2 hks (invEs_put hinv) hst.toI heq h
    · cases h
end
theorem MemRel.upd2 {φ : Phi} {G : Fr} {m : Mem} {w : World} (h : MemRel φ G m w) {e1 e2 e1' e2' : Ent} (he1 : e1 ∈ m) (he2 : e2 ∈ m) (hne : e1.key ≠ e2.key) {L1 L2 L1' L2' : Loc} (hL1 : φ e1.key = some L1) (hL2 : φ e2.key = some L2)
 (hk1 : e1'.key = e1.key) (hk2 : e2'.key = e2.key) (hv1 : L1.ver ≤ L1'.ver) (hv2 : L2.ver ≤ L2'.ver) (hs1 : L1'.ver = L1.ver → L1' = { L1 with subs := L1'.subs }) (hs2 : L2'.ver = L2.ver → L2' = { L2 with subs := L2'.subs })
 (hw1 : L1'.ver = e1'.ver) (hw2 : L2'.ver = e2'.ver) (ho1 : ∀ b, e1'.cont.owns L1' b → e1.cont.owns L1 b ∨ e2.cont.owns L2 b) (ho2 : ∀ b, e2'.cont.owns L2' b → e1.cont.owns L1 b ∨ e2.cont.owns L2 b)
 (hap : ∀ b, e1'.cont.owns L1' b → e2'.cont.owns L2' b → False)
 (hc : ∀ (φ' : Phi) (F' : Nat → Prop), φ.le φ' → φ' e1.key = some L1' → φ' e2.key = some L2' → (∀ b, F' b → Fo G φ m b) → ContRel φ' w F' L1' e1'.cont ∧ ContRel φ' w F' L2' e2'.cont) :
 ∃ φ', MemRel φ' G (Mem.set (Mem.set m e1') e2') w ∧ Keeps φ m w φ' (Mem.set (Mem.set m e1') e2') w := by
 obtain ⟨m', hm'⟩ : ∃ m', m' = Mem.set (Mem.set m e1') e2' := ⟨_, rfl⟩
 rw [← hm']
 have hn1 : ((Mem.set m e1').map (·.key)).Nodup := by rw [Mem.set_keys]; exact h.nodup
 have hkeys : m'.map (·.key) = m.map (·.key) := by rw [hm', Mem.set_keys, Mem.set_keys]
 have hmem : ∀ y, y ∈ m' → y = e2' ∨ y = e1' ∨ (y ∈ m ∧ y.key ≠ e1.key ∧ y.key ≠ e2.key) := by
  intro y hy
  rw [hm'] at hy
  rcases (Mem.mem_set hn1).1 hy with ⟨h1, _⟩ | ⟨h1, h2⟩
  · exact .inl h1
  · rcases (Mem.mem_set h.nodup).1 h1 with ⟨h1, _⟩ | ⟨h1, h3⟩
    · exact .inr (.inl h1)
    · exact .inr (.inr ⟨h1, by rw [← hk1]; exact h3, by rw [← hk2]; exact h2⟩)
 obtain ⟨φ', hφ'⟩ : ∃ φ' : Phi, φ' = fun j => if j = e1.key then some L1' else if j = e2.key then some L2' else φ j := ⟨_, rfl⟩
 have f1 : φ' e1.key = some L1' := by simp [hφ']
 have f2 : φ' e2.key = some L2' := by simp [hφ', show ¬ e2.key = e1.key from fun h => hne h.symm]
 have f3 : ∀ j, j ≠ e1.key → j ≠ e2.key → φ' j = φ j := fun j h1 h2 => by simp [hφ', h1, h2]
 have hle : φ.le φ' := by
  intro j L0 h0
  by_cases h1 : j = e1.key
  · subst h1; rw [hL1] at h0; cases h0
    exact ⟨_, f1, hv1, hs1⟩
  · by_cases h2 : j = e2.key
    · subst h2; rw [hL2] at h0; cases h0
      exact ⟨_, f2, hv2, hs2⟩
    · exact ⟨L0, by rw [f3 j h1 h2]; exact h0, Nat.le_refl _, fun _ => rfl⟩
 have hone : ∀ b, e1.cont.owns L1 b ∨ e2.cont.owns L2 b → Own φ m b := fun b hb => hb.elim (fun hb => ⟨e1, he1, L1, hL1, hb⟩) (fun hb => ⟨e2, he2, L2, hL2, hb⟩)
 have hown : ∀ b, Own φ' m' b → Own φ m b := by
  rintro b ⟨y, hy, Ly, hLy, hoy⟩
  rcases hmem y hy with rfl | rfl | ⟨h1, h2, h3⟩
  · rw [hk2, f2] at hLy; cases hLy
    exact hone b (ho2 b hoy)
  · rw [hk1, f1] at hLy; cases hLy
    exact hone b (ho1 b hoy)
  · rw [f3 _ h2 h3] at hLy
    exact ⟨y, h1, Ly, hLy, hoy⟩
 have hF : ∀ b, Fo G φ' m' b → Fo G φ m b := fun b => Or.imp id (hown b)
 have hcc := hc φ' (Fo G φ' m') hle f1 f2 hF
 have hoth : ∀ y ∈ m, y.key ≠ e1.key → y.key ≠ e2.key → ∀ Ly, φ y.key = some Ly → ∀ b, y.cont.owns Ly b → e1.cont.owns L1 b ∨ e2.cont.owns L2 b → False := by
  intro y hy h2 h3 Ly hLy b hoy hb
  rcases hb with hb | hb
  · exact h2 (h.apart y hy e1 he1 Ly L1 hLy hL1 ⟨b, hoy, hb⟩)
  · exact h3 (h.apart y hy e2 he2 Ly L2 hLy hL2 ⟨b, hoy, hb⟩)
 refine ⟨φ', ⟨by rw [hkeys]; exact h.nodup, ?_, ?_, ?_, fun b hb => h.notG b (hown b hb), h.bound⟩, ⟨hle, fun _ _ _ => rfl, fun b _ hb => hown b hb, Nat.le_refl _, rfl, rfl, rfl⟩⟩
 · intro j L0 h0
   rw [hkeys]
   by_cases h1 : j = e1.key
   · subst h1; exact List.mem_map_of_mem he1
   · by_cases h2 : j = e2.key
     · subst h2; exact List.mem_map_of_mem he2
     · rw [f3 j h1 h2] at h0; exact h.dom j L0 h0
 · intro y hy
   rcases hmem y hy with rfl | rfl | ⟨h1, h2, h3⟩
   · exact ⟨L2', by rw [hk2]; exact f2, hw2, hcc.2⟩
   · exact ⟨L1', by rw [hk1]; exact f1, hw1, hcc.1⟩
   · obtain ⟨Ly, hLy, hvy, hcy⟩ := h.ents y h1
     exact ⟨Ly, by rw [f3 _ h2 h3]; exact hLy, hvy, hcy.mono hle (fun _ _ _ => rfl) (Nat.le_refl _) (fun b _ => hF b) (fun _ _ => rfl)⟩
 · rintro y hy z hz Ly Lz hLy hLz ⟨b, hoy, hoz⟩
   rcases hmem y hy with rfl | rfl | ⟨h1, h2, h3⟩
   · rw [hk2, f2] at hLy; cases hLy
     rcases hmem z hz with rfl | rfl | ⟨g1, g2, g3⟩
     · rfl
     · rw [hk1, f1] at hLz; cases hLz
       exact (hap b hoz hoy).elim
     · rw [f3 _ g2 g3] at hLz
       exact (hoth z g1 g2 g3 Lz hLz b hoz (ho2 b hoy)).elim
   · rw [hk1, f1] at hLy; cases hLy
     rcases hmem z hz with rfl | rfl | ⟨g1, g2, g3⟩
     · rw [hk2, f2] at hLz; cases hLz
       exact (hap b hoy hoz).elim
     · rfl
     · rw [f3 _ g2 g3] at hLz
       exact (hoth z g1 g2 g3 Lz hLz b hoz (ho1 b hoy)).elim
   · rw [f3 _ h2 h3] at hLy
     rcases hmem z hz with rfl | rfl | ⟨g1, g2, g3⟩
     · rw [hk2, f2] at hLz; cases hLz
       exact (hoth y h1 h2 h3 Ly hLy b hoy (ho2 b hoz)).elim
     · rw [hk1, f1] at hLz; cases hLz
       exact (hoth y h1 h2 h3 Ly hLy b hoy (ho1 b hoz)).elim
     · rw [f3 _ g2 g3] at hLz
       exact h.apart y h1 z g1 Ly Lz hLy hLz ⟨b, hoy, hoz⟩
end Go.Am
end

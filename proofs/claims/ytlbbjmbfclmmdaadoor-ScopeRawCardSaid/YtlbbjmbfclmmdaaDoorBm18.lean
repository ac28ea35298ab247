/-
  The abstract machine, part 18: how a function begins and ends.
-/
import Derived.Test.YtlbbjmbfclmmdaaDoorBm17
namespace Go.Am
open Go

/- Results. -/
def resOne (P : Program) (S : St) : ResultVar → Res
  | .tmp t => .val (S.opd (.tmp t)).1 (S.opd (.tmp t)).2
  | .cell p t => match loadR P S.mem t (S.opd (.tmp p)).2 with
    | .val c x => .val ((S.opd (.tmp p)).1 && c) x
    | _ => .no
def resAll (P : Program) (S : St) : List ResultVar → Option (Bool × List AV)
  | [] => some (true, [])
  | r :: rs => match resOne P S r with
    | .val c x => match resAll P S rs with
      | some (c', xs) => some (c && c', x :: xs)
      | none => none
    | _ => none
def oneOf : List AV → AV
  | [x] => x
  | xs => .tup xs

def resSem (tmps : Array Value) : ResultVar → Sem Value
  | .tmp t => pure (tmps.getD t undef)
  | .cell a t => do loadVar t (← asAddr (tmps.getD a undef))

theorem resOne_run {P : Program} {S : St} {r : ResultVar} {c : Bool} {x : AV} (h : resOne P S r = .val c x) (hc : c = true) {φ G a w} (hr : Rel φ G S a w) :
    ∃ v, (resSem a.tmps r).run P w = .ok v w ∧ AVRel φ w (Fo G φ S.mem) x v := by
  unfold resOne at h
  split at h
  · rename_i t
    simp only [Res.val.injEq] at h
    obtain ⟨rfl, rfl⟩ := h
    exact ⟨_, rfl, hr.opd (.tmp t) hc⟩
  · rename_i p t
    split at h
    · rename_i c' x' hl
      simp only [Res.val.injEq] at h
      obtain ⟨rfl, rfl⟩ := h
      simp only [Bool.and_eq_true] at hc
      have := load_ok P S { dst := none, op := .load t (.tmp p), type := 0, pos := "", after := #[], guard := none } t (.tmp p) rfl hc.1
      rw [hl] at this
      obtain ⟨v, hran, hav⟩ := this hc.2 φ G a w hr
      have hev : a.eval (.tmp p) = a.tmps.getD p undef := rfl
      simp only [execOp, Instr.loadAt, hev] at hran
      cases hpv : a.tmps.getD p undef with
      | pointer ad =>
        rw [hpv] at hran
        cases ad with
        | none => simp [Instr.sureAddr, stuck] at hran
        | some ad =>
          simp only [Instr.sureAddr, Sem.run_bind, Sem.run_pure, Result.andThen_ok] at hran
          generalize hq : (loadVar t ad).run P w = q at hran
          cases q with
          | halt _ _ => simp at hran
          | ok v2 w2 =>
            simp at hran
            obtain ⟨rfl, rfl⟩ := hran
            refine ⟨v2, ?_, hav⟩
            simp only [resSem, hpv, asAddr, Sem.run_bind, Sem.run_pure, Result.andThen_ok, hq]
      | _ => rw [hpv] at hran; simp [Instr.sureAddr, stuck] at hran
    · cases h

theorem resAll_run {P : Program} {S : St} {φ G a w} (hr : Rel φ G S a w) : ∀ (rs : List ResultVar) (c : Bool) (xs : List AV), resAll P S rs = some (c, xs) → c = true →
    ∃ vs : List Value, (rs.mapM (resSem a.tmps)).run P w = .ok vs w ∧ xs.length = vs.length ∧
      ∀ (i : Nat) x v, xs[i]? = some x → vs[i]? = some v → AVRel φ w (Fo G φ S.mem) x v
  | [], c, xs, h, _ => by
    simp only [resAll, Option.some.injEq, Prod.mk.injEq] at h
    obtain ⟨_, rfl⟩ := h
    exact ⟨[], by simp, rfl, by simp⟩
  | r :: rs, c, xs, h, hc => by
    simp only [resAll] at h
    split at h
    · rename_i c1 x hx
      split at h
      · rename_i c2 xs' hxs
        simp only [Option.some.injEq, Prod.mk.injEq] at h
        obtain ⟨rfl, rfl⟩ := h
        simp only [Bool.and_eq_true] at hc
        obtain ⟨v, h1, h2⟩ := resOne_run hx hc.1 hr
        obtain ⟨vs, h3, h4, h5⟩ := resAll_run (P := P) hr rs c2 xs' hxs hc.2
        refine ⟨v :: vs, ?_, by simp [h4], fun i x v h h' => ?_⟩
        · rw [List.mapM_cons]
          simp only [Sem.run_bind, h1, Result.andThen_ok, h3, Sem.run_pure]
        · cases i with
          | zero => simp at h h'; subst h; subst h'; exact h2
          | succ i => exact h5 i x v (by simpa using h) (by simpa using h')
      · cases h
    · cases h

/- What is in use of a vector, and which keys are led to. -/
mutual
def refAV (k v : Nat) : AV → Option (Nat × Nat)
  | .vec k' v' o l => if k' = k ∧ v' = v then some (o, l) else none
  | .agg cs => refAVs k v cs
  | .fn _ cap => refAVs k v cap
  | .tup vs => refAVs k v vs
  | .eptr _ _ _ _ => none
  | .junk => none
  | .d _ => none
  | .ptr _ _ _ => none
  | .rptr _ _ => none
  | .ifc _ _ => none
  | .lit _ => none
  | .nn => none
def refAVs (k v : Nat) : List AV → Option (Nat × Nat)
  | [] => none
  | x :: r => match refAV k v x with
    | some p => some p
    | none => refAVs k v r
end
def refMem (k v : Nat) : Mem → Option (Nat × Nat)
  | [] => none
  | ⟨_, _, .box cs⟩ :: r => match refAVs k v cs with
    | some p => some p
    | none => refMem k v r
  | _ :: r => refMem k v r
def refEnv (k v : Nat) : Env → Option (Nat × Nat)
  | [] => none
  | (_, _, x) :: r => match refAV k v x with
    | some p => some p
    | none => refEnv k v r
def St.trim1 (S : St) (k : Nat) : St :=
  match Mem.get S.mem k with
  | some ⟨_, v, .vec _ _⟩ => match refMem k v S.mem with
    | some (o, l) => S.trim k o l
    | none => match refEnv k v S.env with
      | some (o, l) => S.trim k o l
      | none => S
  | _ => S
theorem turn_trim1 (S : St) (k : Nat) : Turn S (S.trim1 k) := by
  unfold St.trim1
  split
  · split
    · exact turn_trim ..
    · split
      · exact turn_trim ..
      · exact Turn.refl S
  · exact Turn.refl S
def St.trims (S : St) : List Nat → St
  | [] => S
  | k :: r => (S.trim1 k).trims r
theorem turn_trims : ∀ (l : List Nat) (S : St), Turn S (S.trims l)
  | [], S => Turn.refl S
  | k :: r, S => (turn_trim1 S k).trans (turn_trims r _)

mutual
def avKeys : AV → List Nat
  | .ptr k _ _ => [k]
  | .vec k _ _ _ => [k]
  | .eptr k _ _ _ => [k]
  | .agg cs => avsKeys cs
  | .fn _ cap => avsKeys cap
  | .tup vs => avsKeys vs
  | .junk => []
  | .d _ => []
  | .rptr _ _ => []
  | .ifc _ _ => []
  | .lit _ => []
  | .nn => []
def avsKeys : List AV → List Nat
  | [] => []
  | x :: r => avKeys x ++ avsKeys r
end
def contKeys : Option Ent → List Nat
  | some ⟨_, _, .box cs⟩ => avsKeys cs
  | _ => []
/-- The keys to which the listed ones lead, each once, in the order in which they are met. -/
def collect (m : Mem) : Nat → List Nat → List Nat → List Nat
  | 0, _, acc => acc
  | _ + 1, [], acc => acc
  | n + 1, k :: todo, acc => match acc.contains k || (Mem.get m k).isNone with
    | true => collect m n todo acc
    | false => collect m n (todo ++ contKeys (Mem.get m k)) (acc ++ [k])
theorem collect_ok (m : Mem) : ∀ (n : Nat) (todo acc : List Nat), acc.Nodup → (∀ k ∈ acc, (Mem.get m k).isSome = true) → (collect m n todo acc).Nodup ∧ ∀ k ∈ collect m n todo acc, (Mem.get m k).isSome = true
  | 0, todo, acc, h, hs => ⟨h, hs⟩
  | n + 1, [], acc, h, hs => ⟨h, hs⟩
  | n + 1, k :: todo, acc, h, hs => by
    simp only [collect]
    split
    · exact collect_ok m n todo acc h hs
    · rename_i hc
      simp only [Bool.or_eq_false_iff, List.contains_eq_mem, decide_eq_false_iff_not, Option.isNone_eq_false_iff] at hc
      refine collect_ok m n _ _ ?_ ?_
      · rw [List.nodup_append]
        exact ⟨h, by simp, fun a ha b hb hab => by simp at hb; subst hb; subst hab; exact hc.1 ha⟩
      · intro x hx
        rcases List.mem_append.1 hx with hx | hx
        · exact hs x hx
        · simp at hx; subst hx; exact hc.2

/- The locals' keys. -/
def dead (k : Nat) : Ent := ⟨k, 0, .dead⟩
def Phi.add (φ : Phi) (ks : List Nat) : Phi := fun k => if k ∈ ks then some ⟨0, 0, 0, 0, 0⟩ else φ k
theorem own_add {φ : Phi} {m : Mem} {ks : List Nat} (hd : ∀ k ∈ ks, k ∉ m.map (·.key)) (b : Nat) : Own (φ.add ks) (m ++ ks.map dead) b ↔ Own φ m b := by
  constructor
  · rintro ⟨e, he, L, hL, ho, rfl⟩
    rcases List.mem_append.1 he with he | he
    · have : e.key ∉ ks := fun h => hd _ h (List.mem_map_of_mem he)
      simp only [Phi.add, this, if_false] at hL
      exact ⟨e, he, L, hL, ho, rfl⟩
    · simp only [List.mem_map] at he
      obtain ⟨k, _, rfl⟩ := he
      exact ho.elim
  · rintro ⟨e, he, L, hL, ho, rfl⟩
    have : e.key ∉ ks := fun h => hd _ h (List.mem_map_of_mem he)
    exact ⟨e, List.mem_append_left _ he, L, by simp [Phi.add, this, hL], ho, rfl⟩

theorem fo_add {φ : Phi} {G} {m : Mem} {ks : List Nat} (hd : ∀ k ∈ ks, k ∉ m.map (·.key)) : Fo G (φ.add ks) (m ++ ks.map dead) = Fo G φ m := by
  funext b; simp only [Fo, own_add hd b]

theorem le_add {φ : Phi} {G m w} (h : MemRel φ G m w) {ks : List Nat} (hd : ∀ k ∈ ks, k ∉ m.map (·.key)) : φ.le (φ.add ks) := by
  intro k L hL
  have : k ∉ ks := fun hk => hd k hk (h.dom k L hL)
  exact ⟨L, by simp [Phi.add, this, hL], Nat.le_refl _, fun _ => rfl⟩

theorem MemRel.add {φ G m w} (h : MemRel φ G m w) {ks : List Nat} (hn : ks.Nodup) (hd : ∀ k ∈ ks, k ∉ m.map (·.key)) : MemRel (φ.add ks) G (m ++ ks.map dead) w := by
  have hle := le_add h hd
  have hF := fo_add (φ := φ) (G := G) hd
  refine ⟨?_, ?_, ?_, ?_, ?_, h.bound⟩
  · rw [List.map_append, List.nodup_append]
    have e : (ks.map dead).map (·.key) = ks := by simp [Function.comp_def, dead]
    rw [e]
    exact ⟨h.nodup, hn, fun a ha b hb hab => hd b hb (hab ▸ ha)⟩
  · intro k L hL
    simp only [Phi.add] at hL
    split at hL
    · rename_i hk; rw [List.map_append]; refine List.mem_append_right _ ?_; rw [List.map_map]; exact List.mem_map.2 ⟨k, hk, rfl⟩
    · rw [List.map_append]; exact List.mem_append_left _ (h.dom k L hL)
  · intro e he
    rw [hF]
    rcases List.mem_append.1 he with he | he
    · obtain ⟨L, hL, hv, hc⟩ := h.ents e he
      have : e.key ∉ ks := fun h => hd _ h (List.mem_map_of_mem he)
      exact ⟨L, by simp [Phi.add, this, hL], hv, hc.mono hle (fun _ _ _ => rfl) (Nat.le_refl _) (fun _ _ h => h) (fun _ => rfl)⟩
    · simp only [List.mem_map] at he
      obtain ⟨k, hk, rfl⟩ := he
      exact ⟨⟨0, 0, 0, 0, 0⟩, by simp [Phi.add, dead, hk], rfl, trivial⟩
  · intro e he e' he' L L' hL hL' ho ho' hb
    rcases List.mem_append.1 he with he | he
    · rcases List.mem_append.1 he' with he' | he'
      · have h1 : e.key ∉ ks := fun h => hd _ h (List.mem_map_of_mem he)
        have h2 : e'.key ∉ ks := fun h => hd _ h (List.mem_map_of_mem he')
        simp only [Phi.add, h1, h2, if_false] at hL hL'
        exact h.apart e he e' he' L L' hL hL' ho ho' hb
      · simp only [List.mem_map] at he'
        obtain ⟨k, _, rfl⟩ := he'
        exact ho'.elim
    · simp only [List.mem_map] at he
      obtain ⟨k, _, rfl⟩ := he
      exact ho.elim
  · intro b hb hG; exact h.notG b ((own_add hd b).1 hb) hG

/-- The state in which a function begins. -/
def entryEnv : Nat → List AV → Env
  | _, [] => []
  | i, x :: r => (i, true, x) :: entryEnv (i + 1) r
theorem lk_entry : ∀ (i : Nat) (xs : List AV) (t : Nat) (y : Bool × AV), Env.lk (entryEnv i xs) t = some y → ∃ j, t = i + j ∧ xs[j]? = some y.2
  | i, [], t, y, h => by simp [entryEnv, Env.lk] at h
  | i, x :: r, t, y, h => by
    simp only [entryEnv, Env.lk] at h
    by_cases ht : i = t
    · subst ht; simp at h; subst h; exact ⟨0, rfl, rfl⟩
    · simp only [ht, if_false] at h
      obtain ⟨j, rfl, hj⟩ := lk_entry (i + 1) r t y h
      exact ⟨j + 1, by omega, by simpa using hj⟩

def inM : Nat → List Cont → Mem
  | _, [] => []
  | i, c :: r => ⟨i, 0, c⟩ :: inM (i + 1) r
theorem inM_mk : ∀ (cs : List Cont) (i : Nat), inM i cs = mkM i (cs.map fun c => (0, c))
  | [], i => rfl
  | c :: r, i => by simp [inM, mkM, inM_mk r]
def entry (n : Nat) (gl : List (Nat × D)) (args : List AV) (cs : List Cont) (sites : List Nat) : St := { n, gl, env := entryEnv 0 args, mem := inM 0 cs ++ sites.map dead }

/-- How a version counts for the caller. -/
def nvX (n0 : Nat) (i v : Nat) : Nat := if i < n0 then (if v = 0 then 0 else 1) else 0

/-- The policy of a function's end: the passed vectors that stay in their places, and whether its own vectors are handed back as such. -/
structure FPol where
  inpl : List Nat
  exp : Bool
  sites : List Nat
  mut_ : List Nat
  split : Bool

def finKeys (p : FPol) (n0 : Nat) (m : Mem) (xs : List AV) : List Nat :=
  match p.exp with
  | true => List.range n0 ++ (collect m 64 (avsKeys xs ++ List.range n0) []).filter (fun k => !decide (k < n0))
  | false => List.range n0
def envVals : Env → List AV
  | [] => []
  | (_, _, x) :: r => x :: envVals r
/-- What is handed back by values that stand in the slots. -/
def finOut (K : List Nat) (n0 : Nat) (S : St) (one : List AV → Out) : Option (Out × List (Nat × Cont)) :=
  if K.all (fun k => (Mem.get S.mem k).isSome) then some (one ((envVals S.env).map fun x => (vw S.mem K (fun _ => true) (nvX n0) x).norm), selL S.mem K (fun _ => true) (nvX n0) 0 K) else none
def finTrim (p : FPol) (K : List Nat) (S : St) : St := S.trims (K.filter fun k => !p.inpl.contains k)
def finVals (p : FPol) (n0 : Nat) (S : St) (xs : List AV) (one : List AV → Out) : Option (Out × List (Nat × Cont)) :=
  let K := finKeys p n0 S.mem xs
  finOut K n0 (finTrim p K { S with n := xs.length, env := entryEnv 0 xs }) one
def finish (P : Program) (p : FPol) (n0 : Nat) (rs : List ResultVar) (S : St) : Option (Out × List (Nat × Cont)) :=
  match resAll P S rs with
  | some (c, xs) => if c = true then finVals p n0 S xs (fun ys => .ret (oneOf ys)) else none
  | none => none
def finPanic (p : FPol) (n0 : Nat) (t : TypeId) (x : D) (S : St) : Option (Out × List (Nat × Cont)) := finVals p n0 S [] (fun _ => .panic t x)

/- Slots stay where they are. -/
def envTags : Env → List (Nat × Bool)
  | [] => []
  | (t, g, _) :: r => (t, g) :: envTags r
theorem mapEnv_tags (τ : AV → AV) : ∀ env : Env, envTags (mapEnv τ env) = envTags env
  | [] => rfl
  | (t, g, x) :: r => by simp [mapEnv, envTags, mapEnv_tags τ r]
theorem trim_tags (S : St) (k o l : Nat) : envTags (S.trim k o l).env = envTags S.env := by
  unfold St.trim
  split
  · split
    · exact mapEnv_tags _ _
    · rfl
  · rfl
theorem trim1_tags (S : St) (k : Nat) : envTags (S.trim1 k).env = envTags S.env := by
  unfold St.trim1
  split
  · split
    · exact trim_tags ..
    · split
      · exact trim_tags ..
      · rfl
  · rfl
theorem trims_tags : ∀ (l : List Nat) (S : St), envTags (S.trims l).env = envTags S.env
  | [], S => rfl
  | k :: r, S => by rw [St.trims, trims_tags r, trim1_tags]
theorem entry_tags : ∀ (i : Nat) (xs : List AV), envTags (entryEnv i xs) = (List.range' i xs.length).map fun j => (j, true)
  | i, [] => rfl
  | i, x :: r => by simp [entryEnv, envTags, entry_tags (i + 1) r, List.range'_succ]
theorem tags_lk : ∀ (env : Env) (i n j : Nat), envTags env = (List.range' i n).map (fun j => (j, true)) → ∀ x, (envVals env)[j]? = some x → Env.lk env (i + j) = some (true, x)
  | [], i, n, j, _, x, hx => by simp [envVals] at hx
  | (t, g, y) :: r, i, n, j, h, x, hx => by
    cases n with
    | zero => simp [envTags] at h
    | succ n =>
      simp only [envTags, List.range'_succ, List.map_cons, List.cons.injEq, Prod.mk.injEq] at h
      obtain ⟨⟨rfl, rfl⟩, h⟩ := h
      cases j with
      | zero => simp [envVals] at hx; subst hx; simp [Env.lk]
      | succ j =>
        have := tags_lk r (t + 1) n j h x (by simpa [envVals] using hx)
        simp only [Env.lk]
        rw [if_neg (by omega), show t + (j + 1) = t + 1 + j by omega]
        exact this
theorem envVals_length : ∀ env : Env, (envVals env).length = (envTags env).length
  | [] => rfl
  | (_, _, _) :: r => by simp [envVals, envTags, envVals_length r]

theorem finKeys_nodup (p : FPol) (n0 : Nat) (m : Mem) (xs : List AV) : (finKeys p n0 m xs).Nodup := by
  unfold finKeys
  split
  · rw [List.nodup_append]
    refine ⟨List.nodup_range, ((collect_ok m 64 _ [] List.nodup_nil (by simp)).1).filter _, fun a ha b hb hab => ?_⟩
    simp only [List.mem_range] at ha
    simp only [List.mem_filter, Bool.not_eq_true', decide_eq_false_iff_not] at hb
    omega
  · exact List.nodup_range
theorem finKeys_low (p : FPol) (n0 : Nat) (m : Mem) (xs : List AV) {k : Nat} (hk : k < n0) : (finKeys p n0 m xs)[k]? = some k := by
  unfold finKeys
  split
  · rw [List.getElem?_append_left (by simpa using hk)]; simp [hk]
  · simp [hk]

theorem finVals_ok {p : FPol} {n0 : Nat} {S : St} {xs : List AV} {one : List AV → Out} {out : Out} {l : List (Nat × Cont)} (h : finVals p n0 S xs one = some (out, l))
    {φ : Phi} {G : Nat → Prop} {w : World} (hm : MemRel φ G S.mem w) (hg : GlobRel w (Fo G φ S.mem) S.gl) {vs : List Value} (hl : xs.length = vs.length)
    (hx : ∀ (i : Nat) x v, xs[i]? = some x → vs[i]? = some v → AVRel φ w (Fo G φ S.mem) x v) {φ0 : Phi} {m0 : Mem} {w0 : World} (hk : Keeps φ0 m0 w0 φ S.mem w) (hdom : ∀ k L, φ0 k = some L → k < n0 ∧ L.ver = 0) :
    ∃ φ' ys, out = one ys ∧ MemRel φ' G (mkM 0 l) w ∧ Keeps φ0 m0 w0 φ' (mkM 0 l) w ∧ ys.length = vs.length ∧ (∀ (i : Nat) y v, ys[i]? = some y → vs[i]? = some v → AVRel φ' w (Fo G φ' (mkM 0 l)) y v) ∧
      ∀ b, Fo G φ' (mkM 0 l) b → Fo G φ S.mem b := by
  unfold finVals at h
  obtain ⟨K, hK⟩ : ∃ K, K = finKeys p n0 S.mem xs := ⟨_, rfl⟩
  have hKn : K.Nodup := by rw [hK]; exact finKeys_nodup ..
  have hKl : ∀ k, k < n0 → K[k]? = some k := fun k h => by rw [hK]; exact finKeys_low _ _ _ _ h
  simp only [← hK] at h
  clear hK
  have hr1 : Rel φ G { S with n := xs.length, env := entryEnv 0 xs } { tmps := vs.toArray, defers := [] } w := by
    refine ⟨by simp [hl], rfl, fun t x ht => ?_, hm, hg⟩
    obtain ⟨j, rfl, hj⟩ := lk_entry 0 xs t _ ht
    have hjl : j < vs.length := by rw [← hl]; exact (List.getElem?_eq_some_iff.1 hj).1
    have e : vs.toArray.getD (0 + j) undef = vs[j] := by simp [hjl]
    simp only [e]
    exact hx j x _ hj (by simp [hjl])
  obtain ⟨S2, hS2⟩ : ∃ S2, S2 = finTrim p K { S with n := xs.length, env := entryEnv 0 xs } := ⟨_, rfl⟩
  have ht : Turn { S with n := xs.length, env := entryEnv 0 xs } S2 := by rw [hS2]; exact turn_trims ..
  have htags : envTags S2.env = (List.range' 0 xs.length).map fun j => (j, true) := by
    rw [hS2, finTrim, trims_tags]; exact entry_tags 0 xs
  rw [← hS2] at h
  clear hS2
  obtain ⟨φ2, hr2, hk2⟩ := ht.2.2 φ G _ w hr1
  unfold finOut at h
  split at h
  · rename_i hall
    simp only [Option.some.injEq, Prod.mk.injEq] at h
    obtain ⟨rfl, rfl⟩ := h
    have hm2 := hr2.mem
    have hall' : ∀ k ∈ K, (Mem.get S2.mem k).isSome = true := by simpa using hall
    obtain ⟨s1, s2, s3⟩ := sel_mem (G1 := G) (ρ := K) (bor := fun _ => true) (nv := nvX n0) hm2 hKn hall' (fun b h => .inl h) (fun b h => hm2.notG b h.own)
      (fun k e L hg _ _ hL ho => hm2.notG _ ⟨e, (Mem.get_mem hg).1, L, by rw [(Mem.get_mem hg).2]; exact hL, ho, rfl⟩)
    have hk02 := hk.trans hk2
    refine ⟨φ2.sel K (nvX n0), _, rfl, s1, ⟨?_, hk02.old, ?_, hk02.size, hk02.os, hk02.tape, hk02.output⟩, ?_, ?_, ?_⟩
    · intro k L hL
      obtain ⟨hkn, hver⟩ := hdom k L hL
      obtain ⟨L2, h1, h2, h3⟩ := hk02.le k L hL
      refine ⟨{ L2 with ver := nvX n0 k L2.ver }, by simp [Phi.sel, hKl k hkn, h1], by simp [hver], fun he => ?_⟩
      simp only [nvX, hkn, if_true, hver] at he
      split at he
      · rename_i h0
        have h4 := h3 (by rw [hver]; exact h0)
        subst h4
        simp only [nvX, hkn, if_true, hver]
        rw [← hver]
      · simp at he
    · intro b hb ho
      exact hk02.own b hb ((sel_own (φ := φ2) (nv := nvX n0) (bor := fun _ => true) hall' b).1 ho).own
    · rw [List.length_map, envVals_length, htags]; simp [hl]
    · intro i y v hy hv
      rw [List.getElem?_map] at hy
      obtain ⟨x, hx2, rfl⟩ := Option.map_eq_some_iff.1 hy
      have h5 := tags_lk S2.env 0 xs.length i htags x hx2
      rw [Nat.zero_add] at h5
      have h6 := hr2.env i x h5
      have e : vs.toArray.getD i undef = v := by simp [hv]
      simp only [e] at h6
      exact (s2 x v h6).norm
    · intro b hb
      have h7 := s3 b hb
      rcases h7 with h7 | h7
      · exact .inl h7
      · rcases Nat.lt_or_ge b w.heap.size with h8 | h8
        · exact .inr (hk2.own b h8 h7)
        · exact absurd (hm2.own_lt h7) (by omega)
  · cases h
end Go.Am

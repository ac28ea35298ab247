/-
  The abstract machine, part 17: turns of the state that no code makes.
-/
import Derived.Test.YtlbbjmbfclmmdaaDoorBm16
namespace Go.Am
open Go

/-- A turn of the state that no code makes. -/
def Turn (S S' : St) : Prop := S'.n = S.n ∧ S'.gl = S.gl ∧ ∀ φ G a w, Rel φ G S a w → ∃ φ', Rel φ' G S' a w ∧ Keeps φ S.mem w φ' S'.mem w
theorem Turn.refl (S : St) : Turn S S := ⟨rfl, rfl, fun φ _ _ _ h => ⟨φ, h, Keeps.refl ..⟩⟩
theorem Turn.trans {S S' S'' : St} (h : Turn S S') (k : Turn S' S'') : Turn S S'' :=
  ⟨k.1.trans h.1, k.2.1.trans h.2.1, fun φ G a w hr => by
    obtain ⟨φ1, h1, h2⟩ := h.2.2 φ G a w hr
    obtain ⟨φ2, h3, h4⟩ := k.2.2 φ1 G a w h1
    exact ⟨φ2, h3, h2.trans h4⟩⟩
theorem turn_prune (S : St) (keep : List Nat) : Turn S (S.prune keep) := ⟨rfl, rfl, fun φ _ _ _ h => ⟨φ, h.prune keep, Keeps.refl ..⟩⟩

theorem own_same {w : World} {φ φ' : Phi} {m m' : Mem} (h : ∀ b, Own φ' m' b → Own φ m b) (hle : φ.le φ') : Keeps φ m w φ' m' w :=
  ⟨hle, fun _ _ _ => rfl, fun b _ ho => h b ho, Nat.le_refl _, rfl, rfl, rfl⟩

/- Mapping all values. -/
def mapC (τ : AV → AV) : Cont → Cont
  | .box cs => .box (cs.map τ)
  | .dead => .dead
  | .vec sz rows => .vec sz rows
def mapM (τ : AV → AV) (e' : Ent) : Mem → Mem
  | [] => []
  | e :: r => (if e.key = e'.key then e' else ⟨e.key, e.ver, mapC τ e.cont⟩) :: mapM τ e' r
def mapEnv (τ : AV → AV) : Env → Env
  | [] => []
  | (t, g, x) :: r => (t, g, τ x) :: mapEnv τ r
theorem lk_mapEnv (τ : AV → AV) : ∀ (env : Env) (t : Nat) (g : Bool) (y : AV), Env.lk (mapEnv τ env) t = some (g, y) → ∃ x, Env.lk env t = some (g, x) ∧ y = τ x
  | [], t, g, y, h => by simp [mapEnv, Env.lk] at h
  | (t', g', x') :: r, t, g, y, h => by
    simp only [mapEnv, Env.lk] at h ⊢
    by_cases ht : t' = t
    · subst ht; simp at h ⊢; obtain ⟨rfl, rfl⟩ := h; simp
    · simp only [ht, if_false] at h ⊢
      exact lk_mapEnv τ r t g y h
theorem mapM_keys (τ : AV → AV) (e' : Ent) : ∀ m : Mem, (mapM τ e' m).map (·.key) = m.map (·.key)
  | [] => rfl
  | e :: r => by
    simp only [mapM, List.map_cons, mapM_keys τ e' r]
    congr 1
    split
    · rename_i h; exact h.symm
    · rfl
theorem mapM_mem {τ : AV → AV} {e' : Ent} : ∀ {m : Mem} {x : Ent}, x ∈ mapM τ e' m ↔ ∃ e ∈ m, x = if e.key = e'.key then e' else ⟨e.key, e.ver, mapC τ e.cont⟩
  | [], x => by simp [mapM]
  | e :: r, x => by simp [mapM, mapM_mem (m := r)]
theorem mapC_owns {τ L c} : (mapC τ c).owns L ↔ c.owns L := by cases c <;> exact Iff.rfl

def St.mapAll (S : St) (τ : AV → AV) (e' : Ent) : St := { S with env := mapEnv τ S.env, mem := mapM τ e' S.mem }

/-- One entry is turned, no memory; all values are seen anew. -/
theorem turn_map {φ : Phi} {G S a w} (h : Rel φ G S a w) (τ : AV → AV) {e e' : Ent} (he : e ∈ S.mem) {L L' : Loc} (hL : φ e.key = some L) (hkey : e'.key = e.key)
    (hv : L.ver < L'.ver) (hv' : L'.ver = e'.ver) (hown : e'.cont.owns L' → e.cont.owns L ∧ L'.blk = L.blk)
    (hτ : ∀ (φ' : Phi) (F' : Nat → Prop), φ' e.key = some L' → (∀ k, k ≠ e.key → φ' k = φ k) → (∀ b, F' b → Fo G φ S.mem b) → (¬ e'.cont.owns L' → e.cont.owns L → ¬ F' L.blk) → ∀ x v, AVRel φ w (Fo G φ S.mem) x v → AVRel φ' w F' (τ x) v)
    (hc : ∀ (φ' : Phi) (F' : Nat → Prop), (∀ b, F' b → Fo G φ S.mem b) → ContRel φ' w F' L' e'.cont) :
    ∃ φ', Rel φ' G (S.mapAll τ e') a w ∧ Keeps φ S.mem w φ' (S.mapAll τ e').mem w := by
  have hm := h.mem
  obtain ⟨φ', hφ'⟩ : ∃ φ' : Phi, φ' = fun k => if k = e.key then some L' else φ k := ⟨_, rfl⟩
  have hφk : φ' e.key = some L' := by simp [hφ']
  have hφo : ∀ k, k ≠ e.key → φ' k = φ k := fun k hk => by simp [hφ', hk]
  have hle : φ.le φ' := by
    intro k L0 h0
    by_cases hk : k = e.key
    · subst hk; rw [hL] at h0; cases h0
      exact ⟨L', hφk, by omega, fun hh => by omega⟩
    · exact ⟨L0, by rw [hφo k hk]; exact h0, Nat.le_refl _, fun _ => rfl⟩
  have hown' : ∀ b, Own φ' (mapM τ e' S.mem) b → Own φ S.mem b := by
    rintro b ⟨x, hx, Lx, hLx, hox, rfl⟩
    obtain ⟨y, hy, rfl⟩ := mapM_mem.1 hx
    by_cases hk : y.key = e'.key
    · simp only [hk, if_true] at hLx hox
      rw [hkey, hφk] at hLx; cases hLx
      obtain ⟨h1, h2⟩ := hown hox
      exact ⟨e, he, L, hL, h1, h2.symm⟩
    · simp only [hk, if_false] at hLx hox
      rw [hkey] at hk
      rw [hφo _ hk] at hLx
      exact ⟨y, hy, Lx, hLx, mapC_owns.1 hox, rfl⟩
  have hF : ∀ b, Fo G φ' (mapM τ e' S.mem) b → Fo G φ S.mem b := fun b => Or.imp id (hown' b)
  have hlost : ¬ e'.cont.owns L' → e.cont.owns L → ¬ Fo G φ' (mapM τ e' S.mem) L.blk := by
    rintro hno ho (hG | ⟨x, hx, Lx, hLx, hox, hb⟩)
    · exact hm.notG _ ⟨e, he, L, hL, ho, rfl⟩ hG
    · obtain ⟨y, hy, rfl⟩ := mapM_mem.1 hx
      by_cases hk : y.key = e'.key
      · simp only [hk, if_true] at hLx hox
        rw [hkey, hφk] at hLx; cases hLx
        exact hno hox
      · simp only [hk, if_false] at hLx hox
        rw [hkey] at hk
        rw [hφo _ hk] at hLx
        exact hk (hm.apart y hy e he Lx L hLx hL (mapC_owns.1 hox) ho hb)
  have hav := hτ φ' (Fo G φ' (mapM τ e' S.mem)) hφk hφo hF hlost
  refine ⟨φ', ⟨h.size, h.defers, ?_, ⟨?_, ?_, ?_, ?_, ?_, ?_⟩, h.glob.mono (fun _ _ _ => rfl) (Nat.le_refl _) (fun b _ => hF b)⟩, own_same hown' hle⟩
  · intro t x hx
    obtain ⟨y, hy, rfl⟩ := lk_mapEnv τ S.env t true x hx
    exact hav _ _ (h.env t y hy)
  · show ((mapM τ e' S.mem).map (·.key)).Nodup
    rw [mapM_keys]; exact hm.nodup
  · intro k L0 h0
    show k ∈ (mapM τ e' S.mem).map (·.key)
    rw [mapM_keys]
    by_cases hk : k = e.key
    · subst hk; exact List.mem_map_of_mem he
    · rw [hφo k hk] at h0; exact hm.dom k L0 h0
  · intro x hx
    obtain ⟨y, hy, rfl⟩ := mapM_mem.1 hx
    by_cases hk : y.key = e'.key
    · simp only [hk, if_true]
      exact ⟨L', by rw [hkey]; exact hφk, hv', hc _ _ hF⟩
    · simp only [hk, if_false]
      obtain ⟨Ly, hLy, hvy, hcy⟩ := hm.ents y hy
      refine ⟨Ly, by rw [hφo _ (by rw [← hkey]; exact hk)]; exact hLy, hvy, ?_⟩
      cases hyc : y.cont with
      | dead => trivial
      | box cs =>
        rw [hyc] at hcy
        obtain ⟨arr, elem, g1, g2, g3, g4⟩ := hcy
        refine ⟨arr, elem, g1, by simp [g2], g3, fun i c v hci hv => ?_⟩
        rw [List.getElem?_map] at hci
        obtain ⟨z, hz, rfl⟩ := Option.map_eq_some_iff.1 hci
        exact hav z v (g4 i z v hz hv)
      | vec sz rows =>
        rw [hyc] at hcy
        obtain ⟨g1, g2, g3, g4⟩ := hcy
        refine ⟨g1, g2, g3, fun h0 => ?_⟩
        obtain ⟨arr, elem, f1, f2, f3, f4⟩ := g4 h0
        exact ⟨arr, elem, f1, f2, f3, fun i d hd' => let ⟨v, hv, hj⟩ := f4 i d hd'; ⟨v, hv.mono (fun _ _ _ => rfl) (Nat.le_refl _) (fun b _ => hF b), hj⟩⟩
  · intro x hx x' hx' Lx Lx' hLx hLx' ho ho' hb
    obtain ⟨y, hy, rfl⟩ := mapM_mem.1 hx
    obtain ⟨y', hy', rfl⟩ := mapM_mem.1 hx'
    have pull : ∀ {z : Ent} {Lz : Loc}, z ∈ S.mem → φ' (if z.key = e'.key then e' else ⟨z.key, z.ver, mapC τ z.cont⟩ : Ent).key = some Lz → (if z.key = e'.key then e' else ⟨z.key, z.ver, mapC τ z.cont⟩ : Ent).cont.owns Lz →
        ∃ z0 ∈ S.mem, ∃ L0, φ z0.key = some L0 ∧ z0.cont.owns L0 ∧ L0.blk = Lz.blk ∧ (if z.key = e'.key then e' else ⟨z.key, z.ver, mapC τ z.cont⟩ : Ent).key = z0.key := by
      intro z Lz hz hLz hoz
      by_cases hk : z.key = e'.key
      · simp only [hk, if_true] at hLz hoz ⊢
        rw [hkey, hφk] at hLz; cases hLz
        obtain ⟨h1, h2⟩ := hown hoz
        exact ⟨e, he, L, hL, h1, h2.symm, hkey⟩
      · simp only [hk, if_false] at hLz hoz ⊢
        rw [hkey] at hk
        rw [hφo _ hk] at hLz
        exact ⟨z, hz, Lz, hLz, mapC_owns.1 hoz, rfl, rfl⟩
    obtain ⟨z, hz, Lz, hLz, hoz, hbz, hkz⟩ := pull hy hLx ho
    obtain ⟨z', hz', Lz', hLz', hoz', hbz', hkz'⟩ := pull hy' hLx' ho'
    rw [hkz, hkz']
    exact hm.apart z hz z' hz' Lz Lz' hLz hLz' hoz hoz' (by rw [hbz, hbz', hb])
  · exact fun b hb => hm.notG b (hown' b hb)
  · exact hm.bound

/- Cutting a vector to the part that is in use. -/
mutual
def trAV (k v off len : Nat) : AV → AV
  | .vec k' v' o l => if k' = k ∧ v' = v ∧ off ≤ o ∧ o + l ≤ off + len then .vec k (v + 1) (o - off) l else .vec k' v' o l
  | .eptr k' v' i j => if k' = k ∧ v' = v ∧ off ≤ i then .eptr k (v + 1) (i - off) j else .eptr k' v' i j
  | .agg cs => .agg (trAVs k v off len cs)
  | .fn f cap => .fn f (trAVs k v off len cap)
  | .tup vs => .tup (trAVs k v off len vs)
  | .junk => .junk
  | .d x => .d x
  | .ptr a b c => .ptr a b c
  | .rptr x j => .rptr x j
  | .ifc t x => .ifc t x
  | .lit v => .lit v
  | .nn => .nn
def trAVs (k v off len : Nat) : List AV → List AV
  | [] => []
  | x :: r => trAV k v off len x :: trAVs k v off len r
end
theorem trAVs_get (k v off len) : ∀ (l : List AV) (i : Nat), (trAVs k v off len l)[i]? = (l[i]?).map (trAV k v off len)
  | [], i => by simp [trAVs]
  | x :: r, i => by cases i with | zero => simp [trAVs] | succ i => simp [trAVs, trAVs_get k v off len r i]
theorem trAVs_length (k v off len) : ∀ (l : List AV), (trAVs k v off len l).length = l.length
  | [] => rfl
  | x :: r => by simp [trAVs, trAVs_length k v off len r]

def St.trim (S : St) (k off len : Nat) : St :=
  match Mem.get S.mem k with
  | some ⟨_, v, .vec sz rows⟩ => if off + len ≤ rows.length then S.mapAll (trAV k v off len) ⟨k, v + 1, .vec sz ((rows.drop off).take len)⟩ else S
  | _ => S

theorem turn_trim (S : St) (k off len : Nat) : Turn S (S.trim k off len) := by
  unfold St.trim
  split
  · rename_i key v sz rows hg
    split
    · rename_i hle
      refine ⟨rfl, rfl, fun φ G a w hr => ?_⟩
      obtain ⟨hm, hk, L, hL, hver, hcr⟩ := hr.mem.get hg
      simp only at hk hver hcr
      subst hk
      obtain ⟨g1, g2, g3, g4⟩ := hcr
      refine turn_map hr (trAV key v off len) (e := ⟨key, v, .vec sz rows⟩) (e' := ⟨key, v + 1, .vec sz ((rows.drop off).take len)⟩) hm hL rfl (L' := ⟨v + 1, L.blk, L.sz, L.cap - off, L.base + off * L.sz⟩)
        (by simp only; omega) rfl (fun ho => ⟨by simp only [Cont.owns] at ho ⊢; omega, rfl⟩) ?_ ?_
      · intro φ' F' hφk hφo hF _ x u hx
        induction hx with
        | junk v => exact .junk v
        | d x v h => exact .d x v (h.mono (fun _ _ _ => rfl) (Nat.le_refl _) (fun b _ => hF b))
        | agg cs a hl h1 _ ih =>
          refine .agg _ a (by rw [trAVs_length]; exact hl) h1 (fun i c v hc hv => ?_)
          rw [trAVs_get] at hc
          obtain ⟨y, hy, rfl⟩ := Option.map_eq_some_iff.1 hc
          exact ih i y v hy hv
        | ptr k2 ver o v2 L2 hL2 hv2 h h1 =>
          unfold trAV
          by_cases hk2 : k2 = key
          · subst hk2
            rw [hL] at hL2; cases hL2
            exact .ptr _ ver o v2 _ hφk (by simp only; omega) (fun he => by simp only at he; omega) h1
          · exact .ptr k2 ver o v2 L2 (by rw [hφo _ hk2]; exact hL2) hv2 h h1
        | vec k2 ver o l v2 L2 hL2 hv2 h h1 =>
          unfold trAV
          split
          · rename_i hc
            obtain ⟨rfl, rfl, ho, hol⟩ := hc
            rw [hL] at hL2; cases hL2
            refine .vec _ _ _ l v2 _ hφk (Nat.le_refl _) (fun _ => ?_) h1
            obtain ⟨a0, cap, rfl, hlc, hpl⟩ := h hver.symm
            refine ⟨a0, cap, rfl, hlc, fun hc0 => ?_⟩
            obtain ⟨rfl, hcap⟩ := hpl hc0
            refine ⟨?_, by simp only; omega⟩
            congr 2
            show L.base + o * L.sz = L.base + off * L.sz + (o - off) * L.sz
            rw [Nat.add_assoc, ← Nat.add_mul]
            congr 2; omega
          · by_cases hk2 : k2 = key
            · subst hk2
              rw [hL] at hL2; cases hL2
              exact .vec _ ver o l v2 _ hφk (by simp only; omega) (fun he => by simp only at he; omega) h1
            · exact .vec k2 ver o l v2 L2 (by rw [hφo _ hk2]; exact hL2) hv2 h h1
        | eptr k2 ver i j v2 L2 hL2 hv2 h h1 =>
          unfold trAV
          split
          · rename_i hc
            obtain ⟨rfl, rfl, ho⟩ := hc
            rw [hL] at hL2; cases hL2
            refine .eptr _ _ _ j v2 _ hφk (Nat.le_refl _) (fun _ => ?_) h1
            rw [h hver.symm]
            congr 3
            show L.base + i * L.sz + j = L.base + off * L.sz + (i - off) * L.sz + j
            rw [Nat.add_assoc L.base (off * L.sz), ← Nat.add_mul]
            congr 3; omega
          · by_cases hk2 : k2 = key
            · subst hk2
              rw [hL] at hL2; cases hL2
              exact .eptr _ ver i j v2 _ hφk (by simp only; omega) (fun he => by simp only at he; omega) h1
            · exact .eptr k2 ver i j v2 L2 (by rw [hφo _ hk2]; exact hL2) hv2 h h1
        | rptr x j b o x' hb hFb hx hc => exact .rptr x j b o x' hb (fun h => hFb (hF b h)) (hx.mono (fun _ _ _ => rfl) (Nat.le_refl _) (fun b _ => hF b)) hc
        | fn f cap a hl _ ih =>
          refine .fn f _ a (by rw [trAVs_length]; exact hl) (fun i c v hc hv => ?_)
          rw [trAVs_get] at hc
          obtain ⟨y, hy, rfl⟩ := Option.map_eq_some_iff.1 hc
          exact ih i y v hy hv
        | tup vs a hl _ ih =>
          refine .tup _ a (by rw [trAVs_length]; exact hl) (fun i c v hc hv => ?_)
          rw [trAVs_get] at hc
          obtain ⟨y, hy, rfl⟩ := Option.map_eq_some_iff.1 hc
          exact ih i y v hy hv
        | ifc t x v h => exact .ifc t x v (h.mono (fun _ _ _ => rfl) (Nat.le_refl _) (fun b _ => hF b))
        | lit v h => exact .lit v h
        | nn a cap => exact .nn a cap
      · intro φ' F' hF
        refine ⟨g1, by simp only [List.length_take, List.length_drop]; omega, fun d hd => g3 d (List.mem_of_mem_drop (List.mem_of_mem_take hd)), fun h0 => ?_⟩
        simp only at h0
        obtain ⟨arr, elem, f1, f2, f3, f4⟩ := g4 (by omega)
        refine ⟨arr, elem, f1, ?_, f3, fun i d hd => ?_⟩
        · rw [f2]
          show L.base + L.cap * L.sz = L.base + off * L.sz + (L.cap - off) * L.sz
          rw [Nat.add_assoc, ← Nat.add_mul]
          congr 2; omega
        · rw [List.getElem?_take] at hd
          split at hd
          · rw [List.getElem?_drop] at hd
            obtain ⟨v, hv, hj⟩ := f4 _ d hd
            refine ⟨v, hv.mono (fun _ _ _ => rfl) (Nat.le_refl _) (fun b _ => hF b), fun j c hjc => ?_⟩
            have := hj j c hjc
            rw [Nat.add_mul] at this
            rw [← Nat.add_assoc L.base] at this
            exact this
          · cases hd
    · exact Turn.refl S
  · exact Turn.refl S

/- Freezing a vector: it becomes data. -/
mutual
def fzAV (k v : Nat) (rows : List D) : AV → AV
  | .vec k' v' o l => if k' = k ∧ v' = v ∧ o + l ≤ rows.length then .d (.list ((rows.drop o).take l)) else .vec k' v' o l
  | .agg cs => .agg (fzAVs k v rows cs)
  | .fn f cap => .fn f (fzAVs k v rows cap)
  | .tup vs => .tup (fzAVs k v rows vs)
  | .eptr a b c d => .eptr a b c d
  | .junk => .junk
  | .d x => .d x
  | .ptr a b c => .ptr a b c
  | .rptr x j => .rptr x j
  | .ifc t x => .ifc t x
  | .lit v => .lit v
  | .nn => .nn
def fzAVs (k v : Nat) (rows : List D) : List AV → List AV
  | [] => []
  | x :: r => fzAV k v rows x :: fzAVs k v rows r
end
theorem fzAVs_get (k v rows) : ∀ (l : List AV) (i : Nat), (fzAVs k v rows l)[i]? = (l[i]?).map (fzAV k v rows)
  | [], i => by simp [fzAVs]
  | x :: r, i => by cases i with | zero => simp [fzAVs] | succ i => simp [fzAVs, fzAVs_get k v rows r i]
theorem fzAVs_length (k v rows) : ∀ (l : List AV), (fzAVs k v rows l).length = l.length
  | [] => rfl
  | x :: r => by simp [fzAVs, fzAVs_length k v rows r]

def St.freeze (S : St) (k : Nat) : St :=
  match Mem.get S.mem k with
  | some ⟨_, v, .vec _ rows⟩ => S.mapAll (fzAV k v rows) ⟨k, v + 1, .dead⟩
  | _ => S

theorem turn_freeze (S : St) (k : Nat) : Turn S (S.freeze k) := by
  unfold St.freeze
  split
  · rename_i key v sz rows hg
    refine ⟨rfl, rfl, fun φ G a w hr => ?_⟩
    obtain ⟨hm, hk, L, hL, hver, hcr⟩ := hr.mem.get hg
    simp only at hk hver hcr
    subst hk
    refine turn_map hr (fzAV key v rows) (e := ⟨key, v, .vec sz rows⟩) (e' := ⟨key, v + 1, .dead⟩) hm hL rfl (L' := { L with ver := v + 1 })
      (by simp only; omega) rfl (fun ho => ho.elim) ?_ (fun _ _ _ => trivial)
    intro φ' F' hφk hφo hF hlost x u hx
    induction hx with
    | junk v => exact .junk v
    | d x v h => exact .d x v (h.mono (fun _ _ _ => rfl) (Nat.le_refl _) (fun b _ => hF b))
    | agg cs a hl h1 _ ih =>
      refine .agg _ a (by rw [fzAVs_length]; exact hl) h1 (fun i c v hc hv => ?_)
      rw [fzAVs_get] at hc
      obtain ⟨y, hy, rfl⟩ := Option.map_eq_some_iff.1 hc
      exact ih i y v hy hv
    | ptr k2 ver o v2 L2 hL2 hv2 h h1 =>
      unfold fzAV
      by_cases hk2 : k2 = key
      · subst hk2
        rw [hL] at hL2; cases hL2
        exact .ptr _ ver o v2 _ hφk (by simp only; omega) (fun he => by simp only at he; omega) h1
      · exact .ptr k2 ver o v2 L2 (by rw [hφo _ hk2]; exact hL2) hv2 h h1
    | vec k2 ver o l v2 L2 hL2 hv2 h h1 =>
      unfold fzAV
      split
      · rename_i hc
        obtain ⟨rfl, rfl, hol⟩ := hc
        rw [hL] at hL2; cases hL2
        exact .d _ _ (vec_list (.vec _ _ o l v2 L hL hv2 h h1) hL hver hcr hol hF (fun ho => hlost (fun hh => hh) ho))
      · by_cases hk2 : k2 = key
        · subst hk2
          rw [hL] at hL2; cases hL2
          exact .vec _ ver o l v2 _ hφk (by simp only; omega) (fun he => by simp only at he; omega) h1
        · exact .vec k2 ver o l v2 L2 (by rw [hφo _ hk2]; exact hL2) hv2 h h1
    | eptr k2 ver i j v2 L2 hL2 hv2 h h1 =>
      unfold fzAV
      by_cases hk2 : k2 = key
      · subst hk2
        rw [hL] at hL2; cases hL2
        exact .eptr _ ver i j v2 _ hφk (by simp only; omega) (fun he => by simp only at he; omega) h1
      · exact .eptr k2 ver i j v2 L2 (by rw [hφo _ hk2]; exact hL2) hv2 h h1
    | rptr x j b o x' hb hFb hx hc => exact .rptr x j b o x' hb (fun h => hFb (hF b h)) (hx.mono (fun _ _ _ => rfl) (Nat.le_refl _) (fun b _ => hF b)) hc
    | fn f cap a hl _ ih =>
      refine .fn f _ a (by rw [fzAVs_length]; exact hl) (fun i c v hc hv => ?_)
      rw [fzAVs_get] at hc
      obtain ⟨y, hy, rfl⟩ := Option.map_eq_some_iff.1 hc
      exact ih i y v hy hv
    | tup vs a hl _ ih =>
      refine .tup _ a (by rw [fzAVs_length]; exact hl) (fun i c v hc hv => ?_)
      rw [fzAVs_get] at hc
      obtain ⟨y, hy, rfl⟩ := Option.map_eq_some_iff.1 hc
      exact ih i y v hy hv
    | ifc t x v h => exact .ifc t x v (h.mono (fun _ _ _ => rfl) (Nat.le_refl _) (fun b _ => hF b))
    | lit v h => exact .lit v h
    | nn a cap => exact .nn a cap
  · exact Turn.refl S
end Go.Am

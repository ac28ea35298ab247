/-
  The abstract machine, part 16: a call: the memory that is handed on, and what comes back.
-/
import Derived.Test.YtlbbjmbfclmmdaaDoorBm15
namespace Go.Am
open Go

/- Data that lie in no block. -/
mutual
def plainD : D → Bool
  | .list (_ :: _) => false
  | .list [] => true
  | .agg cs => plainDs cs
  | .int _ _ => true
  | .bool _ => true
  | .str _ => true
def plainDs : List D → Bool
  | [] => true
  | x :: r => plainD x && plainDs r
end
theorem plainDs_mem : ∀ {l : List D}, plainDs l = true → ∀ x ∈ l, plainD x = true
  | [], _, x, hx => by simp at hx
  | y :: r, h, x, hx => by
    simp only [plainDs, Bool.and_eq_true] at h
    rcases List.mem_cons.1 hx with rfl | hx
    · exact h.1
    · exact plainDs_mem h.2 x hx
theorem DRel.plain {w w' : World} {F F' : Nat → Prop} {d v} (h : DRel w F d v) (hp : plainD d = true) : DRel w' F' d v := by
  induction h with
  | int k n => exact .int k n
  | bool b => exact .bool b
  | str b s h => exact .str b s h
  | agg cs a hl hf _ ih =>
    refine .agg cs a hl hf (fun i d v hd hv => ih i d v hd hv (plainDs_mem (by simpa only [plainD] using hp) d (List.mem_of_getElem? hd)))
  | nil a cap hn => exact .nil a cap hn
  | list xs b off cap sz vs hcap hb hF hsz hv hc _ =>
    cases xs with
    | nil => exact .nil _ _ (by simp)
    | cons => simp [plainD] at hp
mutual
def plainAV : AV → Bool
  | .d x => plainD x
  | .rptr _ _ => false
  | .agg cs => plainAVs cs
  | .fn _ cap => plainAVs cap
  | .tup vs => plainAVs vs
  | .ifc _ x => plainD x
  | .junk => true
  | .ptr _ _ _ => true
  | .vec _ _ _ _ => true
  | .eptr _ _ _ _ => true
  | .lit _ => true
  | .nn => true
def plainAVs : List AV → Bool
  | [] => true
  | x :: r => plainAV x && plainAVs r
end
theorem plainAVs_mem : ∀ {l : List AV}, plainAVs l = true → ∀ x ∈ l, plainAV x = true
  | [], _, x, hx => by simp at hx
  | y :: r, h, x, hx => by
    simp only [plainAVs, Bool.and_eq_true] at h
    rcases List.mem_cons.1 hx with rfl | hx
    · exact h.1
    · exact plainAVs_mem h.2 x hx
def plainC : Cont → Bool
  | .dead => true
  | .box cs => plainAVs cs
  | .vec _ rows => plainDs rows

mutual
/-- An abstract value of a callee's by the caller's names. -/
def up (ρ bs : List Nat) : AV → AV
  | .ptr k ver off => .ptr (ρ.getD k 0) (bs.getD k 0 + ver) off
  | .vec k ver off len => .vec (ρ.getD k 0) (bs.getD k 0 + ver) off len
  | .eptr k ver i j => .eptr (ρ.getD k 0) (bs.getD k 0 + ver) i j
  | .agg cs => .agg (ups ρ bs cs)
  | .fn f cap => .fn f (ups ρ bs cap)
  | .tup vs => .tup (ups ρ bs vs)
  | .junk => .junk
  | .d x => .d x
  | .rptr x j => .rptr x j
  | .ifc t x => .ifc t x
  | .lit v => .lit v
  | .nn => .nn
def ups (ρ bs : List Nat) : List AV → List AV
  | [] => []
  | x :: r => up ρ bs x :: ups ρ bs r
end
theorem ups_get (ρ bs) : ∀ (l : List AV) (i : Nat), (ups ρ bs l)[i]? = (l[i]?).map (up ρ bs)
  | [], i => by simp [ups]
  | x :: r, i => by cases i with | zero => simp [ups] | succ i => simp [ups, ups_get ρ bs r i]
theorem ups_length (ρ bs) : ∀ (l : List AV), (ups ρ bs l).length = l.length
  | [] => rfl
  | x :: r => by simp [ups, ups_length ρ bs r]
def upC (ρ bs : List Nat) : Cont → Cont
  | .dead => .dead
  | .box cs => .box (ups ρ bs cs)
  | .vec sz rows => .vec sz rows
def backL (ρ bs : List Nat) : Nat → List (Nat × Cont) → List Ent
  | _, [] => []
  | i, (v, c) :: r => ⟨ρ.getD i 0, bs.getD i 0 + v, upC ρ bs c⟩ :: backL ρ bs (i + 1) r
theorem backL_mem {ρ bs : List Nat} : ∀ {l : List (Nat × Cont)} {i : Nat} {e : Ent}, e ∈ backL ρ bs i l ↔ ∃ j v c, l[j]? = some (v, c) ∧ e = ⟨ρ.getD (i + j) 0, bs.getD (i + j) 0 + v, upC ρ bs c⟩
  | [], i, e => by simp [backL]
  | (v, c) :: r, i, e => by
    simp only [backL, List.mem_cons, backL_mem (l := r)]
    constructor
    · rintro (rfl | ⟨j, v', c', h, rfl⟩)
      · exact ⟨0, v, c, by simp, by simp⟩
      · exact ⟨j + 1, v', c', by simpa using h, by rw [show i + (j + 1) = i + 1 + j by omega]⟩
    · rintro ⟨j, v', c', h, rfl⟩
      cases j with
      | zero => simp at h; obtain ⟨rfl, rfl⟩ := h; left; simp
      | succ j => right; exact ⟨j, v', c', by simpa using h, by rw [show i + (j + 1) = i + 1 + j by omega]⟩
theorem backL_keys {ρ bs : List Nat} : ∀ (l : List (Nat × Cont)) (i : Nat), (backL ρ bs i l).map (·.key) = (List.range' i l.length).map fun j => ρ.getD j 0
  | [], i => rfl
  | (v, c) :: r, i => by simp [backL, backL_keys r, List.range'_succ]

def putAll (m : Mem) : List Ent → Mem
  | [] => m
  | e :: r => putAll (Mem.set m e) r
theorem putAll_keys : ∀ (es : List Ent) (m : Mem), (putAll m es).map (·.key) = m.map (·.key)
  | [], m => rfl
  | e :: r, m => by rw [putAll, putAll_keys r, Mem.set_keys]
theorem mem_putAll : ∀ (es : List Ent) (m : Mem), (m.map (·.key)).Nodup → (es.map (·.key)).Nodup → (∀ e ∈ es, e.key ∈ m.map (·.key)) → ∀ e, e ∈ putAll m es ↔ e ∈ es ∨ (e ∈ m ∧ e.key ∉ es.map (·.key))
  | [], m, _, _, _, e => by simp [putAll]
  | x :: r, m, hm, hn, hk, e => by
    simp only [List.map_cons, List.nodup_cons] at hn
    rw [putAll, mem_putAll r (Mem.set m x) (by rw [Mem.set_keys]; exact hm) hn.2 (fun e he => by rw [Mem.set_keys]; exact hk e (by simp [he])), Mem.mem_set hm]
    have hx := hk x (by simp)
    constructor
    · rintro (h | ⟨⟨rfl, _⟩ | ⟨h, hne⟩, hnr⟩)
      · left; simp [h]
      · left; simp
      · right; exact ⟨h, by simp only [List.map_cons, List.mem_cons, not_or]; exact ⟨hne, hnr⟩⟩
    · rintro (h | ⟨h, hnr⟩)
      · rcases List.mem_cons.1 h with rfl | h
        · right; exact ⟨.inl ⟨rfl, hx⟩, hn.1⟩
        · left; exact h
      · simp only [List.map_cons, List.mem_cons, not_or] at hnr
        right; exact ⟨.inr ⟨h, hnr.1⟩, hnr.2⟩

/-- The versions from which the callee's are counted. -/
def base (m : Mem) (d : Nat) : List Nat → List Nat
  | [] => []
  | k :: r => (match Mem.get m k with | some e => e.ver + d | none => 0) :: base m d r
theorem base_get (m : Mem) (d : Nat) : ∀ (l : List Nat) (i : Nat), (base m d l)[i]? = (l[i]?).map fun k => match Mem.get m k with | some e => e.ver + d | none => 0
  | [], i => by simp [base]
  | k :: r, i => by cases i with | zero => simp [base] | succ i => simp [base, base_get m d r i]
theorem base_length (m : Mem) (d : Nat) : ∀ (l : List Nat), (base m d l).length = l.length
  | [] => rfl
  | k :: r => by simp [base, base_length m d r]

def nv0 : Nat → Nat → Nat := fun _ _ => 0
/-- What a callee must leave alone and may not read as data. -/
def GCall (φ : Phi) (G : Nat → Prop) (m : Mem) (ρ B : List Nat) (b : Nat) : Prop := Fo G φ m b ∧ ¬ OwnK φ m ρ b ∧ ¬ OwnK φ m B b

section
variable {φ : Phi} {G : Nat → Prop} {m : Mem} {w : World} {ρ B : List Nat}

theorem call_view (hm : MemRel φ G m w) (hn : ρ.Nodup) (hall : ∀ k ∈ ρ, (Mem.get m k).isSome = true) :
    MemRel (φ.sel ρ nv0) (GCall φ G m ρ B) (mkM 0 (selL m ρ (fun k => B.contains k) nv0 0 ρ)) w ∧
      (∀ y v, AVRel φ w (Fo G φ m) y v → AVRel (φ.sel ρ nv0) w (Fo (GCall φ G m ρ B) (φ.sel ρ nv0) (mkM 0 (selL m ρ (fun k => B.contains k) nv0 0 ρ))) (vw m ρ (fun k => B.contains k) nv0 y) v) ∧
      (∀ b, Fo (GCall φ G m ρ B) (φ.sel ρ nv0) (mkM 0 (selL m ρ (fun k => B.contains k) nv0 0 ρ)) b → Fo G φ m b) :=
  sel_mem hm hn hall (fun b h => h.1) (fun b h h' => h'.2.1 h) (fun k e L hg _ hb hL ho h' => h'.2.2 ⟨k, by simpa using hb, e, L, hg, hL, ho, rfl⟩)

theorem AVRel.upR {φ φ' : Phi} {ρ bs : List Nat} {w F F' x v} (h : AVRel φ w F x v) (hφ : ∀ i L, φ i = some L → φ' (ρ.getD i 0) = some { L with ver := bs.getD i 0 + L.ver })
    (hd : (∀ b, F' b → F b) ∨ plainAV x = true) : AVRel φ' w F' (up ρ bs x) v := by
  have dd : ∀ {d v}, DRel w F d v → ((∀ b, F' b → F b) ∨ plainD d = true) → DRel w F' d v := fun h hd => by
    rcases hd with hd | hd
    · exact h.mono (fun _ _ _ => rfl) (Nat.le_refl _) (fun b _ => hd b)
    · exact h.plain hd
  induction h with
  | junk v => exact .junk v
  | d x v h => exact .d x v (dd h (hd.imp id (by simp [plainAV])))
  | agg cs a hl h1 _ ih =>
    refine .agg _ a (by rw [ups_length]; exact hl) h1 (fun i c v hc hv => ?_)
    rw [ups_get] at hc
    obtain ⟨y, hy, rfl⟩ := Option.map_eq_some_iff.1 hc
    exact ih i y v hy hv (hd.imp id fun hp => plainAVs_mem (by simpa only [plainAV] using hp) y (List.mem_of_getElem? hy))
  | ptr k ver off v L hL hv h h1 => exact .ptr _ _ off v _ (hφ k L hL) (by simp only; omega) (fun he => h (by simp only at he; omega)) h1
  | vec k ver off len v L hL hv h h1 => exact .vec _ _ off len v _ (hφ k L hL) (by simp only; omega) (fun he => h (by simp only at he; omega)) h1
  | eptr k ver i j v L hL hv h h1 => exact .eptr _ _ i j v _ (hφ k L hL) (by simp only; omega) (fun he => h (by simp only at he; omega)) h1
  | rptr x j b off x' hb hFb hx hc =>
    rcases hd with hd | hd
    · exact .rptr x j b off x' hb (fun h => hFb (hd b h)) (hx.mono (fun _ _ _ => rfl) (Nat.le_refl _) (fun b _ => hd b)) hc
    · simp [plainAV] at hd
  | fn f cap a hl _ ih =>
    refine .fn f _ a (by rw [ups_length]; exact hl) (fun i c v hc hv => ?_)
    rw [ups_get] at hc
    obtain ⟨y, hy, rfl⟩ := Option.map_eq_some_iff.1 hc
    exact ih i y v hy hv (hd.imp id fun hp => plainAVs_mem (by simpa only [plainAV] using hp) y (List.mem_of_getElem? hy))
  | tup vs a hl _ ih =>
    refine .tup _ a (by rw [ups_length]; exact hl) (fun i c v hc hv => ?_)
    rw [ups_get] at hc
    obtain ⟨y, hy, rfl⟩ := Option.map_eq_some_iff.1 hc
    exact ih i y v hy hv (hd.imp id fun hp => plainAVs_mem (by simpa only [plainAV] using hp) y (List.mem_of_getElem? hy))
  | ifc t x v h => exact .ifc t x v (dd h (hd.imp id (by simp [plainAV])))
  | lit v h => exact .lit v h
  | nn a cap => exact .nn a cap

theorem upC_owns {ρ bs L c} : (upC ρ bs c).owns L ↔ c.owns L := by cases c <;> exact Iff.rfl

theorem call_back (h : MemRel φ G m w) (hn : ρ.Nodup) (hall : ∀ k ∈ ρ, (Mem.get m k).isSome = true) {fr : List Nat} (hfn : fr.Nodup) (hfr : ∀ k ∈ fr, (Mem.get m k).isSome = true ∧ k ∉ ρ)
    {φ2 : Phi} {l2 : List (Nat × Cont)} {w2 : World} (h2 : MemRel φ2 (GCall φ G m ρ B) (mkM 0 l2) w2)
    (hk : Keeps (φ.sel ρ nv0) (mkM 0 (selL m ρ (fun k => B.contains k) nv0 0 ρ)) w φ2 (mkM 0 l2) w2) (hlen : l2.length = ρ.length + fr.length)
    (hpl : B = [] ∨ ∀ e ∈ l2, plainC e.2 = true) :
    ∃ φ' : Phi, MemRel φ' G (putAll m (backL (ρ ++ fr) (base m 0 ρ ++ base m 1 fr) 0 l2)) w2 ∧ Keeps φ m w φ' (putAll m (backL (ρ ++ fr) (base m 0 ρ ++ base m 1 fr) 0 l2)) w2 ∧
      ∀ x v, (B = [] ∨ plainAV x = true) → AVRel φ2 w2 (Fo (GCall φ G m ρ B) φ2 (mkM 0 l2)) x v →
        AVRel φ' w2 (Fo G φ' (putAll m (backL (ρ ++ fr) (base m 0 ρ ++ base m 1 fr) 0 l2))) (up (ρ ++ fr) (base m 0 ρ ++ base m 1 fr) x) v := by
  obtain ⟨ρ', hρ'⟩ : ∃ ρ', ρ' = ρ ++ fr := ⟨_, rfl⟩
  obtain ⟨bs, hbs⟩ : ∃ bs, bs = base m 0 ρ ++ base m 1 fr := ⟨_, rfl⟩
  rw [← hρ', ← hbs]
  have hn' : ρ'.Nodup := by
    rw [hρ', List.nodup_append]
    exact ⟨hn, hfn, fun a ha b hb hab => (hfr b hb).2 (hab ▸ ha)⟩
  have hlen' : l2.length = ρ'.length := by rw [hρ', List.length_append]; exact hlen
  have hsome' : ∀ k ∈ ρ', (Mem.get m k).isSome = true := fun k hk' => by
    rw [hρ'] at hk'
    rcases List.mem_append.1 hk' with h1 | h1
    · exact hall k h1
    · exact (hfr k h1).1
  have hkin : ∀ k ∈ ρ', k ∈ m.map (·.key) := fun k hk' => by
    obtain ⟨e, he⟩ := Option.isSome_iff_exists.1 (hsome' k hk')
    obtain ⟨hm, rfl⟩ := Mem.get_mem he
    exact List.mem_map_of_mem hm
  obtain ⟨φ', hφ'⟩ : ∃ φ' : Phi, φ' = fun k => match findK ρ' k 0 with | some i => (φ2 i).map (fun L => { L with ver := bs.getD i 0 + L.ver }) | none => φ k := ⟨_, rfl⟩
  have hget : ∀ {i}, i < ρ'.length → ρ'[i]? = some (ρ'.getD i 0) := fun hi => by simp [hi]
  have hφin : ∀ {i}, i < ρ'.length → φ' (ρ'.getD i 0) = (φ2 i).map (fun L => { L with ver := bs.getD i 0 + L.ver }) := fun hi => by
    simp only [hφ', findK_get hn' (hget hi)]
  have hφout : ∀ {k}, k ∉ ρ' → φ' k = φ k := fun hk' => by simp only [hφ', findK_none.2 hk']
  have hlt2 : ∀ {i L}, φ2 i = some L → i < ρ'.length := fun hL => by
    have := h2.dom _ _ hL
    rw [mkM_keys] at this
    simp [List.mem_range'] at this
    omega
  have hup : ∀ i L, φ2 i = some L → φ' (ρ'.getD i 0) = some { L with ver := bs.getD i 0 + L.ver } := fun i L hL => by
    rw [hφin (hlt2 hL), hL]; rfl
  -- the entries behind
  have hmem := mem_putAll (backL ρ' bs 0 l2) m h.nodup
  have hbk : (backL ρ' bs 0 l2).map (·.key) = ρ' := by
    rw [backL_keys, hlen']
    apply List.ext_getElem?
    intro i
    by_cases hi : i < ρ'.length
    · simp [hi]
    · rw [List.getElem?_eq_none (by simp; omega), List.getElem?_eq_none (by omega)]
  rw [hbk] at hmem
  replace hmem := hmem hn' (fun e he => hkin e.key (by rw [← hbk]; exact List.mem_map_of_mem he))
  have hbe : ∀ {e}, e ∈ backL ρ' bs 0 l2 → ∃ j v c L, j < ρ'.length ∧ l2[j]? = some (v, c) ∧ e = ⟨ρ'.getD j 0, bs.getD j 0 + v, upC ρ' bs c⟩ ∧ φ2 j = some L ∧ L.ver = v ∧ ContRel φ2 w2 (Fo (GCall φ G m ρ B) φ2 (mkM 0 l2)) L c := by
    intro e he
    obtain ⟨j, v, c, hj, rfl⟩ := backL_mem.1 he
    have hjl := (List.getElem?_eq_some_iff.1 hj).1
    obtain ⟨L, hL, hver, hc⟩ := h2.ents ⟨0 + j, v, c⟩ (mkM_mem.2 ⟨j, v, c, hj, rfl⟩)
    simp only [Nat.zero_add] at hL ⊢
    exact ⟨j, v, c, L, by omega, hj, rfl, hL, hver, hc⟩
  have hown1 := sel_own (φ := φ) (nv := nv0) (bor := fun k => B.contains k) hall
  have hown2 : ∀ b, Own φ' (putAll m (backL ρ' bs 0 l2)) b ↔ Own φ2 (mkM 0 l2) b ∨ ∃ e ∈ m, e.key ∉ ρ' ∧ ∃ L, φ e.key = some L ∧ e.cont.owns L ∧ L.blk = b := by
    intro b
    constructor
    · rintro ⟨e, he, L, hL, ho, rfl⟩
      rcases (hmem e).1 he with he | ⟨he, hne⟩
      · obtain ⟨j, v, c, L2, hjl, hj, rfl, hL2, hver, hc⟩ := hbe he
        left
        simp only [hup j L2 hL2, Option.some.injEq] at hL
        subst hL
        exact ⟨⟨0 + j, v, c⟩, mkM_mem.2 ⟨j, v, c, hj, rfl⟩, L2, by simpa using hL2, owns_ver.1 (upC_owns.1 ho), rfl⟩
      · right; exact ⟨e, he, hne, L, by rw [← hφout hne]; exact hL, ho, rfl⟩
    · rintro (⟨e2, he2, L, hL, ho, rfl⟩ | ⟨e, he, hne, L, hL, ho, rfl⟩)
      · obtain ⟨j, v, c, hj, rfl⟩ := mkM_mem.1 he2
        simp only [Nat.zero_add] at hL
        exact ⟨⟨ρ'.getD j 0, bs.getD j 0 + v, upC ρ' bs c⟩, (hmem _).2 (.inl (backL_mem.2 ⟨j, v, c, hj, by simp⟩)), _, hup j L hL, upC_owns.2 (owns_ver.2 ho), rfl⟩
      · exact ⟨e, (hmem _).2 (.inr ⟨he, hne⟩), L, by rw [hφout hne]; exact hL, ho, rfl⟩
  have hnρ : ∀ {k}, k ∉ ρ' → k ∉ ρ := fun hk' h1 => hk' (by rw [hρ']; exact List.mem_append_left _ h1)
  -- an entry beside shares no block with the callee's
  have hbeside : ∀ e ∈ m, e.key ∉ ρ → ∀ L, φ e.key = some L → e.cont.owns L → ¬ OwnK φ m ρ L.blk := fun e he hne L hL ho =>
    ownK_apart h (Mem.get_of_mem h.nodup he) hL ho hne
  have hle : φ.le φ' := by
    intro k L hL
    by_cases hk' : k ∈ ρ'
    · obtain ⟨i, hi, rfl⟩ := List.mem_iff_getElem.1 hk'
      have hgd : ρ'.getD i 0 = ρ'[i] := by simp [hi]
      obtain ⟨e, he⟩ := Option.isSome_iff_exists.1 (hsome' _ hk')
      obtain ⟨_, _, L0, hL0, hver, _⟩ := h.get he
      rw [hL] at hL0; cases hL0
      by_cases hir : i < ρ.length
      · have hgr : ρ[i]? = some ρ'[i] := by simp only [hρ']; rw [List.getElem_append_left hir]; simp
        have hbi : bs.getD i 0 = L.ver := by
          rw [hbs, List.getD_eq_getElem?_getD, List.getElem?_append_left (by rw [base_length]; exact hir), base_get, hgr]
          simp [he, hver]
        obtain ⟨L', h3, h4, h5⟩ := hk.le i { L with ver := 0 } (by simp [Phi.sel, hgr, hL, nv0])
        refine ⟨{ L' with ver := bs.getD i 0 + L'.ver }, by rw [← hgd]; exact hup i L' h3, by simp only; omega, fun he2 => ?_⟩
        simp only at he2
        have h6 := h5 (by simp only; omega)
        subst h6
        simp only [hbi, Nat.add_zero]
      · have hil : i < l2.length := by omega
        obtain ⟨L', hL', _, _⟩ := h2.ents ⟨0 + i, l2[i].1, l2[i].2⟩ (mkM_mem.2 ⟨i, _, _, by simp [hil], rfl⟩)
        simp only [Nat.zero_add] at hL'
        have hgr : fr[i - ρ.length]? = some ρ'[i] := by
          simp only [hρ'] at hi ⊢
          rw [List.getElem_append_right (by omega)]
          simp
        have hbi : bs.getD i 0 = L.ver + 1 := by
          rw [hbs, List.getD_eq_getElem?_getD, List.getElem?_append_right (by rw [base_length]; omega), base_length, base_get, hgr]
          simp [he, hver]
        refine ⟨{ L' with ver := bs.getD i 0 + L'.ver }, by rw [← hgd]; exact hup i L' hL', by simp only; omega, fun he2 => ?_⟩
        simp only at he2
        omega
    · exact ⟨L, by rw [hφout hk']; exact hL, Nat.le_refl _, fun _ => rfl⟩
  have hkown : ∀ b, b < w.heap.size → Own φ' (putAll m (backL ρ' bs 0 l2)) b → Own φ m b := by
    intro b hb hob
    rcases (hown2 b).1 hob with h3 | ⟨e, he, _, L, hL, ho, hbl⟩
    · exact ((hown1 b).1 (hk.own b hb h3)).own
    · exact ⟨e, he, L, hL, ho, hbl⟩
  have hold : ∀ b, b < w.heap.size → ¬ Own φ m b → w2.heap[b]? = w.heap[b]? := fun b hb hno => hk.old b hb (fun ho => hno ((hown1 b).1 ho).own)
  have hFF : B = [] → ∀ b, Fo G φ' (putAll m (backL ρ' bs 0 l2)) b → Fo (GCall φ G m ρ B) φ2 (mkM 0 l2) b := by
    rintro rfl b (hG | ho)
    · refine .inl ⟨.inl hG, fun ho => h.notG b ho.own hG, ?_⟩
      rintro ⟨k, hk', _⟩; simp at hk'
    · rcases (hown2 b).1 ho with h3 | ⟨e, he, hne, L, hL, ho5, rfl⟩
      · exact .inr h3
      · refine .inl ⟨.inr ⟨e, he, L, hL, ho5, rfl⟩, hbeside e he (hnρ hne) L hL ho5, ?_⟩
        rintro ⟨k, hk', _⟩; simp at hk'
  have hav : ∀ x v, (B = [] ∨ plainAV x = true) → AVRel φ2 w2 (Fo (GCall φ G m ρ B) φ2 (mkM 0 l2)) x v → AVRel φ' w2 (Fo G φ' (putAll m (backL ρ' bs 0 l2))) (up ρ' bs x) v :=
    fun x v hx hr => hr.upR hup (hx.imp hFF id)
  have hdv : ∀ d v, (B = [] ∨ plainD d = true) → DRel w2 (Fo (GCall φ G m ρ B) φ2 (mkM 0 l2)) d v → DRel w2 (Fo G φ' (putAll m (backL ρ' bs 0 l2))) d v := fun d v hx hr => by
    rcases hx with hx | hx
    · exact hr.mono (fun _ _ _ => rfl) (Nat.le_refl _) (fun b _ => hFF hx b)
    · exact hr.plain hx
  refine ⟨φ', ⟨?_, ?_, ?_, ?_, ?_, ?_⟩, ⟨hle, hold, hkown, hk.size, hk.os, hk.tape, hk.output⟩, hav⟩
  · rw [putAll_keys]; exact h.nodup
  · intro k L hL
    rw [putAll_keys]
    by_cases hk' : k ∈ ρ'
    · exact hkin k hk'
    · rw [hφout hk'] at hL; exact h.dom k L hL
  · intro e he
    rcases (hmem e).1 he with he | ⟨he, hne⟩
    · obtain ⟨j, v, c, L2, hjl, hj, rfl, hL2, hver, hc⟩ := hbe he
      refine ⟨_, hup j L2 hL2, by simp [hver], ?_⟩
      have hpc : B = [] ∨ plainC c = true := hpl.imp id fun hp => hp (v, c) (List.mem_of_getElem? hj)
      cases c with
      | dead => trivial
      | box cs =>
        obtain ⟨arr, elem, g1, g2, g3, g4⟩ := hc
        refine ⟨arr, elem, g1, by simp [ups_length, g2], g3, fun i c v hci hv => ?_⟩
        rw [ups_get] at hci
        obtain ⟨y, hy, rfl⟩ := Option.map_eq_some_iff.1 hci
        exact hav y v (hpc.imp id fun hp => plainAVs_mem (by simpa only [plainC] using hp) y (List.mem_of_getElem? hy)) (g4 i y v hy hv)
      | vec sz rows =>
        obtain ⟨g1, g2, g3, g4⟩ := hc
        refine ⟨g1, g2, g3, fun h0 => ?_⟩
        obtain ⟨arr, elem, f1, f2, f3, f4⟩ := g4 h0
        exact ⟨arr, elem, f1, f2, f3, fun i d hd' => let ⟨v, hv, hj⟩ := f4 i d hd'; ⟨v, hdv d v (hpc.imp id fun hp => plainDs_mem (by simpa only [plainC] using hp) d (List.mem_of_getElem? hd')) hv, hj⟩⟩
    · obtain ⟨L, hL, hver, hc⟩ := h.ents e he
      refine ⟨L, by rw [hφout hne]; exact hL, hver, hc.mono hle (fun b hb hno => hold b hb (fun ho => hno (.inr ho))) hk.size (fun b hb => Or.imp id (hkown b hb)) (fun ho => ?_)⟩
      exact hk.old _ (hc.lt ho) (fun h1 => hbeside e he (hnρ hne) L hL ho ((hown1 _).1 h1))
  · intro e he e' he' L L' hL hL' ho ho' hb
    have cross : ∀ {j v c L2 e'' L''}, l2[j]? = some (v, c) → φ2 j = some L2 → c.owns L2 → e'' ∈ m → e''.key ∉ ρ' → φ e''.key = some L'' → e''.cont.owns L'' → L2.blk = L''.blk → False := by
      intro j v c L2 e'' L'' hj hL2 hc he'' hne hL'' ho'' hbb
      have hlt : L''.blk < w.heap.size := h.own_lt ⟨e'', he'', L'', hL'', ho'', rfl⟩
      have h3 : Own φ2 (mkM 0 l2) L2.blk := ⟨⟨0 + j, v, c⟩, mkM_mem.2 ⟨j, v, c, hj, rfl⟩, L2, by simpa using hL2, hc, rfl⟩
      rw [hbb] at h3
      exact hbeside e'' he'' (hnρ hne) L'' hL'' ho'' ((hown1 _).1 (hk.own _ hlt h3))
    rcases (hmem e).1 he with he | ⟨he, hne⟩ <;> rcases (hmem e').1 he' with he' | ⟨he', hne'⟩
    · obtain ⟨j, v, c, L2, hjl, hj, rfl, hL2, _, _⟩ := hbe he
      obtain ⟨j', v', c', L2', hjl', hj', rfl, hL2', _, _⟩ := hbe he'
      simp only [hup j L2 hL2, hup j' L2' hL2', Option.some.injEq] at hL hL'
      subst hL; subst hL'
      have := h2.apart ⟨0 + j, v, c⟩ (mkM_mem.2 ⟨j, v, c, hj, rfl⟩) ⟨0 + j', v', c'⟩ (mkM_mem.2 ⟨j', v', c', hj', rfl⟩) L2 L2' (by simpa using hL2) (by simpa using hL2') (owns_ver.1 (upC_owns.1 ho)) (owns_ver.1 (upC_owns.1 ho')) hb
      simp only [Nat.zero_add] at this
      rw [this]
    · obtain ⟨j, v, c, L2, hjl, hj, rfl, hL2, _, _⟩ := hbe he
      simp only [hup j L2 hL2, Option.some.injEq] at hL
      subst hL
      exact (cross hj hL2 (owns_ver.1 (upC_owns.1 ho)) he' hne' (by rw [← hφout hne']; exact hL') ho' hb).elim
    · obtain ⟨j, v, c, L2, hjl, hj, rfl, hL2, _, _⟩ := hbe he'
      simp only [hup j L2 hL2, Option.some.injEq] at hL'
      subst hL'
      exact (cross hj hL2 (owns_ver.1 (upC_owns.1 ho')) he hne (by rw [← hφout hne]; exact hL) ho hb.symm).elim
    · exact h.apart e he e' he' L L' (by rw [← hφout hne]; exact hL) (by rw [← hφout hne']; exact hL') ho ho' hb
  · intro b hob hG
    rcases (hown2 b).1 hob with h3 | ⟨e, he, _, L, hL, ho, rfl⟩
    · exact h.notG b ((hown1 b).1 (hk.own b (h.bound b hG) h3)).own hG
    · exact h.notG _ ⟨e, he, L, hL, ho, rfl⟩ hG
  · exact fun b hG => Nat.lt_of_lt_of_le (h.bound b hG) hk.size
end
end Go.Am

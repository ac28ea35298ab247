/-
  The abstract machine, part 15: functions; a part of the memory by new names.
-/
import Derived.Test.YtlbbjmbfclmmdaaDoorAm14
namespace Go.Am
open Go

inductive Out where
  | ret (x : AV)
  | panic (t : TypeId) (x : D)

def OutRel (φ : Phi) (w : World) (F : Nat → Prop) : Out → Ending → Prop
  | .ret x, .returned v => AVRel φ w F x v
  | .panic t x, .panicked chain => ∃ v, chain = [{ v := .iface t v, recovered := false }] ∧ DRel w F x v
  | _, _ => False

/-- The call of f at these arguments and this memory (its keys are the callee's own names) ends as K says. -/
def Ev (P : Program) (gl : List (Nat × D)) (f : FuncId) (args : List AV) (m : Mem) (K : Out → Mem → Prop) : Prop :=
  ∀ φ G w (vs : Array Value), MemRel φ G m w → GlobRel w (Fo G φ m) gl → args.length = vs.size → (∀ (i : Nat) x v, args[i]? = some x → vs[i]? = some v → AVRel φ w (Fo G φ m) x v) →
    Calls P f vs w fun e w' => ∃ φ' m' out, K out m' ∧ MemRel φ' G m' w' ∧ Keeps φ m w φ' m' w' ∧ OutRel φ' w' (Fo G φ' m') out e

theorem Ev.mono {P gl f args m K K'} (h : Ev P gl f args m K) (hk : ∀ o m, K o m → K' o m) : Ev P gl f args m K' :=
  fun φ G w vs hm hg hl ha => (h φ G w vs hm hg hl ha).mono fun _ _ ⟨φ', m', out, h1, h2⟩ => ⟨φ', m', out, hk _ _ h1, h2⟩

/- Names. -/
def findK : List Nat → Nat → Nat → Option Nat
  | [], _, _ => none
  | a :: r, k, i => if a = k then some i else findK r k (i + 1)

theorem findK_some : ∀ {ρ : List Nat} {k j i : Nat}, findK ρ k j = some i → j ≤ i ∧ ρ[i - j]? = some k
  | [], k, j, i, h => by simp [findK] at h
  | a :: r, k, j, i, h => by
    simp only [findK] at h
    split at h
    · rename_i hk; cases h; subst hk; simp
    · obtain ⟨h1, h2⟩ := findK_some h
      refine ⟨by omega, ?_⟩
      rw [show i - j = (i - (j + 1)) + 1 by omega]
      simpa using h2
theorem findK_none : ∀ {ρ : List Nat} {k j : Nat}, findK ρ k j = none ↔ k ∉ ρ
  | [], k, j => by simp [findK]
  | a :: r, k, j => by
    simp only [findK, List.mem_cons, not_or]
    split
    · rename_i hk; subst hk; simp
    · rename_i hk
      rw [findK_none]
      constructor
      · exact fun h => ⟨fun h' => hk h'.symm, h⟩
      · exact fun h => h.2
theorem findK_get {ρ : List Nat} (hn : ρ.Nodup) {i k : Nat} (h : ρ[i]? = some k) : findK ρ k 0 = some i := by
  cases hf : findK ρ k 0 with
  | none => exact absurd (List.mem_of_getElem? h) (findK_none.1 hf)
  | some j =>
    obtain ⟨_, h2⟩ := findK_some hf
    simp only [Nat.sub_zero] at h2
    obtain ⟨hi, h3⟩ := List.getElem?_eq_some_iff.1 h
    obtain ⟨hj, h4⟩ := List.getElem?_eq_some_iff.1 h2
    have := (List.getElem_inj hn).1 (h3.trans h4.symm)
    rw [this]

mutual
/-- An abstract value by the new names ρ of its keys; what is no longer true of it is forgotten. -/
def vw (m : Mem) (ρ : List Nat) (bor : Nat → Bool) (nv : Nat → Nat → Nat) : AV → AV
  | .ptr k ver off => match Mem.get m k, findK ρ k 0 with
    | some e, some i => if e.ver = ver then .ptr i (nv i ver) off else .junk
    | _, _ => .junk
  | .vec k ver off len => match Mem.get m k, findK ρ k 0 with
    | some e, some i => if e.ver = ver then .vec i (nv i ver) off len else .junk
    | some ⟨_, v, .vec _ rows⟩, none => if bor k = true ∧ v = ver ∧ off + len ≤ rows.length then .d (.list ((rows.drop off).take len)) else .junk
    | _, _ => .junk
  | .eptr k ver i j => match Mem.get m k, findK ρ k 0 with
    | some e, some n => if e.ver = ver then .eptr n (nv n ver) i j else .junk
    | _, _ => .junk
  | .agg cs => .agg (vws m ρ bor nv cs)
  | .fn f cap => .fn f (vws m ρ bor nv cap)
  | .tup vs => .tup (vws m ρ bor nv vs)
  | .junk => .junk
  | .d x => .d x
  | .rptr x j => .rptr x j
  | .ifc t x => .ifc t x
  | .lit v => .lit v
  | .nn => .nn
def vws (m : Mem) (ρ : List Nat) (bor : Nat → Bool) (nv : Nat → Nat → Nat) : List AV → List AV
  | [] => []
  | x :: r => vw m ρ bor nv x :: vws m ρ bor nv r
end
theorem vws_get (m ρ bor nv) : ∀ (l : List AV) (i : Nat), (vws m ρ bor nv l)[i]? = (l[i]?).map (vw m ρ bor nv)
  | [], i => by simp [vws]
  | x :: r, i => by cases i with | zero => simp [vws] | succ i => simp [vws, vws_get m ρ bor nv r i]
theorem vws_length (m ρ bor nv) : ∀ (l : List AV), (vws m ρ bor nv l).length = l.length
  | [] => rfl
  | x :: r => by simp [vws, vws_length m ρ bor nv r]

def Phi.sel (φ : Phi) (ρ : List Nat) (nv : Nat → Nat → Nat) : Phi := fun i =>
  match ρ[i]? with
  | some k => (φ k).map fun L => { L with ver := nv i L.ver }
  | none => none

/-- What the keys ρ own. -/
def OwnK (φ : Phi) (m : Mem) (ρ : List Nat) (b : Nat) : Prop := ∃ k ∈ ρ, ∃ e L, Mem.get m k = some e ∧ φ k = some L ∧ e.cont.owns L ∧ L.blk = b

theorem OwnK.own {φ m ρ b} (h : OwnK φ m ρ b) : Own φ m b := by
  obtain ⟨k, _, e, L, hg, hL, ho, rfl⟩ := h
  obtain ⟨hm, rfl⟩ := Mem.get_mem hg
  exact ⟨e, hm, L, hL, ho, rfl⟩

theorem ownK_apart {φ G m w} (h : MemRel φ G m w) {ρ : List Nat} {k : Nat} {e : Ent} {L : Loc} (hg : Mem.get m k = some e) (hL : φ k = some L) (ho : e.cont.owns L) (hk : k ∉ ρ) : ¬ OwnK φ m ρ L.blk := by
  rintro ⟨k', hk', e', L', hg', hL', ho', hb⟩
  obtain ⟨hm, rfl⟩ := Mem.get_mem hg
  obtain ⟨hm', rfl⟩ := Mem.get_mem hg'
  have := h.apart e' hm' e hm L' L hL' hL ho' ho hb
  exact hk (this ▸ hk')

theorem list_of_rows {w : World} {F F' : Nat → Prop} {sz : Nat} {ds : List D} {cs : List Value} {b off cap : Nat} (hr : RowsAt w F sz ds cs) (hc : ∀ (j : Nat) v, cs[j]? = some v → w.cell? ⟨b, off + j, none⟩ = some v)
    (hb : b < w.heap.size) (hF : ∀ b, F' b → F b) (hFb : ¬ F' b) (hcap : ds.length ≤ cap) : DRel w F' (.list ds) (.slice (some ⟨b, off, none⟩) ds.length cap) := by
  obtain ⟨h1, h2, h3, h4⟩ := hr
  refine .list ds b off cap sz (fun i => if h : i < ds.length then Classical.choose (h4 i ds[i] (by simp [h])) else undef) hcap hb hFb h3 (fun i d hd => ?_) (fun i j c hi hj => ?_)
  · have hi := (List.getElem?_eq_some_iff.1 hd).1
    have := Classical.choose_spec (h4 i ds[i] (by simp [hi]))
    simp only [hi, dif_pos]
    have e : ds[i] = d := (List.getElem?_eq_some_iff.1 hd).2
    rw [← e]
    exact this.1.mono (fun _ _ _ => rfl) (Nat.le_refl _) (fun b _ => hF b)
  · have := Classical.choose_spec (h4 i ds[i] (by simp [hi]))
    simp only [hi, dif_pos] at hj
    have h5 := hc _ _ (this.2 j c hj)
    rw [← Nat.add_assoc] at h5
    exact h5
theorem vec_list {φ w F F'} {k ver off len sz : Nat} {rows : List D} {L : Loc} {v : Value} (hv : AVRel φ w F (.vec k ver off len) v) (hL : φ k = some L) (hver : L.ver = ver) (hc : ContRel φ w F L (.vec sz rows)) (hle : off + len ≤ rows.length)
    (hF : ∀ b, F' b → F b) (hFb : 0 < L.cap → ¬ F' L.blk) : DRel w F' (.list ((rows.drop off).take len)) v := by
  have hlen : ((rows.drop off).take len).length = len := by simp; omega
  cases hv with
  | vec _ _ _ _ _ L' hL' _ h _ =>
    rw [hL] at hL'; cases hL'
    obtain ⟨ao, cap, rfl, hlc, hpl⟩ := h hver.symm
    clear h
    by_cases hl0 : len = 0
    · subst hl0
      simp only [List.take_zero]
      exact .nil _ _ (fun hn => by
        subst hn
        rcases Nat.eq_zero_or_pos cap with h0 | h0
        · exact h0
        · obtain ⟨h1, _⟩ := hpl h0; cases h1)
    · obtain ⟨rfl, hcapeq⟩ := hpl (by omega)
      obtain ⟨arr, elem, hh, hasz, ha1, hr⟩ := rows_of_vec hc (by omega)
      have hr2 := (hr.drop off).take len (by simp; omega)
      have := list_of_rows (F' := F') (b := L.blk) (off := L.base + off * L.sz) (cap := cap) hr2 (fun j u hj => by
        rw [cell?_row hh, hc.1]
        rw [List.getElem?_take] at hj
        split at hj
        · rw [List.getElem?_drop, List.getElem?_take] at hj
          split at hj
          · rw [List.getElem?_drop] at hj
            rw [Nat.add_assoc]
            simpa using hj
          · cases hj
        · cases hj) (Array.getElem?_eq_some_iff.1 hh).1 hF (hFb (by omega)) (by omega)
      rw [hlen] at this
      exact this

section
variable {φ : Phi} {G : Nat → Prop} {m : Mem} {w : World} {ρ : List Nat} {bor : Nat → Bool} {nv : Nat → Nat → Nat} {F1 : Nat → Prop}

theorem sel_key {k i : Nat} {L : Loc} (hi : findK ρ k 0 = some i) (hL : φ k = some L) : φ.sel ρ nv i = some { L with ver := nv i L.ver } := by
  obtain ⟨_, h2⟩ := findK_some hi
  simp only [Nat.sub_zero] at h2
  simp [Phi.sel, h2, hL]

theorem vw_rel (hm : MemRel φ G m w) (hF : ∀ b, F1 b → Fo G φ m b)
    (hbor : ∀ k e L, Mem.get m k = some e → k ∉ ρ → bor k = true → φ k = some L → e.cont.owns L → ¬ F1 L.blk) {y v} (h : AVRel φ w (Fo G φ m) y v) : AVRel (φ.sel ρ nv) w F1 (vw m ρ bor nv y) v := by
  induction h with
  | junk v => exact .junk v
  | d x v h => exact .d x v (h.mono (fun _ _ _ => rfl) (Nat.le_refl _) (fun b _ => hF b))
  | agg cs a hl h1 _ ih =>
    refine .agg _ a (by rw [vws_length]; exact hl) h1 (fun i c v hc hv => ?_)
    rw [vws_get] at hc
    obtain ⟨y, hy, rfl⟩ := Option.map_eq_some_iff.1 hc
    exact ih i y v hy hv
  | ptr k ver off v L hL hv h h1 =>
    unfold vw
    split
    · rename_i e i hg hi
      split
      · rename_i he
        obtain ⟨_, _, L', hL', hver, _⟩ := hm.get hg
        rw [hL] at hL'; cases hL'
        have e1 : L.ver = ver := by rw [hver]; exact he
        refine .ptr i _ off v _ (sel_key hi hL) (by simp [e1]) (fun _ => h e1.symm) h1
      · exact .junk _
    · exact .junk _
  | vec k ver off len v L hL hv h h1 =>
    unfold vw
    split
    · rename_i e i hg hi
      split
      · rename_i he
        obtain ⟨_, _, L', hL', hver, _⟩ := hm.get hg
        rw [hL] at hL'; cases hL'
        have e1 : L.ver = ver := by rw [hver]; exact he
        refine .vec i _ off len v _ (sel_key hi hL) (by simp [e1]) (fun _ => h e1.symm) h1
      · exact .junk _
    · rename_i key v' sz rows hg hi
      split
      · rename_i hc
        obtain ⟨hb, rfl, hle⟩ := hc
        obtain ⟨_, _, L', hL', hver, hcr⟩ := hm.get hg
        rw [hL] at hL'; cases hL'
        refine .d _ _ (vec_list (.vec k v' off len v L hL hv h h1) hL hver hcr hle hF (fun ho => ?_))
        exact hbor k _ L hg (findK_none.1 hi) hb hL ho
      · exact .junk _
    · exact .junk _
  | eptr k ver i j v L hL hv h h1 =>
    unfold vw
    split
    · rename_i e n hg hi
      split
      · rename_i he
        obtain ⟨_, _, L', hL', hver, _⟩ := hm.get hg
        rw [hL] at hL'; cases hL'
        have e1 : L.ver = ver := by rw [hver]; exact he
        refine .eptr n _ i j v _ (sel_key hi hL) (by simp [e1]) (fun _ => h e1.symm) h1
      · exact .junk _
    · exact .junk _
  | rptr x j b off x' hb hFb hx hc =>
    exact .rptr x j b off x' hb (fun h => hFb (hF b h)) (hx.mono (fun _ _ _ => rfl) (Nat.le_refl _) (fun b _ => hF b)) hc
  | fn f cap a hl _ ih =>
    refine .fn f _ a (by rw [vws_length]; exact hl) (fun i c v hc hv => ?_)
    rw [vws_get] at hc
    obtain ⟨y, hy, rfl⟩ := Option.map_eq_some_iff.1 hc
    exact ih i y v hy hv
  | tup vs a hl _ ih =>
    refine .tup _ a (by rw [vws_length]; exact hl) (fun i c v hc hv => ?_)
    rw [vws_get] at hc
    obtain ⟨y, hy, rfl⟩ := Option.map_eq_some_iff.1 hc
    exact ih i y v hy hv
  | ifc t x v h => exact .ifc t x v (h.mono (fun _ _ _ => rfl) (Nat.le_refl _) (fun b _ => hF b))
  | lit v h => exact .lit v h
  | nn a cap => exact .nn a cap
end

/- Memory by its places. -/
def mkM : Nat → List (Nat × Cont) → Mem
  | _, [] => []
  | i, (v, c) :: r => ⟨i, v, c⟩ :: mkM (i + 1) r
theorem mkM_keys : ∀ (l : List (Nat × Cont)) (i : Nat), (mkM i l).map (·.key) = List.range' i l.length
  | [], i => rfl
  | (v, c) :: r, i => by simp [mkM, mkM_keys r, List.range'_succ]
theorem mkM_mem : ∀ {l : List (Nat × Cont)} {i : Nat} {e : Ent}, e ∈ mkM i l ↔ ∃ j v c, l[j]? = some (v, c) ∧ e = ⟨i + j, v, c⟩
  | [], i, e => by simp [mkM]
  | (v, c) :: r, i, e => by
    simp only [mkM, List.mem_cons, mkM_mem (l := r)]
    constructor
    · rintro (rfl | ⟨j, v', c', h, rfl⟩)
      · exact ⟨0, v, c, by simp, by simp⟩
      · exact ⟨j + 1, v', c', by simpa using h, by simp; omega⟩
    · rintro ⟨j, v', c', h, rfl⟩
      cases j with
      | zero => simp at h; obtain ⟨rfl, rfl⟩ := h; left; simp
      | succ j => right; exact ⟨j, v', c', by simpa using h, by simp; omega⟩

def selC (m : Mem) (ρ : List Nat) (bor : Nat → Bool) (nv : Nat → Nat → Nat) : Cont → Cont
  | .dead => .dead
  | .box cs => .box (vws m ρ bor nv cs)
  | .vec sz rows => .vec sz rows
def selE (m : Mem) (ρ : List Nat) (bor : Nat → Bool) (nv : Nat → Nat → Nat) (i : Nat) : Option Ent → Nat × Cont
  | some e => (nv i e.ver, selC m ρ bor nv e.cont)
  | none => (0, .dead)
def selL (m : Mem) (ρ : List Nat) (bor : Nat → Bool) (nv : Nat → Nat → Nat) : Nat → List Nat → List (Nat × Cont)
  | _, [] => []
  | i, k :: r => selE m ρ bor nv i (Mem.get m k) :: selL m ρ bor nv (i + 1) r
theorem selL_get (m ρ bor nv) : ∀ (l : List Nat) (i j : Nat), (selL m ρ bor nv i l)[j]? = (l[j]?).map fun k => selE m ρ bor nv (i + j) (Mem.get m k)
  | [], i, j => by simp [selL]
  | k :: r, i, j => by
    cases j with
    | zero => simp [selL]
    | succ j => simp [selL, selL_get m ρ bor nv r (i + 1) j, Nat.add_assoc, Nat.add_comm 1 j]
theorem selL_length (m ρ bor nv) : ∀ (l : List Nat) (i : Nat), (selL m ρ bor nv i l).length = l.length
  | [], i => rfl
  | k :: r, i => by simp [selL, selL_length m ρ bor nv r]

theorem selC_owns {m ρ bor nv L c} : (selC m ρ bor nv c).owns L ↔ c.owns L := by cases c <;> exact Iff.rfl
theorem owns_ver {L : Loc} {c : Cont} {v : Nat} : c.owns { L with ver := v } ↔ c.owns L := by cases c <;> exact Iff.rfl

section
variable {φ : Phi} {G G1 : Nat → Prop} {m : Mem} {w : World} {ρ : List Nat} {bor : Nat → Bool} {nv : Nat → Nat → Nat}

theorem sel_own (hall : ∀ k ∈ ρ, (Mem.get m k).isSome = true) (b : Nat) : Own (φ.sel ρ nv) (mkM 0 (selL m ρ bor nv 0 ρ)) b ↔ OwnK φ m ρ b := by
  constructor
  · rintro ⟨e, he, L, hL, ho, rfl⟩
    obtain ⟨j, v, c, hj, rfl⟩ := mkM_mem.1 he
    rw [selL_get] at hj
    obtain ⟨k, hk, hkk⟩ := Option.map_eq_some_iff.1 hj
    simp only [Nat.zero_add, Phi.sel, hk, Option.map_eq_some_iff] at hL
    obtain ⟨L0, hL0, rfl⟩ := hL
    have hmem := List.mem_of_getElem? hk
    have := hall k hmem
    obtain ⟨e0, he0⟩ := Option.isSome_iff_exists.1 this
    rw [he0] at hkk
    simp only [selE, Prod.mk.injEq] at hkk
    obtain ⟨rfl, rfl⟩ := hkk
    exact ⟨k, hmem, e0, L0, he0, hL0, owns_ver.1 (selC_owns.1 ho), rfl⟩
  · rintro ⟨k, hk, e, L, hg, hL, ho, rfl⟩
    obtain ⟨j, hj, rfl⟩ := List.mem_iff_getElem.1 hk
    refine ⟨⟨0 + j, nv j e.ver, selC m ρ bor nv e.cont⟩, mkM_mem.2 ⟨j, _, _, ?_, rfl⟩, { L with ver := nv j L.ver }, ?_, selC_owns.2 (owns_ver.2 ho), rfl⟩
    · rw [selL_get]; simp [hj, hg, selE]
    · simp [Phi.sel, hj, hL]

theorem sel_mem (hm : MemRel φ G m w) (hn : ρ.Nodup) (hall : ∀ k ∈ ρ, (Mem.get m k).isSome = true) (hG : ∀ b, G1 b → Fo G φ m b) (hG1 : ∀ b, OwnK φ m ρ b → ¬ G1 b)
    (hbor : ∀ k e L, Mem.get m k = some e → k ∉ ρ → bor k = true → φ k = some L → e.cont.owns L → ¬ G1 L.blk) :
    MemRel (φ.sel ρ nv) G1 (mkM 0 (selL m ρ bor nv 0 ρ)) w ∧ (∀ y v, AVRel φ w (Fo G φ m) y v → AVRel (φ.sel ρ nv) w (Fo G1 (φ.sel ρ nv) (mkM 0 (selL m ρ bor nv 0 ρ))) (vw m ρ bor nv y) v) ∧
      (∀ b, Fo G1 (φ.sel ρ nv) (mkM 0 (selL m ρ bor nv 0 ρ)) b → Fo G φ m b) := by
  have hown := sel_own (φ := φ) (nv := nv) (bor := bor) hall
  have hF : ∀ b, Fo G1 (φ.sel ρ nv) (mkM 0 (selL m ρ bor nv 0 ρ)) b → Fo G φ m b := by
    rintro b (h | h)
    · exact hG b h
    · exact .inr ((hown b).1 h).own
  have hb : ∀ k e L, Mem.get m k = some e → k ∉ ρ → bor k = true → φ k = some L → e.cont.owns L → ¬ Fo G1 (φ.sel ρ nv) (mkM 0 (selL m ρ bor nv 0 ρ)) L.blk := by
    rintro k e L hg hk hbk hL ho (h | h)
    · exact hbor k e L hg hk hbk hL ho h
    · exact ownK_apart hm hg hL ho hk ((hown _).1 h)
  have hav : ∀ y v, AVRel φ w (Fo G φ m) y v → AVRel (φ.sel ρ nv) w (Fo G1 (φ.sel ρ nv) (mkM 0 (selL m ρ bor nv 0 ρ))) (vw m ρ bor nv y) v := fun y v h => vw_rel hm hF hb h
  have hd : ∀ x v, DRel w (Fo G φ m) x v → DRel w (Fo G1 (φ.sel ρ nv) (mkM 0 (selL m ρ bor nv 0 ρ))) x v := fun x v h => h.mono (fun _ _ _ => rfl) (Nat.le_refl _) (fun b _ => hF b)
  have part : ∀ {e : Ent}, e ∈ mkM 0 (selL m ρ bor nv 0 ρ) → ∃ j k e0 L0, ρ[j]? = some k ∧ Mem.get m k = some e0 ∧ φ k = some L0 ∧ L0.ver = e0.ver ∧ ContRel φ w (Fo G φ m) L0 e0.cont ∧ e = ⟨j, nv j e0.ver, selC m ρ bor nv e0.cont⟩ := by
    intro e he
    obtain ⟨j, v, c, hj, rfl⟩ := mkM_mem.1 he
    rw [selL_get] at hj
    obtain ⟨k, hk, hkk⟩ := Option.map_eq_some_iff.1 hj
    obtain ⟨e0, he0⟩ := Option.isSome_iff_exists.1 (hall k (List.mem_of_getElem? hk))
    rw [he0] at hkk
    simp only [selE, Prod.mk.injEq, Nat.zero_add] at hkk
    obtain ⟨rfl, rfl⟩ := hkk
    obtain ⟨_, _, L0, hL0, hver, hcr⟩ := hm.get he0
    exact ⟨j, k, e0, L0, hk, he0, hL0, hver, hcr, by simp⟩
  refine ⟨⟨?_, ?_, ?_, ?_, ?_, ?_⟩, hav, hF⟩
  · rw [mkM_keys]; exact List.nodup_range'
  · intro i L hL
    rw [mkM_keys, selL_length]
    simp only [Phi.sel] at hL
    split at hL
    · rename_i k hk
      have := (List.getElem?_eq_some_iff.1 hk).1
      simp [List.mem_range']; omega
    · cases hL
  · intro e he
    obtain ⟨j, k, e0, L0, hk, he0, hL0, hver, hcr, rfl⟩ := part he
    refine ⟨{ L0 with ver := nv j L0.ver }, by simp [Phi.sel, hk, hL0], by simp [hver], ?_⟩
    cases hc : e0.cont with
    | dead => trivial
    | box cs =>
      rw [hc] at hcr
      obtain ⟨arr, elem, g1, g2, g3, g4⟩ := hcr
      refine ⟨arr, elem, g1, by simp [vws_length, g2], g3, fun i c v hci hv => ?_⟩
      rw [vws_get] at hci
      obtain ⟨y, hy, rfl⟩ := Option.map_eq_some_iff.1 hci
      exact hav y v (g4 i y v hy hv)
    | vec sz rows =>
      rw [hc] at hcr
      obtain ⟨g1, g2, g3, g4⟩ := hcr
      refine ⟨g1, g2, g3, fun h0 => ?_⟩
      obtain ⟨arr, elem, f1, f2, f3, f4⟩ := g4 h0
      exact ⟨arr, elem, f1, f2, f3, fun i d hd' => let ⟨v, hv, hj⟩ := f4 i d hd'; ⟨v, hd _ _ hv, hj⟩⟩
  · intro e he e' he' L L' hL hL' ho ho' hbl
    obtain ⟨j, k, e0, L0, hk, he0, hL0, hver, hcr, rfl⟩ := part he
    obtain ⟨j', k', e0', L0', hk', he0', hL0', hver', hcr', rfl⟩ := part he'
    simp only [Phi.sel, hk, hL0, hk', hL0', Option.map_some, Option.some.injEq] at hL hL'
    subst hL; subst hL'
    obtain ⟨hm1, hk1⟩ := Mem.get_mem he0
    obtain ⟨hm2, hk2⟩ := Mem.get_mem he0'
    have := hm.apart e0 hm1 e0' hm2 L0 L0' (by rw [hk1]; exact hL0) (by rw [hk2]; exact hL0') (owns_ver.1 (selC_owns.1 ho)) (owns_ver.1 (selC_owns.1 ho')) hbl
    rw [hk1, hk2] at this
    obtain ⟨hi, h3⟩ := List.getElem?_eq_some_iff.1 hk
    obtain ⟨hj, h4⟩ := List.getElem?_eq_some_iff.1 hk'
    exact (List.getElem_inj hn).1 (h3.trans (this.trans h4.symm))
  · exact fun b hb' => hG1 b ((hown b).1 hb')
  · exact fun b hb' => fo_bound hm b (hG b hb')
end
end Go.Am

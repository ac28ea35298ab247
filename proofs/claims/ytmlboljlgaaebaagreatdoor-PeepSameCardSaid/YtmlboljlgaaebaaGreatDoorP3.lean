/-
  Texts of one proof, one behind the other.
-/
import Derived.Test.YtmlboljlgaaebaaGreatDoorP2
import Derived.Orders
set_option linter.all false
section
namespace Go.Am
open Go

inductive Out where
  | ret (x : AV)
  | panic (t : TypeId) (x : D)

def OutRel (φ : Phi) (w : World) (F : Nat → Prop) : Out → Ending → Prop
  | .ret x, .returned v => AVRel φ w F x v
  | .panic t x, .panicked chain => ∃ v, chain = [{ v := .iface t v, recovered := false }] ∧ DRel w F x v
  | _, _ => False

/-- The call of f at these arguments and this memory (its keys are the callee's own names) ends as K says. -/
def Ev (P : Program) (gl : List (Nat × D)) (f : FuncId) (args : List AV) (m : Mem) (K : Out → Mem → Prop) : Prop :=
  ∀ φ G w (vs : Array Value), MemRel φ G m w → GlobRel w (Fo G φ m) gl → args.length = vs.size → (∀ (i : Nat) x v, args[i]? = some x → vs[i]? = some v → AVRel φ w (Fo G φ m) x v) →
    Calls P f vs w fun e w' => ∃ φ' m' out, K out m' ∧ MemRel φ' G m' w' ∧ Keeps φ m w φ' m' w' ∧ OutRel φ' w' (Fo G φ' m') out e

theorem Ev.mono {P gl f args m K K'} (h : Ev P gl f args m K) (hk : ∀ o m, K o m → K' o m) : Ev P gl f args m K' :=
  fun φ G w vs hm hg hl ha => (h φ G w vs hm hg hl ha).mono fun _ _ ⟨φ', m', out, h1, h2⟩ => ⟨φ', m', out, hk _ _ h1, h2⟩

/- Names. -/
def findK : List Nat → Nat → Nat → Option Nat
  | [], _, _ => none
  | a :: r, k, i => if a = k then some i else findK r k (i + 1)

theorem findK_some : ∀ {ρ : List Nat} {k j i : Nat}, findK ρ k j = some i → j ≤ i ∧ ρ[i - j]? = some k
  | [], k, j, i, h => by simp [findK] at h
  | a :: r, k, j, i, h => by
    simp only [findK] at h
    split at h
    · rename_i hk; cases h; subst hk; simp
    · obtain ⟨h1, h2⟩ := findK_some h
      refine ⟨by omega, ?_⟩
      rw [show i - j = (i - (j + 1)) + 1 by omega]
      simpa using h2
theorem findK_none : ∀ {ρ : List Nat} {k j : Nat}, findK ρ k j = none ↔ k ∉ ρ
  | [], k, j => by simp [findK]
  | a :: r, k, j => by
    simp only [findK, List.mem_cons, not_or]
    split
    · rename_i hk; subst hk; simp
    · rename_i hk
      rw [findK_none]
      constructor
      · exact fun h => ⟨fun h' => hk h'.symm, h⟩
      · exact fun h => h.2
theorem findK_get {ρ : List Nat} (hn : ρ.Nodup) {i k : Nat} (h : ρ[i]? = some k) : findK ρ k 0 = some i := by
  cases hf : findK ρ k 0 with
  | none => exact absurd (List.mem_of_getElem? h) (findK_none.1 hf)
  | some j =>
    obtain ⟨_, h2⟩ := findK_some hf
    simp only [Nat.sub_zero] at h2
    obtain ⟨hi, h3⟩ := List.getElem?_eq_some_iff.1 h
    obtain ⟨hj, h4⟩ := List.getElem?_eq_some_iff.1 h2
    have := (List.getElem_inj hn).1 (h3.trans h4.symm)
    rw [this]

/-- Cells that are plain data. -/
def flats : List AV → Option (List D)
  | [] => some []
  | .d x :: r => match x.flat, flats r with
    | true, some ys => some (x :: ys)
    | _, _ => none
  | _ :: _ => none
theorem flats_get : ∀ {l : List AV} {ds : List D}, flats l = some ds → l = ds.map .d ∧ ∀ d ∈ ds, d.flat = true
  | [], ds, h => by simp [flats] at h; subst h; simp
  | x :: r, ds, h => by
    unfold flats at h
    split at h
    · rename_i heq; cases heq
    · rename_i y r' heq
      cases heq
      split at h
      · rename_i ys hf hys
        cases h
        obtain ⟨h1, h2⟩ := flats_get hys
        refine ⟨by rw [h1]; rfl, fun d hd => ?_⟩
        rcases List.mem_cons.1 hd with rfl | hd
        · exact hf
        · exact h2 d hd
      · cases h
    · cases h
def boxD : Option (List D) → AV
  | some ds => .d (.list ds)
  | none => .junk
mutual
/-- An abstract value by the new names ρ of its keys; what is no longer true of it is forgotten. -/
def vw (m : Mem) (ρ : List Nat) (bor : Nat → Bool) (nv : Nat → Nat → Nat) : AV → AV
  | .ptr k ver off => match Mem.get m k, findK ρ k 0 with
    | some e, some i => if e.ver = ver then .ptr i (nv i ver) off else .junk
    | _, _ => .junk
  | .vec k ver off len => match Mem.get m k, findK ρ k 0 with
    | some e, some i => if e.ver = ver then .vec i (nv i ver) off len else .junk
    | some ⟨_, v, .vec _ rows⟩, none => if bor k = true ∧ v = ver ∧ off + len ≤ rows.length then .d (.list ((rows.drop off).take len)) else .junk
    | some ⟨_, v, .box cs⟩, none => if bor k = true ∧ v = ver ∧ off + len ≤ cs.length then boxD (flats ((cs.drop off).take len)) else .junk
    | _, _ => .junk
  | .eptr k ver i j => match Mem.get m k, findK ρ k 0 with
    | some e, some n => if e.ver = ver then .eptr n (nv n ver) i j else .junk
    | _, _ => .junk
  | .agg cs => .agg (vws m ρ bor nv cs)
  | .fn f cap => .fn f (vws m ρ bor nv cap)
  | .tup vs => .tup (vws m ρ bor nv vs)
  | .junk => .junk
  | .d x => .d x
  | .rptr x j => .rptr x j
  | .ifc t x => .ifc t x
  | .lit v => .lit v
  | .nn => .nn
def vws (m : Mem) (ρ : List Nat) (bor : Nat → Bool) (nv : Nat → Nat → Nat) : List AV → List AV
  | [] => []
  | x :: r => vw m ρ bor nv x :: vws m ρ bor nv r
end
theorem vws_get (m ρ bor nv) : ∀ (l : List AV) (i : Nat), (vws m ρ bor nv l)[i]? = (l[i]?).map (vw m ρ bor nv)
  | [], i => by simp [vws]
  | x :: r, i => by cases i with | zero => simp [vws] | succ i => simp [vws, vws_get m ρ bor nv r i]
theorem vws_length (m ρ bor nv) : ∀ (l : List AV), (vws m ρ bor nv l).length = l.length
  | [] => rfl
  | x :: r => by simp [vws, vws_length m ρ bor nv r]

def Phi.sel (φ : Phi) (ρ : List Nat) (nv : Nat → Nat → Nat) : Phi := fun i =>
  match ρ[i]? with
  | some k => (φ k).map fun L => { L with ver := nv i L.ver }
  | none => none

/-- What the keys ρ own. -/
def OwnK (φ : Phi) (m : Mem) (ρ : List Nat) (b : Nat) : Prop := ∃ k ∈ ρ, ∃ e L, Mem.get m k = some e ∧ φ k = some L ∧ e.cont.owns L ∧ L.blk = b

theorem OwnK.own {φ m ρ b} (h : OwnK φ m ρ b) : Own φ m b := by
  obtain ⟨k, _, e, L, hg, hL, ho, rfl⟩ := h
  obtain ⟨hm, rfl⟩ := Mem.get_mem hg
  exact ⟨e, hm, L, hL, ho, rfl⟩

theorem ownK_apart {φ G m w} (h : MemRel φ G m w) {ρ : List Nat} {k : Nat} {e : Ent} {L : Loc} (hg : Mem.get m k = some e) (hL : φ k = some L) (ho : e.cont.owns L) (hk : k ∉ ρ) : ¬ OwnK φ m ρ L.blk := by
  rintro ⟨k', hk', e', L', hg', hL', ho', hb⟩
  obtain ⟨hm, rfl⟩ := Mem.get_mem hg
  obtain ⟨hm', rfl⟩ := Mem.get_mem hg'
  have := h.apart e' hm' e hm L' L hL' hL ho' ho hb
  exact hk (this ▸ hk')


section
variable {φ : Phi} {G : Nat → Prop} {m : Mem} {w : World} {ρ : List Nat} {bor : Nat → Bool} {nv : Nat → Nat → Nat} {F1 : Nat → Prop}

theorem sel_key {k i : Nat} {L : Loc} (hi : findK ρ k 0 = some i) (hL : φ k = some L) : φ.sel ρ nv i = some { L with ver := nv i L.ver } := by
  obtain ⟨_, h2⟩ := findK_some hi
  simp only [Nat.sub_zero] at h2
  simp [Phi.sel, h2, hL]

theorem vw_rel (hm : MemRel φ G m w) (hF : ∀ b, F1 b → Fo G φ m b)
    (hbor : ∀ k e L, Mem.get m k = some e → k ∉ ρ → bor k = true → φ k = some L → e.cont.owns L → ¬ F1 L.blk) {y v} (h : AVRel φ w (Fo G φ m) y v) : AVRel (φ.sel ρ nv) w F1 (vw m ρ bor nv y) v := by
  induction h with
  | junk v => exact .junk v
  | d x v h => exact .d x v (h.mono (fun _ _ _ => rfl) (Nat.le_refl _) (fun b _ => hF b))
  | agg cs a hl h1 _ ih =>
    refine .agg _ a (by rw [vws_length]; exact hl) h1 (fun i c v hc hv => ?_)
    rw [vws_get] at hc
    obtain ⟨y, hy, rfl⟩ := Option.map_eq_some_iff.1 hc
    exact ih i y v hy hv
  | ptr k ver off v L hL hv h h1 =>
    unfold vw
    split
    · rename_i e i hg hi
      split
      · rename_i he
        obtain ⟨_, _, L', hL', hver, _⟩ := hm.get hg
        rw [hL] at hL'; cases hL'
        have e1 : L.ver = ver := by rw [hver]; exact he
        refine .ptr i _ off v _ (sel_key hi hL) (by simp [e1]) (fun _ => h e1.symm) h1
      · exact .junk _
    · exact .junk _
  | vec k ver off len v L hL hv h h1 =>
    unfold vw
    split
    · rename_i e i hg hi
      split
      · rename_i he
        obtain ⟨_, _, L', hL', hver, _⟩ := hm.get hg
        rw [hL] at hL'; cases hL'
        have e1 : L.ver = ver := by rw [hver]; exact he
        refine .vec i _ off len v _ (sel_key hi hL) (by simp [e1]) (fun _ => h e1.symm) h1
      · exact .junk _
    · rename_i key v' sz rows hg hi
      split
      · rename_i hc
        obtain ⟨hb, rfl, hle⟩ := hc
        obtain ⟨_, _, L', hL', hver, hcr⟩ := hm.get hg
        rw [hL] at hL'; cases hL'
        refine .d _ _ (vec_list (.vec k v' off len v L hL hv h h1) hL hver hcr hle hF (fun ho => ?_))
        exact hbor k _ L hg (findK_none.1 hi) hb hL ho
      · exact .junk _
    · rename_i key v' cs hg hi
      split
      · rename_i hc
        obtain ⟨hb, rfl, hle⟩ := hc
        obtain ⟨_, _, L', hL', hver, hcr⟩ := hm.get hg
        rw [hL] at hL'; cases hL'
        obtain ⟨⟨z1, z2, z3⟩, arr, elem, hrow, hasz, ha1, hrel⟩ := hcr
        cases hfl : flats ((cs.drop off).take len) with
        | none => exact .junk _
        | some ds =>
          obtain ⟨hds, hflat⟩ := flats_get hfl
          obtain ⟨ao, cap, rfl, hlc, hpl⟩ := h hver.symm
          have hdl : ds.length = len := by
            have := congrArg List.length hds
            simp at this; omega
          refine .d _ _ ?_
          by_cases h0 : len = 0
          · have : ds = [] := List.eq_nil_of_length_eq_zero (by omega)
            subst this
            subst h0
            refine .nil _ _ (fun hn => ?_)
            cases cap with
            | zero => rfl
            | succ c => have := (hpl (by omega)).1; rw [hn] at this; cases this
          · obtain ⟨rfl, _⟩ := hpl (by omega)
            rw [← hdl]
            have hcell : ∀ (i : Nat) d, ds[i]? = some d → ∃ u, arr[off + i]? = some u ∧ DRel w F1 d u ∧ cell1 u = true := by
              intro i d hd
              have hi : i < ds.length := (List.getElem?_eq_some_iff.1 hd).1
              have hc1 : cs[off + i]? = some (.d d) := by
                have := congrArg (·[i]?) hds
                simp only [List.getElem?_take, List.getElem?_drop, List.getElem?_map, hd] at this
                rw [if_pos (by omega)] at this
                simpa using this
              have hlt : off + i < arr.size := by omega
              have hr := hrel (off + i) _ arr[off + i] hc1 (by simp [hlt])
              cases hr with
              | d _ _ hr => exact ⟨_, by simp [hlt], hr.mono (fun _ _ _ => rfl) (Nat.le_refl _) (fun b _ => hF b), ha1 _ (by simp)⟩
            have hblt : L.blk < w.heap.size := hrow.lt
            refine .list ds _ _ cap 1 (fun i => (arr[off + i]?).getD undef) (by omega) hblt (hbor k _ L hg (findK_none.1 hi) hb hL trivial) (fun d hd => ?_) (fun i d hd => ?_) (fun i j c hi' hj => ?_)
            · have := hflat d hd
              cases d <;> simp_all [D.flat, D.size]
            · obtain ⟨u, h1, h2, _⟩ := hcell i d hd
              simp only [h1, Option.getD_some]; exact h2
            · obtain ⟨u, h1, h2, h3⟩ := hcell i ds[i] (by simp [hi'])
              simp only [h1, Option.getD_some, cells_of_cell1 h3] at hj
              have hj0 : j = 0 := by
                have := (Array.getElem?_eq_some_iff.1 hj).1
                simpa using this
              subst hj0
              simp at hj
              subst hj
              rw [cell?_rowA hrow, z1, z2]
              simpa using h1
      · exact .junk _
    · exact .junk _
  | eptr k ver i j v L hL hv h h1 =>
    unfold vw
    split
    · rename_i e n hg hi
      split
      · rename_i he
        obtain ⟨_, _, L', hL', hver, _⟩ := hm.get hg
        rw [hL] at hL'; cases hL'
        have e1 : L.ver = ver := by rw [hver]; exact he
        refine .eptr n _ i j v _ (sel_key hi hL) (by simp [e1]) (fun _ => h e1.symm) h1
      · exact .junk _
    · exact .junk _
  | rptr x j b off x' hb hFb hx hc =>
    exact .rptr x j b off x' hb (fun h => hFb (hF b h)) (hx.mono (fun _ _ _ => rfl) (Nat.le_refl _) (fun b _ => hF b)) hc
  | fn f cap a hl _ ih =>
    refine .fn f _ a (by rw [vws_length]; exact hl) (fun i c v hc hv => ?_)
    rw [vws_get] at hc
    obtain ⟨y, hy, rfl⟩ := Option.map_eq_some_iff.1 hc
    exact ih i y v hy hv
  | tup vs a hl _ ih =>
    refine .tup _ a (by rw [vws_length]; exact hl) (fun i c v hc hv => ?_)
    rw [vws_get] at hc
    obtain ⟨y, hy, rfl⟩ := Option.map_eq_some_iff.1 hc
    exact ih i y v hy hv
  | ifc t x v h => exact .ifc t x v (h.mono (fun _ _ _ => rfl) (Nat.le_refl _) (fun b _ => hF b))
  | lit v h => exact .lit v h
  | nn a cap => exact .nn a cap
end

/- Memory by its places. -/
def mkM : Nat → List (Nat × Cont) → Mem
  | _, [] => []
  | i, (v, c) :: r => ⟨i, v, c⟩ :: mkM (i + 1) r
theorem mkM_keys : ∀ (l : List (Nat × Cont)) (i : Nat), (mkM i l).map (·.key) = List.range' i l.length
  | [], i => rfl
  | (v, c) :: r, i => by simp [mkM, mkM_keys r, List.range'_succ]
theorem mkM_mem : ∀ {l : List (Nat × Cont)} {i : Nat} {e : Ent}, e ∈ mkM i l ↔ ∃ j v c, l[j]? = some (v, c) ∧ e = ⟨i + j, v, c⟩
  | [], i, e => by simp [mkM]
  | (v, c) :: r, i, e => by
    simp only [mkM, List.mem_cons, mkM_mem (l := r)]
    constructor
    · rintro (rfl | ⟨j, v', c', h, rfl⟩)
      · exact ⟨0, v, c, by simp, by simp⟩
      · exact ⟨j + 1, v', c', by simpa using h, by simp; omega⟩
    · rintro ⟨j, v', c', h, rfl⟩
      cases j with
      | zero => simp at h; obtain ⟨rfl, rfl⟩ := h; left; simp
      | succ j => right; exact ⟨j, v', c', by simpa using h, by simp; omega⟩

def selC (m : Mem) (ρ : List Nat) (bor : Nat → Bool) (nv : Nat → Nat → Nat) : Cont → Cont
  | .dead => .dead
  | .box cs => .box (vws m ρ bor nv cs)
  | .vec sz rows => .vec sz rows
def selE (m : Mem) (ρ : List Nat) (bor : Nat → Bool) (nv : Nat → Nat → Nat) (i : Nat) : Option Ent → Nat × Cont
  | some e => (nv i e.ver, selC m ρ bor nv e.cont)
  | none => (0, .dead)
def selL (m : Mem) (ρ : List Nat) (bor : Nat → Bool) (nv : Nat → Nat → Nat) : Nat → List Nat → List (Nat × Cont)
  | _, [] => []
  | i, k :: r => selE m ρ bor nv i (Mem.get m k) :: selL m ρ bor nv (i + 1) r
theorem selL_get (m ρ bor nv) : ∀ (l : List Nat) (i j : Nat), (selL m ρ bor nv i l)[j]? = (l[j]?).map fun k => selE m ρ bor nv (i + j) (Mem.get m k)
  | [], i, j => by simp [selL]
  | k :: r, i, j => by
    cases j with
    | zero => simp [selL]
    | succ j => simp [selL, selL_get m ρ bor nv r (i + 1) j, Nat.add_assoc, Nat.add_comm 1 j]
theorem selL_length (m ρ bor nv) : ∀ (l : List Nat) (i : Nat), (selL m ρ bor nv i l).length = l.length
  | [], i => rfl
  | k :: r, i => by simp [selL, selL_length m ρ bor nv r]

theorem selC_owns {m ρ bor nv L c} : (selC m ρ bor nv c).owns L ↔ c.owns L := by cases c <;> exact Iff.rfl
theorem owns_ver {L : Loc} {c : Cont} {v : Nat} : c.owns { L with ver := v } ↔ c.owns L := by cases c <;> exact Iff.rfl

section
variable {φ : Phi} {G G1 : Nat → Prop} {m : Mem} {w : World} {ρ : List Nat} {bor : Nat → Bool} {nv : Nat → Nat → Nat}

theorem sel_own (hall : ∀ k ∈ ρ, (Mem.get m k).isSome = true) (b : Nat) : Own (φ.sel ρ nv) (mkM 0 (selL m ρ bor nv 0 ρ)) b ↔ OwnK φ m ρ b := by
  constructor
  · rintro ⟨e, he, L, hL, ho, rfl⟩
    obtain ⟨j, v, c, hj, rfl⟩ := mkM_mem.1 he
    rw [selL_get] at hj
    obtain ⟨k, hk, hkk⟩ := Option.map_eq_some_iff.1 hj
    simp only [Nat.zero_add, Phi.sel, hk, Option.map_eq_some_iff] at hL
    obtain ⟨L0, hL0, rfl⟩ := hL
    have hmem := List.mem_of_getElem? hk
    have := hall k hmem
    obtain ⟨e0, he0⟩ := Option.isSome_iff_exists.1 this
    rw [he0] at hkk
    simp only [selE, Prod.mk.injEq] at hkk
    obtain ⟨rfl, rfl⟩ := hkk
    exact ⟨k, hmem, e0, L0, he0, hL0, owns_ver.1 (selC_owns.1 ho), rfl⟩
  · rintro ⟨k, hk, e, L, hg, hL, ho, rfl⟩
    obtain ⟨j, hj, rfl⟩ := List.mem_iff_getElem.1 hk
    refine ⟨⟨0 + j, nv j e.ver, selC m ρ bor nv e.cont⟩, mkM_mem.2 ⟨j, _, _, ?_, rfl⟩, { L with ver := nv j L.ver }, ?_, selC_owns.2 (owns_ver.2 ho), rfl⟩
    · rw [selL_get]; simp [hj, hg, selE]
    · simp [Phi.sel, hj, hL]

theorem sel_mem (hm : MemRel φ G m w) (hn : ρ.Nodup) (hall : ∀ k ∈ ρ, (Mem.get m k).isSome = true) (hG : ∀ b, G1 b → Fo G φ m b) (hG1 : ∀ b, OwnK φ m ρ b → ¬ G1 b)
    (hbor : ∀ k e L, Mem.get m k = some e → k ∉ ρ → bor k = true → φ k = some L → e.cont.owns L → ¬ G1 L.blk) :
    MemRel (φ.sel ρ nv) G1 (mkM 0 (selL m ρ bor nv 0 ρ)) w ∧ (∀ y v, AVRel φ w (Fo G φ m) y v → AVRel (φ.sel ρ nv) w (Fo G1 (φ.sel ρ nv) (mkM 0 (selL m ρ bor nv 0 ρ))) (vw m ρ bor nv y) v) ∧
      (∀ b, Fo G1 (φ.sel ρ nv) (mkM 0 (selL m ρ bor nv 0 ρ)) b → Fo G φ m b) := by
  have hown := sel_own (φ := φ) (nv := nv) (bor := bor) hall
  have hF : ∀ b, Fo G1 (φ.sel ρ nv) (mkM 0 (selL m ρ bor nv 0 ρ)) b → Fo G φ m b := by
    rintro b (h | h)
    · exact hG b h
    · exact .inr ((hown b).1 h).own
  have hb : ∀ k e L, Mem.get m k = some e → k ∉ ρ → bor k = true → φ k = some L → e.cont.owns L → ¬ Fo G1 (φ.sel ρ nv) (mkM 0 (selL m ρ bor nv 0 ρ)) L.blk := by
    rintro k e L hg hk hbk hL ho (h | h)
    · exact hbor k e L hg hk hbk hL ho h
    · exact ownK_apart hm hg hL ho hk ((hown _).1 h)
  have hav : ∀ y v, AVRel φ w (Fo G φ m) y v → AVRel (φ.sel ρ nv) w (Fo G1 (φ.sel ρ nv) (mkM 0 (selL m ρ bor nv 0 ρ))) (vw m ρ bor nv y) v := fun y v h => vw_rel hm hF hb h
  have hd : ∀ x v, DRel w (Fo G φ m) x v → DRel w (Fo G1 (φ.sel ρ nv) (mkM 0 (selL m ρ bor nv 0 ρ))) x v := fun x v h => h.mono (fun _ _ _ => rfl) (Nat.le_refl _) (fun b _ => hF b)
  have part : ∀ {e : Ent}, e ∈ mkM 0 (selL m ρ bor nv 0 ρ) → ∃ j k e0 L0, ρ[j]? = some k ∧ Mem.get m k = some e0 ∧ φ k = some L0 ∧ L0.ver = e0.ver ∧ ContRel φ w (Fo G φ m) L0 e0.cont ∧ e = ⟨j, nv j e0.ver, selC m ρ bor nv e0.cont⟩ := by
    intro e he
    obtain ⟨j, v, c, hj, rfl⟩ := mkM_mem.1 he
    rw [selL_get] at hj
    obtain ⟨k, hk, hkk⟩ := Option.map_eq_some_iff.1 hj
    obtain ⟨e0, he0⟩ := Option.isSome_iff_exists.1 (hall k (List.mem_of_getElem? hk))
    rw [he0] at hkk
    simp only [selE, Prod.mk.injEq, Nat.zero_add] at hkk
    obtain ⟨rfl, rfl⟩ := hkk
    obtain ⟨_, _, L0, hL0, hver, hcr⟩ := hm.get he0
    exact ⟨j, k, e0, L0, hk, he0, hL0, hver, hcr, by simp⟩
  refine ⟨⟨?_, ?_, ?_, ?_, ?_, ?_⟩, hav, hF⟩
  · rw [mkM_keys]; exact List.nodup_range'
  · intro i L hL
    rw [mkM_keys, selL_length]
    simp only [Phi.sel] at hL
    split at hL
    · rename_i k hk
      have := (List.getElem?_eq_some_iff.1 hk).1
      simp [List.mem_range']; omega
    · cases hL
  · intro e he
    obtain ⟨j, k, e0, L0, hk, he0, hL0, hver, hcr, rfl⟩ := part he
    refine ⟨{ L0 with ver := nv j L0.ver }, by simp [Phi.sel, hk, hL0], by simp [hver], ?_⟩
    cases hc : e0.cont with
    | dead => trivial
    | box cs =>
      rw [hc] at hcr
      obtain ⟨g0, arr, elem, g1, g2, g3, g4⟩ := hcr
      refine ⟨by simpa [vws_length] using g0, arr, elem, g1, by simp [vws_length, g2], g3, fun i c v hci hv => ?_⟩
      rw [vws_get] at hci
      obtain ⟨y, hy, rfl⟩ := Option.map_eq_some_iff.1 hci
      exact hav y v (g4 i y v hy hv)
    | vec sz rows =>
      rw [hc] at hcr
      obtain ⟨g1, g2, g3, g4⟩ := hcr
      refine ⟨g1, g2, g3, fun h0 => ?_⟩
      obtain ⟨arr, elem, f1, f2, f3, f4⟩ := g4 h0
      exact ⟨arr, elem, f1, f2, f3, fun i d hd' => let ⟨v, hv, hj⟩ := f4 i d hd'; ⟨v, hd _ _ hv, hj⟩⟩
  · intro e he e' he' L L' hL hL' ho ho' hbl
    obtain ⟨j, k, e0, L0, hk, he0, hL0, hver, hcr, rfl⟩ := part he
    obtain ⟨j', k', e0', L0', hk', he0', hL0', hver', hcr', rfl⟩ := part he'
    simp only [Phi.sel, hk, hL0, hk', hL0', Option.map_some, Option.some.injEq] at hL hL'
    subst hL; subst hL'
    obtain ⟨hm1, hk1⟩ := Mem.get_mem he0
    obtain ⟨hm2, hk2⟩ := Mem.get_mem he0'
    have := hm.apart e0 hm1 e0' hm2 L0 L0' (by rw [hk1]; exact hL0) (by rw [hk2]; exact hL0') (owns_ver.1 (selC_owns.1 ho)) (owns_ver.1 (selC_owns.1 ho')) hbl
    rw [hk1, hk2] at this
    obtain ⟨hi, h3⟩ := List.getElem?_eq_some_iff.1 hk
    obtain ⟨hj, h4⟩ := List.getElem?_eq_some_iff.1 hk'
    exact (List.getElem_inj hn).1 (h3.trans (this.trans h4.symm))
  · exact fun b hb' => hG1 b ((hown b).1 hb')
  · exact fun b hb' => fo_bound hm b (hG b hb')
end
end Go.Am
end
section
namespace Go.Am
open Go

/- Data that lie in no block. -/
mutual
def plainD : D → Bool
  | .list (_ :: _) => false
  | .list [] => true
  | .agg cs => plainDs cs
  | .int _ _ => true
  | .bool _ => true
  | .str _ => true
def plainDs : List D → Bool
  | [] => true
  | x :: r => plainD x && plainDs r
end
theorem plainDs_mem : ∀ {l : List D}, plainDs l = true → ∀ x ∈ l, plainD x = true
  | [], _, x, hx => by simp at hx
  | y :: r, h, x, hx => by
    simp only [plainDs, Bool.and_eq_true] at h
    rcases List.mem_cons.1 hx with rfl | hx
    · exact h.1
    · exact plainDs_mem h.2 x hx
theorem DRel.plain {w w' : World} {F F' : Nat → Prop} {d v} (h : DRel w F d v) (hp : plainD d = true) : DRel w' F' d v := by
  induction h with
  | int k n => exact .int k n
  | bool b => exact .bool b
  | str b s h => exact .str b s h
  | agg cs a hl hf _ ih =>
    refine .agg cs a hl hf (fun i d v hd hv => ih i d v hd hv (plainDs_mem (by simpa only [plainD] using hp) d (List.mem_of_getElem? hd)))
  | nil a cap hn => exact .nil a cap hn
  | list xs b off cap sz vs hcap hb hF hsz hv hc _ =>
    cases xs with
    | nil => exact .nil _ _ (by simp)
    | cons => simp [plainD] at hp
mutual
def plainAV : AV → Bool
  | .d x => plainD x
  | .rptr _ _ => false
  | .agg cs => plainAVs cs
  | .fn _ cap => plainAVs cap
  | .tup vs => plainAVs vs
  | .ifc _ x => plainD x
  | .junk => true
  | .ptr _ _ _ => true
  | .vec _ _ _ _ => true
  | .eptr _ _ _ _ => true
  | .lit _ => true
  | .nn => true
def plainAVs : List AV → Bool
  | [] => true
  | x :: r => plainAV x && plainAVs r
end
theorem plainAVs_mem : ∀ {l : List AV}, plainAVs l = true → ∀ x ∈ l, plainAV x = true
  | [], _, x, hx => by simp at hx
  | y :: r, h, x, hx => by
    simp only [plainAVs, Bool.and_eq_true] at h
    rcases List.mem_cons.1 hx with rfl | hx
    · exact h.1
    · exact plainAVs_mem h.2 x hx
def plainC : Cont → Bool
  | .dead => true
  | .box cs => plainAVs cs
  | .vec _ rows => plainDs rows

mutual
/-- An abstract value of a callee's by the caller's names. -/
def up (ρ bs : List Nat) : AV → AV
  | .ptr k ver off => .ptr (ρ.getD k 0) (bs.getD k 0 + ver) off
  | .vec k ver off len => .vec (ρ.getD k 0) (bs.getD k 0 + ver) off len
  | .eptr k ver i j => .eptr (ρ.getD k 0) (bs.getD k 0 + ver) i j
  | .agg cs => .agg (ups ρ bs cs)
  | .fn f cap => .fn f (ups ρ bs cap)
  | .tup vs => .tup (ups ρ bs vs)
  | .junk => .junk
  | .d x => .d x
  | .rptr x j => .rptr x j
  | .ifc t x => .ifc t x
  | .lit v => .lit v
  | .nn => .nn
def ups (ρ bs : List Nat) : List AV → List AV
  | [] => []
  | x :: r => up ρ bs x :: ups ρ bs r
end
theorem ups_get (ρ bs) : ∀ (l : List AV) (i : Nat), (ups ρ bs l)[i]? = (l[i]?).map (up ρ bs)
  | [], i => by simp [ups]
  | x :: r, i => by cases i with | zero => simp [ups] | succ i => simp [ups, ups_get ρ bs r i]
theorem ups_length (ρ bs) : ∀ (l : List AV), (ups ρ bs l).length = l.length
  | [] => rfl
  | x :: r => by simp [ups, ups_length ρ bs r]
def upC (ρ bs : List Nat) : Cont → Cont
  | .dead => .dead
  | .box cs => .box (ups ρ bs cs)
  | .vec sz rows => .vec sz rows
def backL (ρ bs : List Nat) : Nat → List (Nat × Cont) → List Ent
  | _, [] => []
  | i, (v, c) :: r => ⟨ρ.getD i 0, bs.getD i 0 + v, upC ρ bs c⟩ :: backL ρ bs (i + 1) r
theorem backL_mem {ρ bs : List Nat} : ∀ {l : List (Nat × Cont)} {i : Nat} {e : Ent}, e ∈ backL ρ bs i l ↔ ∃ j v c, l[j]? = some (v, c) ∧ e = ⟨ρ.getD (i + j) 0, bs.getD (i + j) 0 + v, upC ρ bs c⟩
  | [], i, e => by simp [backL]
  | (v, c) :: r, i, e => by
    simp only [backL, List.mem_cons, backL_mem (l := r)]
    constructor
    · rintro (rfl | ⟨j, v', c', h, rfl⟩)
      · exact ⟨0, v, c, by simp, by simp⟩
      · exact ⟨j + 1, v', c', by simpa using h, by rw [show i + (j + 1) = i + 1 + j by omega]⟩
    · rintro ⟨j, v', c', h, rfl⟩
      cases j with
      | zero => simp at h; obtain ⟨rfl, rfl⟩ := h; left; simp
      | succ j => right; exact ⟨j, v', c', by simpa using h, by rw [show i + (j + 1) = i + 1 + j by omega]⟩
theorem backL_keys {ρ bs : List Nat} : ∀ (l : List (Nat × Cont)) (i : Nat), (backL ρ bs i l).map (·.key) = (List.range' i l.length).map fun j => ρ.getD j 0
  | [], i => rfl
  | (v, c) :: r, i => by simp [backL, backL_keys r, List.range'_succ]

def putAll (m : Mem) : List Ent → Mem
  | [] => m
  | e :: r => putAll (Mem.set m e) r
theorem putAll_keys : ∀ (es : List Ent) (m : Mem), (putAll m es).map (·.key) = m.map (·.key)
  | [], m => rfl
  | e :: r, m => by rw [putAll, putAll_keys r, Mem.set_keys]
theorem mem_putAll : ∀ (es : List Ent) (m : Mem), (m.map (·.key)).Nodup → (es.map (·.key)).Nodup → (∀ e ∈ es, e.key ∈ m.map (·.key)) → ∀ e, e ∈ putAll m es ↔ e ∈ es ∨ (e ∈ m ∧ e.key ∉ es.map (·.key))
  | [], m, _, _, _, e => by simp [putAll]
  | x :: r, m, hm, hn, hk, e => by
    simp only [List.map_cons, List.nodup_cons] at hn
    rw [putAll, mem_putAll r (Mem.set m x) (by rw [Mem.set_keys]; exact hm) hn.2 (fun e he => by rw [Mem.set_keys]; exact hk e (by simp [he])), Mem.mem_set hm]
    have hx := hk x (by simp)
    constructor
    · rintro (h | ⟨⟨rfl, _⟩ | ⟨h, hne⟩, hnr⟩)
      · left; simp [h]
      · left; simp
      · right; exact ⟨h, by simp only [List.map_cons, List.mem_cons, not_or]; exact ⟨hne, hnr⟩⟩
    · rintro (h | ⟨h, hnr⟩)
      · rcases List.mem_cons.1 h with rfl | h
        · right; exact ⟨.inl ⟨rfl, hx⟩, hn.1⟩
        · left; exact h
      · simp only [List.map_cons, List.mem_cons, not_or] at hnr
        right; exact ⟨.inr ⟨h, hnr.1⟩, hnr.2⟩

/-- The versions from which the callee's are counted. -/
def base (m : Mem) (d : Nat) : List Nat → List Nat
  | [] => []
  | k :: r => (match Mem.get m k with | some e => e.ver + d | none => 0) :: base m d r
theorem base_get (m : Mem) (d : Nat) : ∀ (l : List Nat) (i : Nat), (base m d l)[i]? = (l[i]?).map fun k => match Mem.get m k with | some e => e.ver + d | none => 0
  | [], i => by simp [base]
  | k :: r, i => by cases i with | zero => simp [base] | succ i => simp [base, base_get m d r i]
theorem base_length (m : Mem) (d : Nat) : ∀ (l : List Nat), (base m d l).length = l.length
  | [] => rfl
  | k :: r => by simp [base, base_length m d r]

def nv0 : Nat → Nat → Nat := fun _ _ => 0
/-- What a callee must leave alone and may not read as data. -/
def GCall (φ : Phi) (G : Nat → Prop) (m : Mem) (ρ B : List Nat) (b : Nat) : Prop := Fo G φ m b ∧ ¬ OwnK φ m ρ b ∧ ¬ OwnK φ m B b

section
variable {φ : Phi} {G : Nat → Prop} {m : Mem} {w : World} {ρ B : List Nat}

theorem call_view (hm : MemRel φ G m w) (hn : ρ.Nodup) (hall : ∀ k ∈ ρ, (Mem.get m k).isSome = true) :
    MemRel (φ.sel ρ nv0) (GCall φ G m ρ B) (mkM 0 (selL m ρ (fun k => B.contains k) nv0 0 ρ)) w ∧
      (∀ y v, AVRel φ w (Fo G φ m) y v → AVRel (φ.sel ρ nv0) w (Fo (GCall φ G m ρ B) (φ.sel ρ nv0) (mkM 0 (selL m ρ (fun k => B.contains k) nv0 0 ρ))) (vw m ρ (fun k => B.contains k) nv0 y) v) ∧
      (∀ b, Fo (GCall φ G m ρ B) (φ.sel ρ nv0) (mkM 0 (selL m ρ (fun k => B.contains k) nv0 0 ρ)) b → Fo G φ m b) :=
  sel_mem hm hn hall (fun b h => h.1) (fun b h h' => h'.2.1 h) (fun k e L hg _ hb hL ho h' => h'.2.2 ⟨k, by simpa using hb, e, L, hg, hL, ho, rfl⟩)

theorem AVRel.upR {φ φ' : Phi} {ρ bs : List Nat} {w F F' x v} (h : AVRel φ w F x v) (hφ : ∀ i L, φ i = some L → φ' (ρ.getD i 0) = some { L with ver := bs.getD i 0 + L.ver })
    (hd : (∀ b, F' b → F b) ∨ plainAV x = true) : AVRel φ' w F' (up ρ bs x) v := by
  have dd : ∀ {d v}, DRel w F d v → ((∀ b, F' b → F b) ∨ plainD d = true) → DRel w F' d v := fun h hd => by
    rcases hd with hd | hd
    · exact h.mono (fun _ _ _ => rfl) (Nat.le_refl _) (fun b _ => hd b)
    · exact h.plain hd
  induction h with
  | junk v => exact .junk v
  | d x v h => exact .d x v (dd h (hd.imp id (by simp [plainAV])))
  | agg cs a hl h1 _ ih =>
    refine .agg _ a (by rw [ups_length]; exact hl) h1 (fun i c v hc hv => ?_)
    rw [ups_get] at hc
    obtain ⟨y, hy, rfl⟩ := Option.map_eq_some_iff.1 hc
    exact ih i y v hy hv (hd.imp id fun hp => plainAVs_mem (by simpa only [plainAV] using hp) y (List.mem_of_getElem? hy))
  | ptr k ver off v L hL hv h h1 => exact .ptr _ _ off v _ (hφ k L hL) (by simp only; omega) (fun he => h (by simp only at he; omega)) h1
  | vec k ver off len v L hL hv h h1 => exact .vec _ _ off len v _ (hφ k L hL) (by simp only; omega) (fun he => h (by simp only at he; omega)) h1
  | eptr k ver i j v L hL hv h h1 => exact .eptr _ _ i j v _ (hφ k L hL) (by simp only; omega) (fun he => h (by simp only at he; omega)) h1
  | rptr x j b off x' hb hFb hx hc =>
    rcases hd with hd | hd
    · exact .rptr x j b off x' hb (fun h => hFb (hd b h)) (hx.mono (fun _ _ _ => rfl) (Nat.le_refl _) (fun b _ => hd b)) hc
    · simp [plainAV] at hd
  | fn f cap a hl _ ih =>
    refine .fn f _ a (by rw [ups_length]; exact hl) (fun i c v hc hv => ?_)
    rw [ups_get] at hc
    obtain ⟨y, hy, rfl⟩ := Option.map_eq_some_iff.1 hc
    exact ih i y v hy hv (hd.imp id fun hp => plainAVs_mem (by simpa only [plainAV] using hp) y (List.mem_of_getElem? hy))
  | tup vs a hl _ ih =>
    refine .tup _ a (by rw [ups_length]; exact hl) (fun i c v hc hv => ?_)
    rw [ups_get] at hc
    obtain ⟨y, hy, rfl⟩ := Option.map_eq_some_iff.1 hc
    exact ih i y v hy hv (hd.imp id fun hp => plainAVs_mem (by simpa only [plainAV] using hp) y (List.mem_of_getElem? hy))
  | ifc t x v h => exact .ifc t x v (dd h (hd.imp id (by simp [plainAV])))
  | lit v h => exact .lit v h
  | nn a cap => exact .nn a cap

theorem upC_owns {ρ bs L c} : (upC ρ bs c).owns L ↔ c.owns L := by cases c <;> exact Iff.rfl

theorem call_back (h : MemRel φ G m w) (hn : ρ.Nodup) (hall : ∀ k ∈ ρ, (Mem.get m k).isSome = true) {fr : List Nat} (hfn : fr.Nodup) (hfr : ∀ k ∈ fr, (Mem.get m k).isSome = true ∧ k ∉ ρ)
    {φ2 : Phi} {l2 : List (Nat × Cont)} {w2 : World} (h2 : MemRel φ2 (GCall φ G m ρ B) (mkM 0 l2) w2)
    (hk : Keeps (φ.sel ρ nv0) (mkM 0 (selL m ρ (fun k => B.contains k) nv0 0 ρ)) w φ2 (mkM 0 l2) w2) (hlen : l2.length = ρ.length + fr.length)
    (hpl : B = [] ∨ ∀ e ∈ l2, plainC e.2 = true) :
    ∃ φ' : Phi, MemRel φ' G (putAll m (backL (ρ ++ fr) (base m 0 ρ ++ base m 1 fr) 0 l2)) w2 ∧ Keeps φ m w φ' (putAll m (backL (ρ ++ fr) (base m 0 ρ ++ base m 1 fr) 0 l2)) w2 ∧
      ∀ x v, (B = [] ∨ plainAV x = true) → AVRel φ2 w2 (Fo (GCall φ G m ρ B) φ2 (mkM 0 l2)) x v →
        AVRel φ' w2 (Fo G φ' (putAll m (backL (ρ ++ fr) (base m 0 ρ ++ base m 1 fr) 0 l2))) (up (ρ ++ fr) (base m 0 ρ ++ base m 1 fr) x) v := by
  obtain ⟨ρ', hρ'⟩ : ∃ ρ', ρ' = ρ ++ fr := ⟨_, rfl⟩
  obtain ⟨bs, hbs⟩ : ∃ bs, bs = base m 0 ρ ++ base m 1 fr := ⟨_, rfl⟩
  rw [← hρ', ← hbs]
  have hn' : ρ'.Nodup := by
    rw [hρ', List.nodup_append]
    exact ⟨hn, hfn, fun a ha b hb hab => (hfr b hb).2 (hab ▸ ha)⟩
  have hlen' : l2.length = ρ'.length := by rw [hρ', List.length_append]; exact hlen
  have hsome' : ∀ k ∈ ρ', (Mem.get m k).isSome = true := fun k hk' => by
    rw [hρ'] at hk'
    rcases List.mem_append.1 hk' with h1 | h1
    · exact hall k h1
    · exact (hfr k h1).1
  have hkin : ∀ k ∈ ρ', k ∈ m.map (·.key) := fun k hk' => by
    obtain ⟨e, he⟩ := Option.isSome_iff_exists.1 (hsome' k hk')
    obtain ⟨hm, rfl⟩ := Mem.get_mem he
    exact List.mem_map_of_mem hm
  obtain ⟨φ', hφ'⟩ : ∃ φ' : Phi, φ' = fun k => match findK ρ' k 0 with | some i => (φ2 i).map (fun L => { L with ver := bs.getD i 0 + L.ver }) | none => φ k := ⟨_, rfl⟩
  have hget : ∀ {i}, i < ρ'.length → ρ'[i]? = some (ρ'.getD i 0) := fun hi => by simp [hi]
  have hφin : ∀ {i}, i < ρ'.length → φ' (ρ'.getD i 0) = (φ2 i).map (fun L => { L with ver := bs.getD i 0 + L.ver }) := fun hi => by
    simp only [hφ', findK_get hn' (hget hi)]
  have hφout : ∀ {k}, k ∉ ρ' → φ' k = φ k := fun hk' => by simp only [hφ', findK_none.2 hk']
  have hlt2 : ∀ {i L}, φ2 i = some L → i < ρ'.length := fun hL => by
    have := h2.dom _ _ hL
    rw [mkM_keys] at this
    simp [List.mem_range'] at this
    omega
  have hup : ∀ i L, φ2 i = some L → φ' (ρ'.getD i 0) = some { L with ver := bs.getD i 0 + L.ver } := fun i L hL => by
    rw [hφin (hlt2 hL), hL]; rfl
  -- the entries behind
  have hmem := mem_putAll (backL ρ' bs 0 l2) m h.nodup
  have hbk : (backL ρ' bs 0 l2).map (·.key) = ρ' := by
    rw [backL_keys, hlen']
    apply List.ext_getElem?
    intro i
    by_cases hi : i < ρ'.length
    · simp [hi]
    · rw [List.getElem?_eq_none (by simp; omega), List.getElem?_eq_none (by omega)]
  rw [hbk] at hmem
  replace hmem := hmem hn' (fun e he => hkin e.key (by rw [← hbk]; exact List.mem_map_of_mem he))
  have hbe : ∀ {e}, e ∈ backL ρ' bs 0 l2 → ∃ j v c L, j < ρ'.length ∧ l2[j]? = some (v, c) ∧ e = ⟨ρ'.getD j 0, bs.getD j 0 + v, upC ρ' bs c⟩ ∧ φ2 j = some L ∧ L.ver = v ∧ ContRel φ2 w2 (Fo (GCall φ G m ρ B) φ2 (mkM 0 l2)) L c := by
    intro e he
    obtain ⟨j, v, c, hj, rfl⟩ := backL_mem.1 he
    have hjl := (List.getElem?_eq_some_iff.1 hj).1
    obtain ⟨L, hL, hver, hc⟩ := h2.ents ⟨0 + j, v, c⟩ (mkM_mem.2 ⟨j, v, c, hj, rfl⟩)
    simp only [Nat.zero_add] at hL ⊢
    exact ⟨j, v, c, L, by omega, hj, rfl, hL, hver, hc⟩
  have hown1 := sel_own (φ := φ) (nv := nv0) (bor := fun k => B.contains k) hall
  have hown2 : ∀ b, Own φ' (putAll m (backL ρ' bs 0 l2)) b ↔ Own φ2 (mkM 0 l2) b ∨ ∃ e ∈ m, e.key ∉ ρ' ∧ ∃ L, φ e.key = some L ∧ e.cont.owns L ∧ L.blk = b := by
    intro b
    constructor
    · rintro ⟨e, he, L, hL, ho, rfl⟩
      rcases (hmem e).1 he with he | ⟨he, hne⟩
      · obtain ⟨j, v, c, L2, hjl, hj, rfl, hL2, hver, hc⟩ := hbe he
        left
        simp only [hup j L2 hL2, Option.some.injEq] at hL
        subst hL
        exact ⟨⟨0 + j, v, c⟩, mkM_mem.2 ⟨j, v, c, hj, rfl⟩, L2, by simpa using hL2, owns_ver.1 (upC_owns.1 ho), rfl⟩
      · right; exact ⟨e, he, hne, L, by rw [← hφout hne]; exact hL, ho, rfl⟩
    · rintro (⟨e2, he2, L, hL, ho, rfl⟩ | ⟨e, he, hne, L, hL, ho, rfl⟩)
      · obtain ⟨j, v, c, hj, rfl⟩ := mkM_mem.1 he2
        simp only [Nat.zero_add] at hL
        exact ⟨⟨ρ'.getD j 0, bs.getD j 0 + v, upC ρ' bs c⟩, (hmem _).2 (.inl (backL_mem.2 ⟨j, v, c, hj, by simp⟩)), _, hup j L hL, upC_owns.2 (owns_ver.2 ho), rfl⟩
      · exact ⟨e, (hmem _).2 (.inr ⟨he, hne⟩), L, by rw [hφout hne]; exact hL, ho, rfl⟩
  have hnρ : ∀ {k}, k ∉ ρ' → k ∉ ρ := fun hk' h1 => hk' (by rw [hρ']; exact List.mem_append_left _ h1)
  -- an entry beside shares no block with the callee's
  have hbeside : ∀ e ∈ m, e.key ∉ ρ → ∀ L, φ e.key = some L → e.cont.owns L → ¬ OwnK φ m ρ L.blk := fun e he hne L hL ho =>
    ownK_apart h (Mem.get_of_mem h.nodup he) hL ho hne
  have hle : φ.le φ' := by
    intro k L hL
    by_cases hk' : k ∈ ρ'
    · obtain ⟨i, hi, rfl⟩ := List.mem_iff_getElem.1 hk'
      have hgd : ρ'.getD i 0 = ρ'[i] := by simp [hi]
      obtain ⟨e, he⟩ := Option.isSome_iff_exists.1 (hsome' _ hk')
      obtain ⟨_, _, L0, hL0, hver, _⟩ := h.get he
      rw [hL] at hL0; cases hL0
      by_cases hir : i < ρ.length
      · have hgr : ρ[i]? = some ρ'[i] := by simp only [hρ']; rw [List.getElem_append_left hir]; simp
        have hbi : bs.getD i 0 = L.ver := by
          rw [hbs, List.getD_eq_getElem?_getD, List.getElem?_append_left (by rw [base_length]; exact hir), base_get, hgr]
          simp [he, hver]
        obtain ⟨L', h3, h4, h5⟩ := hk.le i { L with ver := 0 } (by simp [Phi.sel, hgr, hL, nv0])
        refine ⟨{ L' with ver := bs.getD i 0 + L'.ver }, by rw [← hgd]; exact hup i L' h3, by simp only; omega, fun he2 => ?_⟩
        simp only at he2
        have h6 := h5 (by simp only; omega)
        subst h6
        simp only [hbi, Nat.add_zero]
      · have hil : i < l2.length := by omega
        obtain ⟨L', hL', _, _⟩ := h2.ents ⟨0 + i, l2[i].1, l2[i].2⟩ (mkM_mem.2 ⟨i, _, _, by simp [hil], rfl⟩)
        simp only [Nat.zero_add] at hL'
        have hgr : fr[i - ρ.length]? = some ρ'[i] := by
          simp only [hρ'] at hi ⊢
          rw [List.getElem_append_right (by omega)]
          simp
        have hbi : bs.getD i 0 = L.ver + 1 := by
          rw [hbs, List.getD_eq_getElem?_getD, List.getElem?_append_right (by rw [base_length]; omega), base_length, base_get, hgr]
          simp [he, hver]
        refine ⟨{ L' with ver := bs.getD i 0 + L'.ver }, by rw [← hgd]; exact hup i L' hL', by simp only; omega, fun he2 => ?_⟩
        simp only at he2
        omega
    · exact ⟨L, by rw [hφout hk']; exact hL, Nat.le_refl _, fun _ => rfl⟩
  have hkown : ∀ b, b < w.heap.size → Own φ' (putAll m (backL ρ' bs 0 l2)) b → Own φ m b := by
    intro b hb hob
    rcases (hown2 b).1 hob with h3 | ⟨e, he, _, L, hL, ho, hbl⟩
    · exact ((hown1 b).1 (hk.own b hb h3)).own
    · exact ⟨e, he, L, hL, ho, hbl⟩
  have hold : ∀ b, b < w.heap.size → ¬ Own φ m b → w2.heap[b]? = w.heap[b]? := fun b hb hno => hk.old b hb (fun ho => hno ((hown1 b).1 ho).own)
  have hFF : B = [] → ∀ b, Fo G φ' (putAll m (backL ρ' bs 0 l2)) b → Fo (GCall φ G m ρ B) φ2 (mkM 0 l2) b := by
    rintro rfl b (hG | ho)
    · refine .inl ⟨.inl hG, fun ho => h.notG b ho.own hG, ?_⟩
      rintro ⟨k, hk', _⟩; simp at hk'
    · rcases (hown2 b).1 ho with h3 | ⟨e, he, hne, L, hL, ho5, rfl⟩
      · exact .inr h3
      · refine .inl ⟨.inr ⟨e, he, L, hL, ho5, rfl⟩, hbeside e he (hnρ hne) L hL ho5, ?_⟩
        rintro ⟨k, hk', _⟩; simp at hk'
  have hav : ∀ x v, (B = [] ∨ plainAV x = true) → AVRel φ2 w2 (Fo (GCall φ G m ρ B) φ2 (mkM 0 l2)) x v → AVRel φ' w2 (Fo G φ' (putAll m (backL ρ' bs 0 l2))) (up ρ' bs x) v :=
    fun x v hx hr => hr.upR hup (hx.imp hFF id)
  have hdv : ∀ d v, (B = [] ∨ plainD d = true) → DRel w2 (Fo (GCall φ G m ρ B) φ2 (mkM 0 l2)) d v → DRel w2 (Fo G φ' (putAll m (backL ρ' bs 0 l2))) d v := fun d v hx hr => by
    rcases hx with hx | hx
    · exact hr.mono (fun _ _ _ => rfl) (Nat.le_refl _) (fun b _ => hFF hx b)
    · exact hr.plain hx
  refine ⟨φ', ⟨?_, ?_, ?_, ?_, ?_, ?_⟩, ⟨hle, hold, hkown, hk.size, hk.os, hk.tape, hk.output⟩, hav⟩
  · rw [putAll_keys]; exact h.nodup
  · intro k L hL
    rw [putAll_keys]
    by_cases hk' : k ∈ ρ'
    · exact hkin k hk'
    · rw [hφout hk'] at hL; exact h.dom k L hL
  · intro e he
    rcases (hmem e).1 he with he | ⟨he, hne⟩
    · obtain ⟨j, v, c, L2, hjl, hj, rfl, hL2, hver, hc⟩ := hbe he
      refine ⟨_, hup j L2 hL2, by simp [hver], ?_⟩
      have hpc : B = [] ∨ plainC c = true := hpl.imp id fun hp => hp (v, c) (List.mem_of_getElem? hj)
      cases c with
      | dead => trivial
      | box cs =>
        obtain ⟨g0, arr, elem, g1, g2, g3, g4⟩ := hc
        refine ⟨by simpa [ups_length] using g0, arr, elem, g1, by simp [ups_length, g2], g3, fun i c v hci hv => ?_⟩
        rw [ups_get] at hci
        obtain ⟨y, hy, rfl⟩ := Option.map_eq_some_iff.1 hci
        exact hav y v (hpc.imp id fun hp => plainAVs_mem (by simpa only [plainC] using hp) y (List.mem_of_getElem? hy)) (g4 i y v hy hv)
      | vec sz rows =>
        obtain ⟨g1, g2, g3, g4⟩ := hc
        refine ⟨g1, g2, g3, fun h0 => ?_⟩
        obtain ⟨arr, elem, f1, f2, f3, f4⟩ := g4 h0
        exact ⟨arr, elem, f1, f2, f3, fun i d hd' => let ⟨v, hv, hj⟩ := f4 i d hd'; ⟨v, hdv d v (hpc.imp id fun hp => plainDs_mem (by simpa only [plainC] using hp) d (List.mem_of_getElem? hd')) hv, hj⟩⟩
    · obtain ⟨L, hL, hver, hc⟩ := h.ents e he
      refine ⟨L, by rw [hφout hne]; exact hL, hver, hc.mono hle (fun b hb hno => hold b hb (fun ho => hno (.inr ho))) hk.size (fun b hb => Or.imp id (hkown b hb)) (fun ho => ?_)⟩
      exact hk.old _ (hc.lt ho) (fun h1 => hbeside e he (hnρ hne) L hL ho ((hown1 _).1 h1))
  · intro e he e' he' L L' hL hL' ho ho' hb
    have cross : ∀ {j v c L2 e'' L''}, l2[j]? = some (v, c) → φ2 j = some L2 → c.owns L2 → e'' ∈ m → e''.key ∉ ρ' → φ e''.key = some L'' → e''.cont.owns L'' → L2.blk = L''.blk → False := by
      intro j v c L2 e'' L'' hj hL2 hc he'' hne hL'' ho'' hbb
      have hlt : L''.blk < w.heap.size := h.own_lt ⟨e'', he'', L'', hL'', ho'', rfl⟩
      have h3 : Own φ2 (mkM 0 l2) L2.blk := ⟨⟨0 + j, v, c⟩, mkM_mem.2 ⟨j, v, c, hj, rfl⟩, L2, by simpa using hL2, hc, rfl⟩
      rw [hbb] at h3
      exact hbeside e'' he'' (hnρ hne) L'' hL'' ho'' ((hown1 _).1 (hk.own _ hlt h3))
    rcases (hmem e).1 he with he | ⟨he, hne⟩ <;> rcases (hmem e').1 he' with he' | ⟨he', hne'⟩
    · obtain ⟨j, v, c, L2, hjl, hj, rfl, hL2, _, _⟩ := hbe he
      obtain ⟨j', v', c', L2', hjl', hj', rfl, hL2', _, _⟩ := hbe he'
      simp only [hup j L2 hL2, hup j' L2' hL2', Option.some.injEq] at hL hL'
      subst hL; subst hL'
      have := h2.apart ⟨0 + j, v, c⟩ (mkM_mem.2 ⟨j, v, c, hj, rfl⟩) ⟨0 + j', v', c'⟩ (mkM_mem.2 ⟨j', v', c', hj', rfl⟩) L2 L2' (by simpa using hL2) (by simpa using hL2') (owns_ver.1 (upC_owns.1 ho)) (owns_ver.1 (upC_owns.1 ho')) hb
      simp only [Nat.zero_add] at this
      rw [this]
    · obtain ⟨j, v, c, L2, hjl, hj, rfl, hL2, _, _⟩ := hbe he
      simp only [hup j L2 hL2, Option.some.injEq] at hL
      subst hL
      exact (cross hj hL2 (owns_ver.1 (upC_owns.1 ho)) he' hne' (by rw [← hφout hne']; exact hL') ho' hb).elim
    · obtain ⟨j, v, c, L2, hjl, hj, rfl, hL2, _, _⟩ := hbe he'
      simp only [hup j L2 hL2, Option.some.injEq] at hL'
      subst hL'
      exact (cross hj hL2 (owns_ver.1 (upC_owns.1 ho')) he hne (by rw [← hφout hne]; exact hL) ho hb.symm).elim
    · exact h.apart e he e' he' L L' (by rw [← hφout hne]; exact hL) (by rw [← hφout hne']; exact hL') ho ho' hb
  · intro b hob hG
    rcases (hown2 b).1 hob with h3 | ⟨e, he, _, L, hL, ho, rfl⟩
    · exact h.notG b ((hown1 b).1 (hk.own b (h.bound b hG) h3)).own hG
    · exact h.notG _ ⟨e, he, L, hL, ho, rfl⟩ hG
  · exact fun b hG => Nat.lt_of_lt_of_le (h.bound b hG) hk.size
end
end Go.Am
end
section
namespace Go.Am
open Go

/-- A turn of the state that no code makes. -/
def Turn (S S' : St) : Prop := S'.n = S.n ∧ S'.gl = S.gl ∧ ∀ φ G a w, Rel φ G S a w → ∃ φ', Rel φ' G S' a w ∧ Keeps φ S.mem w φ' S'.mem w
theorem Turn.refl (S : St) : Turn S S := ⟨rfl, rfl, fun φ _ _ _ h => ⟨φ, h, Keeps.refl ..⟩⟩
theorem Turn.trans {S S' S'' : St} (h : Turn S S') (k : Turn S' S'') : Turn S S'' :=
  ⟨k.1.trans h.1, k.2.1.trans h.2.1, fun φ G a w hr => by
    obtain ⟨φ1, h1, h2⟩ := h.2.2 φ G a w hr
    obtain ⟨φ2, h3, h4⟩ := k.2.2 φ1 G a w h1
    exact ⟨φ2, h3, h2.trans h4⟩⟩
theorem turn_prune (S : St) (keep : List Nat) : Turn S (S.prune keep) := ⟨rfl, rfl, fun φ _ _ _ h => ⟨φ, h.prune keep, Keeps.refl ..⟩⟩

theorem own_same {w : World} {φ φ' : Phi} {m m' : Mem} (h : ∀ b, Own φ' m' b → Own φ m b) (hle : φ.le φ') : Keeps φ m w φ' m' w :=
  ⟨hle, fun _ _ _ => rfl, fun b _ ho => h b ho, Nat.le_refl _, rfl, rfl, rfl⟩

/- Mapping all values. -/
def mapC (τ : AV → AV) : Cont → Cont
  | .box cs => .box (cs.map τ)
  | .dead => .dead
  | .vec sz rows => .vec sz rows
def mapM (τ : AV → AV) (e' : Ent) : Mem → Mem
  | [] => []
  | e :: r => (if e.key = e'.key then e' else ⟨e.key, e.ver, mapC τ e.cont⟩) :: mapM τ e' r
def mapEnv (τ : AV → AV) : Env → Env
  | [] => []
  | (t, g, x) :: r => (t, g, τ x) :: mapEnv τ r
theorem lk_mapEnv (τ : AV → AV) : ∀ (env : Env) (t : Nat) (g : Bool) (y : AV), Env.lk (mapEnv τ env) t = some (g, y) → ∃ x, Env.lk env t = some (g, x) ∧ y = τ x
  | [], t, g, y, h => by simp [mapEnv, Env.lk] at h
  | (t', g', x') :: r, t, g, y, h => by
    simp only [mapEnv, Env.lk] at h ⊢
    by_cases ht : t' = t
    · subst ht; simp at h ⊢; obtain ⟨rfl, rfl⟩ := h; simp
    · simp only [ht, if_false] at h ⊢
      exact lk_mapEnv τ r t g y h
theorem mapM_keys (τ : AV → AV) (e' : Ent) : ∀ m : Mem, (mapM τ e' m).map (·.key) = m.map (·.key)
  | [] => rfl
  | e :: r => by
    simp only [mapM, List.map_cons, mapM_keys τ e' r]
    congr 1
    split
    · rename_i h; exact h.symm
    · rfl
theorem mapM_mem {τ : AV → AV} {e' : Ent} : ∀ {m : Mem} {x : Ent}, x ∈ mapM τ e' m ↔ ∃ e ∈ m, x = if e.key = e'.key then e' else ⟨e.key, e.ver, mapC τ e.cont⟩
  | [], x => by simp [mapM]
  | e :: r, x => by simp [mapM, mapM_mem (m := r)]
theorem mapC_owns {τ L c} : (mapC τ c).owns L ↔ c.owns L := by cases c <;> exact Iff.rfl

def St.mapAll (S : St) (τ : AV → AV) (e' : Ent) : St := { S with env := mapEnv τ S.env, mem := mapM τ e' S.mem }

/-- One entry is turned, no memory; all values are seen anew. -/
theorem turn_map {φ : Phi} {G S a w} (h : Rel φ G S a w) (τ : AV → AV) {e e' : Ent} (he : e ∈ S.mem) {L L' : Loc} (hL : φ e.key = some L) (hkey : e'.key = e.key)
    (hv : L.ver < L'.ver) (hv' : L'.ver = e'.ver) (hown : e'.cont.owns L' → e.cont.owns L ∧ L'.blk = L.blk)
    (hτ : ∀ (φ' : Phi) (F' : Nat → Prop), φ' e.key = some L' → (∀ k, k ≠ e.key → φ' k = φ k) → (∀ b, F' b → Fo G φ S.mem b) → (¬ e'.cont.owns L' → e.cont.owns L → ¬ F' L.blk) → ∀ x v, AVRel φ w (Fo G φ S.mem) x v → AVRel φ' w F' (τ x) v)
    (hc : ∀ (φ' : Phi) (F' : Nat → Prop), (∀ b, F' b → Fo G φ S.mem b) → ContRel φ' w F' L' e'.cont) :
    ∃ φ', Rel φ' G (S.mapAll τ e') a w ∧ Keeps φ S.mem w φ' (S.mapAll τ e').mem w := by
  have hm := h.mem
  obtain ⟨φ', hφ'⟩ : ∃ φ' : Phi, φ' = fun k => if k = e.key then some L' else φ k := ⟨_, rfl⟩
  have hφk : φ' e.key = some L' := by simp [hφ']
  have hφo : ∀ k, k ≠ e.key → φ' k = φ k := fun k hk => by simp [hφ', hk]
  have hle : φ.le φ' := by
    intro k L0 h0
    by_cases hk : k = e.key
    · subst hk; rw [hL] at h0; cases h0
      exact ⟨L', hφk, by omega, fun hh => by omega⟩
    · exact ⟨L0, by rw [hφo k hk]; exact h0, Nat.le_refl _, fun _ => rfl⟩
  have hown' : ∀ b, Own φ' (mapM τ e' S.mem) b → Own φ S.mem b := by
    rintro b ⟨x, hx, Lx, hLx, hox, rfl⟩
    obtain ⟨y, hy, rfl⟩ := mapM_mem.1 hx
    by_cases hk : y.key = e'.key
    · simp only [hk, if_true] at hLx hox
      rw [hkey, hφk] at hLx; cases hLx
      obtain ⟨h1, h2⟩ := hown hox
      exact ⟨e, he, L, hL, h1, h2.symm⟩
    · simp only [hk, if_false] at hLx hox
      rw [hkey] at hk
      rw [hφo _ hk] at hLx
      exact ⟨y, hy, Lx, hLx, mapC_owns.1 hox, rfl⟩
  have hF : ∀ b, Fo G φ' (mapM τ e' S.mem) b → Fo G φ S.mem b := fun b => Or.imp id (hown' b)
  have hlost : ¬ e'.cont.owns L' → e.cont.owns L → ¬ Fo G φ' (mapM τ e' S.mem) L.blk := by
    rintro hno ho (hG | ⟨x, hx, Lx, hLx, hox, hb⟩)
    · exact hm.notG _ ⟨e, he, L, hL, ho, rfl⟩ hG
    · obtain ⟨y, hy, rfl⟩ := mapM_mem.1 hx
      by_cases hk : y.key = e'.key
      · simp only [hk, if_true] at hLx hox
        rw [hkey, hφk] at hLx; cases hLx
        exact hno hox
      · simp only [hk, if_false] at hLx hox
        rw [hkey] at hk
        rw [hφo _ hk] at hLx
        exact hk (hm.apart y hy e he Lx L hLx hL (mapC_owns.1 hox) ho hb)
  have hav := hτ φ' (Fo G φ' (mapM τ e' S.mem)) hφk hφo hF hlost
  refine ⟨φ', ⟨h.size, h.defers, ?_, ⟨?_, ?_, ?_, ?_, ?_, ?_⟩, h.glob.mono (fun _ _ _ => rfl) (Nat.le_refl _) (fun b _ => hF b)⟩, own_same hown' hle⟩
  · intro t x hx
    obtain ⟨y, hy, rfl⟩ := lk_mapEnv τ S.env t true x hx
    exact hav _ _ (h.env t y hy)
  · show ((mapM τ e' S.mem).map (·.key)).Nodup
    rw [mapM_keys]; exact hm.nodup
  · intro k L0 h0
    show k ∈ (mapM τ e' S.mem).map (·.key)
    rw [mapM_keys]
    by_cases hk : k = e.key
    · subst hk; exact List.mem_map_of_mem he
    · rw [hφo k hk] at h0; exact hm.dom k L0 h0
  · intro x hx
    obtain ⟨y, hy, rfl⟩ := mapM_mem.1 hx
    by_cases hk : y.key = e'.key
    · simp only [hk, if_true]
      exact ⟨L', by rw [hkey]; exact hφk, hv', hc _ _ hF⟩
    · simp only [hk, if_false]
      obtain ⟨Ly, hLy, hvy, hcy⟩ := hm.ents y hy
      refine ⟨Ly, by rw [hφo _ (by rw [← hkey]; exact hk)]; exact hLy, hvy, ?_⟩
      cases hyc : y.cont with
      | dead => trivial
      | box cs =>
        rw [hyc] at hcy
        obtain ⟨g0, arr, elem, g1, g2, g3, g4⟩ := hcy
        refine ⟨by simpa using g0, arr, elem, g1, by simp [g2], g3, fun i c v hci hv => ?_⟩
        rw [List.getElem?_map] at hci
        obtain ⟨z, hz, rfl⟩ := Option.map_eq_some_iff.1 hci
        exact hav z v (g4 i z v hz hv)
      | vec sz rows =>
        rw [hyc] at hcy
        obtain ⟨g1, g2, g3, g4⟩ := hcy
        refine ⟨g1, g2, g3, fun h0 => ?_⟩
        obtain ⟨arr, elem, f1, f2, f3, f4⟩ := g4 h0
        exact ⟨arr, elem, f1, f2, f3, fun i d hd' => let ⟨v, hv, hj⟩ := f4 i d hd'; ⟨v, hv.mono (fun _ _ _ => rfl) (Nat.le_refl _) (fun b _ => hF b), hj⟩⟩
  · intro x hx x' hx' Lx Lx' hLx hLx' ho ho' hb
    obtain ⟨y, hy, rfl⟩ := mapM_mem.1 hx
    obtain ⟨y', hy', rfl⟩ := mapM_mem.1 hx'
    have pull : ∀ {z : Ent} {Lz : Loc}, z ∈ S.mem → φ' (if z.key = e'.key then e' else ⟨z.key, z.ver, mapC τ z.cont⟩ : Ent).key = some Lz → (if z.key = e'.key then e' else ⟨z.key, z.ver, mapC τ z.cont⟩ : Ent).cont.owns Lz →
        ∃ z0 ∈ S.mem, ∃ L0, φ z0.key = some L0 ∧ z0.cont.owns L0 ∧ L0.blk = Lz.blk ∧ (if z.key = e'.key then e' else ⟨z.key, z.ver, mapC τ z.cont⟩ : Ent).key = z0.key := by
      intro z Lz hz hLz hoz
      by_cases hk : z.key = e'.key
      · simp only [hk, if_true] at hLz hoz ⊢
        rw [hkey, hφk] at hLz; cases hLz
        obtain ⟨h1, h2⟩ := hown hoz
        exact ⟨e, he, L, hL, h1, h2.symm, hkey⟩
      · simp only [hk, if_false] at hLz hoz ⊢
        rw [hkey] at hk
        rw [hφo _ hk] at hLz
        exact ⟨z, hz, Lz, hLz, mapC_owns.1 hoz, rfl, rfl⟩
    obtain ⟨z, hz, Lz, hLz, hoz, hbz, hkz⟩ := pull hy hLx ho
    obtain ⟨z', hz', Lz', hLz', hoz', hbz', hkz'⟩ := pull hy' hLx' ho'
    rw [hkz, hkz']
    exact hm.apart z hz z' hz' Lz Lz' hLz hLz' hoz hoz' (by rw [hbz, hbz', hb])
  · exact fun b hb => hm.notG b (hown' b hb)
  · exact hm.bound

/- Cutting a vector to the part that is in use. -/
mutual
def trAV (k v off len : Nat) : AV → AV
  | .vec k' v' o l => if k' = k ∧ v' = v ∧ off ≤ o ∧ o + l ≤ off + len then .vec k (v + 1) (o - off) l else .vec k' v' o l
  | .eptr k' v' i j => if k' = k ∧ v' = v ∧ off ≤ i then .eptr k (v + 1) (i - off) j else .eptr k' v' i j
  | .agg cs => .agg (trAVs k v off len cs)
  | .fn f cap => .fn f (trAVs k v off len cap)
  | .tup vs => .tup (trAVs k v off len vs)
  | .junk => .junk
  | .d x => .d x
  | .ptr a b c => .ptr a b c
  | .rptr x j => .rptr x j
  | .ifc t x => .ifc t x
  | .lit v => .lit v
  | .nn => .nn
def trAVs (k v off len : Nat) : List AV → List AV
  | [] => []
  | x :: r => trAV k v off len x :: trAVs k v off len r
end
theorem trAVs_get (k v off len) : ∀ (l : List AV) (i : Nat), (trAVs k v off len l)[i]? = (l[i]?).map (trAV k v off len)
  | [], i => by simp [trAVs]
  | x :: r, i => by cases i with | zero => simp [trAVs] | succ i => simp [trAVs, trAVs_get k v off len r i]
theorem trAVs_length (k v off len) : ∀ (l : List AV), (trAVs k v off len l).length = l.length
  | [] => rfl
  | x :: r => by simp [trAVs, trAVs_length k v off len r]

def St.trim (S : St) (k off len : Nat) : St :=
  match Mem.get S.mem k with
  | some ⟨_, v, .vec sz rows⟩ => if off + len ≤ rows.length then S.mapAll (trAV k v off len) ⟨k, v + 1, .vec sz ((rows.drop off).take len)⟩ else S
  | _ => S

theorem turn_trim (S : St) (k off len : Nat) : Turn S (S.trim k off len) := by
  unfold St.trim
  split
  · rename_i key v sz rows hg
    split
    · rename_i hle
      refine ⟨rfl, rfl, fun φ G a w hr => ?_⟩
      obtain ⟨hm, hk, L, hL, hver, hcr⟩ := hr.mem.get hg
      simp only at hk hver hcr
      subst hk
      obtain ⟨g1, g2, g3, g4⟩ := hcr
      refine turn_map hr (trAV key v off len) (e := ⟨key, v, .vec sz rows⟩) (e' := ⟨key, v + 1, .vec sz ((rows.drop off).take len)⟩) hm hL rfl (L' := ⟨v + 1, L.blk, L.sz, L.cap - off, L.base + off * L.sz⟩)
        (by simp only; omega) rfl (fun ho => ⟨by simp only [Cont.owns] at ho ⊢; omega, rfl⟩) ?_ ?_
      · intro φ' F' hφk hφo hF _ x u hx
        induction hx with
        | junk v => exact .junk v
        | d x v h => exact .d x v (h.mono (fun _ _ _ => rfl) (Nat.le_refl _) (fun b _ => hF b))
        | agg cs a hl h1 _ ih =>
          refine .agg _ a (by rw [trAVs_length]; exact hl) h1 (fun i c v hc hv => ?_)
          rw [trAVs_get] at hc
          obtain ⟨y, hy, rfl⟩ := Option.map_eq_some_iff.1 hc
          exact ih i y v hy hv
        | ptr k2 ver o v2 L2 hL2 hv2 h h1 =>
          unfold trAV
          by_cases hk2 : k2 = key
          · subst hk2
            rw [hL] at hL2; cases hL2
            exact .ptr _ ver o v2 _ hφk (by simp only; omega) (fun he => by simp only at he; omega) h1
          · exact .ptr k2 ver o v2 L2 (by rw [hφo _ hk2]; exact hL2) hv2 h h1
        | vec k2 ver o l v2 L2 hL2 hv2 h h1 =>
          unfold trAV
          split
          · rename_i hc
            obtain ⟨rfl, rfl, ho, hol⟩ := hc
            rw [hL] at hL2; cases hL2
            refine .vec _ _ _ l v2 _ hφk (Nat.le_refl _) (fun _ => ?_) h1
            obtain ⟨a0, cap, rfl, hlc, hpl⟩ := h hver.symm
            refine ⟨a0, cap, rfl, hlc, fun hc0 => ?_⟩
            obtain ⟨rfl, hcap⟩ := hpl hc0
            refine ⟨?_, by simp only; omega⟩
            congr 2
            show L.base + o * L.sz = L.base + off * L.sz + (o - off) * L.sz
            rw [Nat.add_assoc, ← Nat.add_mul]
            congr 2; omega
          · by_cases hk2 : k2 = key
            · subst hk2
              rw [hL] at hL2; cases hL2
              exact .vec _ ver o l v2 _ hφk (by simp only; omega) (fun he => by simp only at he; omega) h1
            · exact .vec k2 ver o l v2 L2 (by rw [hφo _ hk2]; exact hL2) hv2 h h1
        | eptr k2 ver i j v2 L2 hL2 hv2 h h1 =>
          unfold trAV
          split
          · rename_i hc
            obtain ⟨rfl, rfl, ho⟩ := hc
            rw [hL] at hL2; cases hL2
            refine .eptr _ _ _ j v2 _ hφk (Nat.le_refl _) (fun _ => ?_) h1
            rw [h hver.symm]
            congr 3
            show L.base + i * L.sz + j = L.base + off * L.sz + (i - off) * L.sz + j
            rw [Nat.add_assoc L.base (off * L.sz), ← Nat.add_mul]
            congr 3; omega
          · by_cases hk2 : k2 = key
            · subst hk2
              rw [hL] at hL2; cases hL2
              exact .eptr _ ver i j v2 _ hφk (by simp only; omega) (fun he => by simp only at he; omega) h1
            · exact .eptr k2 ver i j v2 L2 (by rw [hφo _ hk2]; exact hL2) hv2 h h1
        | rptr x j b o x' hb hFb hx hc => exact .rptr x j b o x' hb (fun h => hFb (hF b h)) (hx.mono (fun _ _ _ => rfl) (Nat.le_refl _) (fun b _ => hF b)) hc
        | fn f cap a hl _ ih =>
          refine .fn f _ a (by rw [trAVs_length]; exact hl) (fun i c v hc hv => ?_)
          rw [trAVs_get] at hc
          obtain ⟨y, hy, rfl⟩ := Option.map_eq_some_iff.1 hc
          exact ih i y v hy hv
        | tup vs a hl _ ih =>
          refine .tup _ a (by rw [trAVs_length]; exact hl) (fun i c v hc hv => ?_)
          rw [trAVs_get] at hc
          obtain ⟨y, hy, rfl⟩ := Option.map_eq_some_iff.1 hc
          exact ih i y v hy hv
        | ifc t x v h => exact .ifc t x v (h.mono (fun _ _ _ => rfl) (Nat.le_refl _) (fun b _ => hF b))
        | lit v h => exact .lit v h
        | nn a cap => exact .nn a cap
      · intro φ' F' hF
        refine ⟨g1, by simp only [List.length_take, List.length_drop]; omega, fun d hd => g3 d (List.mem_of_mem_drop (List.mem_of_mem_take hd)), fun h0 => ?_⟩
        simp only at h0
        obtain ⟨arr, elem, f1, f2, f3, f4⟩ := g4 (by omega)
        refine ⟨arr, elem, f1, ?_, f3, fun i d hd => ?_⟩
        · rw [f2]
          show L.base + L.cap * L.sz = L.base + off * L.sz + (L.cap - off) * L.sz
          rw [Nat.add_assoc, ← Nat.add_mul]
          congr 2; omega
        · rw [List.getElem?_take] at hd
          split at hd
          · rw [List.getElem?_drop] at hd
            obtain ⟨v, hv, hj⟩ := f4 _ d hd
            refine ⟨v, hv.mono (fun _ _ _ => rfl) (Nat.le_refl _) (fun b _ => hF b), fun j c hjc => ?_⟩
            have := hj j c hjc
            rw [Nat.add_mul] at this
            rw [← Nat.add_assoc L.base] at this
            exact this
          · cases hd
    · exact Turn.refl S
  · exact Turn.refl S

/- Freezing a vector: it becomes data. -/
mutual
def fzAV (k v : Nat) (rows : List D) : AV → AV
  | .vec k' v' o l => if k' = k ∧ v' = v ∧ o + l ≤ rows.length then .d (.list ((rows.drop o).take l)) else .vec k' v' o l
  | .agg cs => .agg (fzAVs k v rows cs)
  | .fn f cap => .fn f (fzAVs k v rows cap)
  | .tup vs => .tup (fzAVs k v rows vs)
  | .eptr a b c d => .eptr a b c d
  | .junk => .junk
  | .d x => .d x
  | .ptr a b c => .ptr a b c
  | .rptr x j => .rptr x j
  | .ifc t x => .ifc t x
  | .lit v => .lit v
  | .nn => .nn
def fzAVs (k v : Nat) (rows : List D) : List AV → List AV
  | [] => []
  | x :: r => fzAV k v rows x :: fzAVs k v rows r
end
theorem fzAVs_get (k v rows) : ∀ (l : List AV) (i : Nat), (fzAVs k v rows l)[i]? = (l[i]?).map (fzAV k v rows)
  | [], i => by simp [fzAVs]
  | x :: r, i => by cases i with | zero => simp [fzAVs] | succ i => simp [fzAVs, fzAVs_get k v rows r i]
theorem fzAVs_length (k v rows) : ∀ (l : List AV), (fzAVs k v rows l).length = l.length
  | [] => rfl
  | x :: r => by simp [fzAVs, fzAVs_length k v rows r]

def St.freeze (S : St) (k : Nat) : St :=
  match Mem.get S.mem k with
  | some ⟨_, v, .vec _ rows⟩ => S.mapAll (fzAV k v rows) ⟨k, v + 1, .dead⟩
  | _ => S

theorem turn_freeze (S : St) (k : Nat) : Turn S (S.freeze k) := by
  unfold St.freeze
  split
  · rename_i key v sz rows hg
    refine ⟨rfl, rfl, fun φ G a w hr => ?_⟩
    obtain ⟨hm, hk, L, hL, hver, hcr⟩ := hr.mem.get hg
    simp only at hk hver hcr
    subst hk
    refine turn_map hr (fzAV key v rows) (e := ⟨key, v, .vec sz rows⟩) (e' := ⟨key, v + 1, .dead⟩) hm hL rfl (L' := { L with ver := v + 1 })
      (by simp only; omega) rfl (fun ho => ho.elim) ?_ (fun _ _ _ => trivial)
    intro φ' F' hφk hφo hF hlost x u hx
    induction hx with
    | junk v => exact .junk v
    | d x v h => exact .d x v (h.mono (fun _ _ _ => rfl) (Nat.le_refl _) (fun b _ => hF b))
    | agg cs a hl h1 _ ih =>
      refine .agg _ a (by rw [fzAVs_length]; exact hl) h1 (fun i c v hc hv => ?_)
      rw [fzAVs_get] at hc
      obtain ⟨y, hy, rfl⟩ := Option.map_eq_some_iff.1 hc
      exact ih i y v hy hv
    | ptr k2 ver o v2 L2 hL2 hv2 h h1 =>
      unfold fzAV
      by_cases hk2 : k2 = key
      · subst hk2
        rw [hL] at hL2; cases hL2
        exact .ptr _ ver o v2 _ hφk (by simp only; omega) (fun he => by simp only at he; omega) h1
      · exact .ptr k2 ver o v2 L2 (by rw [hφo _ hk2]; exact hL2) hv2 h h1
    | vec k2 ver o l v2 L2 hL2 hv2 h h1 =>
      unfold fzAV
      split
      · rename_i hc
        obtain ⟨rfl, rfl, hol⟩ := hc
        rw [hL] at hL2; cases hL2
        exact .d _ _ (vec_list (.vec _ _ o l v2 L hL hv2 h h1) hL hver hcr hol hF (fun ho => hlost (fun hh => hh) ho))
      · by_cases hk2 : k2 = key
        · subst hk2
          rw [hL] at hL2; cases hL2
          exact .vec _ ver o l v2 _ hφk (by simp only; omega) (fun he => by simp only at he; omega) h1
        · exact .vec k2 ver o l v2 L2 (by rw [hφo _ hk2]; exact hL2) hv2 h h1
    | eptr k2 ver i j v2 L2 hL2 hv2 h h1 =>
      unfold fzAV
      by_cases hk2 : k2 = key
      · subst hk2
        rw [hL] at hL2; cases hL2
        exact .eptr _ ver i j v2 _ hφk (by simp only; omega) (fun he => by simp only at he; omega) h1
      · exact .eptr k2 ver i j v2 L2 (by rw [hφo _ hk2]; exact hL2) hv2 h h1
    | rptr x j b o x' hb hFb hx hc => exact .rptr x j b o x' hb (fun h => hFb (hF b h)) (hx.mono (fun _ _ _ => rfl) (Nat.le_refl _) (fun b _ => hF b)) hc
    | fn f cap a hl _ ih =>
      refine .fn f _ a (by rw [fzAVs_length]; exact hl) (fun i c v hc hv => ?_)
      rw [fzAVs_get] at hc
      obtain ⟨y, hy, rfl⟩ := Option.map_eq_some_iff.1 hc
      exact ih i y v hy hv
    | tup vs a hl _ ih =>
      refine .tup _ a (by rw [fzAVs_length]; exact hl) (fun i c v hc hv => ?_)
      rw [fzAVs_get] at hc
      obtain ⟨y, hy, rfl⟩ := Option.map_eq_some_iff.1 hc
      exact ih i y v hy hv
    | ifc t x v h => exact .ifc t x v (h.mono (fun _ _ _ => rfl) (Nat.le_refl _) (fun b _ => hF b))
    | lit v h => exact .lit v h
    | nn a cap => exact .nn a cap
  · exact Turn.refl S
end Go.Am
end
section
namespace Go.Am
open Go

/- Results. -/
def resOne (P : Program) (S : St) : ResultVar → Res
  | .tmp t => .val (S.opd (.tmp t)).1 (S.opd (.tmp t)).2
  | .cell p t => match loadR P S.mem t (S.opd (.tmp p)).2 with
    | .val c x => .val ((S.opd (.tmp p)).1 && c) x
    | _ => .no
def resAll (P : Program) (S : St) : List ResultVar → Option (Bool × List AV)
  | [] => some (true, [])
  | r :: rs => match resOne P S r with
    | .val c x => match resAll P S rs with
      | some (c', xs) => some (c && c', x :: xs)
      | none => none
    | _ => none
def oneOf : List AV → AV
  | [x] => x
  | xs => .tup xs

def resSem (tmps : Array Value) : ResultVar → Sem Value
  | .tmp t => pure (tmps.getD t undef)
  | .cell a t => do loadVar t (← asAddr (tmps.getD a undef))

theorem resOne_run {P : Program} {S : St} {r : ResultVar} {c : Bool} {x : AV} (h : resOne P S r = .val c x) (hc : c = true) {φ G a w} (hr : Rel φ G S a w) :
    ∃ v, (resSem a.tmps r).run P w = .ok v w ∧ AVRel φ w (Fo G φ S.mem) x v := by
  unfold resOne at h
  split at h
  · rename_i t
    simp only [Res.val.injEq] at h
    obtain ⟨rfl, rfl⟩ := h
    exact ⟨_, rfl, hr.opd (.tmp t) hc⟩
  · rename_i p t
    split at h
    · rename_i c' x' hl
      simp only [Res.val.injEq] at h
      obtain ⟨rfl, rfl⟩ := h
      simp only [Bool.and_eq_true] at hc
      have := load_ok P S { dst := none, op := .load t (.tmp p), type := 0, pos := "", after := #[], guard := none } t (.tmp p) rfl hc.1
      rw [hl] at this
      obtain ⟨v, hran, hav⟩ := this hc.2 φ G a w hr
      have hev : a.eval (.tmp p) = a.tmps.getD p undef := rfl
      simp only [execOp, Instr.loadAt, hev] at hran
      cases hpv : a.tmps.getD p undef with
      | pointer ad =>
        rw [hpv] at hran
        cases ad with
        | none => simp [Instr.sureAddr, stuck] at hran
        | some ad =>
          simp only [Instr.sureAddr, Sem.run_bind, Sem.run_pure, Result.andThen_ok] at hran
          generalize hq : (loadVar t ad).run P w = q at hran
          cases q with
          | halt _ _ => simp at hran
          | ok v2 w2 =>
            simp at hran
            obtain ⟨rfl, rfl⟩ := hran
            refine ⟨v2, ?_, hav⟩
            simp only [resSem, hpv, asAddr, Sem.run_bind, Sem.run_pure, Result.andThen_ok, hq]
      | _ => rw [hpv] at hran; simp [Instr.sureAddr, stuck] at hran
    · cases h

theorem resAll_run {P : Program} {S : St} {φ G a w} (hr : Rel φ G S a w) : ∀ (rs : List ResultVar) (c : Bool) (xs : List AV), resAll P S rs = some (c, xs) → c = true →
    ∃ vs : List Value, (rs.mapM (resSem a.tmps)).run P w = .ok vs w ∧ xs.length = vs.length ∧
      ∀ (i : Nat) x v, xs[i]? = some x → vs[i]? = some v → AVRel φ w (Fo G φ S.mem) x v
  | [], c, xs, h, _ => by
    simp only [resAll, Option.some.injEq, Prod.mk.injEq] at h
    obtain ⟨_, rfl⟩ := h
    exact ⟨[], by simp, rfl, by simp⟩
  | r :: rs, c, xs, h, hc => by
    simp only [resAll] at h
    split at h
    · rename_i c1 x hx
      split at h
      · rename_i c2 xs' hxs
        simp only [Option.some.injEq, Prod.mk.injEq] at h
        obtain ⟨rfl, rfl⟩ := h
        simp only [Bool.and_eq_true] at hc
        obtain ⟨v, h1, h2⟩ := resOne_run hx hc.1 hr
        obtain ⟨vs, h3, h4, h5⟩ := resAll_run (P := P) hr rs c2 xs' hxs hc.2
        refine ⟨v :: vs, ?_, by simp [h4], fun i x v h h' => ?_⟩
        · rw [List.mapM_cons]
          simp only [Sem.run_bind, h1, Result.andThen_ok, h3, Sem.run_pure]
        · cases i with
          | zero => simp at h h'; subst h; subst h'; exact h2
          | succ i => exact h5 i x v (by simpa using h) (by simpa using h')
      · cases h
    · cases h

/- What is in use of a vector, and which keys are led to. -/
mutual
def refAV (k v : Nat) : AV → Option (Nat × Nat)
  | .vec k' v' o l => if k' = k ∧ v' = v then some (o, l) else none
  | .agg cs => refAVs k v cs
  | .fn _ cap => refAVs k v cap
  | .tup vs => refAVs k v vs
  | .eptr _ _ _ _ => none
  | .junk => none
  | .d _ => none
  | .ptr _ _ _ => none
  | .rptr _ _ => none
  | .ifc _ _ => none
  | .lit _ => none
  | .nn => none
def refAVs (k v : Nat) : List AV → Option (Nat × Nat)
  | [] => none
  | x :: r => match refAV k v x with
    | some p => some p
    | none => refAVs k v r
end
def refMem (k v : Nat) : Mem → Option (Nat × Nat)
  | [] => none
  | ⟨_, _, .box cs⟩ :: r => match refAVs k v cs with
    | some p => some p
    | none => refMem k v r
  | _ :: r => refMem k v r
def refEnv (k v : Nat) : Env → Option (Nat × Nat)
  | [] => none
  | (_, _, x) :: r => match refAV k v x with
    | some p => some p
    | none => refEnv k v r
def St.trim1 (S : St) (k : Nat) : St :=
  match Mem.get S.mem k with
  | some ⟨_, v, .vec _ _⟩ => match refMem k v S.mem with
    | some (o, l) => S.trim k o l
    | none => match refEnv k v S.env with
      | some (o, l) => S.trim k o l
      | none => S
  | _ => S
theorem turn_trim1 (S : St) (k : Nat) : Turn S (S.trim1 k) := by
  unfold St.trim1
  split
  · split
    · exact turn_trim ..
    · split
      · exact turn_trim ..
      · exact Turn.refl S
  · exact Turn.refl S
def St.trims (S : St) : List Nat → St
  | [] => S
  | k :: r => (S.trim1 k).trims r
theorem turn_trims : ∀ (l : List Nat) (S : St), Turn S (S.trims l)
  | [], S => Turn.refl S
  | k :: r, S => (turn_trim1 S k).trans (turn_trims r _)

mutual
def avKeys : AV → List Nat
  | .ptr k _ _ => [k]
  | .vec k _ _ _ => [k]
  | .eptr k _ _ _ => [k]
  | .agg cs => avsKeys cs
  | .fn _ cap => avsKeys cap
  | .tup vs => avsKeys vs
  | .junk => []
  | .d _ => []
  | .rptr _ _ => []
  | .ifc _ _ => []
  | .lit _ => []
  | .nn => []
def avsKeys : List AV → List Nat
  | [] => []
  | x :: r => avKeys x ++ avsKeys r
end
def contKeys : Option Ent → List Nat
  | some ⟨_, _, .box cs⟩ => avsKeys cs
  | _ => []
/-- The keys to which the listed ones lead, each once, in the order in which they are met. -/
def collect (m : Mem) : Nat → List Nat → List Nat → List Nat
  | 0, _, acc => acc
  | _ + 1, [], acc => acc
  | n + 1, k :: todo, acc => match acc.contains k || (Mem.get m k).isNone with
    | true => collect m n todo acc
    | false => collect m n (todo ++ contKeys (Mem.get m k)) (acc ++ [k])
theorem collect_ok (m : Mem) : ∀ (n : Nat) (todo acc : List Nat), acc.Nodup → (∀ k ∈ acc, (Mem.get m k).isSome = true) → (collect m n todo acc).Nodup ∧ ∀ k ∈ collect m n todo acc, (Mem.get m k).isSome = true
  | 0, todo, acc, h, hs => ⟨h, hs⟩
  | n + 1, [], acc, h, hs => ⟨h, hs⟩
  | n + 1, k :: todo, acc, h, hs => by
    simp only [collect]
    split
    · exact collect_ok m n todo acc h hs
    · rename_i hc
      simp only [Bool.or_eq_false_iff, List.contains_eq_mem, decide_eq_false_iff_not, Option.isNone_eq_false_iff] at hc
      refine collect_ok m n _ _ ?_ ?_
      · rw [List.nodup_append]
        exact ⟨h, by simp, fun a ha b hb hab => by simp at hb; subst hb; subst hab; exact hc.1 ha⟩
      · intro x hx
        rcases List.mem_append.1 hx with hx | hx
        · exact hs x hx
        · simp at hx; subst hx; exact hc.2

/- The locals' keys. -/
def dead (k : Nat) : Ent := ⟨k, 0, .dead⟩
def Phi.add (φ : Phi) (ks : List Nat) : Phi := fun k => if k ∈ ks then some ⟨0, 0, 0, 0, 0⟩ else φ k
theorem own_add {φ : Phi} {m : Mem} {ks : List Nat} (hd : ∀ k ∈ ks, k ∉ m.map (·.key)) (b : Nat) : Own (φ.add ks) (m ++ ks.map dead) b ↔ Own φ m b := by
  constructor
  · rintro ⟨e, he, L, hL, ho, rfl⟩
    rcases List.mem_append.1 he with he | he
    · have : e.key ∉ ks := fun h => hd _ h (List.mem_map_of_mem he)
      simp only [Phi.add, this, if_false] at hL
      exact ⟨e, he, L, hL, ho, rfl⟩
    · simp only [List.mem_map] at he
      obtain ⟨k, _, rfl⟩ := he
      exact ho.elim
  · rintro ⟨e, he, L, hL, ho, rfl⟩
    have : e.key ∉ ks := fun h => hd _ h (List.mem_map_of_mem he)
    exact ⟨e, List.mem_append_left _ he, L, by simp [Phi.add, this, hL], ho, rfl⟩

theorem fo_add {φ : Phi} {G} {m : Mem} {ks : List Nat} (hd : ∀ k ∈ ks, k ∉ m.map (·.key)) : Fo G (φ.add ks) (m ++ ks.map dead) = Fo G φ m := by
  funext b; simp only [Fo, own_add hd b]

theorem le_add {φ : Phi} {G m w} (h : MemRel φ G m w) {ks : List Nat} (hd : ∀ k ∈ ks, k ∉ m.map (·.key)) : φ.le (φ.add ks) := by
  intro k L hL
  have : k ∉ ks := fun hk => hd k hk (h.dom k L hL)
  exact ⟨L, by simp [Phi.add, this, hL], Nat.le_refl _, fun _ => rfl⟩

theorem MemRel.add {φ G m w} (h : MemRel φ G m w) {ks : List Nat} (hn : ks.Nodup) (hd : ∀ k ∈ ks, k ∉ m.map (·.key)) : MemRel (φ.add ks) G (m ++ ks.map dead) w := by
  have hle := le_add h hd
  have hF := fo_add (φ := φ) (G := G) hd
  refine ⟨?_, ?_, ?_, ?_, ?_, h.bound⟩
  · rw [List.map_append, List.nodup_append]
    have e : (ks.map dead).map (·.key) = ks := by simp [Function.comp_def, dead]
    rw [e]
    exact ⟨h.nodup, hn, fun a ha b hb hab => hd b hb (hab ▸ ha)⟩
  · intro k L hL
    simp only [Phi.add] at hL
    split at hL
    · rename_i hk; rw [List.map_append]; refine List.mem_append_right _ ?_; rw [List.map_map]; exact List.mem_map.2 ⟨k, hk, rfl⟩
    · rw [List.map_append]; exact List.mem_append_left _ (h.dom k L hL)
  · intro e he
    rw [hF]
    rcases List.mem_append.1 he with he | he
    · obtain ⟨L, hL, hv, hc⟩ := h.ents e he
      have : e.key ∉ ks := fun h => hd _ h (List.mem_map_of_mem he)
      exact ⟨L, by simp [Phi.add, this, hL], hv, hc.mono hle (fun _ _ _ => rfl) (Nat.le_refl _) (fun _ _ h => h) (fun _ => rfl)⟩
    · simp only [List.mem_map] at he
      obtain ⟨k, hk, rfl⟩ := he
      exact ⟨⟨0, 0, 0, 0, 0⟩, by simp [Phi.add, dead, hk], rfl, trivial⟩
  · intro e he e' he' L L' hL hL' ho ho' hb
    rcases List.mem_append.1 he with he | he
    · rcases List.mem_append.1 he' with he' | he'
      · have h1 : e.key ∉ ks := fun h => hd _ h (List.mem_map_of_mem he)
        have h2 : e'.key ∉ ks := fun h => hd _ h (List.mem_map_of_mem he')
        simp only [Phi.add, h1, h2, if_false] at hL hL'
        exact h.apart e he e' he' L L' hL hL' ho ho' hb
      · simp only [List.mem_map] at he'
        obtain ⟨k, _, rfl⟩ := he'
        exact ho'.elim
    · simp only [List.mem_map] at he
      obtain ⟨k, _, rfl⟩ := he
      exact ho.elim
  · intro b hb hG; exact h.notG b ((own_add hd b).1 hb) hG

/-- The state in which a function begins. -/
def entryEnv : Nat → List AV → Env
  | _, [] => []
  | i, x :: r => (i, true, x) :: entryEnv (i + 1) r
theorem lk_entry : ∀ (i : Nat) (xs : List AV) (t : Nat) (y : Bool × AV), Env.lk (entryEnv i xs) t = some y → ∃ j, t = i + j ∧ xs[j]? = some y.2
  | i, [], t, y, h => by simp [entryEnv, Env.lk] at h
  | i, x :: r, t, y, h => by
    simp only [entryEnv, Env.lk] at h
    by_cases ht : i = t
    · subst ht; simp at h; subst h; exact ⟨0, rfl, rfl⟩
    · simp only [ht, if_false] at h
      obtain ⟨j, rfl, hj⟩ := lk_entry (i + 1) r t y h
      exact ⟨j + 1, by omega, by simpa using hj⟩

def inM : Nat → List Cont → Mem
  | _, [] => []
  | i, c :: r => ⟨i, 0, c⟩ :: inM (i + 1) r
theorem inM_mk : ∀ (cs : List Cont) (i : Nat), inM i cs = mkM i (cs.map fun c => (0, c))
  | [], i => rfl
  | c :: r, i => by simp [inM, mkM, inM_mk r]
def entry (n : Nat) (gl : List (Nat × D)) (args : List AV) (cs : List Cont) (sites : List Nat) : St := { n, gl, env := entryEnv 0 args, mem := inM 0 cs ++ sites.map dead }

/-- How a version counts for the caller. -/
def nvX (n0 : Nat) (i v : Nat) : Nat := if i < n0 then (if v = 0 then 0 else 1) else 0

/-- The policy of a function's end: the passed vectors that stay in their places, and whether its own vectors are handed back as such. -/
structure FPol where
  inpl : List Nat
  exp : Bool
  sites : List Nat
  mut_ : List Nat
  split : Bool

def finKeys (p : FPol) (n0 : Nat) (m : Mem) (xs : List AV) : List Nat :=
  match p.exp with
  | true => List.range n0 ++ (collect m 64 (avsKeys xs ++ List.range n0) []).filter (fun k => !decide (k < n0))
  | false => List.range n0
def envVals : Env → List AV
  | [] => []
  | (_, _, x) :: r => x :: envVals r
/-- What is handed back by values that stand in the slots. -/
def finOut (K : List Nat) (n0 : Nat) (S : St) (one : List AV → Out) : Option (Out × List (Nat × Cont)) :=
  if K.all (fun k => (Mem.get S.mem k).isSome) then some (one ((envVals S.env).map fun x => (vw S.mem K (fun _ => true) (nvX n0) x).norm), selL S.mem K (fun _ => true) (nvX n0) 0 K) else none
def finTrim (p : FPol) (K : List Nat) (S : St) : St := S.trims (K.filter fun k => !p.inpl.contains k)
def finVals (p : FPol) (n0 : Nat) (S : St) (xs : List AV) (one : List AV → Out) : Option (Out × List (Nat × Cont)) :=
  let K := finKeys p n0 S.mem xs
  finOut K n0 (finTrim p K { S with n := xs.length, env := entryEnv 0 xs }) one
def finish (P : Program) (p : FPol) (n0 : Nat) (rs : List ResultVar) (S : St) : Option (Out × List (Nat × Cont)) :=
  match resAll P S rs with
  | some (c, xs) => if c = true then finVals p n0 S xs (fun ys => .ret (oneOf ys)) else none
  | none => none
def finPanic (p : FPol) (n0 : Nat) (t : TypeId) (x : D) (S : St) : Option (Out × List (Nat × Cont)) := finVals p n0 S [] (fun _ => .panic t x)

/- Slots stay where they are. -/
def envTags : Env → List (Nat × Bool)
  | [] => []
  | (t, g, _) :: r => (t, g) :: envTags r
theorem mapEnv_tags (τ : AV → AV) : ∀ env : Env, envTags (mapEnv τ env) = envTags env
  | [] => rfl
  | (t, g, x) :: r => by simp [mapEnv, envTags, mapEnv_tags τ r]
theorem trim_tags (S : St) (k o l : Nat) : envTags (S.trim k o l).env = envTags S.env := by
  unfold St.trim
  split
  · split
    · exact mapEnv_tags _ _
    · rfl
  · rfl
theorem trim1_tags (S : St) (k : Nat) : envTags (S.trim1 k).env = envTags S.env := by
  unfold St.trim1
  split
  · split
    · exact trim_tags ..
    · split
      · exact trim_tags ..
      · rfl
  · rfl
theorem trims_tags : ∀ (l : List Nat) (S : St), envTags (S.trims l).env = envTags S.env
  | [], S => rfl
  | k :: r, S => by rw [St.trims, trims_tags r, trim1_tags]
theorem entry_tags : ∀ (i : Nat) (xs : List AV), envTags (entryEnv i xs) = (List.range' i xs.length).map fun j => (j, true)
  | i, [] => rfl
  | i, x :: r => by simp [entryEnv, envTags, entry_tags (i + 1) r, List.range'_succ]
theorem tags_lk : ∀ (env : Env) (i n j : Nat), envTags env = (List.range' i n).map (fun j => (j, true)) → ∀ x, (envVals env)[j]? = some x → Env.lk env (i + j) = some (true, x)
  | [], i, n, j, _, x, hx => by simp [envVals] at hx
  | (t, g, y) :: r, i, n, j, h, x, hx => by
    cases n with
    | zero => simp [envTags] at h
    | succ n =>
      simp only [envTags, List.range'_succ, List.map_cons, List.cons.injEq, Prod.mk.injEq] at h
      obtain ⟨⟨rfl, rfl⟩, h⟩ := h
      cases j with
      | zero => simp [envVals] at hx; subst hx; simp [Env.lk]
      | succ j =>
        have := tags_lk r (t + 1) n j h x (by simpa [envVals] using hx)
        simp only [Env.lk]
        rw [if_neg (by omega), show t + (j + 1) = t + 1 + j by omega]
        exact this
theorem envVals_length : ∀ env : Env, (envVals env).length = (envTags env).length
  | [] => rfl
  | (_, _, _) :: r => by simp [envVals, envTags, envVals_length r]

theorem finKeys_nodup (p : FPol) (n0 : Nat) (m : Mem) (xs : List AV) : (finKeys p n0 m xs).Nodup := by
  unfold finKeys
  split
  · rw [List.nodup_append]
    refine ⟨List.nodup_range, ((collect_ok m 64 _ [] List.nodup_nil (by simp)).1).filter _, fun a ha b hb hab => ?_⟩
    simp only [List.mem_range] at ha
    simp only [List.mem_filter, Bool.not_eq_true', decide_eq_false_iff_not] at hb
    omega
  · exact List.nodup_range
theorem finKeys_low (p : FPol) (n0 : Nat) (m : Mem) (xs : List AV) {k : Nat} (hk : k < n0) : (finKeys p n0 m xs)[k]? = some k := by
  unfold finKeys
  split
  · rw [List.getElem?_append_left (by simpa using hk)]; simp [hk]
  · simp [hk]

theorem finVals_ok {p : FPol} {n0 : Nat} {S : St} {xs : List AV} {one : List AV → Out} {out : Out} {l : List (Nat × Cont)} (h : finVals p n0 S xs one = some (out, l))
    {φ : Phi} {G : Nat → Prop} {w : World} (hm : MemRel φ G S.mem w) (hg : GlobRel w (Fo G φ S.mem) S.gl) {vs : List Value} (hl : xs.length = vs.length)
    (hx : ∀ (i : Nat) x v, xs[i]? = some x → vs[i]? = some v → AVRel φ w (Fo G φ S.mem) x v) {φ0 : Phi} {m0 : Mem} {w0 : World} (hk : Keeps φ0 m0 w0 φ S.mem w) (hdom : ∀ k L, φ0 k = some L → k < n0 ∧ L.ver = 0) :
    ∃ φ' ys, out = one ys ∧ MemRel φ' G (mkM 0 l) w ∧ Keeps φ0 m0 w0 φ' (mkM 0 l) w ∧ ys.length = vs.length ∧ (∀ (i : Nat) y v, ys[i]? = some y → vs[i]? = some v → AVRel φ' w (Fo G φ' (mkM 0 l)) y v) ∧
      ∀ b, Fo G φ' (mkM 0 l) b → Fo G φ S.mem b := by
  unfold finVals at h
  obtain ⟨K, hK⟩ : ∃ K, K = finKeys p n0 S.mem xs := ⟨_, rfl⟩
  have hKn : K.Nodup := by rw [hK]; exact finKeys_nodup ..
  have hKl : ∀ k, k < n0 → K[k]? = some k := fun k h => by rw [hK]; exact finKeys_low _ _ _ _ h
  simp only [← hK] at h
  clear hK
  have hr1 : Rel φ G { S with n := xs.length, env := entryEnv 0 xs } { tmps := vs.toArray, defers := [] } w := by
    refine ⟨by simp [hl], rfl, fun t x ht => ?_, hm, hg⟩
    obtain ⟨j, rfl, hj⟩ := lk_entry 0 xs t _ ht
    have hjl : j < vs.length := by rw [← hl]; exact (List.getElem?_eq_some_iff.1 hj).1
    have e : vs.toArray.getD (0 + j) undef = vs[j] := by simp [hjl]
    simp only [e]
    exact hx j x _ hj (by simp [hjl])
  obtain ⟨S2, hS2⟩ : ∃ S2, S2 = finTrim p K { S with n := xs.length, env := entryEnv 0 xs } := ⟨_, rfl⟩
  have ht : Turn { S with n := xs.length, env := entryEnv 0 xs } S2 := by rw [hS2]; exact turn_trims ..
  have htags : envTags S2.env = (List.range' 0 xs.length).map fun j => (j, true) := by
    rw [hS2, finTrim, trims_tags]; exact entry_tags 0 xs
  rw [← hS2] at h
  clear hS2
  obtain ⟨φ2, hr2, hk2⟩ := ht.2.2 φ G _ w hr1
  unfold finOut at h
  split at h
  · rename_i hall
    simp only [Option.some.injEq, Prod.mk.injEq] at h
    obtain ⟨rfl, rfl⟩ := h
    have hm2 := hr2.mem
    have hall' : ∀ k ∈ K, (Mem.get S2.mem k).isSome = true := by simpa using hall
    obtain ⟨s1, s2, s3⟩ := sel_mem (G1 := G) (ρ := K) (bor := fun _ => true) (nv := nvX n0) hm2 hKn hall' (fun b h => .inl h) (fun b h => hm2.notG b h.own)
      (fun k e L hg _ _ hL ho => hm2.notG _ ⟨e, (Mem.get_mem hg).1, L, by rw [(Mem.get_mem hg).2]; exact hL, ho, rfl⟩)
    have hk02 := hk.trans hk2
    refine ⟨φ2.sel K (nvX n0), _, rfl, s1, ⟨?_, hk02.old, ?_, hk02.size, hk02.os, hk02.tape, hk02.output⟩, ?_, ?_, ?_⟩
    · intro k L hL
      obtain ⟨hkn, hver⟩ := hdom k L hL
      obtain ⟨L2, h1, h2, h3⟩ := hk02.le k L hL
      refine ⟨{ L2 with ver := nvX n0 k L2.ver }, by simp [Phi.sel, hKl k hkn, h1], by simp [hver], fun he => ?_⟩
      simp only [nvX, hkn, if_true, hver] at he
      split at he
      · rename_i h0
        have h4 := h3 (by rw [hver]; exact h0)
        subst h4
        simp only [nvX, hkn, if_true, hver]
        rw [← hver]
      · simp at he
    · intro b hb ho
      exact hk02.own b hb ((sel_own (φ := φ2) (nv := nvX n0) (bor := fun _ => true) hall' b).1 ho).own
    · rw [List.length_map, envVals_length, htags]; simp [hl]
    · intro i y v hy hv
      rw [List.getElem?_map] at hy
      obtain ⟨x, hx2, rfl⟩ := Option.map_eq_some_iff.1 hy
      have h5 := tags_lk S2.env 0 xs.length i htags x hx2
      rw [Nat.zero_add] at h5
      have h6 := hr2.env i x h5
      have e : vs.toArray.getD i undef = v := by simp [hv]
      simp only [e] at h6
      exact (s2 x v h6).norm
    · intro b hb
      have h7 := s3 b hb
      rcases h7 with h7 | h7
      · exact .inl h7
      · rcases Nat.lt_or_ge b w.heap.size with h8 | h8
        · exact .inr (hk2.own b h8 h7)
        · exact absurd (hm2.own_lt h7) (by omega)
  · cases h
end Go.Am
end
section
namespace Go.Am
open Go

def keyTop : AV → List Nat
  | .ptr k _ _ => [k]
  | .vec k _ _ _ => [k]
  | .eptr k _ _ _ => [k]
  | _ => []
def keysTop (S : St) : List Operand → List Nat
  | [] => []
  | x :: r => keyTop (S.opd x).2 ++ keysTop S r
def topsOf (S : St) : Op → List Nat
  | .move _ => []
  | .assign _ => []
  | op => keysTop S op.operands.toList
def touch (S : St) (o : Oper) : List Nat := keyOf o :: topsOf S o.op

theorem keysTop_mem {S : St} : ∀ {l : List Operand} {x : Operand}, x ∈ l → ∀ k ∈ keyTop (S.opd x).2, k ∈ keysTop S l
  | [], x, h, _, _ => by simp at h
  | y :: r, x, h, k, hk => by
    simp only [keysTop, List.mem_append]
    rcases List.mem_cons.1 h with rfl | h
    · exact .inl hk
    · exact .inr (keysTop_mem h k hk)

section
variable {P : Program} {m m' : Mem}
theorem loadR_loc {t p} (h : ∀ k ∈ keyTop p, Mem.get m' k = Mem.get m k) : loadR P m' t p = loadR P m t p := by
  cases p <;> simp_all [loadR, keyTop]
theorem srcRows_loc {sz x} (h : ∀ k ∈ keyTop x, Mem.get m' k = Mem.get m k) : srcRows m' sz x = srcRows m sz x := by
  cases x with
  | vec k ver off len => simp only [srcRows, h k (by simp [keyTop])]
  | d x => cases x <;> rfl
  | lit v => unfold srcRows; split <;> simp_all
  | _ => rfl
theorem storeR_loc {t p x} (h : ∀ k ∈ keyTop p, Mem.get m' k = Mem.get m k) : storeR P m' t p x = storeR P m t p x := by
  cases p <;> simp_all [storeR, keyTop]
theorem fieldR_loc {s f p} (h : ∀ k ∈ keyTop p, Mem.get m' k = Mem.get m k) : fieldRm P m' s f p = fieldRm P m s f p := by
  cases p <;> simp_all [fieldRm, keyTop]
theorem nilCheckR_loc {p} (h : ∀ k ∈ keyTop p, Mem.get m' k = Mem.get m k) : nilCheckR m' p = nilCheckR m p := by
  cases p <;> simp_all [nilCheckR, keyTop]
theorem indexR_loc {t p i} (h : ∀ k ∈ keyTop p, Mem.get m' k = Mem.get m k) : indexR P m' t p i = indexR P m t p i := by
  cases p with
  | vec k ver off len => simp only [indexR, h k (by simp [keyTop])]
  | ptr k ver off => simp only [indexR, h k (by simp [keyTop])]
  | eptr k ver i j => simp only [indexR, h k (by simp [keyTop])]
  | d x => cases x <;> rfl
  | _ => rfl
theorem sliceR_loc {t p lo hi} (h : ∀ k ∈ keyTop p, Mem.get m' k = Mem.get m k) : sliceR P m' t p lo hi = sliceR P m t p lo hi := by
  cases p with
  | eptr k ver i j => simp only [sliceR, h k (by simp [keyTop])]
  | vec k ver off len => simp only [sliceR, h k (by simp [keyTop])]
  | ptr k ver off => simp only [sliceR, h k (by simp [keyTop])]
  | d x => cases x <;> rfl
  | _ => rfl
theorem boxR_loc {k c cs} (h : Mem.get m' k = Mem.get m k) : boxR m' k c cs = boxR m k c cs := by simp only [boxR, h]
theorem allocR_loc {k t} (h : Mem.get m' k = Mem.get m k) : allocR P m' k t = allocR P m k t := by simp only [allocR, arrR, boxR, h]
theorem convR_loc {k s d x} (h : Mem.get m' k = Mem.get m k) (hx : ∀ k ∈ keyTop x, Mem.get m' k = Mem.get m k) : convR P m' k s d x = convR P m k s d x := by
  have e := srcRows_loc (m := m) (m' := m') (sz := 1) hx
  cases htd : tk P d <;> cases x with
  | d x => cases x <;> simp only [convR, htd, e, h]
  | _ => simp only [convR, htd, e]
theorem convM_loc {k s d x} (h : Mem.get m' k = Mem.get m k) (hx : ∀ k ∈ keyTop x, Mem.get m' k = Mem.get m k) : convM P m' k s d x = convM P m k s d x := by
  have e := convR_loc (P := P) (s := s) (d := d) h hx
  cases x with
  | vec k1 ver off len => simp only [convM, e, hx k1 (by simp [keyTop])]
  | _ => simp only [convM, e]
theorem makeR_loc {k t l c} (h : Mem.get m' k = Mem.get m k) : makeR P m' k t l c = makeR P m k t l c := by simp only [makeR, h]
theorem buildSliceR_loc {k t n ps} (h : Mem.get m' k = Mem.get m k) : buildSliceR P m' k t n ps = buildSliceR P m k t n ps := by simp only [buildSliceR, h]
theorem lenR_loc {t x} (h : ∀ k ∈ keyTop x, Mem.get m' k = Mem.get m k) : lenRm P m' t x = lenRm P m t x := by
  cases x with
  | vec k ver off len => simp only [lenRm, h k (by simp [keyTop])]
  | d x => cases x <;> rfl
  | lit v => unfold lenRm; split <;> simp_all
  | _ => rfl
theorem appR_loc {k t u s x} (h : Mem.get m' k = Mem.get m k) (hs : ∀ k ∈ keyTop s, Mem.get m' k = Mem.get m k) (hx : ∀ k ∈ keyTop x, Mem.get m' k = Mem.get m k) : appR P m' k t u s x = appR P m k t u s x := by
  unfold appR appSrc
  simp only [srcRows_loc hx, h]
  cases s with
  | vec k ver off len => simp only [hs k (by simp [keyTop])]
  | lit v =>
    cases v with
    | slice ao n c => cases ao <;> cases n <;> cases c <;> simp only
    | _ => rfl
  | _ => rfl
theorem appR_key {P : Program} {m : Mem} {k0 : Nat} {t u : TypeId} {s x : AV} {c : Bool} {k v off n : Nat} {e : Ent} (h : appR P m k0 t u s x = .upd c (.vec k v off n) e) : k = k0 ∨ k ∈ keyTop s := by
  unfold appR at h
  split at h
  · split at h
    · split at h
      · split at h
        · split at h
          · cases h; right; simp [keyTop]
          · cases h
        · split at h
          · cases h; left; rfl
          · cases h
        · cases h
      · cases h
    · cases h
  · cases h
theorem fzApp_loc {P : Program} {m m' : Mem} {k t u s x} (h : Mem.get m' k = Mem.get m k) (hs : ∀ k ∈ keyTop s, Mem.get m' k = Mem.get m k) (hx : ∀ k ∈ keyTop x, Mem.get m' k = Mem.get m k) :
    fzRes m' (Mem.get m' k).isSome k (appR P m' k t u s x) = fzRes m (Mem.get m k).isSome k (appR P m k t u s x) := by
  rw [appR_loc h hs hx, h]
  unfold fzRes
  generalize hr : appR P m k t u s x = r
  split
  · rename_i c k1 v n k' v' sz rows
    have hk : Mem.get m' k1 = Mem.get m k1 := by
      rcases appR_key hr with rfl | hk
      · exact h
      · exact hs _ hk
    rw [hk]
  · rfl
theorem moveR_loc {k t x} (h : Mem.get m' k = Mem.get m k) : moveR P m' k t x = moveR P m k t x := by
  unfold moveR; simp only [h]
theorem nilR_loc {neg t x v} (h : ∀ k ∈ keyTop x, Mem.get m' k = Mem.get m k) : nilR P m' neg t x v = nilR P m neg t x v := by
  cases x with
  | vec k ver off len => unfold nilR; simp only [h k (by simp [keyTop])]
  | ptr k ver off => unfold nilR; simp only [h k (by simp [keyTop])]
  | d x => unfold nilR; cases x with
    | list xs => cases xs <;> rfl
    | _ => rfl
  | lit u => unfold nilR; cases u with
    | slice ao n c => cases ao <;> cases n <;> cases c <;> rfl
    | pointer a => cases a <;> rfl
    | _ => rfl
  | _ => rfl
theorem copyR_loc {t s x} (hs : ∀ k ∈ keyTop s, Mem.get m' k = Mem.get m k) (hx : ∀ k ∈ keyTop x, Mem.get m' k = Mem.get m k) : copyR P m' t s x = copyR P m t s x := by
  unfold copyR
  simp only [srcRows_loc hx]
  cases s with
  | vec k ver off len => simp only [hs k (by simp [keyTop])]
  | _ => rfl
end

theorem stepv_loc {P : Program} {S S' : St} {o : Oper} (hx : ∀ x ∈ o.op.operands.toList, S'.opd x = S.opd x) (hk : ∀ k ∈ touch S o, Mem.get S'.mem k = Mem.get S.mem k) : stepv P S' o = stepv P S o := by
  have hk0 : Mem.get S'.mem (keyOf o) = Mem.get S.mem (keyOf o) := hk _ (by simp [touch])
  have hkx : match o.op with
      | .move _ => True
      | .assign _ => True
      | op => ∀ x ∈ op.operands.toList, ∀ k ∈ keyTop (S.opd x).2, Mem.get S'.mem k = Mem.get S.mem k := by
    unfold touch at hk
    generalize o.op = op at hk
    cases op <;> first | trivial | exact fun x hxm k hkk => hk k (List.mem_cons_of_mem _ (keysTop_mem hxm k hkk))
  have mapE : ∀ (l : List Operand), (∀ x ∈ l, S'.opd x = S.opd x) → l.map (fun x => (S'.opd x).2) = l.map (fun x => (S.opd x).2) := fun l hl => List.map_congr_left (fun x hxm => by rw [hl x hxm])
  have mapE2 : ∀ (l : List (Nat × Operand)), (∀ x ∈ l, S'.opd x.2 = S.opd x.2) → l.map (fun x => (x.1, (S'.opd x.2).2)) = l.map (fun x => (x.1, (S.opd x.2).2)) := fun l hl => List.map_congr_left (fun x hxm => by rw [hl x hxm])
  unfold stepv
  generalize hop : o.op = op at hx hkx
  cases op with
  | move x => simp only [hx x (by simp [Op.operands]), moveR_loc hk0]
  | assign x => simp only [hx x (by simp [Op.operands]), moveR_loc hk0]
  | pick c a b => simp only [hx c (by simp [Op.operands]), hx a (by simp [Op.operands]), hx b (by simp [Op.operands])]
  | alloc t => simp only [allocR_loc hk0]
  | box t x => simp only [hx x (by simp [Op.operands]), boxR_loc hk0]
  | load t x => simp only [hx x (by simp [Op.operands]), loadR_loc (hkx x (by simp [Op.operands]))]
  | store t p x => simp only [hx x (by simp [Op.operands]), hx p (by simp [Op.operands]), storeR_loc (hkx p (by simp [Op.operands]))]
  | fieldAddr s x f => simp only [hx x (by simp [Op.operands]), fieldR_loc (hkx x (by simp [Op.operands]))]
  | nilCheck x => simp only [hx x (by simp [Op.operands]), nilCheckR_loc (hkx x (by simp [Op.operands]))]
  | indexAddr t x i => simp only [hx x (by simp [Op.operands]), hx i (by simp [Op.operands]), indexR_loc (hkx x (by simp [Op.operands]))]
  | index t x i => simp only [hx x (by simp [Op.operands]), hx i (by simp [Op.operands])]
  | slice t x lo hi mx =>
    cases mx with
    | none =>
      have hlo : lo.map (fun y => (S'.opd y).2) = lo.map (fun y => (S.opd y).2) := by cases lo with | none => rfl | some y => simp [hx y (by simp [Op.operands])]
      have hhi : hi.map (fun y => (S'.opd y).2) = hi.map (fun y => (S.opd y).2) := by cases hi with | none => rfl | some y => simp [hx y (by simp [Op.operands])]
      simp only [hx x (by simp [Op.operands]), hlo, hhi, sliceR_loc (hkx x (by simp [Op.operands]))]
    | some _ => rfl
  | binOp op t x y t' =>
    have e1 := hx x (by simp [Op.operands])
    have e2 := hx y (by simp [Op.operands])
    have hkk := hkx x (by simp [Op.operands])
    simp only
    unfold binOpR
    cases y with
    | const v => simp only [e1, nilR_loc hkk]; rfl
    | _ => simp only [e1, e2]
  | unOp op t x => simp only [hx x (by simp [Op.operands])]
  | convert s d x => simp only [hx x (by simp [Op.operands]), convM_loc hk0 (hkx x (by simp [Op.operands]))]
  | makeInterface t x => simp only [hx x (by simp [Op.operands])]
  | makeFunc f first cap => simp only [mapE cap.toList (fun x hxm => hx x (by simp [Op.operands]; right; simpa using hxm))]
  | makeSlice t l c => simp only [hx l (by simp [Op.operands]), hx c (by simp [Op.operands]), makeR_loc hk0]
  | build t ps => simp only [mapE2 ps.toList (fun x hxm => hx x.2 (by simp only [Op.operands, List.toList_toArray, List.mem_map]; exact ⟨x, hxm, rfl⟩))]
  | buildSlice t n ps => simp only [mapE2 ps.toList (fun x hxm => hx x.2 (by simp only [Op.operands, List.toList_toArray, List.mem_map]; exact ⟨x, hxm, rfl⟩)), buildSliceR_loc hk0]
  | extract x i => simp only [hx x (by simp [Op.operands])]
  | call c =>
    obtain ⟨callee, args, tys⟩ := c
    cases callee with
    | builtin b =>
      have ha : ∀ x ∈ args.toList, S'.opd x = S.opd x := fun x hxm => hx x (by simp [Op.operands, Call.operands]; simpa using hxm)
      have hka : ∀ x ∈ args.toList, ∀ k ∈ keyTop (S.opd x).2, Mem.get S'.mem k = Mem.get S.mem k := fun x hxm => hkx x (by simp [Op.operands, Call.operands]; simpa using hxm)
      simp only
      unfold builtinR
      have em := mapE args.toList ha
      generalize args.toList = al at ha hka em
      generalize tys.toList = tl
      split
      · rename_i x t; simp only [ha x (by simp), lenR_loc (hka x (by simp))]
      · rename_i s x t u; simp only [ha x (by simp), ha s (by simp), fzApp_loc hk0 (hka s (by simp)) (hka x (by simp))]
      · rename_i s x t u; simp only [ha x (by simp), ha s (by simp), copyR_loc (hka s (by simp)) (hka x (by simp))]
      · simp only [em]
      · simp only [em]
      · rfl
    | _ => rfl
  | _ => rfl
end Go.Am
end
section
namespace Go.Am
open Go

/-- What one operation of a region did: the keys that it may look at, the entries that it lays, whether its value counts, its value. -/
structure Stp where
  ks : List Nat
  es : List Ent
  g : Bool
  x : AV

def Stp.app (p : Stp) (o : Oper) (S : St) : St := ({ S with mem := putAll S.mem p.es } : St).put o.dst p.g p.x

def lkDst (all : List Oper) (j : Nat) : List Nat :=
  match all[j]? with
  | some o => match o.dst with | some t => [t] | none => []
  | none => []
/-- The slots that an operation looks at. -/
def looks (all : List Oper) (o : Oper) : List Nat :=
  (o.op.operands.toList.filterMap fun | .tmp t => some t | _ => none) ++ (match o.guard with | some (j, _) => lkDst all j | none => [])

structure Agree (all : List Oper) (o : Oper) (ks : List Nat) (S' S : St) : Prop where
  n : S'.n = S.n
  gl : S'.gl = S.gl
  keys : S'.mem.map (·.key) = S.mem.map (·.key)
  env : ∀ t ∈ looks all o, Env.lk S'.env t = Env.lk S.env t
  mem : ∀ k ∈ ks, Mem.get S'.mem k = Mem.get S.mem k

/-- An operation at its turn does what the step says, in every state that looks alike to it. -/
def StepL (P : Program) (all : List Oper) (S : St) (o : Oper) (p : Stp) : Prop :=
  ∀ S', Agree all o p.ks S' S → ∀ φ G a w, Rel φ G S' a w → ∀ (next : Act → World → Prop) (R : Exit → Act → World → Prop),
    (∀ φ' a' w', Rel φ' G (p.app o S') a' w' → Keeps φ S'.mem w φ' (p.app o S').mem w' → next a' w') →
    if Region.wanted o (yielded all.toArray a.tmps) then o.wp P a w next R else next (a.put o.dst undef) w

/-- Likewise, where the memory holds I. -/
def StepI (P : Program) (I : Mem → Prop) (all : List Oper) (S : St) (o : Oper) (p : Stp) : Prop :=
  ∀ S', Agree all o p.ks S' S → I S'.mem → ∀ φ G a w, Rel φ G S' a w → ∀ (next : Act → World → Prop) (R : Exit → Act → World → Prop),
    (∀ φ' a' w', Rel φ' G (p.app o S') a' w' → Keeps φ S'.mem w φ' (p.app o S').mem w' → next a' w') →
    if Region.wanted o (yielded all.toArray a.tmps) then o.wp P a w next R else next (a.put o.dst undef) w
theorem StepL.toI {P : Program} {I : Mem → Prop} {all : List Oper} {S : St} {o : Oper} {p : Stp} (h : StepL P all S o p) : StepI P I all S o p := fun S' ha _ => h S' ha

/-- A region's steps in the order of the text. -/
inductive Cert (P : Program) (I : Mem → Prop) (all : List Oper) : List Oper → St → List Stp → St → Prop
  | nil (S) : Cert P I all [] S [] S
  | cons (o rest S p ps S1) (hk : ∀ e ∈ p.es, e.key ∈ p.ks) (hI : ∀ m, I m → I (putAll m p.es)) (h : StepI P I all S o p) (hr : Cert P I all rest (p.app o S) ps S1) : Cert P I all (o :: rest) S (p :: ps) S1

/- The order: of two operations neither ahead of the other, none looks at what the other writes. -/
def preds (o : Oper) : List Nat := (o.after.toList.filter (Region.binds .any)).map (·.on)
/-- Of each operation all that stand ahead of it by the edges. -/
def ancs : List Oper → List (List Nat) → List (List Nat)
  | [], acc => acc
  | o :: r, acc => ancs r (acc ++ [((preds o).flatMap fun p => p :: acc.getD p []).eraseDups])

def disj (l r : List Nat) : Bool := l.all fun x => !r.contains x
def apartB (all : List Oper) (o o' : Oper) (p p' : Stp) : Bool :=
  disj o.dst.toList (looks all o') && disj o'.dst.toList (looks all o) && disj o.dst.toList o'.dst.toList && disj (p.es.map (·.key)) p'.ks && disj (p'.es.map (·.key)) p.ks
/-- What is asked of the region's operation j against all ahead of it in the text. -/
def ordAt (all : List Oper) (ps : List Stp) (an : List (List Nat)) (j : Nat) : Bool :=
  match all[j]?, ps[j]? with
  | some o, some p => (preds o).all (fun i => decide (i < j)) && (List.range j).all fun i => (an.getD j []).contains i || (match all[i]?, ps[i]? with
    | some o', some p' => apartB all o' o p' p
    | _, _ => false)
  | _, _ => false
def ordOk (all : List Oper) (ps : List Stp) : Bool := (List.range all.length).all (ordAt all ps (ancs all []))

theorem ancs_append : ∀ (l : List Oper) (acc : List (List Nat)), ∃ r, ancs l acc = acc ++ r ∧ r.length = l.length
  | [], acc => ⟨[], by simp [ancs]⟩
  | o :: l, acc => by
    obtain ⟨r, h1, h2⟩ := ancs_append l (acc ++ [((preds o).flatMap fun p => p :: acc.getD p []).eraseDups])
    exact ⟨((preds o).flatMap fun p => p :: acc.getD p []).eraseDups :: r, by rw [ancs, h1, List.append_assoc, List.singleton_append], by simp [h2]⟩

theorem mem_eraseDups {l : List Nat} {x : Nat} : x ∈ l.eraseDups ↔ x ∈ l := List.mem_eraseDups

/-- The ancestors of operation j: its direct ones and theirs. -/
theorem ancs_spec : ∀ (l : List Oper) (acc : List (List Nat)) (j : Nat) (o : Oper), l[j]? = some o → (∀ p ∈ preds o, p < acc.length + j) →
    ∀ i, i ∈ (ancs l acc).getD (acc.length + j) [] ↔ ∃ p ∈ preds o, i = p ∨ i ∈ (ancs l acc).getD p []
  | [], acc, j, o, h, _ => by simp at h
  | x :: l, acc, j, o, h, hp => by
    simp only [ancs]
    cases j with
    | zero =>
      simp at h; subst h
      obtain ⟨r, h1, _⟩ := ancs_append l (acc ++ [((preds x).flatMap fun p => p :: acc.getD p []).eraseDups])
      rw [h1]
      intro i
      have e1 : (acc ++ [((preds x).flatMap fun p => p :: acc.getD p []).eraseDups] ++ r).getD (acc.length + 0) [] = ((preds x).flatMap fun p => p :: acc.getD p []).eraseDups := by
        simp [List.getD_eq_getElem?_getD, List.append_assoc]
      rw [e1, mem_eraseDups, List.mem_flatMap]
      constructor
      · rintro ⟨p, hpm, hi⟩
        refine ⟨p, hpm, ?_⟩
        have hlt := hp p hpm
        rcases List.mem_cons.1 hi with rfl | hi
        · exact .inl rfl
        · right
          rw [List.getD_eq_getElem?_getD] at hi ⊢
          rw [List.append_assoc, List.getElem?_append_left (by omega)]
          exact hi
      · rintro ⟨p, hpm, hi⟩
        refine ⟨p, hpm, ?_⟩
        have hlt := hp p hpm
        rcases hi with rfl | hi
        · simp
        · rw [List.getD_eq_getElem?_getD, List.append_assoc, List.getElem?_append_left (by omega), ← List.getD_eq_getElem?_getD] at hi
          exact List.mem_cons_of_mem _ hi
    | succ j =>
      have := ancs_spec l (acc ++ [((preds x).flatMap fun p => p :: acc.getD p []).eraseDups]) j o (by simpa using h) (fun p hpm => by have := hp p hpm; simp; omega)
      simp only [List.length_append, List.length_cons, List.length_nil] at this
      rw [show acc.length + (j + 1) = acc.length + (0 + 1) + j by omega]
      exact this

/-- A set of operations that holds with each one all that stand ahead of it. -/
theorem anc_closed {all : List Oper} {L : Nat → Prop} (hp : ∀ j o, all[j]? = some o → ∀ p ∈ preds o, p < j) (hL : ∀ j o, all[j]? = some o → L j → ∀ p ∈ preds o, L p) :
    ∀ j, (∃ o, all[j]? = some o) → ∀ i, i ∈ (ancs all []).getD j [] → i < j ∧ ((∀ o, all[j]? = some o → ∀ p ∈ preds o, L p) → L i) := by
  intro j
  induction j using Nat.strongRecOn with
  | _ j ih =>
    rintro ⟨o, ho⟩ i hi
    have hs := (ancs_spec all [] j o ho (fun p hpm => by simpa using hp j o ho p hpm) i)
    simp only [List.length_nil, Nat.zero_add] at hs
    obtain ⟨p, hpm, h⟩ := hs.1 hi
    have hpj := hp j o ho p hpm
    rcases h with rfl | h
    · exact ⟨hpj, fun hh => hh o ho i hpm⟩
    · have hjl : j < all.length := (List.getElem?_eq_some_iff.1 ho).1
      obtain ⟨op, hop⟩ : ∃ op, all[p]? = some op := ⟨all[p], by simp [show p < all.length by omega]⟩
      obtain ⟨h1, h2⟩ := ih p hpj ⟨op, hop⟩ i h
      exact ⟨by omega, fun hh => h2 (fun o' ho' q hq => hL p o' ho' (hh o ho p hpm) q hq)⟩

/- States by the set of operations that have been carried out. -/
def runAll (all : List Oper) (ps : List Stp) (S : St) (l : List Nat) : St :=
  l.foldl (fun S i => match all[i]?, ps[i]? with | some o, some p => p.app o S | _, _ => S) S

theorem app_n (p : Stp) (o : Oper) (S : St) : (p.app o S).n = S.n := by simp [Stp.app, put_n]
theorem app_gl (p : Stp) (o : Oper) (S : St) : (p.app o S).gl = S.gl := by cases h : o.dst <;> simp [Stp.app, h, St.put]
theorem app_keys (p : Stp) (o : Oper) (S : St) : (p.app o S).mem.map (·.key) = S.mem.map (·.key) := by simp [Stp.app, put_mem, putAll_keys]

theorem app_lk (p : Stp) (o : Oper) (S : St) (t : Nat) : Env.lk (p.app o S).env t = if o.dst = some t then some (p.g, p.x) else Env.lk S.env t := by
  cases hd : o.dst with
  | none => simp [Stp.app, St.put, hd]
  | some d =>
    by_cases h : d = t
    · subst h; simp [Stp.app, St.put, hd, Env.lk]
    · simp [Stp.app, St.put, hd, Env.lk, h]

theorem putAll_get_ne : ∀ (es : List Ent) (m : Mem) (k : Nat), k ∉ es.map (·.key) → Mem.get (putAll m es) k = Mem.get m k
  | [], m, k, _ => rfl
  | e :: r, m, k, h => by
    simp only [List.map_cons, List.mem_cons, not_or] at h
    rw [putAll, putAll_get_ne r _ k h.2, Mem.get_set_ne (fun he => h.1 he.symm)]
/-- What is put at a key hangs on the keys that there are and on what is put alone. -/
theorem putAll_get_eq : ∀ (es : List Ent) (m m' : Mem) (k : Nat), m.map (·.key) = m'.map (·.key) → (k ∈ es.map (·.key) ∨ Mem.get m k = Mem.get m' k) → Mem.get (putAll m es) k = Mem.get (putAll m' es) k
  | [], m, m', k, _, h => by simpa [putAll] using h
  | e :: r, m, m', k, hk, h => by
    simp only [putAll]
    refine putAll_get_eq r _ _ k (by rw [Mem.set_keys, Mem.set_keys, hk]) ?_
    by_cases he : e.key = k
    · right
      subst he
      by_cases hin : e.key ∈ m.map (·.key)
      · rw [Mem.get_set_same hin, Mem.get_set_same (hk ▸ hin)]
      · have none_of : ∀ (m : Mem), e.key ∉ m.map (·.key) → Mem.get (Mem.set m e) e.key = none := by
          intro m hm
          cases hg : Mem.get (Mem.set m e) e.key with
          | none => rfl
          | some y =>
            obtain ⟨h1, h2⟩ := Mem.get_mem hg
            have : y.key ∈ (Mem.set m e).map (·.key) := List.mem_map_of_mem h1
            rw [Mem.set_keys, h2] at this
            exact absurd this hm
        rw [none_of m hin, none_of m' (hk ▸ hin)]
    · rw [Mem.get_set_ne he, Mem.get_set_ne he]
      rcases h with h | h
      · simp only [List.map_cons, List.mem_cons] at h
        rcases h with h | h
        · exact absurd h.symm he
        · exact .inl h
      · exact .inr h

theorem app_get_ne (p : Stp) (o : Oper) (S : St) (k : Nat) (h : k ∉ p.es.map (·.key)) : Mem.get (p.app o S).mem k = Mem.get S.mem k := by
  simp only [Stp.app, put_mem]; exact putAll_get_ne _ _ _ h

section
variable {all : List Oper} {ps : List Stp} {S : St}
theorem runAll_n (l : List Nat) : ∀ (S : St), (runAll all ps S l).n = S.n := by
  induction l with
  | nil => exact fun _ => rfl
  | cons i l ih =>
    intro S
    have e1 : runAll all ps S (i :: l) = runAll all ps (runAll all ps S [i]) l := by simp [runAll]
    rw [e1, ih]
    simp only [runAll, List.foldl_cons, List.foldl_nil]
    split
    · exact app_n ..
    · rfl
theorem runAll_gl (l : List Nat) : ∀ (S : St), (runAll all ps S l).gl = S.gl := by
  induction l with
  | nil => exact fun _ => rfl
  | cons i l ih =>
    intro S
    have e1 : runAll all ps S (i :: l) = runAll all ps (runAll all ps S [i]) l := by simp [runAll]
    rw [e1, ih]
    simp only [runAll, List.foldl_cons, List.foldl_nil]
    split
    · exact app_gl ..
    · rfl
theorem runAll_keys (l : List Nat) : ∀ (S : St), (runAll all ps S l).mem.map (·.key) = S.mem.map (·.key) := by
  induction l with
  | nil => exact fun _ => rfl
  | cons i l ih =>
    intro S
    have e1 : runAll all ps S (i :: l) = runAll all ps (runAll all ps S [i]) l := by simp [runAll]
    rw [e1, ih]
    simp only [runAll, List.foldl_cons, List.foldl_nil]
    split
    · exact app_keys ..
    · rfl
theorem runAll_append (l l' : List Nat) (S : St) : runAll all ps S (l ++ l') = runAll all ps (runAll all ps S l) l' := by simp [runAll]

/-- Operations that don't write a slot change nothing in it: those that do, in their order, decide. -/
theorem runAll_lk (t : Nat) (q : Nat → Bool) (l : List Nat) : ∀ (S S' : St), (∀ i ∈ l, ∀ o, all[i]? = some o → o.dst = some t → q i = true) → Env.lk S.env t = Env.lk S'.env t → Env.lk (runAll all ps S l).env t = Env.lk (runAll all ps S' (l.filter q)).env t := by
  induction l with
  | nil => intro S S' _ h; exact h
  | cons i l ih =>
    intro S S' hq h
    have e1 : runAll all ps S (i :: l) = runAll all ps (runAll all ps S [i]) l := by simp [runAll]
    have hq' : ∀ i' ∈ l, ∀ o, all[i']? = some o → o.dst = some t → q i' = true := fun i' hi' => hq i' (List.mem_cons_of_mem _ hi')
    rw [e1]
    by_cases hqi : q i = true
    · rw [List.filter_cons_of_pos hqi]
      have e2 : runAll all ps S' (i :: l.filter q) = runAll all ps (runAll all ps S' [i]) (l.filter q) := by simp [runAll]
      rw [e2]
      refine ih _ _ hq' ?_
      simp only [runAll, List.foldl_cons, List.foldl_nil]
      split
      · rw [app_lk, app_lk, h]
      · exact h
    · rw [List.filter_cons_of_neg hqi]
      refine ih _ _ hq' ?_
      simp only [runAll, List.foldl_cons, List.foldl_nil]
      split
      · rename_i o p ho hp
        rw [app_lk, if_neg (fun hd => hqi (hq i (by simp) o ho hd)), h]
      · exact h
theorem runAll_get (k : Nat) (q : Nat → Bool) (l : List Nat) : ∀ (S S' : St), (∀ i ∈ l, ∀ p, ps[i]? = some p → k ∈ p.es.map (·.key) → q i = true) → S.mem.map (·.key) = S'.mem.map (·.key) → Mem.get S.mem k = Mem.get S'.mem k → Mem.get (runAll all ps S l).mem k = Mem.get (runAll all ps S' (l.filter q)).mem k := by
  induction l with
  | nil => intro S S' _ _ h; exact h
  | cons i l ih =>
    intro S S' hq hk h
    have e1 : runAll all ps S (i :: l) = runAll all ps (runAll all ps S [i]) l := by simp [runAll]
    have hq' : ∀ i' ∈ l, ∀ p, ps[i']? = some p → k ∈ p.es.map (·.key) → q i' = true := fun i' hi' => hq i' (List.mem_cons_of_mem _ hi')
    rw [e1]
    by_cases hqi : q i = true
    · rw [List.filter_cons_of_pos hqi]
      have e2 : runAll all ps S' (i :: l.filter q) = runAll all ps (runAll all ps S' [i]) (l.filter q) := by simp [runAll]
      rw [e2]
      refine ih _ _ hq' (by rw [runAll_keys, runAll_keys, hk]) ?_
      simp only [runAll, List.foldl_cons, List.foldl_nil]
      split
      · simp only [Stp.app, put_mem]
        exact putAll_get_eq _ _ _ k hk (.inr h)
      · exact h
    · rw [List.filter_cons_of_neg hqi]
      refine ih _ _ hq' (by rw [runAll_keys, hk]) ?_
      simp only [runAll, List.foldl_cons, List.foldl_nil]
      split
      · rename_i o p ho hp
        rw [app_get_ne _ _ _ _ (fun hd => hqi (hq i (by simp) p hp hd)), h]
      · exact h
end

/- States alike. -/
structure Eqv (S' S : St) : Prop where
  n : S'.n = S.n
  gl : S'.gl = S.gl
  mem : S'.mem = S.mem
  env : ∀ t, Env.lk S'.env t = Env.lk S.env t
theorem Rel.eqv {φ G S S' a w} (h : Rel φ G S' a w) (he : Eqv S' S) : Rel φ G S a w :=
  ⟨by rw [← he.n]; exact h.size, h.defers, fun t x hx => by rw [← he.mem]; exact h.env t x (by rw [he.env]; exact hx), by rw [← he.mem]; exact h.mem, by rw [← he.gl, ← he.mem]; exact h.glob⟩
theorem Mem.ext {m m' : Mem} (hn : (m.map (·.key)).Nodup) (hk : m.map (·.key) = m'.map (·.key)) (h : ∀ k, Mem.get m k = Mem.get m' k) : m = m' := by
  induction m generalizing m' with
  | nil => cases m' with | nil => rfl | cons _ _ => simp at hk
  | cons e r ih =>
    cases m' with
    | nil => simp at hk
    | cons e' r' =>
      simp only [List.map_cons, List.cons.injEq] at hk
      simp only [List.map_cons, List.nodup_cons] at hn
      have h0 := h e.key
      simp only [Mem.get, if_true, hk.1] at h0
      cases h0
      congr 1
      refine ih hn.2 hk.2 fun k => ?_
      have := h k
      simp only [Mem.get] at this
      by_cases he : e.key = k
      · subst he
        have nn : ∀ {r : Mem}, e.key ∉ r.map (·.key) → Mem.get r e.key = none := by
          intro r hr
          cases hg : Mem.get r e.key with
          | none => rfl
          | some y => obtain ⟨h1, h2⟩ := Mem.get_mem hg; exact absurd (h2 ▸ List.mem_map_of_mem h1) hr
        rw [nn hn.1, nn (by rw [← hk.2]; exact hn.1)]
      · simpa [he] using this

/- The listed operations in the order of the text. -/
def lst (n : Nat) (f : Nat → Bool) : List Nat := (List.range n).filter f
theorem range_split {j n : Nat} (h : j < n) : List.range n = List.range j ++ j :: List.range' (j + 1) (n - j - 1) := by
  have h2 : (j :: List.range' (j + 1) (n - j - 1)) = List.range' j (n - j) := by
    rw [show n - j = (n - j - 1) + 1 by omega, List.range'_succ]; simp
  rw [h2, List.range_eq_range', List.range_eq_range']
  rw [show List.range' 0 n = List.range' 0 (j + (n - j)) by rw [show j + (n - j) = n by omega]]
  rw [← List.range'_append_1]; simp
theorem lst_split {j n : Nat} {f : Nat → Bool} (h : j < n) (hf : f j = false) : lst n f = (List.range j).filter f ++ (List.range' (j + 1) (n - j - 1)).filter f := by
  rw [lst, range_split h, List.filter_append, List.filter_cons_of_neg (by simp [hf])]
theorem lst_split1 {j n : Nat} {f g : Nat → Bool} (h : j < n) (hg : g j = true) (hne : ∀ i, i ≠ j → g i = f i) : lst n g = (List.range j).filter f ++ j :: (List.range' (j + 1) (n - j - 1)).filter f := by
  rw [lst, range_split h, List.filter_append, List.filter_cons_of_pos hg]
  congr 1
  · exact List.filter_congr fun i hi => hne i (by have := List.mem_range.1 hi; omega)
  · congr 1
    exact List.filter_congr fun i hi => hne i (by have := List.mem_range'_1.1 hi; omega)

theorem disj_spec {l r : List Nat} (h : disj l r = true) {x : Nat} (hl : x ∈ l) (hr : x ∈ r) : False := by
  have := List.all_eq_true.1 h x hl
  simp at this
  exact this hr

structure Apart (all : List Oper) (o o' : Oper) (p p' : Stp) : Prop where
  a : ∀ t, o.dst = some t → t ∉ looks all o'
  b : ∀ t, o'.dst = some t → t ∉ looks all o
  c : ∀ t, o.dst = some t → o'.dst ≠ some t
  d : ∀ k ∈ p.es.map (·.key), k ∉ p'.ks
  e : ∀ k ∈ p'.es.map (·.key), k ∉ p.ks
theorem apartB_spec {all o o' p p'} (h : apartB all o o' p p' = true) : Apart all o o' p p' := by
  simp only [apartB, Bool.and_eq_true] at h
  obtain ⟨⟨⟨⟨h1, h2⟩, h3⟩, h4⟩, h5⟩ := h
  exact ⟨fun t ht hl => disj_spec h1 (by simp [ht]) hl, fun t ht hl => disj_spec h2 (by simp [ht]) hl, fun t ht hl => disj_spec h3 (x := t) (by simp [ht]) (by simp [hl]), fun k hk hl => disj_spec h4 hk hl, fun k hk hl => disj_spec h5 hk hl⟩

section
variable {all : List Oper} {ps : List Stp}
theorem ordOk_spec (h : ordOk all ps = true) {j : Nat} {o : Oper} (ho : all[j]? = some o) : ∃ p, ps[j]? = some p ∧ (∀ i ∈ preds o, i < j) ∧
    ∀ i, i < j → i ∈ (ancs all []).getD j [] ∨ ∃ o' p', all[i]? = some o' ∧ ps[i]? = some p' ∧ Apart all o' o p' p := by
  have hj : j < all.length := (List.getElem?_eq_some_iff.1 ho).1
  have h1 := List.all_eq_true.1 h j (List.mem_range.2 hj)
  unfold ordAt at h1
  rw [ho] at h1
  cases hp : ps[j]? with
  | none => rw [hp] at h1; simp at h1
  | some p =>
    rw [hp] at h1
    simp only [Bool.and_eq_true, List.all_eq_true, decide_eq_true_eq, Bool.or_eq_true, List.mem_range] at h1
    refine ⟨p, rfl, h1.1, fun i hi => ?_⟩
    rcases h1.2 i hi with h2 | h2
    · exact .inl (by simpa using h2)
    · right
      split at h2
      · rename_i o' p' ho' hp'; exact ⟨o', p', ho', hp', apartB_spec h2⟩
      · cases h2

/-- The steps in the order of the text are the states by running. -/
theorem Cert.at {P : Program} {I : Mem → Prop} {rest : List Oper} {S0 S : St} {qs : List Stp} {S1 : St} (h : Cert P I all rest S qs S1) : ∀ (pre : List Oper) (pp : List Stp), pre.length = pp.length → all = pre ++ rest → ps = pp ++ qs → runAll all ps S0 (List.range pre.length) = S →
    runAll all ps S0 (List.range all.length) = S1 ∧ ps.length = all.length ∧ ∀ j o p, pre.length ≤ j → all[j]? = some o → ps[j]? = some p → (∀ e ∈ p.es, e.key ∈ p.ks) ∧ (∀ m, I m → I (putAll m p.es)) ∧ StepI P I all (runAll all ps S0 (List.range j)) o p := by
  induction h with
  | nil S =>
    intro pre pp hl ha hps hS
    simp only [List.append_nil] at ha hps
    subst ha hps
    refine ⟨hS, hl.symm, fun j o p hj ho _ => ?_⟩
    rw [List.getElem?_eq_none (by omega)] at ho
    cases ho
  | cons o rest S p qs S1 hk hI hst hr ih =>
    intro pre pp hl ha hps hS
    have e1 : all[pre.length]? = some o := by rw [ha]; simp
    have e2 : ps[pre.length]? = some p := by rw [hps, hl]; simp
    obtain ⟨h1, h2, h3⟩ := ih (pre ++ [o]) (pp ++ [p]) (by simp [hl]) (by rw [ha]; simp) (by rw [hps]; simp) (by
      rw [List.length_append, List.length_singleton, List.range_succ, runAll_append, hS]
      simp [runAll, e1, e2])
    refine ⟨h1, h2, fun j o' p' hj ho' hp' => ?_⟩
    rcases Nat.eq_or_lt_of_le hj with rfl | hj
    · rw [e1] at ho'; rw [e2] at hp'
      cases ho'; cases hp'
      exact ⟨hk, hI, by rw [hS]; exact hst⟩
    · exact h3 j o' p' (by simp; omega) ho' hp'

variable {S : St} {f : Nat → Bool}
/-- A set of listed operations that holds what stands ahead of each. -/
def Closed (all : List Oper) (f : Nat → Bool) : Prop := ∀ j o, all[j]? = some o → f j = true → ∀ p ∈ preds o, f p = true

theorem ready_agree (hlen : ps.length = all.length) (hord : ordOk all ps = true) (hcl : Closed all f) {j : Nat} {o : Oper} {p : Stp} (ho : all[j]? = some o) (hp : ps[j]? = some p) (hj : f j = false) (hpre : ∀ i ∈ preds o, f i = true) :
    Agree all o p.ks (runAll all ps S (lst all.length f)) (runAll all ps S (List.range j)) := by
  have hlt : j < all.length := (List.getElem?_eq_some_iff.1 ho).1
  have hpl : ∀ j o, all[j]? = some o → ∀ p ∈ preds o, p < j := fun j o ho => (ordOk_spec hord ho).choose_spec.2.1
  obtain ⟨p0, hp0, _, hap⟩ := ordOk_spec hord ho
  rw [hp] at hp0; cases hp0
  -- what stands ahead of j is listed
  have hanc : ∀ i ∈ (ancs all []).getD j [], i < j ∧ f i = true := fun i hi => by
    obtain ⟨h1, h2⟩ := anc_closed (L := fun i => f i = true) hpl (fun j o ho hf => hcl j o ho hf) j ⟨o, ho⟩ i hi
    exact ⟨h1, h2 fun o' ho' => by rw [ho] at ho'; cases ho'; exact hpre⟩
  let q : Nat → Bool := fun i => (ancs all []).getD j [] |>.contains i
  have hq : ∀ i, q i = true ↔ i ∈ (ancs all []).getD j [] := fun i => by simp [q]
  -- any other listed one, and any other ahead in the text, is apart
  have hother : ∀ i, (i < j ∨ (j < i ∧ f i = true)) → q i = false → ∀ oi pi, all[i]? = some oi → ps[i]? = some pi → Apart all oi o pi p ∨ Apart all o oi p pi := by
    rintro i (hi | ⟨hi, hfi⟩) hqi oi pi hoi hpi
    · rcases hap i hi with h | ⟨o', p', ho', hp', h⟩
      · rw [(hq i).2 h] at hqi; cases hqi
      · rw [hoi] at ho'; rw [hpi] at hp'; cases ho'; cases hp'
        exact .inl h
    · obtain ⟨pi', hpi', _, hapi⟩ := ordOk_spec hord hoi
      rw [hpi] at hpi'; cases hpi'
      rcases hapi j hi with h | ⟨o', p', ho', hp', h⟩
      · have := (anc_closed (L := fun i => f i = true) hpl (fun j o ho hf => hcl j o ho hf) i ⟨oi, hoi⟩ j h).2 (fun o' ho' => by rw [hoi] at ho'; cases ho'; exact hcl i oi hoi hfi)
        simp [hj] at this
      · rw [ho] at ho'; rw [hp] at hp'; cases ho'; cases hp'
        exact .inr h
  have hfilter : (lst all.length f).filter q = (List.range j).filter q := by
    rw [lst_split hlt hj, List.filter_append, List.filter_filter, List.filter_filter]
    have : (List.range' (j + 1) (all.length - j - 1)).filter (fun a => q a && f a) = [] := by
      rw [List.filter_eq_nil_iff]
      intro i hi
      have := (List.mem_range'_1.1 hi).1
      simp only [Bool.and_eq_true, not_and]
      intro hqi
      have := (hanc i ((hq i).1 hqi)).1
      omega
    rw [this, List.append_nil]
    refine List.filter_congr fun i hi => ?_
    cases hqi : q i with
    | false => rfl
    | true => simp [(hanc i ((hq i).1 hqi)).2]
  have hl : ∀ i ∈ lst all.length f, i < j ∨ (j < i ∧ f i = true) := fun i hi => by
    have hfi := (List.mem_filter.1 hi).2
    rcases Nat.lt_trichotomy i j with h | h | h
    · exact .inl h
    · subst h; simp [hj] at hfi
    · exact .inr ⟨h, hfi⟩
  have hr : ∀ i ∈ List.range j, i < j ∨ (j < i ∧ f i = true) := fun i hi => .inl (List.mem_range.1 hi)
  refine ⟨by rw [runAll_n, runAll_n], by rw [runAll_gl, runAll_gl], by rw [runAll_keys, runAll_keys], fun t ht => ?_, fun k hk => ?_⟩
  · have key : ∀ l : List Nat, (∀ i ∈ l, i < j ∨ (j < i ∧ f i = true)) → ∀ i ∈ l, ∀ oi, all[i]? = some oi → oi.dst = some t → q i = true := by
      intro l hl i hi oi hoi hd
      cases hqi : q i with
      | true => rfl
      | false =>
        obtain ⟨pi, hpi, _⟩ := ordOk_spec hord hoi
        rcases hother i (hl i hi) hqi oi pi hoi hpi with h | h
        · exact absurd ht (h.a t hd)
        · exact absurd ht (h.b t hd)
    rw [runAll_lk t q _ S S (key _ hl) rfl, runAll_lk t q (List.range j) S S (key _ hr) rfl, hfilter]
  · have key : ∀ l : List Nat, (∀ i ∈ l, i < j ∨ (j < i ∧ f i = true)) → ∀ i ∈ l, ∀ pi, ps[i]? = some pi → k ∈ pi.es.map (·.key) → q i = true := by
      intro l hl i hi pi hpi hd
      cases hqi : q i with
      | true => rfl
      | false =>
        have hil : i < ps.length := (List.getElem?_eq_some_iff.1 hpi).1
        cases hoi : all[i]? with
        | none =>
          rw [List.getElem?_eq_none_iff] at hoi
          omega
        | some oi =>
          rcases hother i (hl i hi) hqi oi pi hoi hpi with h | h
          · exact absurd hk (h.d k hd)
          · exact absurd hk (h.e k hd)
    rw [runAll_get k q _ S S (key _ hl) rfl rfl, runAll_get k q (List.range j) S S (key _ hr) rfl rfl, hfilter]

/-- Carrying out a ready operation lists it. -/
theorem ready_step (hlen : ps.length = all.length) (hord : ordOk all ps = true) (hcl : Closed all f) (hks : ∀ (j : Nat) (p : Stp), ps[j]? = some p → ∀ e ∈ p.es, e.key ∈ p.ks) (hnd : (S.mem.map (·.key)).Nodup) {j : Nat} {o : Oper} {p : Stp} (ho : all[j]? = some o) (hp : ps[j]? = some p) (hj : f j = false) {g : Nat → Bool} (hg : g j = true) (hgf : ∀ i, i ≠ j → g i = f i) :
    Eqv (p.app o (runAll all ps S (lst all.length f))) (runAll all ps S (lst all.length g)) := by
  have hlt : j < all.length := (List.getElem?_eq_some_iff.1 ho).1
  have hpl : ∀ j o, all[j]? = some o → ∀ p ∈ preds o, p < j := fun j o ho => (ordOk_spec hord ho).choose_spec.2.1
  have hlate : ∀ i ∈ (List.range' (j + 1) (all.length - j - 1)).filter f, ∀ oi pi, all[i]? = some oi → ps[i]? = some pi → Apart all o oi p pi := by
    intro i hi oi pi hoi hpi
    obtain ⟨hi, hfi⟩ := List.mem_filter.1 hi
    have hji := (List.mem_range'_1.1 hi).1
    obtain ⟨pi', hpi', _, hapi⟩ := ordOk_spec hord hoi
    rw [hpi] at hpi'; cases hpi'
    rcases hapi j (by omega) with h | ⟨o', p', ho', hp', h⟩
    · have := (anc_closed (L := fun i => f i = true) hpl (fun j o ho hf => hcl j o ho hf) i ⟨oi, hoi⟩ j h).2 (fun o' ho' => by rw [hoi] at ho'; cases ho'; exact hcl i oi hoi hfi)
      simp [hj] at this
    · rw [ho] at ho'; rw [hp] at hp'; cases ho'; cases hp'
      exact h
  rw [lst_split1 hlt hg hgf, lst_split hlt hj]
  generalize hL1 : (List.range j).filter f = L1
  generalize hL2 : (List.range' (j + 1) (all.length - j - 1)).filter f = L2 at hlate
  have hne1 : ∀ i ∈ L1 ++ L2, i ≠ j := by
    intro i hi
    rw [← hL1, ← hL2] at hi
    rcases List.mem_append.1 hi with h | h
    · have := List.mem_range.1 (List.mem_filter.1 h).1; omega
    · have := (List.mem_range'_1.1 (List.mem_filter.1 h).1).1; omega
  have hpsall : ∀ {i pi}, ps[i]? = some pi → ∃ oi, all[i]? = some oi := fun {i pi} h => by
    have := (List.getElem?_eq_some_iff.1 h).1
    exact ⟨all[i]'(by omega), List.getElem?_eq_getElem _⟩
  let q : Nat → Bool := fun i => i != j
  have hf1 : (L1 ++ j :: L2).filter q = L1 ++ L2 := by
    rw [List.filter_append, List.filter_cons_of_neg (by simp [q]), ← List.filter_append, List.filter_eq_self]
    intro i hi; simpa [q] using hne1 i hi
  have hone : ∀ S, runAll all ps S (L1 ++ j :: L2) = runAll all ps (p.app o (runAll all ps S L1)) L2 := fun S => by
    rw [runAll_append]
    simp [runAll, ho, hp]
  have hkeys : (p.app o (runAll all ps S (L1 ++ L2))).mem.map (·.key) = (runAll all ps S (L1 ++ j :: L2)).mem.map (·.key) := by
    rw [app_keys, runAll_keys, runAll_keys]
  refine ⟨by rw [app_n, runAll_n, runAll_n], by rw [app_gl, runAll_gl, runAll_gl], Mem.ext (by rw [app_keys, runAll_keys]; exact hnd) hkeys fun k => ?_, fun t => ?_⟩
  · by_cases hk : k ∈ p.es.map (·.key)
    · have h1 : Mem.get (p.app o (runAll all ps S (L1 ++ L2))).mem k = Mem.get (p.app o (runAll all ps S L1)).mem k := by
        simp only [Stp.app, put_mem]
        exact putAll_get_eq _ _ _ k (by rw [runAll_keys, runAll_keys]) (.inl hk)
      rw [h1, hone]
      rw [runAll_get k (fun _ => false) L2 _ (p.app o (runAll all ps S L1)) ?_ rfl rfl]
      · rw [List.filter_eq_nil_iff.2 (by simp)]; rfl
      · intro i hi pi hpi hki
        obtain ⟨oi, hoi⟩ := hpsall hpi
        have := (hlate i hi oi pi hoi hpi).e k hki
        obtain ⟨e, he, rfl⟩ := List.mem_map.1 hk
        exact absurd (hks j p hp e he) this
    · rw [app_get_ne _ _ _ _ hk, runAll_get k q (L1 ++ j :: L2) S S ?_ rfl rfl, hf1]
      intro i hi pi hpi hki
      by_cases hij : i = j
      · subst hij; rw [hp] at hpi; cases hpi; exact absurd hki hk
      · simpa [q] using hij
  · rw [app_lk]
    by_cases hd : o.dst = some t
    · rw [if_pos hd, hone]
      rw [runAll_lk t (fun _ => false) L2 _ (p.app o (runAll all ps S L1)) ?_ rfl]
      · rw [List.filter_eq_nil_iff.2 (by simp)]; simp [runAll, app_lk, hd]
      · intro i hi oi hoi hdi
        obtain ⟨pi, hpi, _⟩ := ordOk_spec hord hoi
        exact absurd hdi ((hlate i hi oi pi hoi hpi).c t hd)
    · rw [if_neg hd, runAll_lk t q (L1 ++ j :: L2) S S ?_ rfl, hf1]
      intro i hi oi hoi hdi
      by_cases hij : i = j
      · subst hij; rw [ho] at hoi; cases hoi; exact absurd hdi hd
      · simpa [q] using hij

/-- Whatever order is drawn, a region with a certificate ends in its state. -/
theorem wpAny_cert {P : Program} {S0 S1 : St} {φ0 : Phi} {G : Nat → Prop} {w0 : World} {Q : Exit → Act → World → Prop} {I : Mem → Prop} (hI0 : I S0.mem) (hc : Cert P I all all S0 ps S1) (hord : ordOk all ps = true) (hnd : (S0.mem.map (·.key)).Nodup)
    (hQ : ∀ φ' a' w', Rel φ' G S1 a' w' → Keeps φ0 S0.mem w0 φ' S1.mem w' → Q .normal a' w') :
    ∀ (fuel : Nat) (listed : Array Bool) φ a w, listed.size = all.length → Closed all (fun i => listed.getD i false) → Rel φ G (runAll all ps S0 (lst all.length fun i => listed.getD i false)) a w → Keeps φ0 S0.mem w0 φ (runAll all ps S0 (lst all.length fun i => listed.getD i false)).mem w →
      ((List.range all.length).filter fun i => !listed.getD i false).length ≤ fuel → wpAny P .any all.toArray Q fuel listed a w := by
  obtain ⟨hfin, hlen, hst⟩ := Cert.at (ps := ps) (S0 := S0) hc [] [] rfl rfl rfl rfl
  have hks : ∀ (j : Nat) (p : Stp), ps[j]? = some p → ∀ e ∈ p.es, e.key ∈ p.ks := fun j p hp => by
    have hjl : j < ps.length := (List.getElem?_eq_some_iff.1 hp).1
    exact (hst j (all[j]'(by omega)) p (by simp) (by simp) hp).1
  have hIs : ∀ l : List Nat, I (runAll all ps S0 l).mem := by
    have key : ∀ (l : List Nat) (S : St), I S.mem → I (runAll all ps S l).mem := by
      intro l
      induction l with
      | nil => exact fun _ h => h
      | cons i l ih =>
        intro S h
        have e1 : runAll all ps S (i :: l) = runAll all ps (runAll all ps S [i]) l := by simp [runAll]
        rw [e1]
        refine ih _ ?_
        simp only [runAll, List.foldl_cons, List.foldl_nil]
        split
        · rename_i o p ho hp
          simp only [Stp.app, put_mem]
          exact (hst i o p (by simp) ho hp).2.1 _ h
        · exact h
    exact fun l => key l S0 hI0
  -- the first that isn't listed is ready
  have first : ∀ (f : Nat → Bool) (n : Nat), n ≤ all.length → (∀ i, i < n → f i = true) ∨ ∃ i, i < n ∧ f i = false ∧ ∀ i', i' < i → f i' = true := by
    intro f n
    induction n with
    | zero => exact fun _ => .inl (fun i hi => by omega)
    | succ n ih =>
      intro hn
      rcases ih (by omega) with h | ⟨i, h1, h2, h3⟩
      · cases hf : f n with
        | true =>
          refine .inl fun i hi => ?_
          rcases Nat.lt_succ_iff_lt_or_eq.1 hi with h' | h'
          · exact h i h'
          · rw [h']; exact hf
        | false => exact .inr ⟨n, by omega, hf, h⟩
      · exact .inr ⟨i, by omega, h2, h3⟩
  have done : ∀ (listed : Array Bool) φ a w, listed.size = all.length → Rel φ G (runAll all ps S0 (lst all.length fun i => listed.getD i false)) a w → Keeps φ0 S0.mem w0 φ (runAll all ps S0 (lst all.length fun i => listed.getD i false)).mem w → Region.ready .any all.toArray listed = [] → Q .normal a w := by
    intro listed φ a w hsz hr hk hemp
    have hall : ∀ i, i < all.length → listed.getD i false = true := by
      rcases first (fun i => listed.getD i false) all.length (Nat.le_refl _) with h | ⟨i, h1, h2, h3⟩
      · exact h
      · exfalso
        have : i ∈ Region.ready .any all.toArray listed := by
          rw [mem_ready]
          refine ⟨?_, all[i], by simp [h1], fun e he hb => ?_⟩
          · have : i < listed.size := by omega
            simp only [Array.getD_eq_getD_getElem?, Array.getElem?_eq_getElem this, Option.getD_some] at h2 ⊢
            exact h2
          · obtain ⟨p, _, hp, _⟩ := ordOk_spec hord (show all[i]? = some all[i] by simp [h1])
            exact h3 e.on (hp e.on (by
              simp only [preds, List.mem_map, List.mem_filter]
              exact ⟨e, ⟨by simpa using he, hb⟩, rfl⟩))
        rw [hemp] at this
        cases this
    have hl : (lst all.length fun i => listed.getD i false) = List.range all.length := by
      rw [lst, List.filter_eq_self]
      intro i hi
      exact hall i (List.mem_range.1 hi)
    rw [hl, hfin] at hr hk
    exact hQ φ a w hr hk
  intro fuel
  induction fuel with
  | zero =>
    intro listed φ a w hsz hcl hr hk hf
    have hemp : Region.ready .any all.toArray listed = [] := by
      cases h : Region.ready .any all.toArray listed with
      | nil => rfl
      | cons i r =>
        exfalso
        have hi : i ∈ Region.ready .any all.toArray listed := by rw [h]; simp
        rw [mem_ready] at hi
        obtain ⟨h0, o, ho, _⟩ := hi
        have hil : i < all.length := by
          have := (Array.getElem?_eq_some_iff.1 ho).1; simpa using this
        have h0' : listed.getD i false = false := by
          have : i < listed.size := by omega
          simp only [Array.getD_eq_getD_getElem?, Array.getElem?_eq_getElem this, Option.getD_some] at h0 ⊢
          exact h0
        have : i ∈ (List.range all.length).filter fun i => !listed.getD i false := List.mem_filter.2 ⟨List.mem_range.2 hil, by simp [h0']⟩
        have := List.length_pos_of_mem this
        omega
    exact ⟨hemp, done listed φ a w hsz hr hk hemp⟩
  | succ fuel ih =>
    intro listed φ a w hsz hcl hr hk hf
    refine ⟨done listed φ a w hsz hr hk, fun i hi => ?_⟩
    rw [mem_ready] at hi
    obtain ⟨h0, o, ho, hafter⟩ := hi
    have ho' : all[i]? = some o := by simpa using ho
    have hil : i < all.length := (List.getElem?_eq_some_iff.1 ho').1
    have hil2 : i < listed.size := by omega
    have h0' : listed.getD i false = false := by
      simp only [Array.getD_eq_getD_getElem?, Array.getElem?_eq_getElem hil2, Option.getD_some] at h0 ⊢
      exact h0
    have hpre : ∀ k ∈ preds o, listed.getD k false = true := by
      intro k hk'
      simp only [preds, List.mem_map, List.mem_filter] at hk'
      obtain ⟨e, ⟨he, hb⟩, rfl⟩ := hk'
      exact hafter e (by simpa using he) hb
    obtain ⟨p, hp, _⟩ := ordOk_spec hord ho'
    obtain ⟨hke, _, hstep⟩ := hst i o p (by simp) ho' hp
    have hag := ready_agree (S := S0) hlen hord hcl ho' hp h0' hpre
    have hset : (listed.setIfInBounds i true).getD i false = true := by simp [hil2]
    have hsne : ∀ k, k ≠ i → (listed.setIfInBounds i true).getD k false = listed.getD k false := fun k hk' => getD_set_ne false (Ne.symm hk')
    have heq := ready_step (S := S0) (f := fun i => listed.getD i false) (g := fun k => (listed.setIfInBounds i true).getD k false) hlen hord hcl hks hnd ho' hp h0' hset hsne
    have hcl' : Closed all (fun k => (listed.setIfInBounds i true).getD k false) := by
      intro k ok hok hfk x hx
      by_cases hxi : x = i
      · subst hxi; exact hset
      · show (listed.setIfInBounds i true).getD x false = true
        rw [hsne x hxi]
        by_cases hki : k = i
        · subst hki; rw [ho'] at hok; cases hok; exact hpre x hx
        · exact hcl k ok hok ((hsne k hki).symm.trans hfk) x hx
    have hcount : ((List.range all.length).filter fun k => !(listed.setIfInBounds i true).getD k false).length ≤ fuel := by
      have h1 : (List.range all.length).filter (fun k => !(listed.setIfInBounds i true).getD k false) = ((List.range all.length).filter fun k => !listed.getD k false).filter (fun k => k != i) := by
        rw [List.filter_filter]
        refine List.filter_congr fun k _ => ?_
        by_cases hki : k = i
        · subst hki; rw [hset]; simp
        · rw [hsne k hki]; simp [hki]
      have hmem : i ∈ (List.range all.length).filter fun k => !listed.getD k false := List.mem_filter.2 ⟨List.mem_range.2 hil, by simp [h0']⟩
      rw [h1]
      have : (((List.range all.length).filter fun k => !listed.getD k false).filter (fun k => k != i)).length < ((List.range all.length).filter fun k => !listed.getD k false).length := by
        rw [List.length_filter_lt_length_iff_exists]
        exact ⟨i, hmem, by simp⟩
      omega
    have hs := hstep _ hag (hIs _) φ G a w hr (wpAny P .any all.toArray Q fuel (listed.setIfInBounds i true)) Q (fun φ' a' w' hr' hk' =>
      ih _ φ' a' w' (by simpa using hsz) hcl' (hr'.eqv heq) (by rw [← heq.mem]; exact hk.trans hk') hcount)
    unfold wpOp
    rw [ho]
    simp only
    split at hs
    · rename_i hw; rw [if_pos hw]; exact .inl hs
    · rename_i hw; rw [if_neg hw]; exact hs
end
theorem region_draw {P : Program} {S S1 : St} {id : Nat} {ops : List Oper} {ps : List Stp} {I : Mem → Prop} (hI0 : I S.mem) (hm : P.follows .mixedOrders = true) (hc : Cert P I ops ops S ps S1) (hord : ordOk ops ps = true) {φ G a w} (hr : Rel φ G S a w) {Q : Exit → Act → World → Prop}
    (hQ : ∀ φ' a' w', Rel φ' G S1 a' w' → Keeps φ S.mem w φ' S1.mem w' → Q .normal a' w') : (Code.region id ops.toArray true).wp P Q a w := by
  refine wp_region_any hm ?_
  have hdr : Rel φ G S a { w with drawn := w.drawn + 1 } := hr.grow (fun _ _ => rfl) (Nat.le_refl _)
  have hl0 : (lst ops.length fun i => (Array.replicate ops.length false).getD i false) = [] := by
    rw [lst, List.filter_eq_nil_iff]
    intro i hi
    simp [Array.getD_eq_getD_getElem?, List.mem_range.1 hi]
  refine wpAny_cert (S0 := S) (φ0 := φ) (w0 := w) (G := G) hI0 hc hord hr.mem.nodup (fun φ' a' w' hr' hk' => hQ φ' a' w' hr' hk') _ _ φ a _ (by simp) ?_ ?_ ?_ ?_
  · intro j o _ hj
    exfalso
    simp only [Array.getD_eq_getD_getElem?] at hj
    by_cases h : j < ops.length
    · simp [h] at hj
    · simp [h] at hj
  · simp only [List.size_toArray]; rw [hl0]; exact hdr
  · simp only [List.size_toArray]; rw [hl0]; exact Keeps.grow (fun _ _ => rfl) (Nat.le_refl _) rfl rfl rfl
  · simp only [List.size_toArray]
    exact Nat.le_trans (List.length_filter_le _ _) (by simp)
theorem cert_n {P : Program} {I : Mem → Prop} {ops : List Oper} {S S1 : St} {ps : List Stp} (hc : Cert P I ops ops S ps S1) : S1.n = S.n ∧ S1.gl = S.gl := by
  obtain ⟨hfin, _, _⟩ := Cert.at (ps := ps) (S0 := S) hc [] [] rfl rfl rfl rfl
  rw [← hfin]
  exact ⟨runAll_n .., runAll_gl ..⟩
/- The order, by a table: of each operation those that are neither ahead of it nor behind it. -/
def dstApart (all : List Oper) (o o' : Oper) : Bool := disj o.dst.toList (looks all o') && disj o'.dst.toList (looks all o) && disj o.dst.toList o'.dst.toList
def ordSAt (all : List Oper) (nd : List (List Nat)) (an : List (List Nat)) (j : Nat) : Bool :=
  match all[j]? with
  | some o => (preds o).all (fun i => decide (i < j)) && (List.range j).all fun i => (an.getD j []).contains i || (match all[i]? with
    | some o' => dstApart all o' o && ((nd.getD i []).contains j && (nd.getD j []).contains i)
    | none => false)
  | none => false
def ordS (all : List Oper) (nd : List (List Nat)) : Bool := (List.range all.length).all (ordSAt all nd (ancs all []))
def ordK (ps : List Stp) (es : List Ent) : List Nat → Bool
  | [] => true
  | j :: r => (match ps[j]? with | some q => disj (es.map (·.key)) q.ks | none => false) && ordK ps es r
def ordE (ps : List Stp) (js : List Nat) : List Ent → Bool
  | [] => true
  | e :: es => ordK ps (e :: es) js
def ordL (ps : List Stp) : List (List Nat) → List Stp → Bool
  | _, [] => true
  | [], p :: r => ordE ps [] p.es && ordL ps [] r
  | js :: nd, p :: r => ordE ps js p.es && ordL ps nd r
def ordD (nd : List (List Nat)) (ps : List Stp) : Bool := ordL ps nd ps
theorem ordL_get {ps : List Stp} : ∀ {nd : List (List Nat)} {l : List Stp}, ordL ps nd l = true → ∀ i p, l[i]? = some p → ordE ps (nd.getD i []) p.es = true
  | _, [], _, i, p, hp => by simp at hp
  | [], q :: r, h, i, p, hp => by
    simp only [ordL, Bool.and_eq_true] at h
    cases i with
    | zero => simp at hp; subst hp; simpa using h.1
    | succ i => have := ordL_get h.2 i p (by simpa using hp); simpa using this
  | js :: nd, q :: r, h, i, p, hp => by
    simp only [ordL, Bool.and_eq_true] at h
    cases i with
    | zero => simp at hp; subst hp; simpa using h.1
    | succ i => have := ordL_get h.2 i p (by simpa using hp); simpa using this
theorem ordK_get {ps : List Stp} {es : List Ent} : ∀ {js : List Nat}, ordK ps es js = true → ∀ j ∈ js, ∀ q, ps[j]? = some q → disj (es.map (·.key)) q.ks = true
  | [], _, j, hj, _, _ => by simp at hj
  | k :: r, h, j, hj, q, hq => by
    simp only [ordK, Bool.and_eq_true] at h
    rcases List.mem_cons.1 hj with rfl | hj
    · have := h.1; rw [hq] at this; exact this
    · exact ordK_get h.2 j hj q hq
theorem ordE_get {ps : List Stp} {js : List Nat} : ∀ {es : List Ent}, ordE ps js es = true → ∀ j ∈ js, ∀ q, ps[j]? = some q → disj (es.map (·.key)) q.ks = true
  | [], _, _, _, _, _ => rfl
  | _ :: _, h, j, hj, q, hq => ordK_get h j hj q hq
theorem ord_of {all : List Oper} {nd : List (List Nat)} {ps : List Stp} (hs : ordS all nd = true) (hd : ordD nd ps = true) (hl : ps.length = all.length) : ordOk all ps = true := by
  unfold ordOk
  refine List.all_eq_true.2 fun j hj => ?_
  have h1 := List.all_eq_true.1 hs j hj
  have hj' : j < all.length := List.mem_range.1 hj
  unfold ordSAt at h1
  unfold ordAt
  have hpj : ps[j]? = some (ps[j]'(by omega)) := by simp [hl, hj']
  rw [hpj]
  cases ho : all[j]? with
  | none => rw [ho] at h1; cases h1
  | some o =>
    rw [ho] at h1
    simp only [Bool.and_eq_true, List.all_eq_true, decide_eq_true_eq, Bool.or_eq_true, List.mem_range] at h1 ⊢
    refine ⟨h1.1, fun i hi => ?_⟩
    rcases h1.2 i hi with h2 | h2
    · exact .inl h2
    · right
      have hpi : ps[i]? = some (ps[i]'(by omega)) := by simp [show i < ps.length by omega]
      cases hoi : all[i]? with
      | none => rw [hoi] at h2; cases h2
      | some o' =>
        rw [hoi] at h2
        rw [hpi]
        simp only [Bool.and_eq_true] at h2
        simp only [apartB]
        have e1 := ordE_get (ordL_get hd i _ hpi) j (by simpa using h2.2.1) _ hpj
        have e2 := ordE_get (ordL_get hd j _ hpj) i (by simpa using h2.2.2) _ hpi
        have e3 := h2.1
        simp only [dstApart, Bool.and_eq_true] at e3
        simp only [Bool.and_eq_true]
        exact ⟨⟨e3, e1⟩, e2⟩
end Go.Am
end
section
namespace Go.Am
open Go

inductive Gh where
  | trim (k : Nat)
  | freeze (k : Nat)
  | adopt (kb j k sz : Nat)
  | rekey (k k2 : Nat)

structure Ctx where
  P : Program
  gl : List (Nat × D)
  keep : FuncId → Nat → List Nat
  gh : FuncId → Nat → List Gh
  md : FuncId → Nat → Bool
  fp : FuncId → FPol
  od : FuncId → Nat → List (List Nat)
  orc : FuncId → Option (List D → Option D)
  fl : FuncId → Nat → List (Nat × Nat)

abbrev CallFn := FuncId → List AV → List Cont → Option (Out × List (Nat × Cont))

/-- A function of the program that has a body. -/
def callable (P : Program) (g : FuncId) : Bool :=
  match P.funcs[g]? with
  | some fn => fn.body.isSome && !(fn.name == "runtime.NumGoroutine")
  | none => false

/- Calls. -/
mutual
def ptrKeys : AV → List Nat
  | .vec _ _ _ _ => []
  | .ptr k _ _ => [k]
  | .eptr k _ _ _ => [k]
  | .agg cs => ptrsKeys cs
  | .fn _ cap => avsKeys cap
  | .tup vs => ptrsKeys vs
  | _ => []
def ptrsKeys : List AV → List Nat
  | [] => []
  | x :: r => ptrKeys x ++ ptrsKeys r
end
mutual
def vecKeys : AV → List Nat
  | .vec k _ _ _ => [k]
  | .agg cs => vecsKeys cs
  | .tup vs => vecsKeys vs
  | _ => []
def vecsKeys : List AV → List Nat
  | [] => []
  | x :: r => vecKeys x ++ vecsKeys r
end
/-- The keys that are handed on, and those that are read as data. -/
def argKeys (mt : List Nat) : Nat → List AV → List Nat
  | _, [] => []
  | i, x :: r => (match mt.contains i with | true => avKeys x | false => ptrKeys x) ++ argKeys mt (i + 1) r
def argBor (mt : List Nat) : Nat → List AV → List Nat
  | _, [] => []
  | i, x :: r => (match mt.contains i with | true => [] | false => vecKeys x) ++ argBor mt (i + 1) r

structure CRes where
  out : Out
  es : List Ent
  ks : List Nat
def upO (ρ bs : List Nat) : Out → Out
  | .ret x => .ret (up ρ bs x)
  | .panic t x => .panic t x
def plainO : Out → Bool
  | .ret x => plainAV x
  | .panic _ x => plainD x
def plainL : List (Nat × Cont) → Bool
  | [] => true
  | (_, c) :: r => plainC c && plainL r
def frOk (m : Mem) (ρ : List Nat) : List Nat → Bool
  | [] => true
  | k :: r => (Mem.get m k).isSome && !ρ.contains k && frOk m ρ r
def callBack (m : Mem) (k0 : Nat) (ρ B : List Nat) : Option (Out × List (Nat × Cont)) → Option CRes
  | some (out, l2) =>
    if (decide (ρ.length ≤ l2.length) && frOk m ρ (List.range' (k0 + 1) (l2.length - ρ.length)) && (B.isEmpty || (plainO out && plainL l2))) = true then
      some ⟨upO (ρ ++ List.range' (k0 + 1) (l2.length - ρ.length)) (base m 0 ρ ++ base m 1 (List.range' (k0 + 1) (l2.length - ρ.length))) out,
        backL (ρ ++ List.range' (k0 + 1) (l2.length - ρ.length)) (base m 0 ρ ++ base m 1 (List.range' (k0 + 1) (l2.length - ρ.length))) 0 l2, ρ ++ B ++ List.range' (k0 + 1) (l2.length - ρ.length)⟩
    else none
  | none => none
/-- What is handed back anew is data, where there is no key for it. -/
def frzO (n0 : Nat) (l2 : List (Nat × Cont)) : Out → Out
  | .ret x => .ret (vw (mkM 0 l2) (List.range n0) (fun _ => true) (fun _ v => v) x).norm
  | .panic t x => .panic t x
def frzR (n0 : Nat) (b : Bool) : Option (Out × List (Nat × Cont)) → Option (Out × List (Nat × Cont))
  | some (out, l2) => if (b && decide (n0 < l2.length)) = true then some (frzO n0 l2 out, selL (mkM 0 l2) (List.range n0) (fun _ => true) (fun _ v => v) 0 (List.range n0)) else some (out, l2)
  | none => none
def vwArgs (m : Mem) (ρ B : List Nat) : List AV → List AV
  | [] => []
  | y :: r => (vw m ρ (fun k => B.contains k) nv0 y).norm :: vwArgs m ρ B r
def conts : List (Nat × Cont) → List Cont
  | [] => []
  | (_, c) :: r => c :: conts r
def callOp3 (cl : CallFn) (m : Mem) (k0 : Nat) (g : FuncId) (ys : List AV) (ρ B : List Nat) : Option CRes :=
  callBack m k0 ρ B (frzR ρ.length (Mem.get m (k0 + 1)).isNone (cl g (vwArgs m ρ B ys) (conts (selL m ρ (fun k => B.contains k) nv0 0 ρ))))
def callOp2 (cl : CallFn) (m : Mem) (k0 : Nat) (g : FuncId) (ys : List AV) (mt ρ : List Nat) : Option CRes :=
  callOp3 cl m k0 g ys ρ ((argBor mt 0 ys).filter fun k => !ρ.contains k)
def callOp (cl : CallFn) (m : Mem) (k0 : Nat) (g : FuncId) (ys : List AV) (mt : List Nat) : Option CRes :=
  callOp2 cl m k0 g ys mt (collect m 64 (argKeys mt 0 ys) [])

/- Operations. -/
def putC (S : St) (d : Option Nat) : Option CRes → Option (XE × St)
  | some ⟨.ret x, es, _⟩ => some (.normal, ({ S with mem := putAll S.mem es } : St).put d true x)
  | some ⟨.panic t x, es, _⟩ => some (.panic t x, { S with mem := putAll S.mem es })
  | none => none
def argVals (S : St) : List Operand → List AV
  | [] => []
  | x :: r => (S.opd x).2 :: argVals S r
def callVal (X : Ctx) (cl : CallFn) (S : St) (o : Oper) (args : List Operand) : Bool × AV → Option CRes
  | (true, .fn g caps) => if okAll S args = true then callOp cl S.mem (keyOf o) g (argVals S args ++ caps) (X.fp g).mut_ else none
  | _ => none
def panicVal (S : St) : Bool × AV → Option (XE × St)
  | (true, .ifc t d) => some (.panic t d, S)
  | _ => none
def specOp (X : Ctx) (cl : CallFn) (S : St) (o : Oper) : Option (XE × St) :=
  match o.op with
  | .call { callee := .value fv, args, .. } => putC S o.dst (callVal X cl S o args.toList (S.opd fv))
  | .panic x => panicVal S (S.opd x)
  | _ => none
def stepOp (X : Ctx) (cl : CallFn) (S : St) (o : Oper) : Res → Option (XE × St)
  | .val c x => if (opOk S o && c) = true then some (.normal, S.put o.dst true x) else none
  | .upd c x e => if (opOk S o && c) = true then some (.normal, ({ S with mem := Mem.set S.mem e } : St).put o.dst true x) else none
  | .no => specOp X cl S o
def guardOp (X : Ctx) (cl : CallFn) (S : St) (o : Oper) (b : Bool) : Res → Option (XE × St)
  | .val c x => if b = true → (opOk S o && c) = true then some (.normal, S.put o.dst b x) else none
  | r => if b = true then stepOp X cl S o r else some (.normal, S.put o.dst true .junk)
/-- What is known of a slot's truth is written down. -/
def St.cz (S : St) (d : Option Nat) (b : Bool) : St := S.put d true (.d (.bool b))
def dstAt (all : List Oper) (j : Nat) : Option Nat :=
  match all[j]? with
  | some o => o.dst
  | none => none
/-- What a guard's slot says. -/
inductive GV where
  | tru (t : Bool)
  | skip
  | bad
def gvD : D → GV
  | .bool t => .tru t
  | _ => .bad
def gvT : List AV → GV
  | [] => .skip
  | _ :: _ => .bad
def gvA : AV → GV
  | .d x => gvD x
  | .tup vs => gvT vs
  | _ => .bad
def gval : Option (Bool × AV) → GV
  | some (true, x) => gvA x
  | _ => .bad
theorem gval_tru {x : Option (Bool × AV)} {t : Bool} (h : gval x = .tru t) : x = some (true, .d (.bool t)) := by
  rcases x with _ | ⟨g, y⟩
  · cases h
  · cases g
    · cases h
    · cases y with
      | d y => cases y <;> simp_all [gval, gvA, gvD]
      | tup vs => cases vs <;> simp_all [gval, gvA, gvT]
      | _ => cases h
theorem gval_skip {x : Option (Bool × AV)} (h : gval x = .skip) : x = some (true, .tup []) := by
  rcases x with _ | ⟨g, y⟩
  · cases h
  · cases g
    · cases h
    · cases y with
      | d y => cases y <;> simp_all [gval, gvA, gvD]
      | tup vs => cases vs <;> simp_all [gval, gvA, gvT]
      | _ => cases h
def gstep (X : Ctx) (cl : CallFn) (md : Bool) (all : List Oper) (S : St) (o : Oper) : Option (XE × St) :=
  match o.guard with
  | none => stepOp X cl S o (stepv X.P S o)
  | some (j, want) => match gval (grd all S j) with
    | .tru t => match md with
      | false => guardOp X cl S o (t == want) (stepv X.P S o)
      | true => if (t == want) = true then stepOp X cl (S.cz (dstAt all j) want) o (stepv X.P (S.cz (dstAt all j) want) o) else some (.normal, (S.cz (dstAt all j) (!want)).put o.dst true (.tup []))
    | .skip => some (.normal, S.put o.dst true (.tup []))
    | .bad => none
def andThen (r : Option (XE × St)) (k : St → Option (XE × St)) : Option (XE × St) :=
  match r with
  | some (.normal, S) => k S
  | r => r
def runOps (X : Ctx) (cl : CallFn) (md : Bool) (all : List Oper) : List Oper → St → Option (XE × St)
  | [], S => some (.normal, S)
  | o :: r, S => andThen (gstep X cl md all S o) (runOps X cl md all r)

/- Regions that draw their order. -/
def dcall (S : St) (o : Oper) : Option CRes → Option (St × Stp)
  | some ⟨.ret x, es, ks⟩ => some ((⟨ks, es, true, x⟩ : Stp).app o S, ⟨ks, es, true, x⟩)
  | _ => none
def dspec (X : Ctx) (cl : CallFn) (S : St) (o : Oper) : Option (St × Stp) :=
  match o.op with
  | .call { callee := .value fv, args, .. } => dcall S o (callVal X cl S o args.toList (S.opd fv))
  | _ => none
def dstep (X : Ctx) (cl : CallFn) (S : St) (o : Oper) : Res → Option (St × Stp)
  | .val c x => if (opOk S o && c) = true then some (S.put o.dst true x, ⟨touch S o, [], true, x⟩) else none
  | .upd c x e => if (opOk S o && c && (touch S o).contains e.key) = true then some (({ S with mem := Mem.set S.mem e } : St).put o.dst true x, ⟨touch S o, [e], true, x⟩) else none
  | .no => dspec X cl S o
def dguard (X : Ctx) (cl : CallFn) (S : St) (o : Oper) (b : Bool) : Res → Option (St × Stp)
  | .val c x => if b = true → (opOk S o && c) = true then some (S.put o.dst b x, ⟨touch S o, [], b, x⟩) else none
  | r => if b = true then dstep X cl S o r else some (S.put o.dst true .junk, ⟨[], [], true, .junk⟩)
def dgstep (X : Ctx) (cl : CallFn) (md : Bool) (all : List Oper) (S : St) (o : Oper) : Option (St × Stp) :=
  match o.guard with
  | none => dstep X cl S o (stepv X.P S o)
  | some (j, want) => match gval (grd all S j) with
    | .tru t => match md with
      | false => dguard X cl S o (t == want) (stepv X.P S o)
      | true => if (t == want) = true then dstep X cl (S.cz (dstAt all j) want) o (stepv X.P (S.cz (dstAt all j) want) o) else some ((S.cz (dstAt all j) (!want)).put o.dst true (.tup []), ⟨[], [], true, .tup []⟩)
    | .skip => some (S.put o.dst true (.tup []), ⟨[], [], true, .tup []⟩)
    | .bad => none
def dThen (acc : List Stp) (r : Option (St × Stp)) (k : St → List Stp → Option (XE × St)) : Option (XE × St) :=
  match r with
  | some (S, p) => k S (p :: acc)
  | none => none
def drwOps (X : Ctx) (cl : CallFn) (md : Bool) (nd : List (List Nat)) (all : List Oper) : List Oper → St → List Stp → Option (XE × St)
  | [], S, acc => if ordD nd acc.reverse = true then some (.normal, S) else none
  | o :: r, S, acc => dThen acc (dgstep X cl md all S o) (drwOps X cl md nd all r)

/- Cells of boxes that a region reads and none of its operations changes. -/
structure Cl where
  k : Nat
  v : Nat
  j : Nat
  x : AV
def eqA : AV → AV → Bool
  | .vec a b c d, .vec a' b' c' d' => decide (a = a') && decide (b = b') && decide (c = c') && decide (d = d')
  | .ptr a b c, .ptr a' b' c' => decide (a = a') && decide (b = b') && decide (c = c')
  | .d (.int k n), .d (.int k' n') => decide (k = k') && decide (n = n')
  | .d (.bool b), .d (.bool b') => decide (b = b')
  | _, _ => false
def ents (m : Mem) : List (Nat × Nat) → Option (List Cl)
  | [] => some []
  | (k, j) :: r => match Mem.get m k, ents m r with
    | some ⟨_, v, .box cs⟩, some l => match cs[j]? with
      | some x => some (⟨k, v, j, x⟩ :: l)
      | none => none
    | _, _ => none
def clE (q : Cl) (v : Nat) : Cont → Bool
  | .box cs => decide (v = q.v) && (match cs[q.j]? with | some x => eqA x q.x | none => false)
  | _ => false
def invE (e : Ent) : List Cl → Bool
  | [] => true
  | q :: r => (match decide (e.key = q.k) with | true => clE q e.ver e.cont | false => true) && invE e r
def invEs (LI : List Cl) : List Ent → Bool
  | [] => true
  | e :: r => invE e LI && invEs LI r
def findC (k v j : Nat) : List Cl → Option AV
  | [] => none
  | q :: r => match decide (k = q.k) && decide (v = q.v) && decide (j = q.j) with | true => some q.x | false => findC k v j r
def hasC (k v : Nat) : List Cl → Bool
  | [] => false
  | q :: r => match decide (k = q.k) && decide (v = q.v) with | true => true | false => hasC k v r
def lookL (P : Program) (LI : List Cl) (t : TypeId) : Bool × AV → Option AV
  | (true, .ptr k v off) => match (tk P t).agg, decide (tk P t = .other) with
    | false, false => findC k v off LI
    | _, _ => none
  | _ => none
def lookF (LI : List Cl) : Option Nat → Bool × AV → Option AV
  | some n, (true, .ptr k v off) => match hasC k v LI with | true => some (.ptr k v (off + n)) | false => none
  | _, _ => none
def lookN (LI : List Cl) : Bool × AV → Option AV
  | (true, .ptr k v off) => match hasC k v LI with | true => some (.ptr k v off) | false => none
  | _ => none
def lookG (P : Program) (LI : List Cl) (S : St) : Op → Option AV
  | .load t x => lookL P LI t (S.opd x)
  | .fieldAddr s x f => lookF LI (foff P s f) (S.opd x)
  | .nilCheck x => lookN LI (S.opd x)
  | _ => none
def lookI (P : Program) (LI : List Cl) (S : St) (o : Oper) : Option AV :=
  match o.guard with
  | none => lookG P LI S o.op
  | some _ => none
def chkI (LI : List Cl) : Option (St × Stp) → Option (St × Stp)
  | some (S, p) => if invEs LI p.es = true then some (S, p) else none
  | none => none
def stepI (X : Ctx) (cl : CallFn) (md : Bool) (LI : List Cl) (all : List Oper) (S : St) (o : Oper) : Option AV → Option (St × Stp)
  | some x => some (S.put o.dst true x, ⟨[], [], true, x⟩)
  | none => chkI LI (dgstep X cl md all S o)
def drwI (X : Ctx) (cl : CallFn) (md : Bool) (nd : List (List Nat)) (LI : List Cl) (all : List Oper) : List Oper → St → List Stp → Option (XE × St)
  | [], S, acc => if ordD nd acc.reverse = true then some (.normal, S) else none
  | o :: r, S, acc => dThen acc (stepI X cl md LI all S o (lookI X.P LI S o)) (drwI X cl md nd LI all r)
def drwE (X : Ctx) (cl : CallFn) (md : Bool) (nd : List (List Nat)) (all : List Oper) (S : St) : Option (List Cl) → Option (XE × St)
  | some LI => drwI X cl md nd LI all all S []
  | none => none
def drwA (X : Ctx) (cl : CallFn) (md : Bool) (nd : List (List Nat)) (all : List Oper) (S : St) : List (Nat × Nat) → Option (XE × St)
  | [] => drwOps X cl md nd all all S []
  | q :: r => drwE X cl md nd all S (ents S.mem (q :: r))

/- Turns. -/
def St.adopt (S : St) (kb j k sz : Nat) : St :=
  match Mem.get S.mem kb, Mem.get S.mem k with
  | some ⟨_, vb, .box cs⟩, some ⟨_, v, _⟩ => match cs[j]? with
    | some (.lit (.slice none 0 0)) => if kb = k then S else { S with mem := Mem.set (Mem.set S.mem ⟨k, v + 1, .vec sz []⟩) ⟨kb, vb, .box (cs.set j (.vec k (v + 1) 0 0))⟩ }
    | _ => S
  | _, _ => S
def rkAV (k v k2 v2 : Nat) : AV → AV
  | .vec k0 v0 o l => if k0 = k ∧ v0 = v then .vec k2 v2 o l else .vec k0 v0 o l
  | x => x
def mapB (τ : AV → AV) : Mem → Mem
  | [] => []
  | e :: r => ⟨e.key, e.ver, mapC τ e.cont⟩ :: mapB τ r
/-- A vector is handed from one key to another. -/
def St.rekey (S : St) (k k2 : Nat) : St :=
  match Mem.get S.mem k, Mem.get S.mem k2 with
  | some ⟨_, v, .vec sz rows⟩, some ⟨_, v2, _⟩ => if k = k2 then S else { S with env := mapEnv (rkAV k v k2 (v2 + 1)) S.env, mem := Mem.set (Mem.set (mapB (rkAV k v k2 (v2 + 1)) S.mem) ⟨k, v + 1, .dead⟩) ⟨k2, v2 + 1, .vec sz rows⟩ }
  | _, _ => S
def Gh.go (S : St) : Gh → St
  | .trim k => S.trim1 k
  | .freeze k => S.freeze k
  | .adopt kb j k sz => S.adopt kb j k sz
  | .rekey k k2 => S.rekey k k2
def ghs (S : St) : List Gh → St
  | [] => S
  | g :: r => ghs (g.go S) r

/- Code. -/
def mapN (k : St → St) : Option (XE × St) → Option (XE × St)
  | some (.normal, S) => some (.normal, k S)
  | r => r
def inBlk (id : Nat) : Option (XE × St) → Option (XE × St)
  | some (.exit id', S) => if id' = id then some (.normal, S) else some (.exit id', S)
  | r => r
def iter (f : St → Option (XE × St)) : Nat → St → Option (XE × St)
  | 0, _ => none
  | n + 1, S => andThen (f S) (iter f n)
def condB (a b : Option (XE × St)) : Bool × AV → Option (XE × St)
  | (true, .d (.bool t)) => if t = true then a else b
  | _ => none
def St.leave (X : Ctx) (f : FuncId) (id : Nat) (S : St) : St := ghs (S.prune (X.keep f id)) (X.gh f id)
def den (X : Ctx) (f : FuncId) (cl : CallFn) (n : Nat) : Code → St → Option (XE × St)
  | .skip, S => some (.normal, S)
  | .region id ops draw, S => match draw with
    | false => mapN (St.leave X f id) (runOps X cl (X.md f id) ops.toList ops.toList S)
    | true => mapN (St.leave X f id) (drwA X cl (X.md f id) (X.od f id) ops.toList S (X.fl f id))
  | .seq a b, S => andThen (den X f cl n a S) (den X f cl n b)
  | .cond c a b, S => condB (den X f cl n a S) (den X f cl n b S) (S.opd c)
  | .block id c, S => inBlk id (den X f cl n c S)
  | .loop c, S => iter (den X f cl n c) n S
  | .exit id, S => some (.exit id, S)
  | .ret, S => some (.ret, S)
  | _, _ => none

/- Functions. -/
def fin (P : Program) (p : FPol) (n0 : Nat) (rs : List ResultVar) : Option (XE × St) → Option (Out × List (Nat × Cont))
  | some (.normal, S) => finish P p n0 rs S
  | some (.ret, S) => finish P p n0 rs S
  | some (.panic t x, S) => finPanic p n0 t x S
  | _ => none
def runFn (X : Ctx) (f : FuncId) (cl : CallFn) (n : Nat) (fn : Func) (c : Code) (args : List AV) (cs : List Cont) : Option (Out × List (Nat × Cont)) :=
  if (decide (args.length ≤ fn.ntmps) && decide (cs.length ≤ 100) && (X.fp f).sites.all (fun k => decide (100 ≤ k)) && decide (X.fp f).sites.Nodup) = true then
    fin X.P (X.fp f) cs.length fn.results.toList (den X f cl n c (entry fn.ntmps X.gl args cs (X.fp f).sites))
  else none
/-- What an empty list gives, be it nothing or not. -/
def emptyVec : Option (Out × List (Nat × Cont)) → Option Nat
  | some (.ret (.vec 0 0 0 0), [(0, .vec sz [])]) => some sz
  | _ => none
def splitRun (r1 r2 : Option (Out × List (Nat × Cont))) : Option (Out × List (Nat × Cont)) :=
  match emptyVec r1, emptyVec r2 with
  | some a, some b => if a = b then r1 else none
  | _, _ => none
def runSplit (run : List AV → Option (Out × List (Nat × Cont))) (args : List AV) : Bool → Option (Out × List (Nat × Cont))
  | true => match args with
    | .d (.list []) :: r => splitRun (run (.lit (.slice none 0 0) :: r)) (run (.nn :: r))
    | args => run args
  | false => run args
/-- What a function gives whose contract is had from elsewhere: data for data. -/
def orcAns (h : List D → Option D) (args : List AV) : List Cont → Option (Out × List (Nat × Cont))
  | [] => match toDs args with
    | some ds => match h ds with
      | some d => some (.ret (.d d), [])
      | none => none
    | none => none
  | _ :: _ => none
def callN (X : Ctx) : Nat → CallFn
  | 0, _, _, _ => none
  | n + 1, f, args, cs => match X.orc f with
    | some h => orcAns h args cs
    | none => match X.P.funcs[f]? with
      | some fn => match fn.body with
        | some c => runSplit (fun args => runFn X f (callN X n) n fn c args cs) args (X.fp f).split
        | none => none
      | none => none
end Go.Am
end
section
namespace Go.Am
open Go

def ClOk (X : Ctx) (cl : CallFn) : Prop := ∀ g args cs out l, cl g args cs = some (out, l) →
  callable X.P g = true ∧ Ev X.P X.gl g args (inM 0 cs) fun o m => o = out ∧ m = mkM 0 l

theorem run_callFunc {P : Program} {g : FuncId} {vs : Array Value} {w : World} (h : callable P g = true) : (callFunc g vs).run P w = .ok (.enter g vs) w := by
  unfold callable at h
  split at h
  · rename_i fn hf
    simp only [Bool.and_eq_true, Bool.not_eq_true'] at h
    have h1 : fn.body.isNone = false := by
      have := h.1
      cases hb : fn.body <;> simp_all
    have h2 : fn.name ≠ "runtime.NumGoroutine" := by simpa using h.2
    have h3 : fn.body ≠ none := by intro hb; simp [hb] at h1
    simp [callFunc, hf, h2, h3]
  · cases h

/- Where a call looks. -/
theorem get_none {m : Mem} {k : Nat} : Mem.get m k = none ↔ k ∉ m.map (·.key) := by
  induction m with
  | nil => simp [Mem.get]
  | cons e r ih =>
    simp only [Mem.get, List.map_cons, List.mem_cons, not_or]
    split
    · rename_i h; simp [h]
    · rename_i h; rw [ih]; constructor
      · exact fun hh => ⟨fun he => h he.symm, hh⟩
      · exact fun hh => hh.2
theorem isNone_keys {m m' : Mem} (hk : m'.map (·.key) = m.map (·.key)) (k : Nat) : (Mem.get m' k).isNone = (Mem.get m k).isNone := by
  have := get_none (m := m) (k := k)
  have h2 := get_none (m := m') (k := k)
  rw [hk, ← this] at h2
  cases h : Mem.get m k <;> cases h' : Mem.get m' k <;> simp_all

theorem collect_sub (m : Mem) : ∀ (n : Nat) (todo acc : List Nat), ∀ k ∈ acc, k ∈ collect m n todo acc
  | 0, todo, acc, k, h => h
  | n + 1, [], acc, k, h => h
  | n + 1, t :: todo, acc, k, h => by
    simp only [collect]
    split
    · exact collect_sub m n todo acc k h
    · exact collect_sub m n _ _ k (List.mem_append_left _ h)
theorem collect_loc {m m' : Mem} (hk : m'.map (·.key) = m.map (·.key)) : ∀ (n : Nat) (todo acc : List Nat), (∀ k ∈ collect m n todo acc, Mem.get m' k = Mem.get m k) → collect m' n todo acc = collect m n todo acc
  | 0, todo, acc, _ => rfl
  | n + 1, [], acc, _ => rfl
  | n + 1, t :: todo, acc, h => by
    simp only [collect, isNone_keys hk t] at h ⊢
    split
    · rename_i hc
      rw [hc] at h
      exact collect_loc hk n todo acc h
    · rename_i hc
      rw [hc] at h
      have e : Mem.get m' t = Mem.get m t := h t (collect_sub m n _ _ t (by simp))
      rw [e]
      exact collect_loc hk n _ _ h

mutual
theorem vw_loc {m m' : Mem} {ρ : List Nat} {bor : Nat → Bool} {nv : Nat → Nat → Nat} (hk : m'.map (·.key) = m.map (·.key)) (h : ∀ k, (k ∈ ρ ∨ bor k = true) → Mem.get m' k = Mem.get m k) : ∀ y : AV, vw m' ρ bor nv y = vw m ρ bor nv y
  | .ptr k ver off => by
    by_cases hkρ : k ∈ ρ
    · simp only [vw, h k (.inl hkρ)]
    · have h0 : ∀ m0 : Mem, vw m0 ρ bor nv (.ptr k ver off) = .junk := by
        intro m0
        simp only [vw, findK_none (ρ := ρ) (k := k) (j := 0) |>.2 hkρ]
        cases Mem.get m0 k <;> rfl
      rw [h0, h0]
  | .vec k ver off len => by
    by_cases hkρ : k ∈ ρ ∨ bor k = true
    · simp only [vw, h k hkρ]
    · simp only [not_or] at hkρ
      have h0 : ∀ m0 : Mem, vw m0 ρ bor nv (.vec k ver off len) = .junk := by
        intro m0
        simp only [vw, findK_none (ρ := ρ) (k := k) (j := 0) |>.2 hkρ.1, hkρ.2]
        cases Mem.get m0 k with
        | none => rfl
        | some e =>
          obtain ⟨_, _, c⟩ := e
          cases c <;> simp
      rw [h0, h0]
  | .eptr k ver i j => by
    by_cases hkρ : k ∈ ρ
    · simp only [vw, h k (.inl hkρ)]
    · have h0 : ∀ m0 : Mem, vw m0 ρ bor nv (.eptr k ver i j) = .junk := by
        intro m0
        simp only [vw, findK_none (ρ := ρ) (k := k) (j := 0) |>.2 hkρ]
        cases Mem.get m0 k <;> rfl
      rw [h0, h0]
  | .agg cs => by simp only [vw, vws_loc hk h cs]
  | .fn f cap => by simp only [vw, vws_loc hk h cap]
  | .tup vs => by simp only [vw, vws_loc hk h vs]
  | .junk => rfl
  | .d x => rfl
  | .rptr x j => rfl
  | .ifc t x => rfl
  | .lit v => rfl
  | .nn => rfl
theorem vws_loc {m m' : Mem} {ρ : List Nat} {bor : Nat → Bool} {nv : Nat → Nat → Nat} (hk : m'.map (·.key) = m.map (·.key)) (h : ∀ k, (k ∈ ρ ∨ bor k = true) → Mem.get m' k = Mem.get m k) : ∀ l : List AV, vws m' ρ bor nv l = vws m ρ bor nv l
  | [] => rfl
  | x :: r => by simp only [vws, vw_loc hk h x, vws_loc hk h r]
end
theorem selL_loc {m m' : Mem} {ρ : List Nat} {bor : Nat → Bool} {nv : Nat → Nat → Nat} (hk : m'.map (·.key) = m.map (·.key)) (h : ∀ k, (k ∈ ρ ∨ bor k = true) → Mem.get m' k = Mem.get m k) :
    ∀ (l : List Nat) (i : Nat), (∀ k ∈ l, k ∈ ρ) → selL m' ρ bor nv i l = selL m ρ bor nv i l
  | [], i, _ => rfl
  | k :: r, i, hl => by
    simp only [selL, h k (.inl (hl k (by simp))), selL_loc hk h r (i + 1) (fun x hx => hl x (by simp [hx]))]
    congr 1
    cases Mem.get m k with
    | none => rfl
    | some e =>
      simp only [selE, Prod.mk.injEq, true_and]
      cases e.cont with
      | box cs => simp only [selC, vws_loc hk h cs]
      | _ => rfl
theorem vwArgs_loc {m m' : Mem} {ρ B : List Nat} (hk : m'.map (·.key) = m.map (·.key)) (h : ∀ k, (k ∈ ρ ∨ B.contains k = true) → Mem.get m' k = Mem.get m k) : ∀ l : List AV, vwArgs m' ρ B l = vwArgs m ρ B l
  | [] => rfl
  | x :: r => by simp only [vwArgs, vw_loc (nv := nv0) hk h x, vwArgs_loc hk h r]
theorem base_loc {m m' : Mem} (d : Nat) : ∀ (l : List Nat), (∀ k ∈ l, Mem.get m' k = Mem.get m k) → base m' d l = base m d l
  | [], _ => rfl
  | k :: r, h => by simp only [base, h k (by simp), base_loc d r (fun x hx => h x (by simp [hx]))]
theorem frOk_loc {m m' : Mem} (ρ : List Nat) (hk : m'.map (·.key) = m.map (·.key)) : ∀ (l : List Nat), frOk m' ρ l = frOk m ρ l
  | [] => rfl
  | k :: r => by
    have : (Mem.get m' k).isSome = (Mem.get m k).isSome := by
      have := isNone_keys hk k
      cases h : Mem.get m k <;> cases h' : Mem.get m' k <;> simp_all
    simp only [frOk, this, frOk_loc ρ hk r]

theorem callOp_loc {cl : CallFn} {m m' : Mem} {k0 : Nat} {g : FuncId} {ys : List AV} {mt : List Nat} {res : CRes} (hk : m'.map (·.key) = m.map (·.key)) (h : callOp cl m k0 g ys mt = some res) (hs : ∀ k ∈ res.ks, Mem.get m' k = Mem.get m k) :
    callOp cl m' k0 g ys mt = some res := by
  unfold callOp callOp2 callOp3 at h ⊢
  obtain ⟨ρ, hρ⟩ : ∃ ρ, ρ = collect m 64 (argKeys mt 0 ys) [] := ⟨_, rfl⟩
  rw [← hρ] at h
  obtain ⟨B, hB⟩ : ∃ B, B = (argBor mt 0 ys).filter fun k => !ρ.contains k := ⟨_, rfl⟩
  rw [← hB] at h
  have hks : ∀ k, k ∈ ρ ∨ B.contains k = true → Mem.get m' k = Mem.get m k := by
    intro k hk2
    refine hs k ?_
    unfold callBack at h
    split at h
    · split at h
      · cases h
        simp only [List.mem_append]
        rcases hk2 with h1 | h1
        · exact .inl (.inl h1)
        · exact .inl (.inr (by simpa using h1))
      · cases h
    · cases h
  have e1 : collect m' 64 (argKeys mt 0 ys) [] = ρ := by
    rw [hρ]; exact collect_loc hk 64 _ _ (fun k hk2 => hks k (.inl (hρ ▸ hk2)))
  rw [e1, ← hB, vwArgs_loc hk hks, selL_loc hk hks ρ 0 (fun _ h => h), isNone_keys hk]
  unfold callBack at h ⊢
  split
  · rename_i out l2 hcl
    rw [hcl] at h
    simp only at h
    rw [frOk_loc ρ hk]
    split
    · rename_i hc
      rw [if_pos hc] at h
      cases h
      have e2 : ∀ d, base m' d ρ = base m d ρ := fun d => base_loc d ρ (fun k hk2 => hks k (.inl hk2))
      have e3 : ∀ d, base m' d (List.range' (k0 + 1) (l2.length - ρ.length)) = base m d (List.range' (k0 + 1) (l2.length - ρ.length)) := fun d => base_loc d _ (fun k hk2 => hs k (by simp only [List.mem_append]; exact .inr hk2))
      rw [e2, e3]
    · rename_i hc
      rw [if_neg hc] at h; cases h
  · rename_i hcl
    rw [hcl] at h; cases h

theorem argVals_get (S : St) : ∀ (l : List Operand) (i : Nat), (argVals S l)[i]? = (l[i]?).map fun x => (S.opd x).2
  | [], i => by simp [argVals]
  | x :: r, i => by cases i with | zero => simp [argVals] | succ i => simp [argVals, argVals_get S r i]
theorem argVals_length (S : St) : ∀ (l : List Operand), (argVals S l).length = l.length
  | [] => rfl
  | x :: r => by simp [argVals, argVals_length S r]
theorem vwArgs_get (m ρ B) : ∀ (l : List AV) (i : Nat), (vwArgs m ρ B l)[i]? = (l[i]?).map fun y => (vw m ρ (fun k => B.contains k) nv0 y).norm
  | [], i => by simp [vwArgs]
  | x :: r, i => by cases i with | zero => simp [vwArgs] | succ i => simp [vwArgs, vwArgs_get m ρ B r i]
theorem vwArgs_length (m ρ B) : ∀ (l : List AV), (vwArgs m ρ B l).length = l.length
  | [] => rfl
  | x :: r => by simp [vwArgs, vwArgs_length m ρ B r]
theorem inM_conts (m ρ bor) : ∀ (l : List Nat) (i j : Nat), inM i (conts (selL m ρ bor nv0 j l)) = mkM i (selL m ρ bor nv0 j l)
  | [], i, j => rfl
  | k :: r, i, j => by
    have : selE m ρ bor nv0 j (Mem.get m k) = (0, (selE m ρ bor nv0 j (Mem.get m k)).2) := by
      cases Mem.get m k <;> rfl
    simp only [selL]
    rw [this]
    simp only [conts, inM, mkM, inM_conts m ρ bor r (i + 1) (j + 1)]
theorem frOk_all {m : Mem} {ρ : List Nat} : ∀ {l : List Nat}, frOk m ρ l = true → ∀ k ∈ l, (Mem.get m k).isSome = true ∧ k ∉ ρ
  | [], _, k, hk => by simp at hk
  | x :: r, h, k, hk => by
    simp only [frOk, Bool.and_eq_true, Bool.not_eq_true', List.contains_eq_mem, decide_eq_false_iff_not] at h
    rcases List.mem_cons.1 hk with rfl | hk
    · exact h.1
    · exact frOk_all h.2 k hk
theorem plainL_all : ∀ {l : List (Nat × Cont)}, plainL l = true → ∀ e ∈ l, plainC e.2 = true
  | [], _, e, he => by simp at he
  | (v, c) :: r, h, e, he => by
    simp only [plainL, Bool.and_eq_true] at h
    rcases List.mem_cons.1 he with rfl | he
    · exact h.1
    · exact plainL_all h.2 e he

theorem mkM_get : ∀ (l : List (Nat × Cont)) (i k : Nat), i ≤ k → k < i + l.length → (Mem.get (mkM i l) k).isSome = true
  | [], i, k, h1, h2 => by simp at h2; omega
  | (v, c) :: r, i, k, h1, h2 => by
    simp only [mkM, Mem.get]
    split
    · rfl
    · rename_i hne
      exact mkM_get r (i + 1) k (by have hne2 : i ≠ k := hne; omega) (by simp at h2; omega)

theorem Ev.frz {P : Program} {gl f args} {cs : List Cont} {out : Out} {l2 : List (Nat × Cont)} (h : Ev P gl f args (inM 0 cs) fun o m => o = out ∧ m = mkM 0 l2) (hl : cs.length ≤ l2.length) :
    Ev P gl f args (inM 0 cs) fun o m => o = frzO cs.length l2 out ∧ m = mkM 0 (selL (mkM 0 l2) (List.range cs.length) (fun _ => true) (fun _ v => v) 0 (List.range cs.length)) := by
  intro φ G w vs hm hg hla ha
  refine (h φ G w vs hm hg hla ha).mono ?_
  rintro e w' ⟨φ', m', out', ⟨rfl, rfl⟩, hm', hk', hout⟩
  obtain ⟨s1, s2, s3⟩ := sel_mem (G1 := G) (ρ := List.range cs.length) (bor := fun _ => true) (nv := fun _ v => v) hm' List.nodup_range (fun k hk => mkM_get l2 0 k (Nat.zero_le _) (by simp at hk; omega)) (fun b h => .inl h) (fun b h => hm'.notG b h.own)
    (fun k e L hg _ _ hL ho => hm'.notG _ ⟨e, (Mem.get_mem hg).1, L, by rw [(Mem.get_mem hg).2]; exact hL, ho, rfl⟩)
  refine ⟨_, _, _, ⟨rfl, rfl⟩, s1, ⟨?_, hk'.old, ?_, hk'.size, hk'.os, hk'.tape, hk'.output⟩, ?_⟩
  · intro k L hL
    have hk : k < cs.length := by
      have := hm.dom k L hL
      rw [inM_mk, mkM_keys] at this
      simpa using this
    obtain ⟨L', h1, h2, h3⟩ := hk'.le k L hL
    exact ⟨L', by simp [Phi.sel, hk, h1], h2, h3⟩
  · intro b hb ho
    exact hk'.own b hb ((sel_own (φ := φ') (nv := fun _ v => v) (bor := fun _ => true) (fun k hk => mkM_get l2 0 k (Nat.zero_le _) (by simp at hk; omega)) b).1 ho).own
  · cases out' with
    | ret x =>
      cases e with
      | returned v => exact (s2 x v hout).norm
      | _ => exact hout.elim
    | panic t x =>
      cases e with
      | panicked chain =>
        obtain ⟨v, hc, hx⟩ := hout
        exact ⟨v, hc, hx.mono (fun _ _ _ => rfl) (Nat.le_refl _) (fun b _ => s3 b)⟩
      | _ => exact hout.elim

theorem conts_length : ∀ (l : List (Nat × Cont)), (conts l).length = l.length
  | [] => rfl
  | (_, _) :: r => by simp [conts, conts_length r]

theorem frzR_some {n0 : Nat} {b : Bool} {r : Option (Out × List (Nat × Cont))} {out : Out} {l : List (Nat × Cont)} (h : frzR n0 b r = some (out, l)) : ∃ out0 l0, r = some (out0, l0) ∧
    ((out = out0 ∧ l = l0) ∨ (n0 < l0.length ∧ out = frzO n0 l0 out0 ∧ l = selL (mkM 0 l0) (List.range n0) (fun _ => true) (fun _ v => v) 0 (List.range n0))) := by
  cases r with
  | none => cases h
  | some p =>
    obtain ⟨o0, l0⟩ := p
    refine ⟨o0, l0, rfl, ?_⟩
    simp only [frzR] at h
    split at h
    · rename_i hc
      simp only [Bool.and_eq_true, decide_eq_true_eq] at hc
      simp only [Option.some.injEq, Prod.mk.injEq] at h
      exact .inr ⟨hc.2, h.1.symm, h.2.symm⟩
    · simp only [Option.some.injEq, Prod.mk.injEq] at h
      exact .inl ⟨h.1.symm, h.2.symm⟩

theorem callOp_ok {X : Ctx} {cl : CallFn} (hcl : ClOk X cl) {S : St} {o : Oper} {fv : Operand} {args : Array Operand} {tys : Array TypeId} {g : FuncId} {caps : List AV} {k0 : Nat} {mt : List Nat} {res : CRes}
    (ho : o.op = .call { callee := .value fv, args, argTypes := tys }) (hfv : S.opd fv = (true, .fn g caps)) (hok : okAll S args.toList = true)
    (h : callOp cl S.mem k0 g (argVals S args.toList ++ caps) mt = some res) (hgl : S.gl = X.gl) {φ G a w} (hr : Rel φ G S a w) {next : Act → World → Prop} {R : Exit → Act → World → Prop}
    (hret : ∀ x, res.out = .ret x → ∀ φ' w' v, Rel φ' G { S with mem := putAll S.mem res.es } a w' → Keeps φ S.mem w φ' (putAll S.mem res.es) w' → AVRel φ' w' (Fo G φ' (putAll S.mem res.es)) x v → next (a.put o.dst v) w')
    (hpan : ∀ t x, res.out = .panic t x → ∀ φ' w' v, Rel φ' G { S with mem := putAll S.mem res.es } a w' → Keeps φ S.mem w φ' (putAll S.mem res.es) w' → DRel w' (Fo G φ' (putAll S.mem res.es)) x v → R (.panic [{ v := .iface t v, recovered := false }]) a w') : o.wp X.P a w next R := by
  unfold callOp callOp2 callOp3 at h
  obtain ⟨ρ, hρ⟩ : ∃ ρ, ρ = collect S.mem 64 (argKeys mt 0 (argVals S args.toList ++ caps)) [] := ⟨_, rfl⟩
  have hcol := collect_ok S.mem 64 (argKeys mt 0 (argVals S args.toList ++ caps)) [] List.nodup_nil (by simp)
  rw [← hρ] at h hcol
  generalize (argBor mt 0 (argVals S args.toList ++ caps)).filter (fun k => !ρ.contains k) = B at h
  clear hρ
  obtain ⟨hn, hall⟩ := hcol
  unfold callBack at h
  split at h
  · rename_i out l2 hcall
    split at h
    · rename_i hc
      cases h
      have hcall2 : callable X.P g = true ∧ Ev X.P X.gl g (vwArgs S.mem ρ B (argVals S args.toList ++ caps)) (inM 0 (conts (selL S.mem ρ (fun k => B.contains k) nv0 0 ρ))) fun o m => o = out ∧ m = mkM 0 l2 := by
        obtain ⟨out0, l0, h0, h1⟩ := frzR_some hcall
        obtain ⟨hc0, hev0⟩ := hcl _ _ _ _ _ h0
        refine ⟨hc0, ?_⟩
        rcases h1 with ⟨rfl, rfl⟩ | ⟨hlt, rfl, rfl⟩
        · exact hev0
        · have hcl2 : (conts (selL S.mem ρ (fun k => B.contains k) nv0 0 ρ)).length = ρ.length := by rw [conts_length, selL_length]
          have := hev0.frz (by rw [hcl2]; omega)
          rw [hcl2] at this
          exact this
      obtain ⟨hcallable, hev⟩ := hcall2
      simp only [Bool.and_eq_true, Bool.or_eq_true, decide_eq_true_eq] at hc
      obtain ⟨⟨hlen, hfr⟩, hpl⟩ := hc
      rw [inM_conts] at hev
      obtain ⟨v1, v2, v3⟩ := call_view (B := B) hr.mem hn hall
      have hfe := hr.opd fv (by rw [hfv])
      rw [hfv] at hfe
      generalize hfq : a.eval fv = fval at hfe
      cases hfe with
      | fn _ _ ca hlc hcr =>
        have hrun : (execOp a.eval o).run X.P w = .ok (.enter g (args.map a.eval ++ ca)) w := by
          simp [execOp, ho, resolve, hfq, Deferred.ofValue, invoke, run_callFunc hcallable]
        unfold Oper.wp
        rw [hrun]
        have hlenA : (vwArgs S.mem ρ B (argVals S args.toList ++ caps)).length = (args.map a.eval ++ ca).size := by
          rw [vwArgs_length, List.length_append, argVals_length]
          simp [hlc]
        have hav : ∀ (i : Nat) x v, (vwArgs S.mem ρ B (argVals S args.toList ++ caps))[i]? = some x → (args.map a.eval ++ ca)[i]? = some v → AVRel (φ.sel ρ nv0) w (Fo (GCall φ G S.mem ρ B) (φ.sel ρ nv0) (mkM 0 (selL S.mem ρ (fun k => B.contains k) nv0 0 ρ))) x v := by
          intro i x v hx hv
          rw [vwArgs_get] at hx
          obtain ⟨y, hy, rfl⟩ := Option.map_eq_some_iff.1 hx
          refine (v2 y v ?_).norm
          by_cases hi : i < args.size
          · rw [List.getElem?_append_left (by rw [argVals_length]; simpa using hi), argVals_get] at hy
            rw [Array.getElem?_append_left (by simpa using hi)] at hv
            simp only [Array.getElem?_map, Option.map_eq_some_iff] at hv
            obtain ⟨z, hz, rfl⟩ := hv
            obtain ⟨z', hz', rfl⟩ := Option.map_eq_some_iff.1 hy
            rw [Array.getElem?_toList, hz] at hz'
            cases hz'
            exact hr.opd z (okAll_mem hok z (by simpa using Array.mem_of_getElem? hz))
          · rw [List.getElem?_append_right (by rw [argVals_length]; simpa using hi), argVals_length] at hy
            rw [Array.getElem?_append_right (by simpa using hi)] at hv
            simp only [Array.size_map, Array.length_toList] at hy hv
            exact hcr _ _ v hy hv
        have hglob : GlobRel w (Fo (GCall φ G S.mem ρ B) (φ.sel ρ nv0) (mkM 0 (selL S.mem ρ (fun k => B.contains k) nv0 0 ρ))) X.gl := by
          rw [← hgl]
          exact hr.glob.mono (fun _ _ _ => rfl) (Nat.le_refl _) (fun b _ => v3 b)
        refine (hev (φ.sel ρ nv0) (GCall φ G S.mem ρ B) w _ v1 hglob hlenA hav).mono ?_
        rintro e w' ⟨φ2, m2, out', ⟨rfl, rfl⟩, hm2, hk2, hout⟩
        have hBpl : B = [] ∨ (plainO out' = true ∧ plainL l2 = true) := hpl.imp (by simp) id
        obtain ⟨φ', hm', hk', hup⟩ := call_back (B := B) hr.mem hn hall (fr := List.range' (k0 + 1) (l2.length - ρ.length)) List.nodup_range' (frOk_all hfr) hm2 hk2 (by simp; omega) (hBpl.imp id fun hp => plainL_all hp.2)
        have hr' := hr.turn hm' hk'
        cases out' with
        | ret x =>
          cases e with
          | returned v => exact hret _ rfl φ' w' v hr' hk' (hup x v (hBpl.imp id fun hp => hp.1) hout)
          | _ => exact hout.elim
        | panic t x =>
          cases e with
          | panicked chain =>
            obtain ⟨v, rfl, hx⟩ := hout
            have := hup (.d x) v (hBpl.imp id fun hp => hp.1) (.d _ _ hx)
            cases this with
            | d _ _ hd => exact hpan t x rfl φ' w' v hr' hk' hd
          | _ => exact hout.elim
    · cases h
  · cases h
end Go.Am
end

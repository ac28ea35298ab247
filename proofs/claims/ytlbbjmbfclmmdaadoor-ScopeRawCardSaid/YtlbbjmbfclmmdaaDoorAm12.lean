/-
  The abstract machine, part 12: literals, conversions.
-/
import Derived.Test.YtlbbjmbfclmmdaaDoorAm11
namespace Go.Am
open Go

theorem foldl_set (off : Nat) : ∀ (l : List Value) (k : Nat) (cs : Array Value), off + k + l.length ≤ cs.size →
    ((l.zipIdx k).foldl (fun cs x => cs.setIfInBounds (off + x.2) x.1) cs).toList = cs.toList.take (off + k) ++ l ++ cs.toList.drop (off + k + l.length)
  | [], k, cs, _ => by simp
  | v :: l, k, cs, h => by
    simp only [List.zipIdx_cons, List.foldl_cons, List.length_cons] at h ⊢
    rw [foldl_set off l (k + 1) _ (by simp; omega), Array.toList_setIfInBounds]
    have := list_seg_step cs.toList (off + k) v l (by simp; omega)
    rw [show off + (k + 1) = off + k + 1 by omega, show off + k + (l.length + 1) = off + k + 1 + l.length by omega]
    simpa [List.length_cons, Nat.add_assoc, Nat.add_comm 1] using this

theorem fill_one (cs v : Array Value) (off : Nat) (h : off + v.size ≤ cs.size) :
    (v.zipIdx.foldl (fun cs (x : Value × Nat) => cs.setIfInBounds (off + x.2) x.1) cs).toList = putCells cs.toList off v.toList := by
  rw [← Array.foldl_toList, Array.toList_zipIdx, foldl_set off v.toList 0 cs (by simpa using h), putCells_eq _ _ _ (by simpa using h)]
  simp

/-- The parts of a literal, laid into its cells. -/
def fillA (place : Nat → Option (Nat × Nat)) : List (Nat × AV) → Bool → List AV → Option (Bool × List AV)
  | [], c, cs => some (c, cs)
  | (i, x) :: r, c, cs => match place i with
    | some (off, n) => fillA place r (c ∧ x.solid = true ∧ x.cells.length = n ∧ off + n ≤ cs.length) (putCells cs off x.cells)
    | none => none

theorem fillA_run {φ w F} (place : Nat → Option (Nat × Nat)) : ∀ (ps : List (Nat × AV)) (c0 c : Bool) (cs cs' : List AV) (vs : List (Nat × Value)) (va : Array Value),
    fillA place ps c0 cs = some (c, cs') → c = true → cs.length = va.size → (∀ v ∈ va, cell1 v = true) → (∀ (i : Nat) x v, cs[i]? = some x → va[i]? = some v → AVRel φ w F x v) →
    ps.length = vs.length → (∀ (i : Nat) p v, ps[i]? = some p → vs[i]? = some v → p.1 = v.1 ∧ AVRel φ w F p.2 v.2) →
    ∃ va', Instr.fill place va vs = some va' ∧ c0 = true ∧ cs'.length = va'.size ∧ (∀ v ∈ va', cell1 v = true) ∧ ∀ (i : Nat) x v, cs'[i]? = some x → va'[i]? = some v → AVRel φ w F x v
  | [], c0, c, cs, cs', vs, va, h, hc, hl, h1, hr, hpl, hp => by
    have : vs = [] := List.eq_nil_of_length_eq_zero (by simpa using hpl.symm)
    subst this
    simp only [fillA, Option.some.injEq, Prod.mk.injEq] at h
    obtain ⟨rfl, rfl⟩ := h
    exact ⟨va, rfl, hc, hl, h1, hr⟩
  | (i, x) :: ps, c0, c, cs, cs', vs, va, h, hc, hl, h1, hr, hpl, hp => by
    cases vs with
    | nil => simp at hpl
    | cons v vs =>
      obtain ⟨j, v⟩ := v
      obtain ⟨hij, hxv⟩ := hp 0 (i, x) (j, v) (by simp) (by simp)
      simp only at hij hxv
      subst hij
      simp only [fillA] at h
      split at h
      · rename_i off n hpl0
        -- the condition of the rest holds the condition of this part
        obtain ⟨q, hq⟩ : ∃ q : Bool, q = decide (c0 = true ∧ x.solid = true ∧ x.cells.length = n ∧ off + n ≤ cs.length) := ⟨_, rfl⟩
        have hc0 : c = true → q = true := by
          rw [← hq] at h
          clear hq
          revert h
          generalize putCells cs off x.cells = cs2
          clear hp hpl hr h1 hl hxv hc
          induction ps generalizing q cs2 with
          | nil => intro h; simp only [fillA, Option.some.injEq, Prod.mk.injEq] at h; obtain ⟨rfl, _⟩ := h; exact id
          | cons p ps ih =>
            intro h hcc
            simp only [fillA] at h
            split at h
            · exact (of_decide_eq_true (ih _ _ h hcc)).1
            · cases h
        have hcq := hc0 hc
        rw [hq] at hcq
        replace hcq := of_decide_eq_true hcq
        obtain ⟨hc00, hsol, hlen, hle⟩ := hcq
        obtain ⟨hs1, hs2⟩ := hxv.solid hsol
        have hfit : off + v.cells.size ≤ va.size := by omega
        have hset := fill_one va v.cells off hfit
        obtain ⟨va1, hva1⟩ : ∃ va1, va1 = v.cells.zipIdx.foldl (fun cs (x : Value × Nat) => cs.setIfInBounds (off + x.2) x.1) va := ⟨_, rfl⟩
        rw [← hva1] at hset
        have hfl : off + v.cells.toList.length ≤ va.toList.length := by simpa using hfit
        obtain ⟨va', hf, hcc, r1, r2, r3⟩ := fillA_run (φ := φ) (w := w) (F := F) place ps _ c _ cs' vs va1 h hc
          (by rw [putCells_length _ _ _ (by omega), ← Array.length_toList, hset, putCells_length _ _ _ hfl]; simpa using hl)
          (fun u hu => by
            rw [← Array.mem_toList_iff, hset] at hu
            rcases mem_putCells hfl hu with hu | hu
            · exact h1 u (by simpa using hu)
            · exact hs2 u (by simpa using hu))
          (fun i y u hy hu => by
            rw [← Array.getElem?_toList, hset] at hu
            exact putCells_rel (R := fun x v => AVRel φ w F x v) (by simpa using hl) (by simpa using hs1.symm) (by omega) (fun i c v h h' => hr i c v h (by simpa using h')) (fun i c v h h' => hxv.cells hs2 hs1 i c v h (by simpa using h')) i y u hy hu)
          (by simpa using hpl) (fun i p v h h' => hp (i + 1) p v (by simpa using h) (by simpa using h'))
        refine ⟨va', ?_, hc00, r1, r2, r3⟩
        simp only [Instr.fill, hpl0]
        rw [if_neg (by simp; omega)]
        rw [← hf, hva1]
      · cases h

def fplace (P : Program) (t : TypeId) : Option (List (Nat × Nat)) :=
  match P.underlying t with
  | some (.struct fs) => fs.toList.mapM fun f => (P.info? f.type).map fun i => (f.offset, i.size)
  | _ => none

theorem mapM_places {P : Program} {w : World} : ∀ (fs : List Field) (l : List (Nat × Nat)), (fs.mapM fun f => (P.info? f.type).map fun i => (f.offset, i.size)) = some l →
    (fs.mapM fun f => (do pure (f.offset, ← sizeOf f.type) : Sem (Nat × Nat))).run P w = .ok l w
  | [], l, h => by simp at h; subst h; simp
  | f :: fs, l, h => by
    simp only [List.mapM_cons] at h ⊢
    cases hi : P.info? f.type with
    | none => simp [hi] at h
    | some i =>
      simp only [hi, Option.map_some, Option.pure_def, Option.bind_eq_bind, Option.bind_some] at h
      cases hm : (fs.mapM fun f => (P.info? f.type).map fun i => (f.offset, i.size)) with
      | none => simp [hm] at h
      | some l' =>
        simp [hm] at h
        subst h
        have hs : (sizeOf f.type).run P w = .ok i.size w := run_sizeOf (by simp [tsz, hi])
        have ih := mapM_places (P := P) (w := w) fs l' hm
        simp only [Sem.run_bind, hs, Result.andThen_ok, Sem.run_pure, ih]

def buildR (P : Program) (t : TypeId) (ps : List (Nat × AV)) : Res :=
  match tzero P t with
  | some zs => match fplace P t with
    | some l => match fillA (fun i => l[i]?) ps true zs with
      | some (c, cs) => .val c (mkAgg cs)
      | none => .no
    | none => match tk P t with
      | .arr _ e => match tsz P e with
        | some sz => match fillA (fun i => some (i * sz, sz)) ps true zs with
          | some (c, cs) => .val c (mkAgg cs)
          | none => .no
        | none => .no
      | _ => .no
  | none => .no

theorem build_ok (P : Program) (S : St) (o : Oper) (t : TypeId) (ps : Array (Nat × Operand)) (ho : o.op = .build t ps) (hx : ∀ x ∈ ps.toList, (S.opd x.2).1 = true) :
    ResOk P S o (buildR P t (ps.toList.map fun x => (x.1, (S.opd x.2).2))) := by
  have parts : ∀ {φ G a w}, Rel φ G S a w → ∀ (i : Nat) (p : Nat × AV) (v : Nat × Value), (ps.toList.map fun x => (x.1, (S.opd x.2).2))[i]? = some p → (ps.toList.map fun x => (x.1, a.eval x.2))[i]? = some v → p.1 = v.1 ∧ AVRel φ w (Fo G φ S.mem) p.2 v.2 := by
    intro φ G a w hr i p v h1 h2
    simp only [List.getElem?_map, Option.map_eq_some_iff] at h1 h2
    obtain ⟨x, hx1, rfl⟩ := h1
    obtain ⟨y, hy1, rfl⟩ := h2
    rw [hx1] at hy1; cases hy1
    exact ⟨rfl, hr.opd _ (hx x (List.mem_of_getElem? hx1))⟩
  unfold buildR
  split
  · rename_i zs hz
    split
    · rename_i l hl
      split
      · rename_i c cs hf
        refine ResOk.pureB fun hc φ G a w hr => ?_
        obtain ⟨z, hrun, hsz, h1, hrel⟩ := tzero_rel hz w
        obtain ⟨va', h2, _, h3, h4, h5⟩ := fillA_run (φ := φ) (w := w) (F := Fo G φ S.mem) _ _ _ _ _ _ (ps.toList.map fun x => (x.1, a.eval x.2)) z.cells hf hc hsz.symm h1 (fun i x v h h' => hrel _ _ _ i x v h h') (by simp) (parts hr)
        unfold fplace at hl
        split at hl
        · rename_i fs hu
          have hm := mapM_places (P := P) (w := w) fs.toList l hl
          refine ⟨.agg va', ?_, ?_⟩
          · have hmA : (fs.mapM fun f => (do pure (f.offset, ← sizeOf f.type) : Sem (Nat × Nat))).run P w = .ok l.toArray w := by
              rw [Array.mapM_eq_mapM_toList]
              simp only [Sem.run_map, hm, Result.andThen_ok]
            simp only [execOp, ho, Instr.build, Sem.run_bind, hrun, Result.andThen_ok, run_underlying hu, hmA]
            have e : (fun (i : Nat) => l.toArray[i]?) = fun (i : Nat) => l[i]? := by funext i; simp
            have e2 : (Array.map (fun x => (x.1, a.eval x.2)) ps).toList = ps.toList.map fun x => (x.1, a.eval x.2) := by simp
            rw [e, e2, h2]
            rfl
          · have := mkAgg_rel (φ := φ) (w := w) (F := Fo G φ S.mem) (cs := cs) (vs := va'.toList) (by simpa using h3) (fun v hv => h4 v (by simpa using hv)) (fun i c v h h' => h5 i c v h (by simpa using h'))
            simpa using this
        · cases hl
      · trivial
    · split
      · rename_i n e hte
        split
        · rename_i sz hs
          split
          · rename_i c cs hf
            refine ResOk.pureB fun hc φ G a w hr => ?_
            obtain ⟨z, hrun, hsz, h1, hrel⟩ := tzero_rel hz w
            obtain ⟨va', h2, _, h3, h4, h5⟩ := fillA_run (φ := φ) (w := w) (F := Fo G φ S.mem) _ _ _ _ _ _ (ps.toList.map fun x => (x.1, a.eval x.2)) z.cells hf hc hsz.symm h1 (fun i x v h h' => hrel _ _ _ i x v h h') (by simp) (parts hr)
            refine ⟨.agg va', ?_, ?_⟩
            · simp only [execOp, ho, Instr.build, Sem.run_bind, hrun, Result.andThen_ok, run_underlying (tk_arr hte), run_sizeOf hs]
              have e2 : (Array.map (fun x => (x.1, a.eval x.2)) ps).toList = ps.toList.map fun x => (x.1, a.eval x.2) := by simp
              rw [e2, h2]
              rfl
            · have := mkAgg_rel (φ := φ) (w := w) (F := Fo G φ S.mem) (cs := cs) (vs := va'.toList) (by simpa using h3) (fun v hv => h4 v (by simpa using hv)) (fun i c v h h' => h5 i c v h (by simpa using h'))
              simpa using this
          · trivial
        · trivial
      · trivial
  · trivial
end Go.Am

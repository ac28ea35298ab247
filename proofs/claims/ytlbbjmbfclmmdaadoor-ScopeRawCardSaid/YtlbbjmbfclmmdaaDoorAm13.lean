/-
  The abstract machine, part 13: literals of slices, conversions.
-/
import Derived.Test.YtlbbjmbfclmmdaaDoorAm12
namespace Go.Am
open Go

theorem fill_all (sz : Nat) : ∀ (vs : List (Nat × Value)) (k : Nat) (cells : Array Value), vs.map (·.1) = List.range' k vs.length → (∀ v ∈ vs, v.2.cells.size = sz) → (k + vs.length) * sz = cells.size →
    ∃ out, Instr.fill (fun i => some (i * sz, sz)) cells vs = some out ∧ out.toList = cells.toList.take (k * sz) ++ vs.flatMap (fun v => v.2.cells.toList)
  | [], k, cells, _, _, hl => by
    refine ⟨cells, rfl, ?_⟩
    simp only [List.length_nil, Nat.add_zero] at hl
    simp only [hl, List.flatMap_nil, List.append_nil]
    rw [← Array.length_toList, List.take_length]
  | (i, v) :: vs, k, cells, hi, hs, hl => by
    simp only [List.map_cons, List.length_cons, List.range'_succ, List.cons.injEq] at hi
    obtain ⟨rfl, hi⟩ := hi
    have hv := hs (i, v) (by simp)
    simp only at hv
    simp only [List.length_cons] at hl
    have hlt : i * sz + v.cells.size ≤ cells.size := by
      rw [hv, ← hl, ← Nat.succ_mul]; exact Nat.mul_le_mul_right _ (by omega)
    have h1 := fill_one cells v.cells (i * sz) hlt
    obtain ⟨c1, hc1⟩ : ∃ c1, c1 = v.cells.zipIdx.foldl (fun cs (x : Value × Nat) => cs.setIfInBounds (i * sz + x.2) x.1) cells := ⟨_, rfl⟩
    rw [← hc1] at h1
    have hfl : i * sz + v.cells.toList.length ≤ cells.toList.length := by simpa using hlt
    have hsz : c1.size = cells.size := by rw [← Array.length_toList, h1, putCells_length _ _ _ hfl]; simp
    obtain ⟨out, h2, h3⟩ := fill_all sz vs (i + 1) c1 hi (fun x hx => hs x (by simp [hx])) (by rw [hsz, ← hl]; congr 1; omega)
    refine ⟨out, ?_, ?_⟩
    · simp only [Instr.fill]
      rw [if_neg (by simp; omega), ← h2, hc1]
    · rw [h3, h1, putCells_eq _ _ _ hfl]
      have hvl : v.cells.toList.length = sz := by simpa using hv
      rw [Nat.succ_mul, List.take_append_of_le_length (by simp; omega), List.take_of_length_le (by simp; omega)]
      simp

theorem rows_parts {φ w F} {sz : Nat} : ∀ (ds : List D) (vs : List Value), ds.length = vs.length → (∀ d ∈ ds, d.size = sz) → (∀ (i : Nat) d v, ds[i]? = some d → vs[i]? = some v → AVRel φ w F (.d d) v) →
    RowsAt w F sz ds (vs.flatMap fun v => v.cells.toList)
  | [], vs, hl, _, _ => by
    have : vs = [] := List.eq_nil_of_length_eq_zero (by simpa using hl.symm)
    subst this; exact RowsAt.nil ..
  | d :: ds, vs, hl, hs, hr => by
    cases vs with
    | nil => simp at hl
    | cons v vs =>
      have ih := rows_parts (φ := φ) (w := w) (F := F) ds vs (by simpa using hl) (fun x hx => hs x (by simp [hx])) (fun i d v h h' => hr (i + 1) d v (by simpa using h) (by simpa using h'))
      have h0 := hr 0 d v (by simp) (by simp)
      cases h0 with | d _ _ h0 =>
      have hds := hs d (by simp)
      have hvs : v.cells.size = sz := by rw [h0.size, hds]
      have one : RowsAt w F sz [d] v.cells.toList := by
        refine ⟨by simp [hvs], fun u hu => h0.cells.2.1 u (by simpa using hu), fun x hx => by simp at hx; subst hx; exact hds, fun i x hx => ?_⟩
        cases i with
        | zero => simp at hx; subst hx; exact ⟨v, h0, fun j c hj => by simpa using hj⟩
        | succ i => simp at hx
      simpa using one.append ih

/-- A list that lies in one new block. -/
theorem list_new {w : World} {F F' : Nat → Prop} {sz : Nat} {ds : List D} {cs rest : List Value} {elem : TypeId} {fr} {w1 : World} {arr : Array Value} (hr : RowsAt w F sz ds cs) (hh : w1.heap[w.heap.size]? = some (.cells arr elem fr)) (harr : arr.toList = cs ++ rest)
    (hm : ∀ x v, DRel w F x v → DRel w1 F' x v) (hF : ¬ F' w.heap.size) (cap : Nat) (hcap : ds.length ≤ cap) : DRel w1 F' (.list ds) (.slice (some ⟨w.heap.size, 0, none⟩) ds.length cap) := by
  obtain ⟨a1, a2, a3, a4⟩ := hr
  have hch : ∀ i, ∃ v, ∀ d, ds[i]? = some d → DRel w F d v ∧ ∀ (j : Nat) c, v.cells[j]? = some c → cs[i * sz + j]? = some c := by
    intro i
    cases hd : ds[i]? with
    | none => exact ⟨undef, fun d h => by cases h⟩
    | some d => obtain ⟨v, h1, h2⟩ := a4 i d hd; exact ⟨v, fun d' h => by cases h; exact ⟨h1, h2⟩⟩
  obtain ⟨vs, hvs⟩ := Classical.axiomOfChoice hch
  refine .list ds w.heap.size 0 cap sz vs hcap ?_ hF a3 (fun i d hd => hm _ _ (hvs i d hd).1) (fun i j c hi hj => ?_)
  · exact (Array.getElem?_eq_some_iff.1 hh).1
  · obtain ⟨h1, h2⟩ := hvs i ds[i] (by simp [hi])
    have h3 := h2 j c hj
    rw [cell?_row hh, ← Array.getElem?_toList, harr, Nat.zero_add, List.getElem?_append_left (List.getElem?_eq_some_iff.1 h3).1]
    exact h3

theorem grow_rel {φ : Phi} {G : Nat → Prop} {m : Mem} {w w1 : World} (hold : ∀ b, b < w.heap.size → w1.heap[b]? = w.heap[b]?) (hs : w.heap.size ≤ w1.heap.size) (x v) (hx : DRel w (Fo G φ m) x v) : DRel w1 (Fo G φ m) x v :=
  hx.mono (fun b hb _ => hold b hb) hs (fun _ _ h => h)

def partDs : List (Nat × AV) → Option (List D)
  | [] => some []
  | (_, x) :: r => match x.norm, partDs r with
    | .d d, some ds => some (d :: ds)
    | _, _ => none
theorem partDs_rel {φ w F} : ∀ (ps : List (Nat × AV)) (ds : List D) (vs : List Value), partDs ps = some ds → ps.length = vs.length → (∀ (i : Nat) p v, ps[i]? = some p → vs[i]? = some v → AVRel φ w F p.2 v) →
    ds.length = vs.length ∧ ∀ (i : Nat) d v, ds[i]? = some d → vs[i]? = some v → AVRel φ w F (.d d) v
  | [], ds, vs, h, hl, _ => by
    simp [partDs] at h; subst h
    exact ⟨by simpa using hl, fun i d v h' => by simp at h'⟩
  | (i, x) :: ps, ds, vs, h, hl, hr => by
    simp only [partDs] at h
    split at h <;> simp at h
    rename_i d ds' hx hds
    subst h
    cases vs with
    | nil => simp at hl
    | cons v vs =>
      have ih := partDs_rel (φ := φ) (w := w) (F := F) ps ds' vs hds (by simpa using hl) (fun i p v h h' => hr (i + 1) p v (by simpa using h) (by simpa using h'))
      refine ⟨by simp [ih.1], fun j d' v' h h' => ?_⟩
      cases j with
      | zero =>
        simp at h h'; subst h; subst h'
        have := (hr 0 (i, x) v (by simp) (by simp)).norm
        simp only [hx] at this; exact this
      | succ j => exact ih.2 j d' v' (by simpa using h) (by simpa using h')

def buildSliceR (P : Program) (m : Mem) (k0 : Nat) (t : TypeId) (len : Nat) (ps : List (Nat × AV)) : Res :=
  match tk P t with
  | .slice e => match tsz P e, tzeroD P e, partDs ps with
    | some sz, some zd, some ds => match Mem.get m k0 with
      | some ⟨_, v, _⟩ => .upd (zd.size = sz ∧ len * sz ≤ 2 ^ 24 ∧ ps.map (·.1) = List.range' 0 len ∧ (∀ d ∈ ds, d.size = sz)) (.vec k0 (v + 1) 0 len) ⟨k0, v + 1, .vec sz ds⟩
      | none => .val (zd.size = sz ∧ len * sz ≤ 2 ^ 24 ∧ ps.map (·.1) = List.range' 0 len ∧ (∀ d ∈ ds, d.size = sz)) (.d (.list ds))
    | _, _, _ => .no
  | _ => .no

theorem run_buildSlice {P : Program} {w : World} {t e : TypeId} {sz len : Nat} {zd : D} (ht : tk P t = .slice e) (hs : tsz P e = some sz) (hz : tzeroD P e = some zd) (hb : len * sz ≤ 2 ^ 24)
    {vs : List (Nat × Value)} (hi : vs.map (·.1) = List.range' 0 len) (hv : ∀ v ∈ vs, v.2.cells.size = sz) :
    ∃ arr : Array Value, arr.toList = vs.flatMap (fun v => v.2.cells.toList) ∧ (Instr.buildSlice t len vs.toArray).run P w = .ok (.slice (some ⟨w.heap.size, 0, none⟩) len len) (w.alloc (.cells arr e)) := by
  obtain ⟨z, hrun, hzsz, hz1, _⟩ := tzeroD_rel hz w
  have hlen : vs.length = len := by
    have := congrArg List.length hi
    simpa using this
  have hb' : ¬ (len * sz > 2 ^ 24) := by omega
  by_cases h0 : len * sz = 0
  · obtain ⟨out, h1, h2⟩ := fill_all sz vs 0 #[] (by rw [hlen]; exact hi) hv (by rw [hlen]; simp [h0])
    refine ⟨out, by simpa using h2, ?_⟩
    simp only [Instr.buildSlice, Sem.run_bind, run_underlying (tk_slice ht), Result.andThen_ok, run_sizeOf hs, h0, if_true, show Array.range 0 = #[] from rfl, Array.map_empty, h1, show ¬ (0 > 2 ^ 24) by decide, if_false, Sem.run_bind, Sem.run_pure, run_newRow]
  · obtain ⟨out, h1, h2⟩ := fill_all sz vs 0 ((Array.range (len * sz)).map (z.cells[· % z.cells.size]!)) (by rw [hlen]; exact hi) hv (by rw [hlen]; simp)
    refine ⟨out, by simpa using h2, ?_⟩
    simp only [Instr.buildSlice, Sem.run_bind, run_underlying (tk_slice ht), Result.andThen_ok, run_sizeOf hs, hb', if_false, h0, hrun, Sem.run_pure, h1, run_newRow]

theorem buildSlice_ok (P : Program) (S : St) (o : Oper) (t : TypeId) (len : Nat) (ps : Array (Nat × Operand)) (ho : o.op = .buildSlice t len ps) (hx : ∀ x ∈ ps.toList, (S.opd x.2).1 = true) :
    ResOk P S o (buildSliceR P S.mem (keyOf o) t len (ps.toList.map fun x => (x.1, (S.opd x.2).2))) := by
  have parts : ∀ {φ G a w}, Rel φ G S a w → ∀ (i : Nat) (p : Nat × AV) (v : Value), (ps.toList.map fun x => (x.1, (S.opd x.2).2))[i]? = some p → (ps.toList.map fun x => a.eval x.2)[i]? = some v → AVRel φ w (Fo G φ S.mem) p.2 v := by
    intro φ G a w hr i p v h1 h2
    simp only [List.getElem?_map, Option.map_eq_some_iff] at h1 h2
    obtain ⟨x, hx1, rfl⟩ := h1
    obtain ⟨y, hy1, rfl⟩ := h2
    rw [hx1] at hy1; cases hy1
    exact hr.opd _ (hx x (List.mem_of_getElem? hx1))
  have main : ∀ {e sz zd ds}, tk P t = .slice e → tsz P e = some sz → tzeroD P e = some zd → partDs (ps.toList.map fun x => (x.1, (S.opd x.2).2)) = some ds → zd.size = sz → len * sz ≤ 2 ^ 24 →
      (ps.toList.map fun x => (x.1, (S.opd x.2).2)).map (·.1) = List.range' 0 len → (∀ d ∈ ds, d.size = sz) → ∀ {φ G a w}, Rel φ G S a w →
      ds.length = len ∧ ∃ arr : Array Value, RowsAt w (Fo G φ S.mem) sz ds arr.toList ∧ (execOp a.eval o).run P w = .ok (.value (.slice (some ⟨w.heap.size, 0, none⟩) len len)) (w.alloc (.cells arr e)) := by
    intro e sz zd ds ht hs hz hds hzs hb hi hsz φ G a w hr
    obtain ⟨h1, h2⟩ := partDs_rel (φ := φ) (w := w) (F := Fo G φ S.mem) _ ds (ps.toList.map fun x => a.eval x.2) hds (by simp) (parts hr)
    have hrows := rows_parts ds _ h1 hsz h2
    have hi' : (ps.toList.map fun x => (x.1, a.eval x.2)).map (·.1) = List.range' 0 len := by rw [← hi]; simp
    have hv : ∀ v ∈ (ps.toList.map fun x => (x.1, a.eval x.2)), v.2.cells.size = sz := by
      intro v hv
      simp only [List.mem_map] at hv
      obtain ⟨x, hxm, rfl⟩ := hv
      obtain ⟨i, hi1, hi2⟩ := List.mem_iff_getElem.1 hxm
      have hid : i < ds.length := by rw [h1]; simpa using hi1
      have := h2 i ds[i] (a.eval x.2) (by simp [hid]) (by simp [List.getElem?_eq_getElem hi1, hi2])
      cases this with | d _ _ h => rw [h.size]; exact hsz _ (List.getElem_mem hid)
    obtain ⟨arr, ha, hrun⟩ := run_buildSlice (P := P) (w := w) ht hs hz hb hi' hv
    refine ⟨?_, arr, ?_, ?_⟩
    · have := congrArg List.length hi
      simp at this
      rw [h1]; simp; exact this
    · rw [ha]
      have e : (ps.toList.map fun x => (x.1, a.eval x.2)).flatMap (fun v => v.2.cells.toList) = (ps.toList.map fun x => a.eval x.2).flatMap (fun v => v.cells.toList) := by simp [List.flatMap_map]
      rw [e]; exact hrows
    · have e2 : (ps.map fun x => (x.1, a.eval x.2)) = (ps.toList.map fun x => (x.1, a.eval x.2)).toArray := by apply Array.ext'; simp
      simp only [execOp, ho, Sem.run_bind]
      have e3 : (ps.map fun (i, x) => (i, a.eval x)) = (ps.toList.map fun x => (x.1, a.eval x.2)).toArray := e2
      rw [e3, hrun]
      rfl
  unfold buildSliceR
  split
  · rename_i e hte
    split
    · rename_i sz zd ds hs hz hds
      split
      · rename_i key v cont hg
        refine ResOk.updI ?_
        rintro ⟨hzs, hb, hi, hsz⟩ φ G a w hr
        obtain ⟨hlen, arr, hrows, hrun⟩ := main hte hs hz hds hzs hb hi hsz hr
        obtain ⟨hm, hk, L, hL, hver, _⟩ := hr.mem.get hg
        simp only at hk hver
        subst hk
        obtain ⟨φ', hm', hk', hφk, hφo⟩ := hr.mem.fresh (e := ⟨keyOf o, v, cont⟩) hm hL hver w rfl rfl rfl rfl arr e sz len (.vec sz ds) (fun φ' hle hav hdr hnew => by
          refine vec_of_rows (cs := arr.toList) (rest := []) (elem := e) rfl rfl (hrows.mono hdr) (by simp) (by simpa using Nat.le_of_eq hlen) (by rw [List.append_nil, hrows.1, hlen]) (fun _ => ?_)
          rw [hnew, List.append_nil, Array.toArray_toList])
        exact ⟨_, _, φ', .inl hrun, .vec _ (v + 1) 0 _ _ _ hφk (Nat.le_refl _) (fun _ => ⟨_, _, rfl, Nat.le_refl _, fun _ => ⟨by simp, by simp⟩⟩) rfl, hm', hk', hφo⟩
      · refine ResOk.valI ?_
        rintro ⟨hzs, hb, hi, hsz⟩ φ G a w hr
        obtain ⟨hlen, arr, hrows, hrun⟩ := main hte hs hz hds hzs hb hi hsz hr
        have hold : ∀ b, b < w.heap.size → (w.alloc (.cells arr e)).heap[b]? = w.heap[b]? := fun b hb => RowKit.Below.heap_alloc w _ b hb
        have hnew := heap_alloc_new w (.cells arr e)
        refine ⟨_, _, .inl hrun, .d _ _ ?_, hold, by simp, rfl, rfl, rfl⟩
        have := list_new (cap := len) hrows hnew (rest := []) (by simp) (fun x v h => grow_rel hold (by simp) x v h) (fun h => absurd (fo_bound hr.mem _ h) (Nat.lt_irrefl _)) (Nat.le_of_eq hlen)
        rw [hlen] at this
        exact this
    · trivial
  · trivial
/- Conversions. -/
def bytesD (s : List UInt8) : List D := s.map fun b => .int .u8 b.toNat

/-- The bytes of a list of bytes: as a function, for lists that are maps. -/
def byteOf : D → UInt8
  | .int _ n => UInt8.ofNat n.toNat
  | _ => 0

def D.isByte : D → Bool
  | .int .u8 _ => true
  | _ => false
theorem D.isByte_eq {d : D} (h : d.isByte = true) : ∃ n, d = .int .u8 n := by
  unfold D.isByte at h; split at h <;> simp_all
def convR (P : Program) (m : Mem) (k0 : Nat) (src dst : TypeId) (x : AV) : Res :=
  match tk P dst, x with
  | .int k, .d (.int _ n) => .val (tk P src ≠ .other) (.d (.int k (k.wrap n)))
  | .str, .d (.int _ n) => .val (tk P src ≠ .other) (.d (.str (Utf8.encode n).data.toList))
  | .str, .d (.str s) => .val (tk P src = .str) (.d (.str s))
  | .str, x => match tk P src with
    | .slice e => match srcRows m 1 x with
      | some (c, ys) => .val (c ∧ tk P e = .int .u8 ∧ tsz P e = some 1 ∧ ∀ d ∈ ys, d.isByte = true) (.d (.str (ys.map byteOf)))
      | none => .no
    | _ => .no
  | .slice e, .d (.str s) => match tk P src, tk P e, Mem.get m k0 with
    | .str, .int .u8, none => .val True (.d (.list (bytesD s)))
    | _, _, _ => .no
  | _, _ => .no

theorem bytes_loop {P : Program} {w : World} : ∀ (cs : List Value) (s0 : ByteArray) (ns : List Int), cs = ns.map (Value.int .u8) →
    (forIn cs s0 (fun c s => (match c with | .int .u8 n => pure (ForInStep.yield (s.push (UInt8.ofNat n.toNat))) | _ => (do stuck "bytesToString: byte expected"; pure (ForInStep.yield s)) : Sem (ForInStep ByteArray)))).run P w = .ok ⟨(s0.data.toList ++ ns.map fun n => UInt8.ofNat n.toNat).toArray⟩ w
  | [], s0, ns, h => by
    have : ns = [] := by simpa using h.symm
    subst this
    simp
  | c :: cs, s0, ns, h => by
    cases ns with
    | nil => simp at h
    | cons n ns =>
      simp at h
      obtain ⟨rfl, rfl⟩ := h
      simp only [List.forIn_cons, Sem.run_bind, Sem.run_pure, Result.andThen_ok]
      rw [bytes_loop (ns.map (Value.int .u8)) (s0.push (UInt8.ofNat n.toNat)) ns rfl]
      simp

theorem run_toBytes {P : Program} {w : World} {e : TypeId} {b : ByteArray} : ∃ (arr : Array Value) (fr : Nat × Nat) (w' : World) (cap : Nat) (rest : List Value), b.size ≤ cap ∧ (Conv.stringToBytes e b).run P w = .ok (.slice (some ⟨w.heap.size, 0, none⟩) b.size cap) w' ∧
    arr.toList = (b.data.toList.map fun x => Value.int .u8 x.toNat) ++ rest ∧ w'.heap[w.heap.size]? = some (.cells arr e fr) ∧ (∀ k, k < w.heap.size → w'.heap[k]? = w.heap[k]?) ∧ w.heap.size ≤ w'.heap.size ∧ w'.os = w.os ∧ w'.tape = w.tape ∧ w'.output = w.output := by
  obtain ⟨cap, hcap⟩ : ∃ cap, cap = (Question.appendCap b.size 0 e).cut (w.tape w.drawn (.appendCap b.size 0 e)) := ⟨_, rfl⟩
  obtain ⟨arr, harr⟩ : ∃ arr : Array Value, arr = (b.data.map fun x => Value.int .u8 x.toNat) ++ Array.replicate (cap - b.size) (.int .u8 0) := ⟨_, rfl⟩
  obtain ⟨w1, hw1⟩ : ∃ w1, w1 = w.drew.alloc (.cells arr e) := ⟨_, rfl⟩
  have hnew : w1.heap[w.heap.size]? = some (.cells arr e (0, 0)) := by
    have := heap_alloc_new w.drew (.cells arr e)
    rw [← hw1] at this; exact this
  have hlt : w.heap.size < w1.heap.size := (Array.getElem?_eq_some_iff.1 hnew).1
  have hsh : w1.shape? w.heap.size = some (e, arr.size) := by simp [World.shape?, hnew]
  refine ⟨arr, (arr.size, arr.size + 1), w1.freeze ⟨w.heap.size, arr.size, none⟩ 1, cap, List.replicate (cap - b.size) (.int .u8 0), ?_, ?_, ?_, ?_, ?_, ?_, ?_, ?_, ?_⟩
  · rw [hcap]; simp [Question.cut]
  · have hch : (choose (.appendCap b.size 0 e)).run P w = .ok cap w.drew := by
      rw [hcap]; rfl
    have hnr : (newRow e arr).run P w.drew = .ok ⟨w.heap.size, 0, none⟩ w1 := by rw [hw1]; rfl
    have hmk : (markStringish ⟨w.heap.size, 0, none⟩).run P w1 = .ok () (w1.freeze ⟨w.heap.size, arr.size, none⟩ 1) := by
      simp only [markStringish, shape, Sem.run_bind, Sem.run, hsh, Result.andThen_ok, freeze]
    simp only [Conv.stringToBytes, Sem.run_bind, hch, Result.andThen_ok, ← harr, hnr, hmk, Sem.run_pure]
  · rw [harr]; simp
  · simp [World.freeze, Array.getElem?_modify, hnew]
  · intro k hk
    have h1 : (w1.freeze ⟨w.heap.size, arr.size, none⟩ 1).heap[k]? = w1.heap[k]? := by
      simp only [World.freeze, Nat.one_ne_zero, if_false, Array.getElem?_modify]
      rw [if_neg (by omega)]
    rw [h1, hw1]
    exact RowKit.Below.heap_alloc w.drew _ k hk
  · simp [World.freeze]; omega
  · simp [World.freeze, hw1]; rfl
  · simp [World.freeze, hw1]
  · simp [World.freeze, hw1]; rfl

theorem byteOf_int (n : Int) : byteOf (.int .u8 n) = UInt8.ofNat n.toNat := rfl

theorem conv_ok (P : Program) (S : St) (o : Oper) (src dst : TypeId) (x : Operand) (ho : o.op = .convert src dst x) (hx : (S.opd x).1 = true) : ResOk P S o (convR P S.mem (keyOf o) src dst (S.opd x).2) := by
  have hrun : ∀ (a : Act) (w w' : World) (v : Value), (convert src dst (a.eval x)).run P w = .ok v w' → (execOp a.eval o).run P w = .ok (.value v) w' := by
    intro a w w' v h
    simp [execOp, ho, h]
  unfold convR
  split
  · rename_i k k' n hd hxv
    refine ResOk.pure fun hc φ G a w hr => ?_
    have h1 := hr.opd x hx
    rw [hxv] at h1
    obtain ⟨td, hu⟩ := tk_known hc
    refine ⟨.int k (k.wrap n), hrun a w w _ ?_, .d _ _ (.int _ _)⟩
    rw [int_of h1]
    simp [convert, run_underlying hu, run_underlying (tk_int hd), Conv.intToInt]
  · rename_i k n hd hxv
    refine ResOk.pure fun hc φ G a w hr => ?_
    have h1 := hr.opd x hx
    rw [hxv] at h1
    obtain ⟨td, hu⟩ := tk_known hc
    refine ⟨.string (Utf8.encode n), hrun a w w _ ?_, .d _ _ (.str _ _ rfl)⟩
    rw [int_of h1]
    simp [convert, run_underlying hu, run_underlying (tk_str hd), Conv.intToString]
  · rename_i s hd hxv
    refine ResOk.pure fun hc φ G a w hr => ?_
    have h1 := hr.opd x hx
    rw [hxv] at h1
    obtain ⟨b, e1, rfl⟩ := str_of h1
    refine ⟨.string b, hrun a w w _ ?_, .d _ _ (.str _ _ rfl)⟩
    rw [e1]
    simp [convert, run_underlying (tk_str hc), run_underlying (tk_str hd)]
  · rename_i hd _ _
    split
    · rename_i e hsr
      split
      · rename_i c ys hsrc
        refine ResOk.pure ?_
        rintro ⟨hc, htk, hts, hall⟩ φ G a w hr
        replace hall := fun d hd => D.isByte_eq (hall d hd)
        have hxv := hr.opd x hx
        obtain ⟨news, hsa⟩ := src_ok (P := P) hr.mem hxv hsrc hc (fun d hd => by obtain ⟨n, rfl⟩ := hall d hd; rfl)
        have hlen := hsa.len w
        have hfst := hsa.first w (fun _ _ => rfl)
        obtain ⟨r1, r2, r3, r4⟩ := hsa.rows
        -- the cells as numbers
        have hns : ∃ ns : List Int, news = ns.map (Value.int .u8) ∧ ys = ns.map (D.int .u8) := by
          refine ⟨ys.map fun d => (match d with | .int _ n => n | _ => 0), ?_, ?_⟩
          · apply List.ext_getElem?
            intro i
            by_cases hi : i < ys.length
            · obtain ⟨v, hv, hvc⟩ := r4 i ys[i] (by simp [hi])
              obtain ⟨n, hn⟩ := hall ys[i] (List.getElem_mem hi)
              rw [hn] at hv
              cases hv
              have := hvc 0 (.int .u8 n) rfl
              simp only [Nat.mul_one, Nat.add_zero] at this
              rw [this]
              simp [hi, hn]
            · rw [List.getElem?_eq_none (by rw [r1]; omega), List.getElem?_eq_none (by simp; omega)]
          · apply List.ext_getElem?
            intro i
            by_cases hi : i < ys.length
            · obtain ⟨n, hn⟩ := hall ys[i] (List.getElem_mem hi)
              simp [hi, hn]
            · rw [List.getElem?_eq_none (by omega), List.getElem?_eq_none (by simp; omega)]
        obtain ⟨ns, rfl, rfl⟩ := hns
        generalize hev : a.eval x = xv at hlen hfst hxv
        have hv : (∃ ao m cap, xv = .slice ao m cap) ∨ (∃ b, xv = .string b) := by
          cases xv <;> first | exact .inl ⟨_, _, _, rfl⟩ | exact .inr ⟨_, rfl⟩ | (simp [Builtin.lenOf, stuck] at hlen)
        refine ⟨.string ⟨(ns.map fun n => UInt8.ofNat n.toNat).toArray⟩, hrun a w w _ ?_, .d _ _ (.str _ _ ?_)⟩
        · rw [hev]
          rcases hv with ⟨ao, m, cap, rfl⟩ | ⟨b, rfl⟩
          · simp only [Builtin.lenOf, Sem.run_pure, Result.ok.injEq, and_true] at hlen
            subst hlen
            cases ao with
            | none =>
              have hn0 : ns = [] := by
                simp only [Builtin.firstCells, Sem.run_pure, Result.ok.injEq, and_true] at hfst
                have := congrArg Array.size hfst
                simp at this
                exact List.eq_nil_of_length_eq_zero this.symm
              subst hn0
              simp [convert, run_underlying (tk_slice hsr), run_underlying (tk_str hd), run_underlying (tk_int htk), Conv.bytesToString]
              rfl
            | some ad =>
              simp only [Builtin.firstCells, Nat.mul_one] at hfst
              have hb := bytes_loop (P := P) (w := w) (ns.map (Value.int .u8)) ByteArray.empty ns rfl
              simp only [convert, run_underlying (tk_slice hsr), run_underlying (tk_str hd), run_underlying (tk_int htk), Sem.run_bind, Result.andThen_ok, Conv.bytesToString, hfst]
              rw [← Array.forIn_toList]
              simp only [Sem.run_pure]
              refine Eq.trans (congrArg (fun r => Result.andThen r fun a w' => Result.ok (Value.string a) w') hb) ?_
              rfl
          · exfalso
            have hns : ∀ s, (S.opd x).2 = .d (.str s) → False := by assumption
            generalize (S.opd x).2 = y at hsrc hxv hns
            unfold srcRows at hsrc
            split at hsrc
            · cases hxv with | d _ _ h => cases h
            · exact hns _ rfl
            · cases hxv
            · cases hxv
            · split at hsrc
              · rename_i key v' sz' rows hg
                simp only [Option.some.injEq, Prod.mk.injEq] at hsrc
                obtain ⟨rfl, _⟩ := hsrc
                obtain ⟨_, _, L, hL, hver, _⟩ := hr.mem.get hg
                cases hxv with
                | vec _ _ _ _ _ L' hL' _ h _ =>
                  rw [hL] at hL'; cases hL'
                  obtain ⟨_, _, h2, _⟩ := h (by rw [← (of_decide_eq_true hc).1]; exact hver.symm)
                  cases h2
              · cases hsrc
            · cases hsrc
        · simp [byteOf_int, Function.comp_def]
      · trivial
    · trivial
  · rename_i e s hd hxv
    split
    · rename_i hsr htk hg
      intro _ φ G a w hr
      have h1 := hr.opd x hx
      rw [hxv] at h1
      obtain ⟨b, e1, rfl⟩ := str_of h1
      have hbs : b.size = b.data.toList.length := by rw [Array.length_toList]; rfl
      obtain ⟨arr, fr, w', cap, rest, hcap, hrn, harr, hh, hold, hsz, hos, htp, hout⟩ := run_toBytes (P := P) (w := w) (e := e) (b := b)
      have hrows : RowsAt w (Fo G φ S.mem) 1 (bytesD b.data.toList) (b.data.toList.map fun x => Value.int .u8 x.toNat) := by
        refine ⟨by simp [bytesD], ?_, ?_, ?_⟩
        · intro v hv; simp only [List.mem_map] at hv; obtain ⟨y, _, rfl⟩ := hv; rfl
        · intro d hd; simp only [bytesD, List.mem_map] at hd; obtain ⟨y, _, rfl⟩ := hd; rfl
        · intro i d hd
          simp only [bytesD, List.getElem?_map, Option.map_eq_some_iff] at hd
          obtain ⟨y, hy, rfl⟩ := hd
          refine ⟨.int .u8 y.toNat, .int _ _, fun j c hj => ?_⟩
          cases j with
          | zero => simp only [Value.cells] at hj; simp at hj; subst hj; simp only [List.getElem?_map, Nat.mul_one, Nat.add_zero, hy]; rfl
          | succ j => simp [Value.cells] at hj
      have hl := list_new (cap := cap) hrows hh harr (fun x v h => grow_rel hold hsz x v h) (fun h => absurd (fo_bound hr.mem _ h) (Nat.lt_irrefl _)) (by simp [bytesD]; exact hcap)
      refine ⟨_, w', .inl (hrun a w w' _ ?_), .d _ _ hl, hold, hsz, hos, htp, hout⟩
      have hlen : (bytesD b.data.toList).length = b.size := by rw [hbs]; simp [bytesD]
      rw [e1, hlen]
      simp only [convert, run_underlying (tk_str hsr), run_underlying (tk_slice hd), run_underlying (tk_int htk), Sem.run_bind, Result.andThen_ok]
      exact hrn
    · trivial
  · trivial
end Go.Am

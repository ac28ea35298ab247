/-
  The abstract machine, part 5: new variables, make, append, copy.
-/
import Derived.Test.YtlbbjmbfclmmdaaDoorAm4
namespace Go.Am
open Go

theorem run_newRow (P : Program) (w : World) (e : TypeId) (cs : Array Value) : (newRow e cs).run P w = .ok ⟨w.heap.size, 0, none⟩ (w.alloc (.cells cs e)) := rfl

def keyOf (o : Oper) : Nat := 100 + 50 * o.dst.getD 100000

def tzero (P : Program) (t : TypeId) : Option (List AV) :=
  match P.info? t with
  | some i => match i.zero with
    | some z => if z.cells.all cell1 then some (z.cells.toList.map constAV) else none
    | none => none
  | none => none

theorem tzero_rel {P : Program} {t : TypeId} {zs : List AV} (h : tzero P t = some zs) (w : World) : ∃ z, (zeroValue t).run P w = .ok z w ∧ z.cells.size = zs.length ∧ (∀ v ∈ z.cells, cell1 v = true) ∧
    ∀ φ w' F (i : Nat) c v, zs[i]? = some c → z.cells[i]? = some v → AVRel φ w' F c v := by
  unfold tzero at h
  split at h
  · rename_i i hi
    split at h
    · rename_i z hz
      split at h
      · rename_i hall
        simp at h
        subst h
        refine ⟨z, by simp [zeroValue, typeInfo, hi, hz], by simp, ?_, ?_⟩
        · intro v hv; exact Array.all_eq_true'.1 hall v hv
        · intro φ w' F i c v hc hv
          simp only [List.getElem?_map, Array.getElem?_toList, Option.map_eq_some_iff] at hc
          obtain ⟨u, hu, rfl⟩ := hc
          rw [hv] at hu; cases hu
          exact constAV_rel ..
      · cases h
    · cases h
  · cases h

/-- A new box. -/
def boxR (m : Mem) (k : Nat) (c : Bool) (cs : List AV) : Res :=
  match Mem.get m k with
  | some ⟨_, v, _⟩ => .upd c (.ptr k (v + 1) 0) ⟨k, v + 1, .box cs⟩
  | none => .no

theorem box_new {P : Program} {S : St} {o : Oper} {k : Nat} {c : Bool} {cs : List AV}
    (h : c = true → ∀ φ G a w, Rel φ G S a w → ∃ (arr : Array Value) (elem : TypeId), (execOp a.eval o).run P w = .ok (.value (.pointer (some ⟨w.heap.size, 0, none⟩))) (w.alloc (.cells arr elem)) ∧
      arr.size = cs.length ∧ (∀ v ∈ arr, cell1 v = true) ∧ ∀ (i : Nat) c v, cs[i]? = some c → arr[i]? = some v → AVRel φ w (Fo G φ S.mem) c v) : ResOk P S o (boxR S.mem k c cs) := by
  unfold boxR
  split
  · rename_i key v cont hg
    intro hc φ G a w hr
    obtain ⟨arr, elem, hrun, hsz, h1, hrel⟩ := h hc φ G a w hr
    obtain ⟨hm, hk, L, hL, hver, _⟩ := hr.mem.get hg
    simp only at hk hver
    subst hk
    obtain ⟨φ', hm', hk', hφk, hφo⟩ := hr.mem.fresh (e := ⟨key, v, cont⟩) hm hL hver w rfl rfl rfl rfl arr elem 0 0 (.box cs) (fun φ' hle hav hdr hnew =>
      ⟨arr, elem, hnew, hsz, h1, fun i c u hc hu => hav c u (hrel i c u hc hu)⟩)
    exact ⟨_, _, φ', .inl hrun, .ptr key (v + 1) 0 _ _ hφk (Nat.le_refl _) (fun _ => rfl) rfl, hm', hk', hφo⟩
  · trivial

theorem box_ok (P : Program) (S : St) (o : Oper) (t : TypeId) (x : Operand) (ho : o.op = .box t x) (hx : (S.opd x).1 = true) : ResOk P S o (boxR S.mem (keyOf o) (S.opd x).2.solid (S.opd x).2.cells) := by
  refine box_new fun hs φ G a w hr => ?_
  have hv := hr.opd x hx
  obtain ⟨h1, h2⟩ := hv.solid hs
  refine ⟨(a.eval x).cells, t, ?_, h1, h2, hv.cells h2 h1⟩
  simp [execOp, ho, Instr.box, newVar, run_newRow]

theorem alloc_ok (P : Program) (S : St) (o : Oper) (t : TypeId) (ho : o.op = .alloc t) (zs : List AV) (hz : tzero P t = some zs) : ResOk P S o (boxR S.mem (keyOf o) true zs) := by
  refine box_new fun _ φ G a w hr => ?_
  obtain ⟨z, hrun, hsz, h1, hrel⟩ := tzero_rel hz w
  refine ⟨z.cells, t, ?_, hsz, h1, fun i c v hc hv => hrel _ _ _ i c v hc hv⟩
  simp [execOp, ho, Instr.alloc, newVar, run_newRow, hrun]

/- A zero as a datum. -/
def tzeroD (P : Program) (t : TypeId) : Option D :=
  match tzero P t, (tk P t).agg with
  | some zs, true => (toDsN zs).map .agg
  | some [z], false => toD1 z
  | _, _ => none
def tbytes (P : Program) (t : TypeId) : Option Nat := (P.info? t).map (·.bytes)

theorem tzeroD_rel {P : Program} {t : TypeId} {d : D} (h : tzeroD P t = some d) (w : World) : ∃ z, (zeroValue t).run P w = .ok z w ∧ z.cells.size = d.size ∧ (∀ v ∈ z.cells, cell1 v = true) ∧
    ∀ w' F, ∃ v, DRel w' F d v ∧ v.cells = z.cells := by
  unfold tzeroD at h
  split at h
  · rename_i zs hz hagg
    simp only [Option.map_eq_some_iff] at h
    obtain ⟨ds, hds, rfl⟩ := h
    obtain ⟨z, hrun, hsz, h1, hrel⟩ := tzero_rel hz w
    have hl : ∀ w' F, zs.length = ds.length ∧ ∀ (i : Nat) d v, ds[i]? = some d → z.cells.toList[i]? = some v → DRel w' F d v := fun w' F =>
      toDsN_rel (φ := fun _ => none) (w := w') (F := F) (vs := z.cells.toList) hds (fun i c v hc hv => hrel _ _ _ i c v hc (by simpa using hv))
    refine ⟨z, hrun, by rw [hsz, (hl w (fun _ => False)).1]; rfl, h1, fun w' F => ⟨.agg z.cells, ?_, rfl⟩⟩
    have := DRel.ofCells (w := w') (F := F) (cs := ds) (vs := z.cells.toList) (by rw [← (hl w' F).1]; simpa using hsz.symm) (fun v hv => h1 v (by simpa using hv)) (hl w' F).2
    simpa using this
  · rename_i z0 hz hagg
    obtain ⟨z, hrun, hsz, h1, hrel⟩ := tzero_rel hz w
    obtain ⟨u, hu⟩ : ∃ u, z.cells = #[u] := by
      have : z.cells.size = 1 := hsz
      exact ⟨z.cells[0], by apply Array.ext <;> simp_all⟩
    have hd : ∀ w' F, DRel w' F d u := fun w' F => toD1_rel (φ := fun _ => none) h (hrel _ _ _ 0 z0 u (by simp) (by simp [hu]))
    have hu1 : cell1 u = true := h1 u (by simp [hu])
    refine ⟨z, hrun, by rw [hu, ← (hd w (fun _ => False)).size, cells_of_cell1 hu1], h1, fun w' F => ⟨u, hd w' F, by rw [cells_of_cell1 hu1, hu]⟩⟩
  · cases h

/-- The cells of rows, one behind the other. -/
def RowsAt (w : World) (F : Nat → Prop) (sz : Nat) (rows : List D) (cs : List Value) : Prop :=
  cs.length = rows.length * sz ∧ (∀ v ∈ cs, cell1 v = true) ∧ (∀ d ∈ rows, d.size = sz) ∧ ∀ (i : Nat) d, rows[i]? = some d → ∃ v, DRel w F d v ∧ ∀ (j : Nat) c, v.cells[j]? = some c → cs[i * sz + j]? = some c

theorem row_lt {sz : Nat} {w : World} {F : Nat → Prop} {d : D} {v : Value} (h : DRel w F d v) (hs : d.size = sz) {j : Nat} {c : Value} (hj : v.cells[j]? = some c) : j < sz := by
  have h1 := h.size
  have := (Array.getElem?_eq_some_iff.1 hj).1
  omega

theorem RowsAt.append {w F sz xs ys cs cs'} (h : RowsAt w F sz xs cs) (h' : RowsAt w F sz ys cs') : RowsAt w F sz (xs ++ ys) (cs ++ cs') := by
  obtain ⟨a1, a2, a3, a4⟩ := h
  obtain ⟨b1, b2, b3, b4⟩ := h'
  refine ⟨by simp [a1, b1, Nat.add_mul], ?_, ?_, ?_⟩
  · intro v hv; rcases List.mem_append.1 hv with hv | hv; exact a2 v hv; exact b2 v hv
  · intro v hv; rcases List.mem_append.1 hv with hv | hv; exact a3 v hv; exact b3 v hv
  · intro i d hd
    by_cases hi : i < xs.length
    · rw [List.getElem?_append_left hi] at hd
      obtain ⟨v, hv, hvc⟩ := a4 i d hd
      refine ⟨v, hv, fun j c hj => ?_⟩
      have hjs := row_lt hv (a3 d (List.mem_of_getElem? hd)) hj
      rw [List.getElem?_append_left]
      · exact hvc j c hj
      · rw [a1]
        have : i * sz + sz ≤ xs.length * sz := by rw [← Nat.succ_mul]; exact Nat.mul_le_mul_right _ hi
        omega
    · rw [List.getElem?_append_right (by omega)] at hd
      obtain ⟨v, hv, hvc⟩ := b4 _ d hd
      refine ⟨v, hv, fun j c hj => ?_⟩
      have e : xs.length * sz + (i - xs.length) * sz = i * sz := by rw [← Nat.add_mul]; congr 1; omega
      rw [List.getElem?_append_right (by rw [a1]; omega), a1, show i * sz + j - xs.length * sz = (i - xs.length) * sz + j by omega]
      exact hvc j c hj
theorem RowsAt.take {w F sz xs cs} (h : RowsAt w F sz xs cs) (n : Nat) (hn : n ≤ xs.length) : RowsAt w F sz (xs.take n) (cs.take (n * sz)) := by
  obtain ⟨a1, a2, a3, a4⟩ := h
  have hle : n * sz ≤ xs.length * sz := Nat.mul_le_mul_right _ hn
  refine ⟨by simp only [List.length_take, a1]; rw [Nat.min_eq_left hn, Nat.min_eq_left hle], fun v hv => a2 v (List.mem_of_mem_take hv), fun v hv => a3 v (List.mem_of_mem_take hv), ?_⟩
  intro i d hd
  rw [List.getElem?_take] at hd
  split at hd
  · rename_i hi
    obtain ⟨v, hv, hvc⟩ := a4 i d hd
    refine ⟨v, hv, fun j c hj => ?_⟩
    have hjs := row_lt hv (a3 d (List.mem_of_getElem? hd)) hj
    have : i * sz + sz ≤ n * sz := by rw [← Nat.succ_mul]; exact Nat.mul_le_mul_right _ hi
    rw [List.getElem?_take, if_pos (by omega)]
    exact hvc j c hj
  · cases hd
theorem RowsAt.drop {w F sz xs cs} (h : RowsAt w F sz xs cs) (n : Nat) : RowsAt w F sz (xs.drop n) (cs.drop (n * sz)) := by
  obtain ⟨a1, a2, a3, a4⟩ := h
  refine ⟨by simp [a1, Nat.sub_mul], fun v hv => a2 v (List.mem_of_mem_drop hv), fun v hv => a3 v (List.mem_of_mem_drop hv), ?_⟩
  intro i d hd
  rw [List.getElem?_drop] at hd
  obtain ⟨v, hv, hvc⟩ := a4 _ d hd
  refine ⟨v, hv, fun j c hj => ?_⟩
  rw [List.getElem?_drop, show n * sz + (i * sz + j) = (n + i) * sz + j by rw [Nat.add_mul]; omega]
  exact hvc j c hj
theorem RowsAt.mono {w F w' F' sz xs cs} (h : RowsAt w F sz xs cs) (hm : ∀ x v, DRel w F x v → DRel w' F' x v) : RowsAt w' F' sz xs cs :=
  ⟨h.1, h.2.1, h.2.2.1, fun i d hd => let ⟨v, hv, hc⟩ := h.2.2.2 i d hd; ⟨v, hm _ _ hv, hc⟩⟩
theorem RowsAt.nil (w F sz) : RowsAt w F sz [] [] := ⟨by simp, by simp, by simp, by simp⟩

/-- An owned row's content is what RowsAt says of its cells behind the first ones. -/
theorem vec_of_rowsB {φ w F} {L : Loc} {rows : List D} {pre cs rest : List Value} {sz : Nat} {elem : TypeId} (hsz : L.sz = sz) (hr : RowsAt w F sz rows cs) (hpre : pre.length = L.base) (h0 : ∀ v ∈ pre, cell1 v = true) (h1 : ∀ v ∈ rest, cell1 v = true)
    (hcap : rows.length ≤ L.cap) (hl : (cs ++ rest).length = L.cap * sz) (hh : 0 < L.cap → w.heap[L.blk]? = some (.cells (pre ++ (cs ++ rest)).toArray elem (0, 0))) : ContRel φ w F L (.vec sz rows) := by
  obtain ⟨a1, a2, a3, a4⟩ := hr
  subst hsz
  refine ⟨rfl, hcap, a3, fun hc => ⟨_, elem, hh hc, by simp only [List.size_toArray, List.length_append] at hl ⊢; omega, ?_, ?_⟩⟩
  · intro v hv
    simp at hv
    rcases hv with hv | hv | hv
    · exact h0 v hv
    · exact a2 v hv
    · exact h1 v hv
  · intro i d hd
    obtain ⟨v, hv, hvc⟩ := a4 i d hd
    refine ⟨v, hv, fun j c hj => ?_⟩
    have hjs := row_lt hv (a3 d (List.mem_of_getElem? hd)) hj
    have hlt : i < rows.length := (List.getElem?_eq_some_iff.1 hd).1
    have : i * L.sz + L.sz ≤ rows.length * L.sz := by rw [← Nat.succ_mul]; exact Nat.mul_le_mul_right _ hlt
    rw [List.getElem?_toArray, List.getElem?_append_right (by omega), hpre, show L.base + i * L.sz + j - L.base = i * L.sz + j by omega, List.getElem?_append_left (by rw [a1]; omega)]
    exact hvc j c hj
theorem vec_of_rows {φ w F} {L : Loc} {rows : List D} {cs rest : List Value} {sz : Nat} {elem : TypeId} (hsz : L.sz = sz) (hb : L.base = 0) (hr : RowsAt w F sz rows cs) (h1 : ∀ v ∈ rest, cell1 v = true)
    (hcap : rows.length ≤ L.cap) (hl : (cs ++ rest).length = L.cap * sz) (hh : 0 < L.cap → w.heap[L.blk]? = some (.cells (cs ++ rest).toArray elem (0, 0))) : ContRel φ w F L (.vec sz rows) :=
  vec_of_rowsB (pre := []) hsz hr (by simp [hb]) (by simp) h1 hcap hl hh
theorem rows_of_vec {φ w F} {L : Loc} {rows : List D} {sz : Nat} (h : ContRel φ w F L (.vec sz rows)) (hc : 0 < L.cap) : ∃ (arr : Array Value) (elem : TypeId), w.heap[L.blk]? = some (.cells arr elem (0, 0)) ∧ arr.size = L.base + L.cap * sz ∧
    (∀ v ∈ arr, cell1 v = true) ∧ RowsAt w F sz rows ((arr.toList.drop L.base).take (rows.length * sz)) := by
  obtain ⟨hs, hcap, hrs, hrow⟩ := h
  obtain ⟨arr, elem, hh, hsz, h1, hrel⟩ := hrow hc
  subst hs
  refine ⟨arr, elem, hh, hsz, h1, ?_, fun v hv => h1 v (by simpa using List.mem_of_mem_drop (List.mem_of_mem_take hv)), hrs, ?_⟩
  · simp only [List.length_take, List.length_drop, Array.length_toList, hsz]; exact Nat.min_eq_left (by rw [Nat.add_sub_cancel_left]; exact Nat.mul_le_mul_right _ hcap)
  · intro i d hd
    obtain ⟨v, hv, hvc⟩ := hrel i d hd
    refine ⟨v, hv, fun j c hj => ?_⟩
    have hjs := row_lt hv (hrs d (List.mem_of_getElem? hd)) hj
    have hlt : i < rows.length := (List.getElem?_eq_some_iff.1 hd).1
    have : i * L.sz + L.sz ≤ rows.length * L.sz := by rw [← Nat.succ_mul]; exact Nat.mul_le_mul_right _ hlt
    rw [List.getElem?_take, if_pos (by omega), List.getElem?_drop, ← Nat.add_assoc]
    simpa using hvc j c hj

/-- The rows of a list, as cells. -/
theorem rows_of_list {w F} {xs : List D} {ao : Option Addr} {m cap sz : Nat} (h : DRel w F (.list xs) (.slice ao m cap)) (hs : ∀ d ∈ xs, d.size = sz) :
    m = xs.length ∧ ∃ cs, RowsAt w F sz xs cs ∧ (xs ≠ [] → ∃ b off, ao = some ⟨b, off, none⟩ ∧ b < w.heap.size ∧ ¬ F b ∧ ∀ (j : Nat) v, cs[j]? = some v → w.cell? ⟨b, off + j, none⟩ = some v) := by
  generalize hx : D.list xs = x at h
  generalize hv : Value.slice ao m cap = v at h
  cases h with
  | nil a c =>
    simp at hx hv
    subst hx
    exact ⟨by simp [hv.2.1], [], RowsAt.nil .., fun h => absurd rfl h⟩
  | list ys b off cap' sz' vs hcap hb hF hsz hvr hc =>
    simp at hx hv
    obtain ⟨rfl, rfl, rfl⟩ := hv
    subst hx
    refine ⟨rfl, ?_⟩
    -- the cells, row by row
    have hsz' : xs ≠ [] → sz' = sz := fun hne => by
      cases xs with
      | nil => exact absurd rfl hne
      | cons d r => rw [← hsz d (by simp), hs d (by simp)]
    by_cases hne : xs = []
    · subst hne; exact ⟨[], RowsAt.nil .., fun h => absurd rfl h⟩
    have hsz' := hsz' hne
    subst hsz'
    have hrow : ∀ (i j : Nat), i < xs.length → j < sz' → ∃ c, (vs i).cells[j]? = some c ∧ w.cell? ⟨b, off + (i * sz' + j), none⟩ = some c ∧ cell1 c = true := by
      intro i j hi hj
      have h1 := hvr i xs[i] (by simp [hi])
      have h2 := h1.size
      rw [hs _ (List.getElem_mem hi)] at h2
      have hj' : j < (vs i).cells.size := by omega
      refine ⟨(vs i).cells[j], by simp [hj'], ?_, h1.cells.2.1 _ (by simp)⟩
      have := hc i j _ hi (show (vs i).cells[j]? = some (vs i).cells[j] by simp [hj'])
      rw [← Nat.add_assoc]; exact this
    refine ⟨(List.range (xs.length * sz')).map (fun j => (w.cell? ⟨b, off + j, none⟩).getD undef), ⟨by simp, ?_, hs, ?_⟩, fun _ => ⟨b, off, rfl, hb, hF, ?_⟩⟩
    · intro v hv
      simp only [List.mem_map, List.mem_range] at hv
      obtain ⟨j, hj, rfl⟩ := hv
      have hpos : 0 < sz' := by rcases Nat.eq_zero_or_pos sz' with h0 | h0; simp [h0] at hj; exact h0
      obtain ⟨c, _, h2, h3⟩ := hrow (j / sz') (j % sz') (Nat.div_lt_of_lt_mul (by rw [Nat.mul_comm]; exact hj)) (Nat.mod_lt _ hpos)
      rw [Nat.mul_comm, Nat.div_add_mod] at h2
      simp [h2, h3]
    · intro i d hd
      have hi : i < xs.length := (List.getElem?_eq_some_iff.1 hd).1
      refine ⟨vs i, hvr i d hd, fun j c hj => ?_⟩
      have hjs := row_lt (hvr i d hd) (hs d (List.mem_of_getElem? hd)) hj
      obtain ⟨c', h1, h2, _⟩ := hrow i j hi hjs
      rw [hj] at h1; cases h1
      have : i * sz' + sz' ≤ xs.length * sz' := by rw [← Nat.succ_mul]; exact Nat.mul_le_mul_right _ hi
      simp [h2, show i * sz' + j < xs.length * sz' by omega]
    · intro j v hv
      simp only [List.getElem?_map, Option.map_eq_some_iff] at hv
      obtain ⟨k, hk, rfl⟩ := hv
      have hj : j < xs.length * sz' := by
        rcases Nat.lt_or_ge j (xs.length * sz') with h | h
        · exact h
        · simp [List.getElem?_eq_none (l := List.range (xs.length * sz')) (by simpa using h)] at hk
      simp [hj] at hk
      subst hk
      have hpos : 0 < sz' := by rcases Nat.eq_zero_or_pos sz' with h0 | h0; simp [h0] at hj; exact h0
      obtain ⟨c, _, h2, _⟩ := hrow (j / sz') (j % sz') (Nat.div_lt_of_lt_mul (by rw [Nat.mul_comm]; exact hj)) (Nat.mod_lt _ hpos)
      rw [Nat.mul_comm, Nat.div_add_mod] at h2
      simp [h2]
  | _ => simp at hx
end Go.Am

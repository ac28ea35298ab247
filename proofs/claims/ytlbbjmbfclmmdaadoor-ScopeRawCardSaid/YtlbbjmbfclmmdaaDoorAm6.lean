/-
  The abstract machine, part 6: append, copy, make.
-/
import Derived.Test.YtlbbjmbfclmmdaaDoorAm5
namespace Go.Am
open Go

/-- What is appended or copied: a list, a piece of a vector, a string. -/
def srcRows (m : Mem) (sz : Nat) : AV → Option (Bool × List D)
  | .d (.list ys) => some (true, ys)
  | .d (.str s) => some (sz = 1, s.map fun b => .int .u8 b.toNat)
  | .lit (.slice none 0 0) => some (true, [])
  | .nn => some (true, [])
  | .vec k ver off len => match Mem.get m k with
    | some ⟨_, v, .vec _ rows⟩ => some (v = ver ∧ off + len ≤ rows.length, (rows.drop off).take len)
    | _ => none
  | _ => none

/-- The source's cells, whatever is read of the world at the place. -/
structure SrcAt (P : Program) (w : World) (F : Nat → Prop) (sz : Nat) (ys : List D) (x : Value) (news : List Value) : Prop where
  len : ∀ w', (Builtin.lenOf x).run P w' = .ok ys.length w'
  firstn : ∀ n, n ≤ ys.length → ∀ w', (∀ b, b < w.heap.size → w'.heap[b]? = w.heap[b]?) → (Builtin.firstCells sz n x).run P w' = .ok (news.take (n * sz)).toArray w'
  rows : RowsAt w F sz ys news

theorem SrcAt.first {P w F sz ys x news} (h : SrcAt P w F sz ys x news) (w' : World) (hw : ∀ b, b < w.heap.size → w'.heap[b]? = w.heap[b]?) : (Builtin.firstCells sz ys.length x).run P w' = .ok news.toArray w' := by
  rw [h.firstn _ (Nat.le_refl _) w' hw, List.take_of_length_le (by rw [h.rows.1]; exact Nat.le_refl _)]

theorem src_ok {P : Program} {S : St} {φ G w} (hm : MemRel φ G S.mem w) {x : AV} {v : Value} (hx : AVRel φ w (Fo G φ S.mem) x v) {c ys} {sz : Nat} (hs : srcRows S.mem sz x = some (c, ys)) (hc : c = true) (hsz : ∀ d ∈ ys, d.size = sz) :
    ∃ news, SrcAt P w (Fo G φ S.mem) sz ys v news := by
  unfold srcRows at hs
  split at hs
  · rename_i ys'
    simp at hs; obtain ⟨_, rfl⟩ := hs
    cases hx with
    | d _ _ h =>
      have hv : ∃ ao m cap, v = .slice ao m cap := by cases h <;> exact ⟨_, _, _, rfl⟩
      obtain ⟨ao, m, cap, rfl⟩ := hv
      obtain ⟨rfl, cs, hr, hne⟩ := rows_of_list h hsz
      refine ⟨cs, ⟨fun w' => by simp [Builtin.lenOf], fun n hn w' hw => ?_, hr⟩⟩
      by_cases hnil : ys' = []
      · subst hnil
        have : cs = [] := List.eq_nil_of_length_eq_zero (by simpa using hr.1)
        subst this
        have hn0 : n = 0 := by simpa using hn
        subst hn0
        cases ao with
        | none => simp [Builtin.firstCells]
        | some a => simp [Builtin.firstCells, loadCells, loadCellsFrom]
      · obtain ⟨b, off, rfl, hb, _, hcell⟩ := hne hnil
        exact run_firstCells_some (P := P) w' sz n ⟨b, off, none⟩ ys'.length cap _ (hr.take n hn |>.1.trans (by simp [hn])) (fun j u hj => by
          rw [add_none, cell?_congr (hw b hb)]
          rw [List.getElem?_take] at hj
          split at hj
          · exact hcell j u hj
          · cases hj)
  · rename_i s
    simp only [Option.some.injEq, Prod.mk.injEq] at hs
    obtain ⟨rfl, rfl⟩ := hs
    simp only [decide_eq_true_eq] at hc
    subst hc
    cases hx with
    | d _ _ h =>
      cases h with
      | str b _ hb =>
        subst hb
        have hsize : b.size = b.data.toList.length := by rw [Array.length_toList]; rfl
        refine ⟨b.data.toList.map fun x => Value.int .u8 x.toNat, ⟨fun w' => by simp only [Builtin.lenOf, List.length_map, ← hsize]; rfl, fun n hn w' _ => ?_, ?_, ?_, ?_, ?_⟩⟩
        · simp only [Builtin.firstCells, Sem.run_pure]
          congr 1
          apply Array.ext'
          simp
        · simp
        · intro v hv; simp only [List.mem_map] at hv; obtain ⟨y, _, rfl⟩ := hv; rfl
        · exact hsz
        · intro i d hd
          simp only [List.getElem?_map, Option.map_eq_some_iff] at hd
          obtain ⟨y, hy, rfl⟩ := hd
          refine ⟨.int .u8 y.toNat, .int _ _, fun j c hj => ?_⟩
          cases j with
          | zero => simp only [Value.cells] at hj; simp at hj; subst hj; simp only [List.getElem?_map, Nat.mul_one, Nat.add_zero, hy]; rfl
          | succ j => simp [Value.cells] at hj
  · simp at hs; obtain ⟨_, rfl⟩ := hs
    cases hx with
    | lit => exact ⟨[], ⟨fun w' => by simp [Builtin.lenOf], fun n _ w' _ => by simp [Builtin.firstCells], RowsAt.nil ..⟩⟩
  · simp at hs; obtain ⟨_, rfl⟩ := hs
    cases hx with
    | nn a cap => exact ⟨[], ⟨fun w' => by simp [Builtin.lenOf], fun n hn w' _ => by
        have hn0 : n = 0 := by simpa using hn
        subst hn0
        simp [Builtin.firstCells, loadCells, loadCellsFrom], RowsAt.nil ..⟩⟩
  · rename_i k ver off len
    split at hs
    · rename_i key v' sz' rows hg
      simp only [Option.some.injEq, Prod.mk.injEq] at hs
      obtain ⟨rfl, rfl⟩ := hs
      simp only [decide_eq_true_eq] at hc
      obtain ⟨rfl, hle⟩ := hc
      obtain ⟨hmem, hk, L, hL, hver, hcr⟩ := hm.get hg
      have hlen : ((rows.drop off).take len).length = len := by simp; omega
      cases hx with
      | vec _ _ _ _ _ L' hL' _ h h1 =>
        rw [hL] at hL'; cases hL'
        obtain ⟨ao, cap, rfl, hlc, hpl⟩ := h hver.symm
        clear h h1
        by_cases hl0 : len = 0
        · subst hl0
          refine ⟨[], ⟨fun w' => by simp [Builtin.lenOf], fun n hn w' _ => ?_, by simpa using RowsAt.nil ..⟩⟩
          have hn0 : n = 0 := by simpa using hn
          subst hn0
          cases ao with
          | none => simp [Builtin.firstCells]
          | some a => simp [Builtin.firstCells, loadCells, loadCellsFrom]
        · obtain ⟨rfl, hcapeq⟩ := hpl (by omega)
          obtain ⟨arr, elem, hh, hasz, ha1, hr⟩ := rows_of_vec hcr (by omega)
          have hss : sz' = sz := by
            have hl1 : 0 < ((rows.drop off).take len).length := by omega
            have h2 := hsz (((rows.drop off).take len)[0]'hl1) (List.getElem_mem hl1)
            have h3 := hr.2.2.1 (((rows.drop off).take len)[0]'hl1) (List.mem_of_mem_drop (List.mem_of_mem_take (List.getElem_mem hl1)))
            rw [← h2, ← h3]
          subst hss
          have hLs : L.sz = sz' := hcr.1
          have hr2 := (hr.drop off).take len (by simp; omega)
          refine ⟨_, ⟨fun w' => by simp [Builtin.lenOf, hlen], fun n hn w' hw => ?_, hr2⟩⟩
          have hb : L.blk < w.heap.size := (Array.getElem?_eq_some_iff.1 hh).1
          exact run_firstCells_some (P := P) w' sz' n ⟨L.blk, L.base + off * L.sz, none⟩ len cap _ ((hr2.take n hn).1.trans (by rw [List.length_take, Nat.min_eq_left hn])) (fun j u hj => by
            rw [add_none, cell?_congr (hw L.blk hb), cell?_row hh, hLs]
            rw [List.getElem?_take] at hj
            split at hj
            · rw [List.getElem?_take] at hj
              split at hj
              · rw [List.getElem?_drop, List.getElem?_take] at hj
                split at hj
                · rw [List.getElem?_drop] at hj
                  rw [Nat.add_assoc]
                  simpa using hj
                · cases hj
              · cases hj
            · cases hj)
    · cases hs
  · cases hs
end Go.Am

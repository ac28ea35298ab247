/-
  The abstract machine, part 8: make, copy, literals of slices.
-/
import Derived.Test.YtlbbjmbfclmmdaaDoorAm7
namespace Go.Am
open Go

/- make([]T, n) with the capacity n. -/
def makeR (P : Program) (m : Mem) (k0 : Nat) (t : TypeId) (l c : AV) : Res :=
  match tk P t with
  | .slice e => match tsz P e, tbytes P e, tzeroD P e, l, c, Mem.get m k0 with
    | some sz, some by_, some zd, .d (.int .i64 n), .d (.int .i64 n'), some ⟨_, v, _⟩ =>
      .upd (n = n' ∧ 0 ≤ n ∧ n * by_ ≤ 140737488355328 ∧ n ≤ 4611686018427387904 ∧ zd.size = sz) (.vec k0 (v + 1) 0 n.toNat) ⟨k0, v + 1, .vec sz (List.replicate n.toNat zd)⟩
    | _, _, _, _, _, _ => .no
  | _ => .no

theorem wrap_small {n : Int} (h0 : 0 ≤ n) (h : n ≤ 4611686018427387904) : IntKind.i64.wrap n = n := IntWalk.i64_in _ (by omega)

theorem make_cells (z : Array Value) (n sz : Nat) (hz : z.size = sz) (d : D) (hs : d.size = sz) (h1 : ∀ v ∈ z, cell1 v = true) (w : World) (F : Nat → Prop) (hd : ∃ v, DRel w F d v ∧ v.cells = z) :
    RowsAt w F sz (List.replicate n d) ((Array.range (n * sz)).map (z[· % z.size]!)).toList := by
  obtain ⟨v, hv, hvz⟩ := hd
  refine ⟨by simp, ?_, ?_, ?_⟩
  · intro x hx
    simp only [Array.toList_map, List.mem_map] at hx
    obtain ⟨i, hi, rfl⟩ := hx
    have hi : i < n * sz := by simpa using hi
    have hpos : 0 < z.size := by
      rw [hz]; rcases Nat.eq_zero_or_pos sz with h0 | h0
      · simp [h0] at hi
      · exact h0
    rw [getElem!_pos z _ (Nat.mod_lt _ hpos)]
    exact h1 _ (by simp)
  · intro x hx; rw [List.eq_of_mem_replicate hx, hs]
  · intro i x hx
    have hi : i < n := by have := (List.getElem?_eq_some_iff.1 hx).1; simpa using this
    have hxd : x = d := by rw [List.getElem?_replicate] at hx; split at hx <;> simp_all
    subst hxd
    refine ⟨v, hv, fun j c hj => ?_⟩
    have hjs := row_lt hv hs hj
    have hlt : i * sz + j < n * sz := by
      have : i * sz + sz ≤ n * sz := by rw [← Nat.succ_mul]; exact Nat.mul_le_mul_right _ hi
      omega
    rw [hvz] at hj
    have hm : (i * sz + j) % sz = j := by rw [Nat.mul_comm, Nat.mul_add_mod]; exact Nat.mod_eq_of_lt hjs
    simp only [Array.toList_map, List.getElem?_map, Array.toList_range, List.getElem?_range hlt, Option.map_some, hz, hm]
    rw [getElem!_pos z j (by omega)]
    rw [← hj]; simp [show j < z.size by omega]

theorem run_makeSlice {P : Program} {w : World} {t e : TypeId} {i : TypeInfo} {z : Value} {n : Int} (ht : P.underlying t = some (.slice e)) (hi : P.info? e = some i) (hz : i.zero = some z) 
    (h0 : 0 ≤ n) (hb : n * i.bytes ≤ 140737488355328) (hn : n ≤ 4611686018427387904) :
    (Instr.makeSlice t (.int .i64 n) (.int .i64 n)).run P w = .ok (.slice (some ⟨w.heap.size, 0, none⟩) n.toNat n.toNat) (w.alloc (.cells ((Array.range (n.toNat * i.size)).map (z.cells[· % z.cells.size]!)) e)) := by
  have hw := wrap_small h0 hn
  have h1 : ¬ n < 0 := by omega
  have h2 : ¬ ((i.bytes : Int) * n > 281474976710656) := by rw [Int.mul_comm]; omega
  have h3 : ¬ (n.toNat * i.bytes > roomBytes) := by
    unfold roomBytes
    have : ((n.toNat * i.bytes : Nat) : Int) = n * i.bytes := by rw [Int.natCast_mul, Int.toNat_of_nonneg h0]
    omega
  by_cases hz0 : n.toNat * i.size = 0
  · have hz0' : n.toNat = 0 ∨ i.size = 0 := Nat.mul_eq_zero.1 hz0
    simp [Instr.makeSlice, run_underlying ht, asInt, asIntOf, typeInfo, sizeOf, hi, hw, h1, h2, askRoom, hz0, run_newRow, show Array.range 0 = #[] from rfl]
  · have hz0' : ¬ (n.toNat = 0 ∨ i.size = 0) := fun h => hz0 (Nat.mul_eq_zero.2 h)
    simp [Instr.makeSlice, run_underlying ht, asInt, asIntOf, typeInfo, sizeOf, zeroValue, hi, hz, hw, h1, h2, askRoom, run_newRow]
    exact fun h => absurd h hz0

theorem make_ok (P : Program) (S : St) (o : Oper) (t : TypeId) (l c : Operand) (ho : o.op = .makeSlice t l c) (hl : (S.opd l).1 = true) (hc : (S.opd c).1 = true) : ResOk P S o (makeR P S.mem (keyOf o) t (S.opd l).2 (S.opd c).2) := by
  unfold makeR
  split
  · rename_i e hte
    have ht := tk_slice hte
    split
    · rename_i sz by_ zd n n' key v cont h1 h2 h3 hlv hcv hg
      refine ResOk.updI ?_
      rintro ⟨rfl, h0, hb, hn, hzs0⟩ φ G a w hr
      obtain ⟨i, z, hi, rfl, rfl, hz, hzsz, hz1, hzd⟩ := info_of h1 h2 h3
      obtain ⟨hm, hk, L, hL, hver, hcr⟩ := hr.mem.get hg
      simp only at hk hver
      subst hk
      have hev := hr.opd l hl
      have hev2 := hr.opd c hc
      rw [hlv] at hev
      rw [hcv] at hev2
      have e1 : a.eval l = .int .i64 n := by
        generalize a.eval l = x at hev
        cases hev with | d _ _ h => cases h; rfl
      have e2 : a.eval c = .int .i64 n := by
        generalize a.eval c = x at hev2
        cases hev2 with | d _ _ h => cases h; rfl
      have hrn := run_makeSlice (P := P) (w := w) ht hi hz h0 hb hn
      obtain ⟨φ', hm', hk', hφk, hφo⟩ := hr.mem.fresh (e := ⟨keyOf o, v, cont⟩) hm hL hver w rfl rfl rfl rfl
        ((Array.range (n.toNat * i.size)).map (z.cells[· % z.cells.size]!)) e i.size n.toNat (.vec i.size (List.replicate n.toNat zd)) (fun φ' hle hav hdr hnew => by
          refine vec_of_rows (cs := ((Array.range (n.toNat * i.size)).map (z.cells[· % z.cells.size]!)).toList) (rest := []) (elem := e) rfl rfl (make_cells z.cells n.toNat i.size (by rw [hzsz, hzs0]) zd hzs0 hz1 _ _ (hzd _ _)) (by simp) (by simp) (by simp) (fun _ => ?_)
          rw [hnew, List.append_nil, Array.toArray_toList])
      refine ⟨.slice (some ⟨w.heap.size, 0, none⟩) n.toNat n.toNat, _, φ', .inl ?_, ?_, hm', hk', hφo⟩
      · simp [execOp, ho, e1, e2, hrn]
      · exact .vec _ (v + 1) 0 _ _ _ hφk (Nat.le_refl _) (fun _ => ⟨_, _, rfl, Nat.le_refl _, fun _ => ⟨by simp, by simp⟩⟩) rfl
    · trivial
  · trivial

/- copy -/
def copyR (P : Program) (m : Mem) (t : TypeId) (s x : AV) : Res :=
  match tk P t with
  | .slice e => match tsz P e with
    | some sz => match srcRows m sz x with
      | some (c, ys) => match s with
        | .vec k ver off len => match Mem.get m k with
          | some ⟨_, v, .vec sz' rows⟩ => .upd (c ∧ v = ver ∧ off + len ≤ rows.length ∧ sz' = sz ∧ (∀ d ∈ ys, d.size = sz))
              (.d (.int .i64 (min ys.length len : Nat))) ⟨k, ver, .vec sz (putCells rows off (ys.take len))⟩
          | _ => .no
        | _ => .no
      | none => .no
    | none => .no
  | _ => .no

theorem putCells_set_rows {w F sz} {rows ys : List D} {cs news : List Value} {off : Nat} (h : RowsAt w F sz rows cs) (h' : RowsAt w F sz ys news) (hle : off + ys.length ≤ rows.length) :
    RowsAt w F sz (putCells rows off ys) (putCells cs (off * sz) news) := by
  have hle' : off * sz + news.length ≤ cs.length := by rw [h.1, h'.1, ← Nat.add_mul]; exact Nat.mul_le_mul_right _ hle
  rw [putCells_eq _ _ _ hle, putCells_eq _ _ _ hle']
  have := ((h.take off (by omega)).append h').append (h.drop (off + ys.length))
  rw [Nat.add_mul, ← h'.1] at this
  exact this

theorem putCells_part {α : Type} {cs news : List α} {o n : Nat} (h : o + news.length ≤ n) (hn : n ≤ cs.length) : putCells (cs.take n) o news ++ cs.drop n = putCells cs o news := by
  rw [putCells_eq _ _ _ (by simp; omega), putCells_eq _ _ _ (by omega), List.take_take, Nat.min_eq_left (by omega), List.append_assoc (List.take _ _ ++ _)]
  congr 1
  rw [List.drop_take]
  have e2 : cs.drop n = (cs.drop (o + news.length)).drop (n - (o + news.length)) := by rw [List.drop_drop]; congr 1; omega
  rw [e2, List.take_append_drop]

theorem run_copy {P : Program} {w w' : World} {t u ty e : TypeId} {sz : Nat} (ht : P.underlying t = some (.slice e)) (h1 : tsz P e = some sz) {ao : Option Addr} {len cap : Nat} {x : Value} {m : Nat} {news : List Value}
    (hlen : (Builtin.lenOf x).run P w = .ok m w) (hfi : (Builtin.firstCells sz (min m len) x).run P w = .ok news.toArray w)
    (hst : (match ao with | some a => storeCells a news | none => pure ()).run P w = .ok () w') :
    (Builtin.copy_ #[t, u] ty #[.slice ao len cap, x]).run P w = .ok (.int .i64 (min m len : Nat)) w' := by
  have hm : Nat.min m len = min m len := rfl
  cases ao with
  | none =>
    simp only [Sem.run_pure, Result.ok.injEq, true_and] at hst
    subst hst
    simp [Builtin.copy_, run_underlying ht, hlen, hm, run_sizeOf h1, hfi, goInt]
  | some a =>
    simp only at hst
    simp [Builtin.copy_, run_underlying ht, hlen, hm, run_sizeOf h1, hfi, hst, goInt]

theorem copy_ok (P : Program) (S : St) (o : Oper) (s x : Operand) (t u : TypeId) (ho : o.op = .call { callee := .builtin .copy, args := #[s, x], argTypes := #[t, u] })
    (hs : (S.opd s).1 = true) (hx : (S.opd x).1 = true) : ResOk P S o (copyR P S.mem t (S.opd s).2 (S.opd x).2) := by
  unfold copyR
  split
  · rename_i e hte
    have ht := tk_slice hte
    split
    · rename_i sz h1
      split
      · rename_i c ys hsrc
        split
        · rename_i k ver off len hsv
          split
          · rename_i key v sz' rows hg
            refine ResOk.updI ?_
            rintro ⟨hc, rfl, hle, rfl, hys⟩ φ G a w hr
            obtain ⟨hm, hk, L, hL, hver, hcr⟩ := hr.mem.get hg
            simp only at hk
            subst hk
            have hv := hr.opd s hs
            have hxv := hr.opd x hx
            rw [hsv] at hv
            obtain ⟨news, hsa⟩ := src_ok (P := P) hr.mem hxv hsrc hc hys
            generalize hev : a.eval s = sv at hv
            cases hv with
            | vec _ _ _ _ _ L' hL' _ h _ =>
              rw [hL] at hL'; cases hL'
              obtain ⟨ao, cap, rfl, hlc, hpl⟩ := h hver.symm
              clear h
              have hLs : L.sz = sz' := hcr.1
              have hmin : min ys.length len ≤ ys.length := Nat.min_le_left _ _
              have hfi := hsa.firstn (min ys.length len) hmin w (fun _ _ => rfl)
              have htl : (ys.take len).length = min ys.length len := by rw [List.length_take, Nat.min_comm]
              by_cases hl0 : len = 0
              · subst hl0
                obtain ⟨φ', hm', hk', hφk, hφo⟩ := hr.mem.upd (e' := ⟨key, v, .vec sz' (putCells rows off (ys.take 0))⟩) hm hL rfl (L' := L) (Nat.le_refl _) (fun _ => rfl) hver
                  (w' := w) (fun _ _ _ => rfl) (Nat.le_refl _) (fun ho => .inl ⟨ho, rfl⟩) rfl rfl rfl (fun φ' hφ' hle' => by
                    have e : putCells rows off (ys.take 0) = rows := by rw [putCells_eq _ _ _ (by simp; omega)]; simp
                    rw [e]
                    refine hcr.mono hle' (fun _ _ _ => rfl) (Nat.le_refl _) (fun b hb => ?_) (fun _ => rfl)
                    rintro (hG | ⟨y, hy, Ly, hLy, hoy, rfl⟩)
                    · exact .inl hG
                    · right
                      rcases (Mem.mem_set hr.mem.nodup).1 hy with ⟨rfl, _⟩ | ⟨hym, hne⟩
                      · subst hφ'; simp at hLy; subst hLy; exact ⟨_, hm, L, hL, hoy, rfl⟩
                      · subst hφ'; simp at hne; simp [hne] at hLy; exact ⟨y, hym, Ly, hLy, hoy, rfl⟩)
                refine ⟨_, w, φ', .inl ?_, .d _ _ (.int _ _), hm', hk', hφo⟩
                have hn0 : news.take (min ys.length 0 * sz') = [] := by simp
                rw [hn0] at hfi
                have := run_copy (P := P) (ty := o.type) (u := u) (ao := ao) (len := 0) (cap := cap) ht h1 (hsa.len w) hfi (w' := w) (by cases ao <;> simp [storeCells])
                simp [execOp, ho, resolve, invoke, builtin, hev, this]
              · obtain ⟨rfl, hcapeq⟩ := hpl (by omega)
                obtain ⟨arr, elem, hh, hasz, ha1, hrw⟩ := rows_of_vec hcr (by omega)
                have hnr : RowsAt w (Fo G φ S.mem) sz' (ys.take len) (news.take (min ys.length len * sz')) := by
                  have := hsa.rows.take (min ys.length len) hmin
                  have e : ys.take (min ys.length len) = ys.take len := by
                    rcases Nat.le_total ys.length len with h | h
                    · rw [Nat.min_eq_left h, List.take_of_length_le (Nat.le_refl _), List.take_of_length_le h]
                    · rw [Nat.min_eq_right h]
                  rw [e] at this; exact this
                have hpl' : off + (ys.take len).length ≤ rows.length := by rw [htl]; omega
                have hput := putCells_set_rows hrw hnr hpl'
                have hnl := hnr.1
                rw [htl] at hnl
                have hc0 : (off + min ys.length len) * sz' ≤ rows.length * sz' := Nat.mul_le_mul_right _ (by omega)
                have hc1 : rows.length * sz' ≤ L.cap * sz' := Nat.mul_le_mul_right _ hcr.2.1
                have hfit : L.base + off * sz' + (news.take (min ys.length len * sz')).length ≤ arr.toList.length := by
                  rw [Nat.add_mul] at hc0
                  rw [hnl]; simp only [Array.length_toList]; omega
                have hst := run_storeCells_at (P := P) L.blk (L.base + off * sz') elem (news.take (min ys.length len * sz')) 0 arr w hh (by simpa using hfit) (fun x hx => oneCell_of_cell1 (hnr.2.1 x hx))
                simp only [Nat.add_zero] at hst
                rw [← putCells_eq _ _ _ hfit] at hst
                have hsplit : arr.toList.take L.base ++ (putCells ((arr.toList.drop L.base).take (rows.length * sz')) (off * sz') (news.take (min ys.length len * sz')) ++ (arr.toList.drop L.base).drop (rows.length * sz')) = putCells arr.toList (L.base + off * sz') (news.take (min ys.length len * sz')) := by
                  rw [putCells_part (by rw [hnl, ← Nat.add_mul]; exact hc0) (by simp only [List.length_drop, Array.length_toList]; omega)]
                  rw [putCells_eq _ _ _ (by rw [hnl]; rw [Nat.add_mul] at hc0; simp only [List.length_drop, Array.length_toList]; omega), putCells_eq _ _ _ hfit, List.drop_drop, List.take_add]
                  simp only [List.append_assoc, Nat.add_assoc]
                obtain ⟨φ', hm', hk', hφk, hφo⟩ := hr.mem.store (e := ⟨key, v, .vec sz' rows⟩) hm hL hver (by show 0 < L.cap; omega) (putCells arr.toList (L.base + off * sz') (news.take (min ys.length len * sz'))).toArray v (Nat.le_refl _) (.vec sz' (putCells rows off (ys.take len))) (fun φ' hle' hav hdr => by
                  refine vec_of_rowsB (pre := arr.toList.take L.base) (cs := putCells ((arr.toList.drop L.base).take (rows.length * sz')) (off * sz') (news.take (min ys.length len * sz'))) (rest := (arr.toList.drop L.base).drop (rows.length * sz')) (elem := elem) hLs (hput.mono hdr) ?_ ?_ ?_ ?_ ?_ (fun _ => ?_)
                  · simp only [List.length_take, Array.length_toList]; omega
                  · intro z hz; exact ha1 z (by simpa using List.mem_of_mem_take hz)
                  · intro z hz; exact ha1 z (by simpa using List.mem_of_mem_drop (List.mem_of_mem_drop hz))
                  · rw [putCells_length _ _ _ hpl']; exact hcr.2.1
                  · show _ = L.cap * sz'
                    rw [List.length_append, putCells_length _ _ _ (by rw [hnl, ← Nat.add_mul]; simp only [List.length_take, List.length_drop, Array.length_toList]; omega), ← List.length_append, List.take_append_drop]
                    simp only [List.length_drop, Array.length_toList]; omega
                  · rw [hsplit]; exact heap_setRow hh _)
                refine ⟨_, _, φ', .inl ?_, .d _ _ (.int _ _), hm', hk', hφo⟩
                have := run_copy (P := P) (ty := o.type) (u := u) (ao := some ⟨L.blk, L.base + off * L.sz, none⟩) (len := len) (cap := cap) ht h1 (hsa.len w) hfi (by rw [hLs]; exact hst)
                simp [execOp, ho, resolve, invoke, builtin, hev, this]
          · trivial
        · trivial
      · trivial
    · trivial
  · trivial
end Go.Am

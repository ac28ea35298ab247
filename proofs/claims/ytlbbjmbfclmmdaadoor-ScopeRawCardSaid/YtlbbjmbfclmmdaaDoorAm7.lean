/-
  The abstract machine, part 7: append.
-/
import Derived.Test.YtlbbjmbfclmmdaaDoorAm6
namespace Go.Am
open Go

section
variable {P : Program}

/-- The second operand's type is one whose values are appended as they stand. -/
def srcTy (P : Program) (u : TypeId) : Bool :=
  match P.underlying u with
  | some (.slice _) => true
  | some .string => true
  | _ => false
theorem srcTy_run {u : TypeId} (h : srcTy P u = true) : (∃ e, P.underlying u = some (.slice e)) ∨ P.underlying u = some .string := by
  unfold srcTy at h
  split at h
  · rename_i e hd; exact .inl ⟨e, hd⟩
  · rename_i hd; exact .inr hd
  · cases h

theorem run_append_nothing {w : World} {t u ty e : TypeId} {i : TypeInfo} (ht : P.underlying t = some (.slice e)) (hi : P.info? e = some i) (hu : srcTy P u = true)
    {ao : Option Addr} {len cap : Nat} {F x news} (hs : SrcAt P w F i.size [] x news) (hle : len ≤ cap) :
    (Builtin.append_ #[t, u] ty #[.slice ao len cap, x]).run P w = .ok (.slice ao len cap) w := by
  have hn : news = [] := List.eq_nil_of_length_eq_zero (by simpa using hs.rows.1)
  subst hn
  have hl := hs.len w
  have hf := hs.first w (fun _ _ => rfl)
  simp only [List.length_nil] at hl hf
  rcases srcTy_run hu with ⟨e2, hd⟩ | hd <;> cases ao <;>
    simp [Builtin.append_, run_underlying ht, run_underlying hd, sizeOf, typeInfo, hi, hl, hf, hle, storeCells]

theorem run_append_fits {w : World} {t u ty e : TypeId} {i : TypeInfo} (ht : P.underlying t = some (.slice e)) (hi : P.info? e = some i) (hu : srcTy P u = true)
    {g b len cap : Nat} {F ys x news} (hs : SrcAt P w F i.size ys x news) {cur : Array Value} {e' : TypeId} (hg : w.heap[g]? = some (.cells cur e' (0, 0)))
    (hroom : len + ys.length ≤ cap) (hfit : b + len * i.size + news.length ≤ cur.size) :
    (Builtin.append_ #[t, u] ty #[.slice (some ⟨g, b, none⟩) len cap, x]).run P w = .ok (.slice (some ⟨g, b, none⟩) (len + ys.length) cap) (w.setRow g (putCells cur.toList (b + len * i.size) news).toArray) := by
  have hst := run_storeCells_at (P := P) g (b + len * i.size) e' news 0 cur w hg (by simpa using hfit) (fun x hx => oneCell_of_cell1 (hs.rows.2.1 x hx))
  simp only [Nat.add_zero] at hst
  rw [putCells_eq _ _ _ (by simpa using hfit)]
  have hf := hs.first w (fun _ _ => rfl)
  rcases srcTy_run hu with ⟨e2, hd⟩ | hd <;> simp [Builtin.append_, run_underlying ht, run_underlying hd, sizeOf, typeInfo, hi, hs.len, hroom, hf, add_none, hst]

theorem run_append_grows {w : World} {t u ty e : TypeId} {i : TypeInfo} {z : Value} (ht : P.underlying t = some (.slice e)) (hi : P.info? e = some i) (hz : i.zero = some z) (hu : srcTy P u = true)
    {ao : Option Addr} {len cap : Nat} {F ys x news} (hs : SrcAt P w F i.size ys x news) (olds : List Value)
    (hold : ∀ w', w'.heap = w.heap → (Builtin.firstCells i.size len (.slice ao len cap)).run P w' = .ok olds.toArray w')
    (hroom : cap < len + ys.length) (h63 : len + ys.length ≤ 9223372036854775807) (hfit : Builtin.nextslicecap (len + ys.length) cap * i.bytes ≤ 281474976710656) :
    (Builtin.append_ #[t, u] ty #[.slice ao len cap, x]).run P w =
      .ok (.slice (some ⟨w.heap.size, 0, none⟩) (len + ys.length) (grownCap w (len + ys.length) cap e))
        (w.drew.alloc (.cells (olds.toArray ++ news.toArray ++ Builtin.zeroCells z.cells (grownCap w (len + ys.length) cap e - (len + ys.length))) e)) := by
  have hn : ¬ (len + ys.length ≤ cap) := by omega
  have h63' : ¬ (9223372036854775807 < ((len : Int) + (ys.length : Int))) := by omega
  have h48' : ¬ (281474976710656 < Builtin.nextslicecap (len + ys.length) cap * i.bytes) := by omega
  have hf := hs.first w.drew (fun _ _ => rfl)
  have hfo := hold w.drew rfl
  rcases srcTy_run hu with ⟨e2, hd⟩ | hd <;>
    (simp [Builtin.append_, run_underlying ht, run_underlying hd, sizeOf, typeInfo, zeroValue, hi, hz, hs.len, hn, h63', h48', Question.forced, hf, hfo, run_newRow, grownCap]
     congr 2
     apply Array.ext'
     simp [List.append_assoc])
end

/-- append to a vector, or to nothing. -/
def appR (P : Program) (m : Mem) (k0 : Nat) (t : TypeId) (u : TypeId) (s x : AV) : Res :=
  match tk P t with
  | .slice e => match tsz P e, tbytes P e, tzeroD P e with
    | some sz, some by_, some zd => match srcRows m sz x with
      | some (c, ys) => match s with
        | .vec k ver off len => match Mem.get m k with
          | some ⟨_, v, .vec sz' rows⟩ =>   .upd (c ∧ zd.size = sz ∧ v = ver ∧ off + len ≤ rows.length ∧ sz' = sz ∧ (∀ d ∈ ys, d.size = sz) ∧ (len + ys.length) * by_ ≤ 140737488355328 ∧ len + ys.length ≤ 4611686018427387904 ∧ srcTy P u = true)
              (.vec k (ver + 1) 0 (len + ys.length)) ⟨k, ver + 1, .vec sz ((rows.drop off).take len ++ ys)⟩
          | _ => .no
        | .lit (.slice none 0 0) => match Mem.get m k0 with
          | some ⟨_, v, _⟩ => .upd (c ∧ zd.size = sz ∧ (∀ d ∈ ys, d.size = sz) ∧ ys.length * by_ ≤ 140737488355328 ∧ ys.length ≤ 4611686018427387904 ∧ srcTy P u = true)
              (.vec k0 (v + 1) 0 ys.length) ⟨k0, v + 1, .vec sz ys⟩
          | _ => .no
        | _ => .no
      | none => .no
    | _, _, _ => .no
  | _ => .no

theorem tk_slice {P : Program} {t e : TypeId} (h : tk P t = .slice e) : P.underlying t = some (.slice e) := by
  unfold tk at h
  split at h <;> simp_all
theorem info_of {P : Program} {e : TypeId} {sz by_ : Nat} {zd : D} (h1 : tsz P e = some sz) (h2 : tbytes P e = some by_) (h3 : tzeroD P e = some zd) :
    ∃ i z, P.info? e = some i ∧ i.size = sz ∧ i.bytes = by_ ∧ i.zero = some z ∧ z.cells.size = zd.size ∧ (∀ v ∈ z.cells, cell1 v = true) ∧ ∀ w' F, ∃ v, DRel w' F zd v ∧ v.cells = z.cells := by
  unfold tsz at h1
  unfold tbytes at h2
  cases hi : P.info? e with
  | none => simp [hi] at h1
  | some i =>
    simp [hi] at h1 h2
    obtain ⟨z, hrun, h4, h5, h6⟩ := tzeroD_rel h3 default
    cases hz : i.zero with
    | none => simp [zeroValue, typeInfo, hi, hz, unsupported] at hrun
    | some z' =>
      simp [zeroValue, typeInfo, hi, hz] at hrun
      subst hrun
      exact ⟨i, z', rfl, h1, h2, hz, h4, h5, h6⟩

theorem zeroCells_one {z : Array Value} {n : Nat} (h : ∀ v ∈ z, cell1 v = true) : ∀ v ∈ Builtin.zeroCells z n, cell1 v = true := by
  intro v hv
  simp only [Builtin.zeroCells, Array.mem_map, Array.mem_range] at hv
  obtain ⟨i, hi, rfl⟩ := hv
  have hpos : 0 < z.size := by
    rcases Nat.eq_zero_or_pos z.size with h0 | h0
    · simp [h0] at hi
    · exact h0
  have hlt : i % z.size < z.size := Nat.mod_lt _ hpos
  rw [getElem!_pos z _ hlt]
  exact h _ (by simp)

theorem app_ok (P : Program) (S : St) (o : Oper) (s x : Operand) (t u : TypeId) (ho : o.op = .call { callee := .builtin .append, args := #[s, x], argTypes := #[t, u] })
    (hs : (S.opd s).1 = true) (hx : (S.opd x).1 = true) : ResOk P S o (appR P S.mem (keyOf o) t u (S.opd s).2 (S.opd x).2) := by
  have hrun : ∀ (a : Act) (w w' : World) (v : Value), (Builtin.append_ #[t, u] o.type #[a.eval s, a.eval x]).run P w = .ok v w' → (execOp a.eval o).run P w = .ok (.value v) w' := by
    intro a w w' v h
    simp [execOp, ho, resolve, invoke, builtin, h]
  unfold appR
  split
  · rename_i e hte
    have ht := tk_slice hte
    split
    · rename_i sz by_ zd h1 h2 h3
      obtain ⟨i, z, hi, rfl, rfl, hz, hzsz, hz1, hzd⟩ := info_of h1 h2 h3
      split
      · rename_i c ys hsrc
        -- growth into a new block
        have grow : ∀ {φ G} {a : Act} {w : World} (hr : Rel φ G S a w) {news : List Value} (hsa : SrcAt P w (Fo G φ S.mem) i.size ys (a.eval x) news) {key ver : Nat} {cont : Cont} (hm : (⟨key, ver, cont⟩ : Ent) ∈ S.mem) {L : Loc} (hL : φ key = some L) (hver : L.ver = ver)
            (ao : Option Addr) (len cap : Nat) (hev : a.eval s = .slice ao len cap) (olds : List Value) (oldr : List D) (hor : RowsAt w (Fo G φ S.mem) i.size oldr olds) (hol : oldr.length = len)
            (hold : ∀ w', w'.heap = w.heap → (Builtin.firstCells i.size len (.slice ao len cap)).run P w' = .ok olds.toArray w')
            (hroom : cap < len + ys.length) (hb : (len + ys.length) * i.bytes ≤ 140737488355328) (hmax : len + ys.length ≤ 4611686018427387904) (hu : srcTy P u = true) (hzs0 : zd.size = i.size),
            ∃ v w' φ', Ran P o a w v w' ∧ AVRel φ' w' (Fo G φ' (Mem.set S.mem ⟨key, ver + 1, .vec i.size (oldr ++ ys)⟩)) (.vec key (ver + 1) 0 (len + ys.length)) v ∧
              MemRel φ' G (Mem.set S.mem ⟨key, ver + 1, .vec i.size (oldr ++ ys)⟩) w' ∧ Keeps φ S.mem w φ' (Mem.set S.mem ⟨key, ver + 1, .vec i.size (oldr ++ ys)⟩) w' ∧ ∀ k, k ≠ key → φ' k = φ k := by
          intro φ G a w hr news hsa key ver cont hm L hL hver ao len cap hev olds oldr hor hol hold hroom hb hmax hu hzs0
          have hge := grownCap_ge w (len + ys.length) cap e
          have hgr := run_append_grows (P := P) (ty := o.type) ht hi hz hu hsa olds hold hroom (by omega) (growslice_fits hroom hb)
          have hrows : RowsAt w (Fo G φ S.mem) i.size (oldr ++ ys) (olds ++ news) := hor.append hsa.rows
          obtain ⟨φ', hm', hk', hφk, hφo⟩ := hr.mem.fresh (e := ⟨key, ver, cont⟩) hm hL hver w.drew rfl rfl rfl rfl
            (olds.toArray ++ news.toArray ++ Builtin.zeroCells z.cells (grownCap w (len + ys.length) cap e - (len + ys.length))) e i.size (grownCap w (len + ys.length) cap e) (.vec i.size (oldr ++ ys)) (fun φ' hle hav hdr hnew => by
              refine vec_of_rows (cs := olds ++ news) (rest := (Builtin.zeroCells z.cells (grownCap w (len + ys.length) cap e - (len + ys.length))).toList) (elem := e) rfl rfl (hrows.mono hdr) ?_ (by simp; omega) ?_ (fun _ => ?_)
              · intro v hv; exact zeroCells_one hz1 v (by simpa using hv)
              · have hzs : z.cells.size = i.size := by
                  rw [hzsz]; exact hzs0
                rw [List.length_append, hrows.1]
                simp only [Array.length_toList, size_zeroCells, hzs, List.length_append, hol, ← Nat.add_mul]
                congr 1; omega
              · rw [hnew]
                congr 2
                apply Array.ext'
                simp)
          refine ⟨_, _, φ', .inl (hrun a w _ _ (by rw [hev]; exact hgr)), ?_, hm', hk', hφo⟩
          exact .vec key (ver + 1) 0 _ _ _ hφk (Nat.le_refl _) (fun _ => ⟨_, _, rfl, hge, fun _ => ⟨by simp, by simp⟩⟩) rfl
        split
        · rename_i k ver off len hsv
          split
          · rename_i key v sz' rows hg
            refine ResOk.updI ?_
            rintro ⟨hc, hzs0, rfl, hle, rfl, hys, hb, hmax, hu⟩ φ G a w hr
            obtain ⟨hm, hk, L, hL, hver, hcr⟩ := hr.mem.get hg
            simp only at hk
            subst hk
            have hv := hr.opd s hs
            have hxv := hr.opd x hx
            rw [hsv] at hv
            obtain ⟨news, hsa⟩ := src_ok (P := P) hr.mem hxv hsrc hc hys
            generalize hev : a.eval s = sv at hv
            cases hv with
            | vec _ _ _ _ _ L' hL' _ h _ =>
              rw [hL] at hL'; cases hL'
              obtain ⟨ao, cap, rfl, hlc, hpl⟩ := h hver.symm
              clear h
              have hLs : L.sz = i.size := hcr.1
              have htk : ((rows.drop off).take len).length = len := by simp; omega
              by_cases hroom : len + ys.length ≤ cap
              · by_cases hcap : cap = 0
                · -- nothing onto nothing
                  have hy0 : ys = [] := List.eq_nil_of_length_eq_zero (by omega)
                  have hl0 : len = 0 := by omega
                  subst hy0; subst hl0
                  have hrn := run_append_nothing (P := P) (ty := o.type) (ao := ao) ht hi hu hsa hlc
                  obtain ⟨φ', hm', hk', hφk, hφo⟩ := hr.mem.upd (e' := ⟨key, v + 1, .vec i.size ((rows.drop off).take 0 ++ [])⟩) hm hL rfl (L' := { L with ver := v + 1 }) (by simp only at hver; simp; omega) (fun hh => by simp only at hver hh; omega) rfl
                    (w' := w) (fun _ _ _ => rfl) (Nat.le_refl _) (fun ho => .inl ⟨ho, rfl⟩) rfl rfl rfl (fun φ' hφ' hle' => by
                      obtain ⟨g1, g2, g3, g4⟩ := hcr
                      refine ⟨g1, by simp, by simp, fun hc => ?_⟩
                      obtain ⟨arr, elem, f1, f2, f3, f4⟩ := g4 hc
                      exact ⟨arr, elem, f1, f2, f3, by simp⟩)
                  refine ⟨_, w, φ', .inl (hrun a w w _ (by rw [hev]; exact hrn)), ?_, hm', hk', hφo⟩
                  exact .vec key (v + 1) 0 _ _ _ hφk (Nat.le_refl _) (fun _ => ⟨_, _, rfl, by simp, fun h => by omega⟩) rfl
                · obtain ⟨rfl, hcapeq⟩ := hpl (by omega)
                  obtain ⟨arr, elem, hh, hasz, ha1, hrw⟩ := rows_of_vec hcr (by omega)
                  obtain ⟨B, hB⟩ : ∃ B, B = L.base + off * i.size := ⟨_, rfl⟩
                  have hrt := ((hrw.drop off).take len (by simp; omega))
                  have htt : (((arr.toList.drop L.base).take (rows.length * i.size)).drop (off * i.size)).take (len * i.size) = (arr.toList.drop B).take (len * i.size) := by
                    have : off * i.size + len * i.size ≤ rows.length * i.size := by rw [← Nat.add_mul]; exact Nat.mul_le_mul_right _ hle
                    rw [List.drop_take, List.take_take, Nat.min_eq_left (by omega), List.drop_drop, hB]
                  rw [htt] at hrt
                  have hr2 := hrt.append hsa.rows
                  have hnl := hsa.rows.1
                  have hin0 : len * i.size + news.length ≤ (L.cap - off) * i.size := by
                    rw [hnl, ← Nat.add_mul]; exact Nat.mul_le_mul_right _ (by omega)
                  have hcc : off * i.size + (L.cap - off) * i.size = L.cap * i.size := by rw [← Nat.add_mul]; congr 1; omega
                  have hin : B + len * i.size + news.length ≤ arr.size := by omega
                  rw [hLs, ← hB] at hev
                  have hrn := run_append_fits (P := P) (ty := o.type) ht hi hu hsa hh hroom hin
                  obtain ⟨φ', hm', hk', hφk, hφo⟩ := hr.mem.storeL (e := ⟨key, v, .vec i.size rows⟩) hm hL hver (by show 0 < L.cap; omega) (putCells arr.toList (B + len * i.size) news).toArray ⟨v + 1, L.blk, L.sz, L.cap - off, B⟩ (Nat.le_succ _) (fun hh => by simp only at hver hh; omega) rfl (.vec i.size ((rows.drop off).take len ++ ys)) (fun φ' hle' hav hdr => by
                    refine vec_of_rowsB (pre := arr.toList.take B) (cs := (arr.toList.drop B).take (len * i.size) ++ news) (rest := arr.toList.drop (B + len * i.size + news.length)) (elem := elem) hLs (hr2.mono hdr) ?_ ?_ ?_ (by rw [List.length_append, htk]; simp only; omega) ?_ (fun _ => ?_)
                    · simp only [List.length_take, Array.length_toList]; omega
                    · intro z hz; exact ha1 z (by simpa using List.mem_of_mem_take hz)
                    · intro z hz; exact ha1 z (by simpa using List.mem_of_mem_drop hz)
                    · show _ = (L.cap - off) * i.size
                      simp only [List.length_append, List.length_take, List.length_drop, Array.length_toList]; omega
                    · have e := heap_setRow hh (putCells arr.toList (B + len * i.size) news).toArray
                      rw [putCells_eq _ _ _ (by simpa using hin), List.take_add] at e
                      rw [putCells_eq _ _ _ (by simpa using hin), List.take_add]
                      simpa [List.append_assoc] using e)
                  refine ⟨_, _, φ', .inl (hrun a w _ _ (by rw [hev]; exact hrn)), ?_, hm', hk', hφo⟩
                  exact .vec key (v + 1) 0 _ _ _ hφk (Nat.le_refl _) (fun _ => ⟨_, _, rfl, hroom, fun _ => ⟨by simp, by simp only; omega⟩⟩) rfl
              · by_cases hcap : cap = 0
                · subst hcap
                  have hl0 : len = 0 := by omega
                  subst hl0
                  have := grow hr hsa hm hL hver ao 0 0 hev [] [] (RowsAt.nil ..) rfl (fun w' _ => by cases ao <;> simp [Builtin.firstCells, loadCells, loadCellsFrom]) (by omega) hb hmax hu hzs0
                  simpa using this
                · obtain ⟨rfl, hcapeq⟩ := hpl (by omega)
                  obtain ⟨arr, elem, hh, hasz, ha1, hrw⟩ := rows_of_vec hcr (by omega)
                  have hrt := ((hrw.drop off).take len (by simp; omega))
                  exact grow hr hsa hm hL hver _ len cap hev _ ((rows.drop off).take len) hrt htk (fun w' hw' => by
                    refine run_firstCells_some (P := P) w' i.size len _ len cap _ (by rw [hrt.1, htk]) (fun j u hj => ?_)
                    rw [add_none, show w'.cell? ⟨L.blk, L.base + off * L.sz + j, none⟩ = w.cell? ⟨L.blk, L.base + off * L.sz + j, none⟩ by simp [World.cell?, hw'], cell?_row hh, hLs]
                    rw [List.getElem?_take] at hj
                    split at hj
                    · rw [List.getElem?_drop, List.getElem?_take] at hj
                      split at hj
                      · rw [List.getElem?_drop] at hj
                        rw [Nat.add_assoc]
                        simpa using hj
                      · cases hj
                    · cases hj) (by omega) hb hmax hu hzs0
          · trivial
        · rename_i hsv
          split
          · rename_i key v cont hg
            refine ResOk.updI ?_
            rintro ⟨hc, hzs0, hys, hb, hmax, hu⟩ φ G a w hr
            obtain ⟨hm, hk, L, hL, hver, hcr⟩ := hr.mem.get hg
            simp only at hk hver
            subst hk
            have hv := hr.opd s hs
            have hxv := hr.opd x hx
            rw [hsv] at hv
            obtain ⟨news, hsa⟩ := src_ok (P := P) hr.mem hxv hsrc hc hys
            generalize hev : a.eval s = sv at hv
            cases hv
            by_cases hy0 : ys = []
            · subst hy0
              have hrn := run_append_nothing (P := P) (ty := o.type) (ao := none) (len := 0) (cap := 0) ht hi hu hsa (Nat.le_refl _)
              obtain ⟨φ', hm', hk', hφk, hφo⟩ := hr.mem.upd (e' := ⟨keyOf o, v + 1, .vec i.size []⟩) hm hL rfl (L' := ⟨v + 1, 0, i.size, 0, 0⟩) (by simp only; omega) (fun hh => by simp only at hh; omega) rfl
                (w' := w) (fun _ _ _ => rfl) (Nat.le_refl _) (fun ho => absurd ho (by simp [Cont.owns])) rfl rfl rfl (fun φ' hφ' hle' =>
                  ⟨rfl, by simp, by simp, fun hc => by simp at hc⟩)
              refine ⟨_, w, φ', .inl (hrun a w w _ (by rw [hev]; exact hrn)), ?_, hm', hk', hφo⟩
              exact .vec _ (v + 1) 0 _ _ _ hφk (Nat.le_refl _) (fun _ => ⟨_, _, rfl, by simp, fun h => by omega⟩) rfl
            · have hpos : 0 < ys.length := List.length_pos_iff.2 hy0
              have := grow hr hsa hm hL hver none 0 0 hev [] [] (RowsAt.nil ..) rfl (fun w' _ => by simp [Builtin.firstCells]) (by omega) (by simpa using hb) (by simpa using hmax) hu hzs0
              simpa using this
          · trivial
        · trivial
      · trivial
    · trivial
  · trivial
end Go.Am

/-
  Texts of one proof, one behind the other.
-/
import Derived.Test.YtmlboljlgaaebaaGreatDoorP1
import Derived.Laws.StructEq
set_option linter.all false
section
namespace Go.Am
open Go

section
variable {P : Program}

/-- The second operand's type is one whose values are appended as they stand. -/
def srcTy (P : Program) (u : TypeId) : Bool :=
  match P.underlying u with
  | some (.slice _) => true
  | some .string => true
  | _ => false
theorem srcTy_run {u : TypeId} (h : srcTy P u = true) : (∃ e, P.underlying u = some (.slice e)) ∨ P.underlying u = some .string := by
  unfold srcTy at h
  split at h
  · rename_i e hd; exact .inl ⟨e, hd⟩
  · rename_i hd; exact .inr hd
  · cases h

/-- What is appended: rows as they stand, or as many zeros as an integer says. -/
structure ASrc (P : Program) (w : World) (F : Nat → Prop) (u : TypeId) (sz : Nat) (z : Value) (ys : List D) (x : Value) (news : List Value) : Prop where
  rows : RowsAt w F sz ys news
  kind : (srcTy P u = true ∧ SrcAt P w F sz ys x news) ∨ ((∃ k, P.underlying u = some (.int k)) ∧ (∃ kk, x = .int kk ys.length) ∧ ys.length ≤ 4611686018427387904 ∧ z.cells.size = sz ∧ news = (Builtin.zeroCells z.cells ys.length).toList)

theorem wrapNs {n : Nat} (h : n ≤ 4611686018427387904) : IntKind.i64.wrap (n : Int) = (n : Int) := IntWalk.i64_in _ (by omega)
theorem zeroCells_none {z : Array Value} {n : Nat} (h : n * z.size = 0) : Builtin.zeroCells z n = #[] := by
  apply Array.eq_empty_of_size_eq_zero
  rw [size_zeroCells]; exact h

theorem run_append_nothing {w : World} {t u ty e : TypeId} {i : TypeInfo} {z : Value} (ht : P.underlying t = some (.slice e)) (hi : P.info? e = some i) (hz : i.zero = some z)
    {ao : Option Addr} {len cap : Nat} {F x news} (hs : ASrc P w F u i.size z [] x news) (hle : len ≤ cap) :
    (Builtin.append_ #[t, u] ty #[.slice ao len cap, x]).run P w = .ok (.slice ao len cap) w := by
  rcases hs.kind with ⟨hu, hs⟩ | ⟨⟨k, hd⟩, ⟨kk, rfl⟩, _, hzs, rfl⟩
  · have hn : news = [] := List.eq_nil_of_length_eq_zero (by simpa using hs.rows.1)
    subst hn
    have hl := hs.len w
    have hf := hs.first w (fun _ _ => rfl)
    simp only [List.length_nil] at hl hf
    rcases srcTy_run hu with ⟨e2, hd⟩ | hd <;> cases ao <;>
      simp [Builtin.append_, run_underlying ht, run_underlying hd, sizeOf, typeInfo, hi, hl, hf, hle, storeCells]
  · have w0 := wrapNs (n := 0) (by omega)
    simp only [Int.ofNat_zero, Int.natCast_zero] at w0
    cases ao <;> simp [Builtin.append_, run_underlying ht, run_underlying hd, sizeOf, typeInfo, hi, w0, asInt, asIntOf, hle, storeCells]

theorem run_append_fits {w : World} {t u ty e : TypeId} {i : TypeInfo} {z : Value} (ht : P.underlying t = some (.slice e)) (hi : P.info? e = some i) (hz : i.zero = some z)
    {g b len cap : Nat} {F ys x news} (hs : ASrc P w F u i.size z ys x news) {cur : Array Value} {e' : TypeId} (hg : RowAt w g cur e')
    (hroom : len + ys.length ≤ cap) (hfit : b + len * i.size + news.length ≤ cur.size) (hbb : ys.length * i.bytes ≤ 140737488355328) :
    (Builtin.append_ #[t, u] ty #[.slice (some ⟨g, b, none⟩) len cap, x]).run P w = .ok (.slice (some ⟨g, b, none⟩) (len + ys.length) cap) (w.setRow g (putCells cur.toList (b + len * i.size) news).toArray) := by
  obtain ⟨fz, hg, hfz⟩ := hg
  have hst := run_storeCells_atR (P := P) g (b + len * i.size) e' fz news 0 cur w hg hfz (by simpa using hfit) (fun x hx => oneCell_of_cell1 (hs.rows.2.1 x hx))
  simp only [Nat.add_zero] at hst
  rw [putCells_eq _ _ _ (by simpa using hfit)]
  rcases hs.kind with ⟨hu, hs⟩ | ⟨⟨k, hd⟩, ⟨kk, rfl⟩, hsm, hzs, rfl⟩
  · have hf := hs.first w (fun _ _ => rfl)
    rcases srcTy_run hu with ⟨e2, hd⟩ | hd <;> simp [Builtin.append_, run_underlying ht, run_underlying hd, sizeOf, typeInfo, hi, hs.len, hroom, hf, add_none, hst]
  · have wn := wrapNs hsm
    have h1 : ¬ ((ys.length : Int) < 0) := by omega
    have h2 : ¬ (281474976710656 < (ys.length : Int) * (i.bytes : Int)) := by
      have : (ys.length : Int) * (i.bytes : Int) = ((ys.length * i.bytes : Nat) : Int) := by simp
      rw [this]; omega
    by_cases h0 : ys.length * i.size = 0
    · have hz0 := zeroCells_none (z := z.cells) (n := ys.length) (by rw [hzs]; exact h0)
      rw [hz0] at hst ⊢
      simp only [Array.toList_empty] at hst
      simp [Builtin.append_, run_underlying ht, run_underlying hd, sizeOf, typeInfo, hi, wn, asInt, asIntOf, h1, h2, h0, hroom, add_none, hst]
    · simp [Builtin.append_, run_underlying ht, run_underlying hd, sizeOf, typeInfo, zeroValue, hi, hz, wn, asInt, asIntOf, h1, h2, h0, hroom, add_none, hst]

theorem run_append_grows {w : World} {t u ty e : TypeId} {i : TypeInfo} {z : Value} (ht : P.underlying t = some (.slice e)) (hi : P.info? e = some i) (hz : i.zero = some z)
    {ao : Option Addr} {len cap : Nat} {F ys x news} (hs : ASrc P w F u i.size z ys x news) (olds : List Value)
    (hold : ∀ w', w'.heap = w.heap → (Builtin.firstCells i.size len (.slice ao len cap)).run P w' = .ok olds.toArray w')
    (hroom : cap < len + ys.length) (h63 : len + ys.length ≤ 9223372036854775807) (hfit : Builtin.nextslicecap (len + ys.length) cap * i.bytes ≤ 281474976710656) (hbb : ys.length * i.bytes ≤ 140737488355328) :
    (Builtin.append_ #[t, u] ty #[.slice ao len cap, x]).run P w =
      .ok (.slice (some ⟨w.heap.size, 0, none⟩) (len + ys.length) (grownCap w (len + ys.length) cap e))
        (w.drew.alloc (.cells (olds.toArray ++ news.toArray ++ Builtin.zeroCells z.cells (grownCap w (len + ys.length) cap e - (len + ys.length))) e)) := by
  have hn : ¬ (len + ys.length ≤ cap) := by omega
  have h63' : ¬ (9223372036854775807 < ((len : Int) + (ys.length : Int))) := by omega
  have h48' : ¬ (281474976710656 < Builtin.nextslicecap (len + ys.length) cap * i.bytes) := by omega
  have hfo := hold w.drew rfl
  rcases hs.kind with ⟨hu, hs⟩ | ⟨⟨k, hd⟩, ⟨kk, rfl⟩, hsm, hzs, rfl⟩
  · have hf := hs.first w.drew (fun _ _ => rfl)
    rcases srcTy_run hu with ⟨e2, hd⟩ | hd <;>
      (simp [Builtin.append_, run_underlying ht, run_underlying hd, sizeOf, typeInfo, zeroValue, hi, hz, hs.len, hn, h63', h48', Question.forced, hf, hfo, run_newRow, grownCap]
       congr 2
       apply Array.ext'
       simp [List.append_assoc])
  · have wn := wrapNs hsm
    have h1 : ¬ ((ys.length : Int) < 0) := by omega
    have h2 : ¬ (281474976710656 < (ys.length : Int) * (i.bytes : Int)) := by
      have : (ys.length : Int) * (i.bytes : Int) = ((ys.length * i.bytes : Nat) : Int) := by simp
      rw [this]; omega
    by_cases h0 : ys.length * i.size = 0
    · have hz0 := zeroCells_none (z := z.cells) (n := ys.length) (by rw [hzs]; exact h0)
      rw [hz0]
      simp [Builtin.append_, run_underlying ht, run_underlying hd, sizeOf, typeInfo, zeroValue, hi, hz, wn, asInt, asIntOf, h1, h2, h0, hn, h63', h48', Question.forced, hfo, run_newRow, grownCap]
    · simp [Builtin.append_, run_underlying ht, run_underlying hd, sizeOf, typeInfo, zeroValue, hi, hz, wn, asInt, asIntOf, h1, h2, h0, hn, h63', h48', Question.forced, hfo, run_newRow, grownCap]
end

theorem zeroCells_one {z : Array Value} {n : Nat} (h : ∀ v ∈ z, cell1 v = true) : ∀ v ∈ Builtin.zeroCells z n, cell1 v = true := by
  intro v hv
  simp only [Builtin.zeroCells, Array.mem_map, Array.mem_range] at hv
  obtain ⟨i, hi, rfl⟩ := hv
  have hpos : 0 < z.size := by
    rcases Nat.eq_zero_or_pos z.size with h0 | h0
    · simp [h0] at hi
    · exact h0
  have hlt : i % z.size < z.size := Nat.mod_lt _ hpos
  rw [getElem!_pos z _ hlt]
  exact h _ (by simp)

theorem tk_int' {P : Program} {t : TypeId} {k} (h : tk P t = .int k) : P.underlying t = some (.int k) := by
  unfold tk at h
  split at h <;> simp_all
/-- What is appended. -/
def appN (zd : D) : AV → Option (Bool × List D)
  | .d (.int _ n) => some (decide (0 ≤ n) && decide (n ≤ 4611686018427387904), List.replicate n.toNat zd)
  | _ => none
def appS (b : Bool) : Option (Bool × List D) → Option (Bool × List D)
  | some (c, ys) => some (c && b, ys)
  | none => none
def appSrc (P : Program) (m : Mem) (sz : Nat) (zd : D) (u : TypeId) (x : AV) : Option (Bool × List D) :=
  match tk P u with
  | .int _ => appN zd x
  | _ => appS (srcTy P u) (srcRows m sz x)
theorem RowsAt.zeros {w : World} {F : Nat → Prop} {z : Array Value} {sz : Nat} {zd : D} (hz1 : ∀ v ∈ z, cell1 v = true) (hzs : z.size = sz) (hd : zd.size = sz) (hv : ∃ v, DRel w F zd v ∧ v.cells = z) (n : Nat) :
    RowsAt w F sz (List.replicate n zd) (Builtin.zeroCells z n).toList := by
  refine ⟨by simp [size_zeroCells, hzs], fun v hv => zeroCells_one hz1 v (by simpa using hv), fun d hd' => by rw [(List.mem_replicate.1 hd').2]; exact hd, fun i d hi => ?_⟩
  obtain ⟨hi', rfl⟩ := List.getElem?_eq_some_iff.1 hi
  obtain ⟨v, h1, h2⟩ := hv
  refine ⟨v, by simpa using h1, fun j c hj => ?_⟩
  have hj' : j < z.size := by rw [← h2]; exact (Array.getElem?_eq_some_iff.1 hj).1
  simp at hi'
  have hlt : i * sz + j < n * z.size := by
    rw [hzs]
    have : i * sz + sz ≤ n * sz := by rw [← Nat.succ_mul]; exact Nat.mul_le_mul_right _ hi'
    omega
  simp only [Builtin.zeroCells, Array.getElem?_toList, Array.getElem?_map, Array.getElem?_range]
  rw [if_pos hlt]
  simp only [Option.map_some]
  have e : (i * sz + j) % z.size = j := by rw [← hzs, Nat.mul_comm, Nat.mul_add_mod, Nat.mod_eq_of_lt hj']
  rw [e, getElem!_pos z j hj', ← hj, h2]
  simp [hj']
theorem asrc_ok {P : Program} {S : St} {φ G w} (hm : MemRel φ G S.mem w) {u : TypeId} {i : TypeInfo} {z : Value} {zd : D} (hz1 : ∀ v ∈ z.cells, cell1 v = true) (hzs : z.cells.size = i.size) (hzd : zd.size = i.size) (hzv : ∃ v, DRel w (Fo G φ S.mem) zd v ∧ v.cells = z.cells)
    {x : AV} {v : Value} (hx : AVRel φ w (Fo G φ S.mem) x v) {c ys} (hs : appSrc P S.mem i.size zd u x = some (c, ys)) (hc : c = true) (hsz : ∀ d ∈ ys, d.size = i.size) :
    ∃ news, ASrc P w (Fo G φ S.mem) u i.size z ys v news := by
  unfold appSrc at hs
  split at hs
  · rename_i k hk
    unfold appN at hs
    split at hs
    · rename_i kk n
      cases hs
      simp only [Bool.and_eq_true, decide_eq_true_eq] at hc
      cases hx with
      | d _ _ hx =>
        cases hx
        have hn : ((List.replicate n.toNat zd).length : Int) = n := by simp; omega
        refine ⟨_, RowsAt.zeros hz1 hzs hzd hzv n.toNat, .inr ⟨⟨k, tk_int' hk⟩, ⟨kk, by rw [hn]⟩, by simp; omega, hzs, by simp⟩⟩
    · cases hs
  · rename_i hk
    cases hr : srcRows S.mem i.size x with
    | none => rw [hr] at hs; cases hs
    | some y =>
      obtain ⟨c', ys'⟩ := y
      rw [hr] at hs
      cases hs
      simp only [Bool.and_eq_true] at hc
      obtain ⟨news, hn⟩ := src_ok (P := P) hm hx hr hc.1 hsz
      exact ⟨news, hn.rows, .inl ⟨hc.2, hn⟩⟩

/-- append to a vector, or to nothing. -/
def appR (P : Program) (m : Mem) (k0 : Nat) (t : TypeId) (u : TypeId) (s x : AV) : Res :=
  match tk P t with
  | .slice e => match tsz P e, tbytes P e, tzeroD P e with
    | some sz, some by_, some zd => match appSrc P m sz zd u x with
      | some (c, ys) => match s with
        | .vec k ver off len => match Mem.get m k with
          | some ⟨_, v, .vec sz' rows⟩ =>   .upd (c ∧ zd.size = sz ∧ v = ver ∧ off + len ≤ rows.length ∧ sz' = sz ∧ (∀ d ∈ ys, d.size = sz) ∧ (len + ys.length) * by_ ≤ 140737488355328 ∧ len + ys.length ≤ 4611686018427387904)
              (.vec k (ver + 1) 0 (len + ys.length)) ⟨k, ver + 1, .vec sz ((rows.drop off).take len ++ ys)⟩
          | _ => .no
        | .lit (.slice none 0 0) => match Mem.get m k0 with
          | some ⟨_, v, _⟩ => .upd (c ∧ zd.size = sz ∧ (∀ d ∈ ys, d.size = sz) ∧ ys.length * by_ ≤ 140737488355328 ∧ ys.length ≤ 4611686018427387904)
              (.vec k0 (v + 1) 0 ys.length) ⟨k0, v + 1, .vec sz ys⟩
          | _ => .no
        | _ => .no
      | none => .no
    | _, _, _ => .no
  | _ => .no

theorem tk_slice {P : Program} {t e : TypeId} (h : tk P t = .slice e) : P.underlying t = some (.slice e) := by
  unfold tk at h
  split at h <;> simp_all
theorem info_of {P : Program} {e : TypeId} {sz by_ : Nat} {zd : D} (h1 : tsz P e = some sz) (h2 : tbytes P e = some by_) (h3 : tzeroD P e = some zd) :
    ∃ i z, P.info? e = some i ∧ i.size = sz ∧ i.bytes = by_ ∧ i.zero = some z ∧ z.cells.size = zd.size ∧ (∀ v ∈ z.cells, cell1 v = true) ∧ ∀ w' F, ∃ v, DRel w' F zd v ∧ v.cells = z.cells := by
  unfold tsz at h1
  unfold tbytes at h2
  cases hi : P.info? e with
  | none => simp [hi] at h1
  | some i =>
    simp [hi] at h1 h2
    obtain ⟨z, hrun, h4, h5, h6⟩ := tzeroD_rel h3 default
    cases hz : i.zero with
    | none => simp [zeroValue, typeInfo, hi, hz, unsupported] at hrun
    | some z' =>
      simp [zeroValue, typeInfo, hi, hz] at hrun
      subst hrun
      exact ⟨i, z', rfl, h1, h2, hz, h4, h5, h6⟩

theorem app_ok (P : Program) (S : St) (o : Oper) (s x : Operand) (t u : TypeId) (ho : o.op = .call { callee := .builtin .append, args := #[s, x], argTypes := #[t, u] })
    (hs : (S.opd s).1 = true) (hx : (S.opd x).1 = true) : ResOk P S o (appR P S.mem (keyOf o) t u (S.opd s).2 (S.opd x).2) := by
  have hrun : ∀ (a : Act) (w w' : World) (v : Value), (Builtin.append_ #[t, u] o.type #[a.eval s, a.eval x]).run P w = .ok v w' → (execOp a.eval o).run P w = .ok (.value v) w' := by
    intro a w w' v h
    simp [execOp, ho, resolve, invoke, builtin, h]
  unfold appR
  split
  · rename_i e hte
    have ht := tk_slice hte
    split
    · rename_i sz by_ zd h1 h2 h3
      obtain ⟨i, z, hi, rfl, rfl, hz, hzsz, hz1, hzd⟩ := info_of h1 h2 h3
      split
      · rename_i c ys hsrc
        -- growth into a new block
        have grow : ∀ {φ G} {a : Act} {w : World} (hr : Rel φ G S a w) {news : List Value} (hsa : ASrc P w (Fo G φ S.mem) u i.size z ys (a.eval x) news) {key ver : Nat} {cont : Cont} (hm : (⟨key, ver, cont⟩ : Ent) ∈ S.mem) {L : Loc} (hL : φ key = some L) (hver : L.ver = ver)
            (ao : Option Addr) (len cap : Nat) (hev : a.eval s = .slice ao len cap) (olds : List Value) (oldr : List D) (hor : RowsAt w (Fo G φ S.mem) i.size oldr olds) (hol : oldr.length = len)
            (hold : ∀ w', w'.heap = w.heap → (Builtin.firstCells i.size len (.slice ao len cap)).run P w' = .ok olds.toArray w')
            (hroom : cap < len + ys.length) (hb : (len + ys.length) * i.bytes ≤ 140737488355328) (hmax : len + ys.length ≤ 4611686018427387904) (hzs0 : zd.size = i.size),
            ∃ v w' φ', Ran P o a w v w' ∧ AVRel φ' w' (Fo G φ' (Mem.set S.mem ⟨key, ver + 1, .vec i.size (oldr ++ ys)⟩)) (.vec key (ver + 1) 0 (len + ys.length)) v ∧
              MemRel φ' G (Mem.set S.mem ⟨key, ver + 1, .vec i.size (oldr ++ ys)⟩) w' ∧ Keeps φ S.mem w φ' (Mem.set S.mem ⟨key, ver + 1, .vec i.size (oldr ++ ys)⟩) w' ∧ ∀ k, k ≠ key → φ' k = φ k := by
          intro φ G a w hr news hsa key ver cont hm L hL hver ao len cap hev olds oldr hor hol hold hroom hb hmax hzs0
          have hge := grownCap_ge w (len + ys.length) cap e
          have hgr := run_append_grows (P := P) (ty := o.type) ht hi hz hsa olds hold hroom (by omega) (growslice_fits hroom hb) (by have := Nat.mul_le_mul_right i.bytes (Nat.le_add_left ys.length len); omega)
          have hrows : RowsAt w (Fo G φ S.mem) i.size (oldr ++ ys) (olds ++ news) := hor.append hsa.rows
          obtain ⟨φ', hm', hk', hφk, hφo⟩ := hr.mem.fresh (e := ⟨key, ver, cont⟩) hm hL hver w.drew rfl rfl rfl rfl
            (olds.toArray ++ news.toArray ++ Builtin.zeroCells z.cells (grownCap w (len + ys.length) cap e - (len + ys.length))) e i.size (grownCap w (len + ys.length) cap e) (.vec i.size (oldr ++ ys)) (fun φ' hle hav hdr hnew => by
              refine vec_of_rows (cs := olds ++ news) (rest := (Builtin.zeroCells z.cells (grownCap w (len + ys.length) cap e - (len + ys.length))).toList) (elem := e) rfl rfl (hrows.mono hdr) ?_ (by simp; omega) ?_ (fun _ => ?_)
              · intro v hv; exact zeroCells_one hz1 v (by simpa using hv)
              · have hzs : z.cells.size = i.size := by
                  rw [hzsz]; exact hzs0
                rw [List.length_append, hrows.1]
                simp only [Array.length_toList, size_zeroCells, hzs, List.length_append, hol, ← Nat.add_mul]
                congr 1; omega
              · refine RowAt.new ?_
                rw [hnew]
                congr 2
                apply Array.ext'
                simp)
          refine ⟨_, _, φ', .inl (hrun a w _ _ (by rw [hev]; exact hgr)), ?_, hm', hk', hφo⟩
          exact .vec key (ver + 1) 0 _ _ _ hφk (Nat.le_refl _) (fun _ => ⟨_, _, rfl, hge, fun _ => ⟨by simp, by simp⟩⟩) rfl
        split
        · rename_i k ver off len hsv
          split
          · rename_i key v sz' rows hg
            refine ResOk.updI ?_
            rintro ⟨hc, hzs0, rfl, hle, rfl, hys, hb, hmax⟩ φ G a w hr
            obtain ⟨hm, hk, L, hL, hver, hcr⟩ := hr.mem.get hg
            simp only at hk
            subst hk
            have hv := hr.opd s hs
            have hxv := hr.opd x hx
            rw [hsv] at hv
            obtain ⟨news, hsa⟩ := asrc_ok (P := P) hr.mem hz1 (by rw [hzsz]; exact hzs0) hzs0 (hzd _ _) hxv hsrc hc hys
            generalize hev : a.eval s = sv at hv
            cases hv with
            | vec _ _ _ _ _ L' hL' _ h _ =>
              rw [hL] at hL'; cases hL'
              obtain ⟨ao, cap, rfl, hlc, hpl⟩ := h hver.symm
              clear h
              have hLs : L.sz = i.size := hcr.1
              have htk : ((rows.drop off).take len).length = len := by simp; omega
              by_cases hroom : len + ys.length ≤ cap
              · by_cases hcap : cap = 0
                · -- nothing onto nothing
                  have hy0 : ys = [] := List.eq_nil_of_length_eq_zero (by omega)
                  have hl0 : len = 0 := by omega
                  subst hy0; subst hl0
                  have hrn := run_append_nothing (P := P) (ty := o.type) (ao := ao) ht hi hz hsa hlc
                  obtain ⟨φ', hm', hk', hφk, hφo⟩ := hr.mem.upd (e' := ⟨key, v + 1, .vec i.size ((rows.drop off).take 0 ++ [])⟩) hm hL rfl (L' := { L with ver := v + 1 }) (by simp only at hver; simp; omega) (fun hh => by simp only at hver hh; omega) rfl
                    (w' := w) (fun _ _ _ => rfl) (Nat.le_refl _) (fun ho => .inl ⟨ho, rfl⟩) rfl rfl rfl (fun φ' hφ' hle' => by
                      obtain ⟨g1, g2, g3, g4⟩ := hcr
                      refine ⟨g1, by simp, by simp, fun hc => ?_⟩
                      obtain ⟨arr, elem, f1, f2, f3, f4⟩ := g4 hc
                      exact ⟨arr, elem, f1, f2, f3, by simp⟩)
                  refine ⟨_, w, φ', .inl (hrun a w w _ (by rw [hev]; exact hrn)), ?_, hm', hk', hφo⟩
                  exact .vec key (v + 1) 0 _ _ _ hφk (Nat.le_refl _) (fun _ => ⟨_, _, rfl, by simp, fun h => by omega⟩) rfl
                · obtain ⟨rfl, hcapeq⟩ := hpl (by omega)
                  obtain ⟨arr, elem, hh, hasz, ha1, hrw⟩ := rows_of_vec hcr (by omega)
                  obtain ⟨B, hB⟩ : ∃ B, B = L.base + off * i.size := ⟨_, rfl⟩
                  have hrt := ((hrw.drop off).take len (by simp; omega))
                  have htt : (((arr.toList.drop L.base).take (rows.length * i.size)).drop (off * i.size)).take (len * i.size) = (arr.toList.drop B).take (len * i.size) := by
                    have : off * i.size + len * i.size ≤ rows.length * i.size := by rw [← Nat.add_mul]; exact Nat.mul_le_mul_right _ hle
                    rw [List.drop_take, List.take_take, Nat.min_eq_left (by omega), List.drop_drop, hB]
                  rw [htt] at hrt
                  have hr2 := hrt.append hsa.rows
                  have hnl := hsa.rows.1
                  have hin0 : len * i.size + news.length ≤ (L.cap - off) * i.size := by
                    rw [hnl, ← Nat.add_mul]; exact Nat.mul_le_mul_right _ (by omega)
                  have hcc : off * i.size + (L.cap - off) * i.size = L.cap * i.size := by rw [← Nat.add_mul]; congr 1; omega
                  have hin : B + len * i.size + news.length ≤ arr.size := by omega
                  rw [hLs, ← hB] at hev
                  have hrn := run_append_fits (P := P) (ty := o.type) ht hi hz hsa hh hroom hin (by have := Nat.mul_le_mul_right i.bytes (Nat.le_add_left ys.length len); omega)
                  obtain ⟨φ', hm', hk', hφk, hφo⟩ := hr.mem.storeL (e := ⟨key, v, .vec i.size rows⟩) hm hL hver (by show 0 < L.cap; omega) (putCells arr.toList (B + len * i.size) news).toArray ⟨v + 1, L.blk, L.sz, L.cap - off, B⟩ (Nat.le_succ _) (fun hh => by simp only at hver hh; omega) rfl (.vec i.size ((rows.drop off).take len ++ ys)) (fun φ' hle' hav hdr => by
                    refine vec_of_rowsB (pre := arr.toList.take B) (cs := (arr.toList.drop B).take (len * i.size) ++ news) (rest := arr.toList.drop (B + len * i.size + news.length)) (elem := elem) hLs (hr2.mono hdr) ?_ ?_ ?_ (by rw [List.length_append, htk]; simp only; omega) ?_ (fun _ => ?_)
                    · simp only [List.length_take, Array.length_toList]; omega
                    · intro z hz; exact ha1 z (by simpa using List.mem_of_mem_take hz)
                    · intro z hz; exact ha1 z (by simpa using List.mem_of_mem_drop hz)
                    · show _ = (L.cap - off) * i.size
                      simp only [List.length_append, List.length_take, List.length_drop, Array.length_toList]; omega
                    · have e := hh.setRow (putCells arr.toList (B + len * i.size) news).toArray (by show (putCells arr.toList _ _).length = _; rw [putCells_length _ _ _ (by simpa using hin)]; simp)
                      rw [putCells_eq _ _ _ (by simpa using hin), List.take_add] at e
                      rw [putCells_eq _ _ _ (by simpa using hin), List.take_add]
                      simpa [List.append_assoc] using e)
                  refine ⟨_, _, φ', .inl (hrun a w _ _ (by rw [hev]; exact hrn)), ?_, hm', hk', hφo⟩
                  exact .vec key (v + 1) 0 _ _ _ hφk (Nat.le_refl _) (fun _ => ⟨_, _, rfl, hroom, fun _ => ⟨by simp, by simp only; omega⟩⟩) rfl
              · by_cases hcap : cap = 0
                · subst hcap
                  have hl0 : len = 0 := by omega
                  subst hl0
                  have := grow hr hsa hm hL hver ao 0 0 hev [] [] (RowsAt.nil ..) rfl (fun w' _ => by cases ao <;> simp [Builtin.firstCells, loadCells, loadCellsFrom]) (by omega) hb hmax hzs0
                  simpa using this
                · obtain ⟨rfl, hcapeq⟩ := hpl (by omega)
                  obtain ⟨arr, elem, hh, hasz, ha1, hrw⟩ := rows_of_vec hcr (by omega)
                  have hrt := ((hrw.drop off).take len (by simp; omega))
                  exact grow hr hsa hm hL hver _ len cap hev _ ((rows.drop off).take len) hrt htk (fun w' hw' => by
                    refine run_firstCells_some (P := P) w' i.size len _ len cap _ (by rw [hrt.1, htk]) (fun j u hj => ?_)
                    rw [add_none, show w'.cell? ⟨L.blk, L.base + off * L.sz + j, none⟩ = w.cell? ⟨L.blk, L.base + off * L.sz + j, none⟩ by simp [World.cell?, hw'], cell?_rowA hh, hLs]
                    rw [List.getElem?_take] at hj
                    split at hj
                    · rw [List.getElem?_drop, List.getElem?_take] at hj
                      split at hj
                      · rw [List.getElem?_drop] at hj
                        rw [Nat.add_assoc]
                        simpa using hj
                      · cases hj
                    · cases hj) (by omega) hb hmax hzs0
          · trivial
        · rename_i hsv
          split
          · rename_i key v cont hg
            refine ResOk.updI ?_
            rintro ⟨hc, hzs0, hys, hb, hmax⟩ φ G a w hr
            obtain ⟨hm, hk, L, hL, hver, hcr⟩ := hr.mem.get hg
            simp only at hk hver
            subst hk
            have hv := hr.opd s hs
            have hxv := hr.opd x hx
            rw [hsv] at hv
            obtain ⟨news, hsa⟩ := asrc_ok (P := P) hr.mem hz1 (by rw [hzsz]; exact hzs0) hzs0 (hzd _ _) hxv hsrc hc hys
            generalize hev : a.eval s = sv at hv
            cases hv
            by_cases hy0 : ys = []
            · subst hy0
              have hrn := run_append_nothing (P := P) (ty := o.type) (ao := none) (len := 0) (cap := 0) ht hi hz hsa (Nat.le_refl _)
              obtain ⟨φ', hm', hk', hφk, hφo⟩ := hr.mem.upd (e' := ⟨keyOf o, v + 1, .vec i.size []⟩) hm hL rfl (L' := ⟨v + 1, 0, i.size, 0, 0⟩) (by simp only; omega) (fun hh => by simp only at hh; omega) rfl
                (w' := w) (fun _ _ _ => rfl) (Nat.le_refl _) (fun ho => absurd ho (by simp [Cont.owns])) rfl rfl rfl (fun φ' hφ' hle' =>
                  ⟨rfl, by simp, by simp, fun hc => by simp at hc⟩)
              refine ⟨_, w, φ', .inl (hrun a w w _ (by rw [hev]; exact hrn)), ?_, hm', hk', hφo⟩
              exact .vec _ (v + 1) 0 _ _ _ hφk (Nat.le_refl _) (fun _ => ⟨_, _, rfl, by simp, fun h => by omega⟩) rfl
            · have hpos : 0 < ys.length := List.length_pos_iff.2 hy0
              have := grow hr hsa hm hL hver none 0 0 hev [] [] (RowsAt.nil ..) rfl (fun w' _ => by simp [Builtin.firstCells]) (by omega) (by simpa using hb) (by simpa using hmax) hzs0
              simpa using this
          · trivial
        · trivial
      · trivial
    · trivial
  · trivial
end Go.Am
end
section
namespace Go.Am
open Go

/- make([]T, n) with the capacity n. -/
def makeR (P : Program) (m : Mem) (k0 : Nat) (t : TypeId) (l c : AV) : Res :=
  match tk P t with
  | .slice e => match tsz P e, tbytes P e, tzeroD P e, l, c, Mem.get m k0 with
    | some sz, some by_, some zd, .d (.int .i64 n), .d (.int .i64 n'), some ⟨_, v, _⟩ =>
      .upd (n = n' ∧ 0 ≤ n ∧ n * by_ ≤ 140737488355328 ∧ n ≤ 4611686018427387904 ∧ zd.size = sz) (.vec k0 (v + 1) 0 n.toNat) ⟨k0, v + 1, .vec sz (List.replicate n.toNat zd)⟩
    | _, _, _, _, _, _ => .no
  | _ => .no

theorem wrap_small {n : Int} (h0 : 0 ≤ n) (h : n ≤ 4611686018427387904) : IntKind.i64.wrap n = n := IntWalk.i64_in _ (by omega)

theorem make_cells (z : Array Value) (n sz : Nat) (hz : z.size = sz) (d : D) (hs : d.size = sz) (h1 : ∀ v ∈ z, cell1 v = true) (w : World) (F : Nat → Prop) (hd : ∃ v, DRel w F d v ∧ v.cells = z) :
    RowsAt w F sz (List.replicate n d) ((Array.range (n * sz)).map (z[· % z.size]!)).toList := by
  obtain ⟨v, hv, hvz⟩ := hd
  refine ⟨by simp, ?_, ?_, ?_⟩
  · intro x hx
    simp only [Array.toList_map, List.mem_map] at hx
    obtain ⟨i, hi, rfl⟩ := hx
    have hi : i < n * sz := by simpa using hi
    have hpos : 0 < z.size := by
      rw [hz]; rcases Nat.eq_zero_or_pos sz with h0 | h0
      · simp [h0] at hi
      · exact h0
    rw [getElem!_pos z _ (Nat.mod_lt _ hpos)]
    exact h1 _ (by simp)
  · intro x hx; rw [List.eq_of_mem_replicate hx, hs]
  · intro i x hx
    have hi : i < n := by have := (List.getElem?_eq_some_iff.1 hx).1; simpa using this
    have hxd : x = d := by rw [List.getElem?_replicate] at hx; split at hx <;> simp_all
    subst hxd
    refine ⟨v, hv, fun j c hj => ?_⟩
    have hjs := row_lt hv hs hj
    have hlt : i * sz + j < n * sz := by
      have : i * sz + sz ≤ n * sz := by rw [← Nat.succ_mul]; exact Nat.mul_le_mul_right _ hi
      omega
    rw [hvz] at hj
    have hm : (i * sz + j) % sz = j := by rw [Nat.mul_comm, Nat.mul_add_mod]; exact Nat.mod_eq_of_lt hjs
    simp only [Array.toList_map, List.getElem?_map, Array.toList_range, List.getElem?_range hlt, Option.map_some, hz, hm]
    rw [getElem!_pos z j (by omega)]
    rw [← hj]; simp [show j < z.size by omega]

theorem run_makeSlice {P : Program} {w : World} {t e : TypeId} {i : TypeInfo} {z : Value} {n : Int} (ht : P.underlying t = some (.slice e)) (hi : P.info? e = some i) (hz : i.zero = some z) 
    (h0 : 0 ≤ n) (hb : n * i.bytes ≤ 140737488355328) (hn : n ≤ 4611686018427387904) :
    (Instr.makeSlice t (.int .i64 n) (.int .i64 n)).run P w = .ok (.slice (some ⟨w.heap.size, 0, none⟩) n.toNat n.toNat) (w.alloc (.cells ((Array.range (n.toNat * i.size)).map (z.cells[· % z.cells.size]!)) e)) := by
  have hw := wrap_small h0 hn
  have h1 : ¬ n < 0 := by omega
  have h2 : ¬ ((i.bytes : Int) * n > 281474976710656) := by rw [Int.mul_comm]; omega
  have h3 : ¬ (n.toNat * i.bytes > roomBytes) := by
    unfold roomBytes
    have : ((n.toNat * i.bytes : Nat) : Int) = n * i.bytes := by rw [Int.natCast_mul, Int.toNat_of_nonneg h0]
    omega
  by_cases hz0 : n.toNat * i.size = 0
  · have hz0' : n.toNat = 0 ∨ i.size = 0 := Nat.mul_eq_zero.1 hz0
    simp [Instr.makeSlice, run_underlying ht, asInt, asIntOf, typeInfo, sizeOf, hi, hw, h1, h2, askRoom, hz0, run_newRow, show Array.range 0 = #[] from rfl]
  · have hz0' : ¬ (n.toNat = 0 ∨ i.size = 0) := fun h => hz0 (Nat.mul_eq_zero.2 h)
    simp [Instr.makeSlice, run_underlying ht, asInt, asIntOf, typeInfo, sizeOf, zeroValue, hi, hz, hw, h1, h2, askRoom, run_newRow]
    exact fun h => absurd h hz0

theorem make_ok (P : Program) (S : St) (o : Oper) (t : TypeId) (l c : Operand) (ho : o.op = .makeSlice t l c) (hl : (S.opd l).1 = true) (hc : (S.opd c).1 = true) : ResOk P S o (makeR P S.mem (keyOf o) t (S.opd l).2 (S.opd c).2) := by
  unfold makeR
  split
  · rename_i e hte
    have ht := tk_slice hte
    split
    · rename_i sz by_ zd n n' key v cont h1 h2 h3 hlv hcv hg
      refine ResOk.updI ?_
      rintro ⟨rfl, h0, hb, hn, hzs0⟩ φ G a w hr
      obtain ⟨i, z, hi, rfl, rfl, hz, hzsz, hz1, hzd⟩ := info_of h1 h2 h3
      obtain ⟨hm, hk, L, hL, hver, hcr⟩ := hr.mem.get hg
      simp only at hk hver
      subst hk
      have hev := hr.opd l hl
      have hev2 := hr.opd c hc
      rw [hlv] at hev
      rw [hcv] at hev2
      have e1 : a.eval l = .int .i64 n := by
        generalize a.eval l = x at hev
        cases hev with | d _ _ h => cases h; rfl
      have e2 : a.eval c = .int .i64 n := by
        generalize a.eval c = x at hev2
        cases hev2 with | d _ _ h => cases h; rfl
      have hrn := run_makeSlice (P := P) (w := w) ht hi hz h0 hb hn
      obtain ⟨φ', hm', hk', hφk, hφo⟩ := hr.mem.fresh (e := ⟨keyOf o, v, cont⟩) hm hL hver w rfl rfl rfl rfl
        ((Array.range (n.toNat * i.size)).map (z.cells[· % z.cells.size]!)) e i.size n.toNat (.vec i.size (List.replicate n.toNat zd)) (fun φ' hle hav hdr hnew => by
          refine vec_of_rows (cs := ((Array.range (n.toNat * i.size)).map (z.cells[· % z.cells.size]!)).toList) (rest := []) (elem := e) rfl rfl (make_cells z.cells n.toNat i.size (by rw [hzsz, hzs0]) zd hzs0 hz1 _ _ (hzd _ _)) (by simp) (by simp) (by simp) (fun _ => ?_)
          refine RowAt.new ?_
          rw [hnew, List.append_nil, Array.toArray_toList])
      refine ⟨.slice (some ⟨w.heap.size, 0, none⟩) n.toNat n.toNat, _, φ', .inl ?_, ?_, hm', hk', hφo⟩
      · simp [execOp, ho, e1, e2, hrn]
      · exact .vec _ (v + 1) 0 _ _ _ hφk (Nat.le_refl _) (fun _ => ⟨_, _, rfl, Nat.le_refl _, fun _ => ⟨by simp, by simp⟩⟩) rfl
    · trivial
  · trivial

/- copy -/
def copyR (P : Program) (m : Mem) (t : TypeId) (s x : AV) : Res :=
  match tk P t with
  | .slice e => match tsz P e with
    | some sz => match srcRows m sz x with
      | some (c, ys) => match s with
        | .vec k ver off len => match Mem.get m k with
          | some ⟨_, v, .vec sz' rows⟩ => .upd (c ∧ v = ver ∧ off + len ≤ rows.length ∧ sz' = sz ∧ (∀ d ∈ ys, d.size = sz))
              (.d (.int .i64 (min ys.length len : Nat))) ⟨k, ver, .vec sz (putCells rows off (ys.take len))⟩
          | _ => .no
        | _ => .no
      | none => .no
    | none => .no
  | _ => .no

theorem putCells_set_rows {w F sz} {rows ys : List D} {cs news : List Value} {off : Nat} (h : RowsAt w F sz rows cs) (h' : RowsAt w F sz ys news) (hle : off + ys.length ≤ rows.length) :
    RowsAt w F sz (putCells rows off ys) (putCells cs (off * sz) news) := by
  have hle' : off * sz + news.length ≤ cs.length := by rw [h.1, h'.1, ← Nat.add_mul]; exact Nat.mul_le_mul_right _ hle
  rw [putCells_eq _ _ _ hle, putCells_eq _ _ _ hle']
  have := ((h.take off (by omega)).append h').append (h.drop (off + ys.length))
  rw [Nat.add_mul, ← h'.1] at this
  exact this

theorem putCells_part {α : Type} {cs news : List α} {o n : Nat} (h : o + news.length ≤ n) (hn : n ≤ cs.length) : putCells (cs.take n) o news ++ cs.drop n = putCells cs o news := by
  rw [putCells_eq _ _ _ (by simp; omega), putCells_eq _ _ _ (by omega), List.take_take, Nat.min_eq_left (by omega), List.append_assoc (List.take _ _ ++ _)]
  congr 1
  rw [List.drop_take]
  have e2 : cs.drop n = (cs.drop (o + news.length)).drop (n - (o + news.length)) := by rw [List.drop_drop]; congr 1; omega
  rw [e2, List.take_append_drop]

theorem run_copy {P : Program} {w w' : World} {t u ty e : TypeId} {sz : Nat} (ht : P.underlying t = some (.slice e)) (h1 : tsz P e = some sz) {ao : Option Addr} {len cap : Nat} {x : Value} {m : Nat} {news : List Value}
    (hlen : (Builtin.lenOf x).run P w = .ok m w) (hfi : (Builtin.firstCells sz (min m len) x).run P w = .ok news.toArray w)
    (hst : (match ao with | some a => storeCells a news | none => pure ()).run P w = .ok () w') :
    (Builtin.copy_ #[t, u] ty #[.slice ao len cap, x]).run P w = .ok (.int .i64 (min m len : Nat)) w' := by
  have hm : Nat.min m len = min m len := rfl
  cases ao with
  | none =>
    simp only [Sem.run_pure, Result.ok.injEq, true_and] at hst
    subst hst
    simp [Builtin.copy_, run_underlying ht, hlen, hm, run_sizeOf h1, hfi, goInt]
  | some a =>
    simp only at hst
    simp [Builtin.copy_, run_underlying ht, hlen, hm, run_sizeOf h1, hfi, hst, goInt]

theorem copy_ok (P : Program) (S : St) (o : Oper) (s x : Operand) (t u : TypeId) (ho : o.op = .call { callee := .builtin .copy, args := #[s, x], argTypes := #[t, u] })
    (hs : (S.opd s).1 = true) (hx : (S.opd x).1 = true) : ResOk P S o (copyR P S.mem t (S.opd s).2 (S.opd x).2) := by
  unfold copyR
  split
  · rename_i e hte
    have ht := tk_slice hte
    split
    · rename_i sz h1
      split
      · rename_i c ys hsrc
        split
        · rename_i k ver off len hsv
          split
          · rename_i key v sz' rows hg
            refine ResOk.updI ?_
            rintro ⟨hc, rfl, hle, rfl, hys⟩ φ G a w hr
            obtain ⟨hm, hk, L, hL, hver, hcr⟩ := hr.mem.get hg
            simp only at hk
            subst hk
            have hv := hr.opd s hs
            have hxv := hr.opd x hx
            rw [hsv] at hv
            obtain ⟨news, hsa⟩ := src_ok (P := P) hr.mem hxv hsrc hc hys
            generalize hev : a.eval s = sv at hv
            cases hv with
            | vec _ _ _ _ _ L' hL' _ h _ =>
              rw [hL] at hL'; cases hL'
              obtain ⟨ao, cap, rfl, hlc, hpl⟩ := h hver.symm
              clear h
              have hLs : L.sz = sz' := hcr.1
              have hmin : min ys.length len ≤ ys.length := Nat.min_le_left _ _
              have hfi := hsa.firstn (min ys.length len) hmin w (fun _ _ => rfl)
              have htl : (ys.take len).length = min ys.length len := by rw [List.length_take, Nat.min_comm]
              by_cases hl0 : len = 0
              · subst hl0
                obtain ⟨φ', hm', hk', hφk, hφo⟩ := hr.mem.upd (e' := ⟨key, v, .vec sz' (putCells rows off (ys.take 0))⟩) hm hL rfl (L' := L) (Nat.le_refl _) (fun _ => rfl) hver
                  (w' := w) (fun _ _ _ => rfl) (Nat.le_refl _) (fun ho => .inl ⟨ho, rfl⟩) rfl rfl rfl (fun φ' hφ' hle' => by
                    have e : putCells rows off (ys.take 0) = rows := by rw [putCells_eq _ _ _ (by simp; omega)]; simp
                    rw [e]
                    refine hcr.mono hle' (fun _ _ _ => rfl) (Nat.le_refl _) (fun b hb => ?_) (fun _ => rfl)
                    rintro (hG | ⟨y, hy, Ly, hLy, hoy, rfl⟩)
                    · exact .inl hG
                    · right
                      rcases (Mem.mem_set hr.mem.nodup).1 hy with ⟨rfl, _⟩ | ⟨hym, hne⟩
                      · subst hφ'; simp at hLy; subst hLy; exact ⟨_, hm, L, hL, hoy, rfl⟩
                      · subst hφ'; simp at hne; simp [hne] at hLy; exact ⟨y, hym, Ly, hLy, hoy, rfl⟩)
                refine ⟨_, w, φ', .inl ?_, .d _ _ (.int _ _), hm', hk', hφo⟩
                have hn0 : news.take (min ys.length 0 * sz') = [] := by simp
                rw [hn0] at hfi
                have := run_copy (P := P) (ty := o.type) (u := u) (ao := ao) (len := 0) (cap := cap) ht h1 (hsa.len w) hfi (w' := w) (by cases ao <;> simp [storeCells])
                simp [execOp, ho, resolve, invoke, builtin, hev, this]
              · obtain ⟨rfl, hcapeq⟩ := hpl (by omega)
                obtain ⟨arr, elem, hh, hasz, ha1, hrw⟩ := rows_of_vec hcr (by omega)
                have hnr : RowsAt w (Fo G φ S.mem) sz' (ys.take len) (news.take (min ys.length len * sz')) := by
                  have := hsa.rows.take (min ys.length len) hmin
                  have e : ys.take (min ys.length len) = ys.take len := by
                    rcases Nat.le_total ys.length len with h | h
                    · rw [Nat.min_eq_left h, List.take_of_length_le (Nat.le_refl _), List.take_of_length_le h]
                    · rw [Nat.min_eq_right h]
                  rw [e] at this; exact this
                have hpl' : off + (ys.take len).length ≤ rows.length := by rw [htl]; omega
                have hput := putCells_set_rows hrw hnr hpl'
                have hnl := hnr.1
                rw [htl] at hnl
                have hc0 : (off + min ys.length len) * sz' ≤ rows.length * sz' := Nat.mul_le_mul_right _ (by omega)
                have hc1 : rows.length * sz' ≤ L.cap * sz' := Nat.mul_le_mul_right _ hcr.2.1
                have hfit : L.base + off * sz' + (news.take (min ys.length len * sz')).length ≤ arr.toList.length := by
                  rw [Nat.add_mul] at hc0
                  rw [hnl]; simp only [Array.length_toList]; omega
                have ⟨fz, hh0, hfz⟩ := hh
                have hst := run_storeCells_atR (P := P) L.blk (L.base + off * sz') elem fz (news.take (min ys.length len * sz')) 0 arr w hh0 hfz (by simpa using hfit) (fun x hx => oneCell_of_cell1 (hnr.2.1 x hx))
                simp only [Nat.add_zero] at hst
                rw [← putCells_eq _ _ _ hfit] at hst
                have hsplit : arr.toList.take L.base ++ (putCells ((arr.toList.drop L.base).take (rows.length * sz')) (off * sz') (news.take (min ys.length len * sz')) ++ (arr.toList.drop L.base).drop (rows.length * sz')) = putCells arr.toList (L.base + off * sz') (news.take (min ys.length len * sz')) := by
                  rw [putCells_part (by rw [hnl, ← Nat.add_mul]; exact hc0) (by simp only [List.length_drop, Array.length_toList]; omega)]
                  rw [putCells_eq _ _ _ (by rw [hnl]; rw [Nat.add_mul] at hc0; simp only [List.length_drop, Array.length_toList]; omega), putCells_eq _ _ _ hfit, List.drop_drop, List.take_add]
                  simp only [List.append_assoc, Nat.add_assoc]
                obtain ⟨φ', hm', hk', hφk, hφo⟩ := hr.mem.store (e := ⟨key, v, .vec sz' rows⟩) hm hL hver (by show 0 < L.cap; omega) (putCells arr.toList (L.base + off * sz') (news.take (min ys.length len * sz'))).toArray v (Nat.le_refl _) (.vec sz' (putCells rows off (ys.take len))) (fun φ' hle' hav hdr => by
                  refine vec_of_rowsB (pre := arr.toList.take L.base) (cs := putCells ((arr.toList.drop L.base).take (rows.length * sz')) (off * sz') (news.take (min ys.length len * sz'))) (rest := (arr.toList.drop L.base).drop (rows.length * sz')) (elem := elem) hLs (hput.mono hdr) ?_ ?_ ?_ ?_ ?_ (fun _ => ?_)
                  · simp only [List.length_take, Array.length_toList]; omega
                  · intro z hz; exact ha1 z (by simpa using List.mem_of_mem_take hz)
                  · intro z hz; exact ha1 z (by simpa using List.mem_of_mem_drop (List.mem_of_mem_drop hz))
                  · rw [putCells_length _ _ _ hpl']; exact hcr.2.1
                  · show _ = L.cap * sz'
                    rw [List.length_append, putCells_length _ _ _ (by rw [hnl, ← Nat.add_mul]; simp only [List.length_take, List.length_drop, Array.length_toList]; omega), ← List.length_append, List.take_append_drop]
                    simp only [List.length_drop, Array.length_toList]; omega
                  · rw [hsplit]; exact hh.setRow _ (by show (putCells arr.toList _ _).length = _; rw [putCells_length _ _ _ hfit]; simp))
                refine ⟨_, _, φ', .inl ?_, .d _ _ (.int _ _), hm', hk', hφo⟩
                have := run_copy (P := P) (ty := o.type) (u := u) (ao := some ⟨L.blk, L.base + off * L.sz, none⟩) (len := len) (cap := cap) ht h1 (hsa.len w) hfi (by rw [hLs]; exact hst)
                simp [execOp, ho, resolve, invoke, builtin, hev, this]
          · trivial
        · trivial
      · trivial
    · trivial
  · trivial
end Go.Am
end
section
namespace Go.Am
open Go

/- Addresses of parts. -/
theorem run_fieldAt {P : Program} {s : TypeId} {f n b o : Nat} {w : World} (h : foff P s f = some n) : (Instr.fieldAt s (.pointer (some ⟨b, o, none⟩)) f).run P w = .ok (.pointer (some ⟨b, o + n, none⟩)) w := by
  unfold foff at h
  split at h
  · rename_i fs hu
    split at h
    · rename_i fl hf
      split at h
      · rename_i i hi
        split at h
        · cases h
        · rename_i hz
          simp at h
          subst h
          have hs : (sizeOf fl.type).run P w = .ok i.size w := run_sizeOf (by simp [tsz, hi])
          simp [Instr.fieldAt, run_underlying hu, hf, Instr.sureAddr, fieldPlace, hs, hz, add_none]
      · cases h
    · cases h
  · cases h

def fieldRm (P : Program) (m : Mem) (s : TypeId) (f : Nat) (p : AV) : Res :=
  match foff P s f with
  | some n => match p with
    | .ptr k ver off => match Mem.get m k with
      | some ⟨_, v, _⟩ => .val (v = ver) (.ptr k ver (off + n))
      | none => .no
    | .eptr k ver i j => match Mem.get m k with
      | some ⟨_, v, _⟩ => .val (v = ver) (.eptr k ver i (j + n))
      | none => .no
    | .rptr x j => .val True (.rptr x (j + n))
    | _ => .no
  | none => .no

theorem field_ok (P : Program) (S : St) (o : Oper) (s : TypeId) (x : Operand) (f : Nat) (ho : o.op = .fieldAddr s x f) (hx : (S.opd x).1 = true) : ResOk P S o (fieldRm P S.mem s f (S.opd x).2) := by
  unfold fieldRm
  split
  · rename_i n hn
    split
    · rename_i k ver off hp
      split
      · rename_i key v cont hg
        refine ResOk.pure ?_
        rintro rfl φ G a w hr
        have hv := hr.opd x hx
        rw [hp] at hv
        obtain ⟨hm, hk, L, hL, hver, _⟩ := hr.mem.get hg
        simp only at hver
        have e := hv.ptr_eq hL hver
        refine ⟨.pointer (some ⟨L.blk, off + n, none⟩), by simp [execOp, ho, e, run_fieldAt hn], .ptr k v _ _ L hL (by omega) (fun _ => rfl) rfl⟩
      · trivial
    · rename_i k ver i j hp
      split
      · rename_i key v cont hg
        refine ResOk.pure ?_
        rintro rfl φ G a w hr
        have hv := hr.opd x hx
        rw [hp] at hv
        obtain ⟨hm, hk, L, hL, hver, _⟩ := hr.mem.get hg
        simp only at hver
        have e := hv.eptr_eq hL hver
        refine ⟨.pointer (some ⟨L.blk, L.base + i * L.sz + j + n, none⟩), by simp [execOp, ho, e, run_fieldAt hn], .eptr k v _ _ _ L hL (by omega) (fun _ => by rw [Nat.add_assoc]) rfl⟩
      · trivial
    · rename_i d j hp
      refine ResOk.pure ?_
      rintro _ φ G a w hr
      have hv := hr.opd x hx
      rw [hp] at hv
      generalize hav : a.eval x = av at hv
      cases hv with
      | rptr _ _ b off x' hb hF hxr hc =>
        refine ⟨.pointer (some ⟨b, off + (j + n), none⟩), by simp [execOp, ho, hav, run_fieldAt hn, Nat.add_assoc], .rptr d (j + n) b off x' hb hF hxr hc⟩
    · trivial
  · trivial

/- A pointer that is asked not to be nil. -/
def nilCheckR (m : Mem) (p : AV) : Res :=
  match p with
  | .ptr k ver off => match Mem.get m k with
    | some ⟨_, v, _⟩ => .val (v = ver) (.ptr k ver off)
    | none => .no
  | .eptr k ver i j => match Mem.get m k with
    | some ⟨_, v, _⟩ => .val (v = ver) (.eptr k ver i j)
    | none => .no
  | .rptr x j => .val True (.rptr x j)
  | _ => .no
theorem nilCheck_ok (P : Program) (S : St) (o : Oper) (x : Operand) (ho : o.op = .nilCheck x) (hx : (S.opd x).1 = true) : ResOk P S o (nilCheckR S.mem (S.opd x).2) := by
  unfold nilCheckR
  split
  · rename_i k ver off hp
    split
    · rename_i key v cont hg
      refine ResOk.pure ?_
      rintro rfl φ G a w hr
      have hv := hr.opd x hx
      rw [hp] at hv
      obtain ⟨hm, hk, L, hL, hver, _⟩ := hr.mem.get hg
      simp only at hver
      have e := hv.ptr_eq hL hver
      exact ⟨_, by simp only [execOp, ho, e]; rfl, .ptr k v _ _ L hL (by omega) (fun _ => rfl) rfl⟩
    · trivial
  · rename_i k ver i j hp
    split
    · rename_i key v cont hg
      refine ResOk.pure ?_
      rintro rfl φ G a w hr
      have hv := hr.opd x hx
      rw [hp] at hv
      obtain ⟨hm, hk, L, hL, hver, _⟩ := hr.mem.get hg
      simp only at hver
      have e := hv.eptr_eq hL hver
      exact ⟨_, by simp only [execOp, ho, e]; rfl, .eptr k v _ _ _ L hL (by omega) (fun _ => rfl) rfl⟩
    · trivial
  · rename_i d j hp
    refine ResOk.pure ?_
    rintro _ φ G a w hr
    have hv := hr.opd x hx
    rw [hp] at hv
    generalize hav : a.eval x = av at hv
    cases hv with
    | rptr _ _ b off x' hb hF hxr hc =>
      exact ⟨.pointer (some ⟨b, off + j, none⟩), by simp only [execOp, ho, hav]; rfl, .rptr d j b off x' hb hF hxr hc⟩
  · trivial

def D.isInt : D → Option (IntKind × Int)
  | .int k n => some (k, n)
  | _ => none

theorem int_of {φ w F k n v} (h : AVRel φ w F (.d (.int k n)) v) : v = .int k n := by cases h with | d _ _ h => cases h; rfl
theorem bool_of {φ w F b v} (h : AVRel φ w F (.d (.bool b)) v) : v = .bool b := by cases h with | d _ _ h => cases h; rfl
theorem str_of {φ w F s v} (h : AVRel φ w F (.d (.str s)) v) : ∃ b : ByteArray, v = .string b ∧ b.data.toList = s := by cases h with | d _ _ h => cases h with | str b _ h => exact ⟨b, rfl, h⟩

theorem tk_arr {P : Program} {t : TypeId} {n e} (h : tk P t = .arr n e) : P.underlying t = some (.array n e) := by
  unfold tk at h
  split at h <;> simp_all
theorem tk_str {P : Program} {t : TypeId} (h : tk P t = .str) : P.underlying t = some .string := by
  unfold tk at h
  split at h <;> simp_all
theorem tk_bool {P : Program} {t : TypeId} (h : tk P t = .bool) : P.underlying t = some .bool := by
  unfold tk at h
  split at h <;> simp_all
theorem tk_int {P : Program} {t : TypeId} {k} (h : tk P t = .int k) : P.underlying t = some (.int k) := by
  unfold tk at h
  split at h <;> simp_all

/- x[i], its address. -/
def indexR (P : Program) (m : Mem) (t : TypeId) (p i : AV) : Res :=
  match i with
  | .d (.int _ n) => match tk P t with
    | .slice e => match tsz P e with
      | some sz => match p with
        | .d (.list xs) => .val (0 ≤ n ∧ n.toNat < xs.length ∧ (D.at xs n.toNat).size = sz) (.rptr (D.at xs n.toNat) 0)
        | .vec k ver off len => match Mem.get m k with
          | some ⟨_, v, .vec sz' _⟩ => .val (v = ver ∧ 0 ≤ n ∧ n.toNat < len ∧ sz' = sz) (.eptr k ver (off + n.toNat) 0)
          | _ => .no
        | _ => .no
      | none => .no
    | .arr len e => match tsz P e with
      | some sz => match p with
        | .ptr k ver off => match Mem.get m k with
          | some ⟨_, v, _⟩ => .val (v = ver ∧ 0 ≤ n ∧ n.toNat < len) (.ptr k ver (off + n.toNat * sz))
          | none => .no
        | .eptr k ver i j => match Mem.get m k with
          | some ⟨_, v, .vec sz' _⟩ => if sz' = 1 ∧ sz = 1 ∧ j = 0 then .val (v = ver ∧ 0 ≤ n ∧ n.toNat < len) (.eptr k ver (i + n.toNat) 0) else .val (v = ver ∧ 0 ≤ n ∧ n.toNat < len) (.eptr k ver i (j + n.toNat * sz))
          | some ⟨_, v, _⟩ => .val (v = ver ∧ 0 ≤ n ∧ n.toNat < len) (.eptr k ver i (j + n.toNat * sz))
          | none => .no
        | .rptr x j => .val (0 ≤ n ∧ n.toNat < len) (.rptr x (j + n.toNat * sz))
        | _ => .no
      | none => .no
    | _ => .no
  | _ => .no

theorem run_indexSlice {P : Program} {t e : TypeId} {sz b o len cap : Nat} {k : IntKind} {n : Int} {w : World} (ht : P.underlying t = some (.slice e)) (hs : tsz P e = some sz) (h0 : 0 ≤ n) (hl : n.toNat < len) :
    (Instr.indexAt t (.slice (some ⟨b, o, none⟩) len cap) (.int k n)).run P w = .ok (.pointer (some ⟨b, o + n.toNat * sz, none⟩)) w := by
  have hn : n < (len : Int) := by omega
  simp [Instr.indexAt, asIntOf, run_underlying ht, run_sizeOf hs, h0, hn, add_none]
theorem run_indexArr {P : Program} {t e : TypeId} {sz b o len : Nat} {k : IntKind} {n : Int} {w : World} (ht : P.underlying t = some (.array len e)) (hs : tsz P e = some sz) (h0 : 0 ≤ n) (hl : n.toNat < len) :
    (Instr.indexAt t (.pointer (some ⟨b, o, none⟩)) (.int k n)).run P w = .ok (.pointer (some ⟨b, o + n.toNat * sz, none⟩)) w := by
  have hn : n < (len : Int) := by omega
  simp [Instr.indexAt, Instr.sureAddr, asIntOf, run_underlying ht, run_sizeOf hs, h0, hn, add_none]

theorem list_at {w F xs b off cap len} (h : DRel w F (.list xs) (.slice (some ⟨b, off, none⟩) len cap)) {i sz : Nat} (hi : i < xs.length) (hs : (D.at xs i).size = sz) :
    len = xs.length ∧ b < w.heap.size ∧ ¬ F b ∧ ∃ v, DRel w F (D.at xs i) v ∧ ∀ (j : Nat) c, v.cells[j]? = some c → w.cell? ⟨b, off + i * sz + j, none⟩ = some c := by
  generalize hx : D.list xs = x at h
  generalize hv : Value.slice (some ⟨b, off, none⟩) len cap = v at h
  cases h with
  | nil a c => simp at hx; subst hx; simp at hi
  | list ys b' off' cap' sz' vs hcap hb hF hsz hvr hc =>
    simp at hx hv
    obtain ⟨⟨rfl, rfl⟩, rfl, rfl⟩ := hv
    subst hx
    have : sz' = sz := by rw [← hs, hsz _ (List.mem_of_getElem? (getD_at hi))]
    subst this
    exact ⟨rfl, hb, hF, vs i, hvr i _ (getD_at hi), fun j c hj => hc i j c hi hj⟩
  | _ => simp at hx

theorem list_addr {w F xs v} (h : DRel w F (.list xs) v) (hne : xs ≠ []) : ∃ b off cap, v = .slice (some ⟨b, off, none⟩) xs.length cap := by
  cases h with
  | nil a c => exact absurd rfl hne
  | list b off cap sz vs => exact ⟨_, _, _, rfl⟩

theorem index_ok (P : Program) (S : St) (o : Oper) (t : TypeId) (x i : Operand) (ho : o.op = .indexAddr t x i) (hx : (S.opd x).1 = true) (hi : (S.opd i).1 = true) : ResOk P S o (indexR P S.mem t (S.opd x).2 (S.opd i).2) := by
  unfold indexR
  split
  · rename_i kk n hiv
    have hie : ∀ {φ G a w}, Rel φ G S a w → a.eval i = .int kk n := fun hr => by
      have := hr.opd i hi
      rw [hiv] at this
      exact int_of this
    split
    · rename_i e hte
      have ht := tk_slice hte
      split
      · rename_i sz hs
        split
        · rename_i xs hp
          refine ResOk.pure ?_
          rintro ⟨h0, hl, hsz⟩ φ G a w hr
          have hv := hr.opd x hx
          rw [hp] at hv
          generalize hav : a.eval x = av at hv
          cases hv with
          | d _ _ h =>
            obtain ⟨b, off, cap, rfl⟩ := list_addr h (by intro hh; subst hh; simp at hl)
            obtain ⟨_, hb, hF, v, hv, hc⟩ := list_at h hl hsz
            refine ⟨_, by simp only [execOp, ho, hav, hie hr, Sem.run_bind, run_indexSlice ht hs h0 hl]; rfl, ?_⟩
            exact .rptr (D.at xs n.toNat) 0 b (off + n.toNat * sz) v hb hF hv hc
        · rename_i k ver off len hp
          split
          · rename_i key v sz' rows hg
            refine ResOk.pure ?_
            rintro ⟨rfl, h0, hl, rfl⟩ φ G a w hr
            have hv := hr.opd x hx
            rw [hp] at hv
            obtain ⟨hm, hk, L, hL, hver, hcr⟩ := hr.mem.get hg
            simp only at hver
            generalize hav : a.eval x = av at hv
            cases hv with
            | vec _ _ _ _ _ L' hL' _ h _ =>
              rw [hL] at hL'; cases hL'
              obtain ⟨ao, cap, rfl, hlc, hpl⟩ := h hver.symm
              clear h
              obtain ⟨rfl, hcapeq⟩ := hpl (by omega)
              refine ⟨_, by simp only [execOp, ho, hav, hie hr, Sem.run_bind, run_indexSlice ht hs h0 hl]; rfl, ?_⟩
              exact .eptr k v _ 0 _ L hL (by omega) (fun _ => by rw [hcr.1, Nat.add_mul, Nat.add_zero, Nat.add_assoc]) rfl
          · trivial
        · trivial
      · trivial
    · rename_i len e hte
      have ht := tk_arr hte
      split
      · rename_i sz hs
        split
        · rename_i k ver off hp
          split
          · rename_i key v cont hg
            refine ResOk.pure ?_
            rintro ⟨rfl, h0, hl⟩ φ G a w hr
            have hv := hr.opd x hx
            rw [hp] at hv
            obtain ⟨hm, hk, L, hL, hver, _⟩ := hr.mem.get hg
            simp only at hver
            have e := hv.ptr_eq hL hver
            refine ⟨_, by simp only [execOp, ho, e, hie hr, Sem.run_bind, run_indexArr ht hs h0 hl]; rfl, .ptr k v _ _ L hL (by omega) (fun _ => rfl) rfl⟩
          · trivial
        · rename_i k ver i' j hp
          split
          · rename_i key v sz' rows hg
            split
            · rename_i h3
              obtain ⟨rfl, rfl, rfl⟩ := h3
              refine ResOk.pure ?_
              rintro ⟨rfl, h0, hl⟩ φ G a w hr
              have hv := hr.opd x hx
              rw [hp] at hv
              obtain ⟨hm, hk, L, hL, hver, hcr⟩ := hr.mem.get hg
              simp only at hver
              have e := hv.eptr_eq hL hver
              have h1 : L.sz = 1 := hcr.1
              refine ⟨_, by simp only [execOp, ho, e, hie hr, Sem.run_bind, run_indexArr ht hs h0 hl]; rfl, .eptr k v _ _ _ L hL (by omega) (fun _ => by rw [h1]; simp [Nat.add_assoc]) rfl⟩
            · refine ResOk.pure ?_
              rintro ⟨rfl, h0, hl⟩ φ G a w hr
              have hv := hr.opd x hx
              rw [hp] at hv
              obtain ⟨hm, hk, L, hL, hver, _⟩ := hr.mem.get hg
              simp only at hver
              have e := hv.eptr_eq hL hver
              refine ⟨_, by simp only [execOp, ho, e, hie hr, Sem.run_bind, run_indexArr ht hs h0 hl]; rfl, .eptr k v _ _ _ L hL (by omega) (fun _ => by rw [Nat.add_assoc]) rfl⟩
          · rename_i key v cont _ hg
            refine ResOk.pure ?_
            rintro ⟨rfl, h0, hl⟩ φ G a w hr
            have hv := hr.opd x hx
            rw [hp] at hv
            obtain ⟨hm, hk, L, hL, hver, _⟩ := hr.mem.get hg
            simp only at hver
            have e := hv.eptr_eq hL hver
            refine ⟨_, by simp only [execOp, ho, e, hie hr, Sem.run_bind, run_indexArr ht hs h0 hl]; rfl, .eptr k v _ _ _ L hL (by omega) (fun _ => by rw [Nat.add_assoc]) rfl⟩
          · trivial
        · rename_i d j hp
          refine ResOk.pure ?_
          rintro ⟨h0, hl⟩ φ G a w hr
          have hv := hr.opd x hx
          rw [hp] at hv
          generalize hav : a.eval x = av at hv
          cases hv with
          | rptr _ _ b off x' hb hF hxr hc =>
            refine ⟨.pointer (some ⟨b, off + (j + n.toNat * sz), none⟩), by simp [execOp, ho, hav, hie hr, run_indexArr ht hs h0 hl, Nat.add_assoc], .rptr d _ b off x' hb hF hxr hc⟩
        · trivial
      · trivial
    · trivial
  · trivial
end Go.Am
end
section
namespace Go.Am
open Go

/- Integers. -/
def intBin (op : BinOp) (k : IntKind) (a b : Int) : Option (Bool × D) :=
  match op with
  | .add => some (true, .int k (k.wrap (a + b)))
  | .sub => some (true, .int k (k.wrap (a - b)))
  | .mul => some (true, .int k (k.wrap (a * b)))
  | .quo => some (b ≠ 0, .int k (k.wrap (a.tdiv b)))
  | .rem => some (b ≠ 0, .int k (a.tmod b))
  | .and => some (true, .int k (k.wrap (BitVec.ofInt k.bits a &&& BitVec.ofInt k.bits b).toNat))
  | .or => some (true, .int k (k.wrap (BitVec.ofInt k.bits a ||| BitVec.ofInt k.bits b).toNat))
  | .xor => some (true, .int k (k.wrap (BitVec.ofInt k.bits a ^^^ BitVec.ofInt k.bits b).toNat))
  | .andNot => some (true, .int k (k.wrap (BitVec.ofInt k.bits a &&& ~~~BitVec.ofInt k.bits b).toNat))
  | .eql => some (true, .bool (a == b))
  | .neq => some (true, .bool (a != b))
  | .lss => some (true, .bool (decide (a < b)))
  | .leq => some (true, .bool (decide (a ≤ b)))
  | .gtr => some (true, .bool (decide (b < a)))
  | .geq => some (true, .bool (decide (b ≤ a)))
  | _ => none
def shiftBin (op : BinOp) (k : IntKind) (a b : Int) : Option (Bool × D) :=
  match op with
  | .shl => some (0 ≤ b, .int k (k.wrap (a * 2 ^ (min b.toNat k.bits))))
  | .shr => some (0 ≤ b, .int k (a.fdiv (2 ^ (min b.toNat k.bits))))
  | _ => none
def strBin (op : BinOp) (s t : List UInt8) : Option (Bool × D) :=
  match op with
  | .add => some (s.length + t.length ≤ 4611686018427387904, .str (s ++ t))
  | .eql => some (true, .bool (s == t))
  | .neq => some (true, .bool (!(s == t)))
  | .lss => some (true, .bool (Op.bytesLess s t))
  | .leq => some (true, .bool (Op.bytesLess s t || s == t))
  | .gtr => some (true, .bool (!(Op.bytesLess s t || s == t)))
  | .geq => some (true, .bool (!Op.bytesLess s t))
  | _ => none

/- Equality of data of flat types. -/
def eqFlat : TK → D → D → Option Bool
  | .int _, .int k a, .int k' b => if k = k' then some (a == b) else none
  | .bool, .bool a, .bool b => some (a == b)
  | .str, .str a, .str b => some (a == b)
  | _, _, _ => none
def eqFlats : List TK → List D → List D → Option Bool
  | [], [], [] => some true
  | k :: ks, x :: xs, y :: ys => match eqFlat k x y, eqFlats ks xs ys with
    | some a, some b => some (a && b)
    | _, _ => none
  | _, _, _ => none

/-- A struct all of whose fields are one cell each, none named by a blank: the kinds of its fields. -/
def flatStruct (P : Program) (t : TypeId) : Option (List TK) :=
  match P.underlying t with
  | some (.struct fs) => if !P.stoodInHeld t && !P.eqGuardType P.depth t && (fs.toList.zipIdx.all fun x => x.1.name ≠ "_" && x.1.offset == x.2) then some (fs.toList.map fun f => tk P f.type) else none
  | _ => none

def binR (P : Program) (op : BinOp) (t : TypeId) (x y : AV) : Res :=
  match x, y with
  | .d (.int k a), .d (.int k' b) => match op with
    | .shl => .val (0 ≤ b) (.d (.int k (k.wrap (a * 2 ^ (min b.toNat k.bits)))))
    | .shr => .val (0 ≤ b) (.d (.int k (a.fdiv (2 ^ (min b.toNat k.bits)))))
    | op => match intBin op k a b with
      | some (c, d) => .val (k = k' ∧ c) (.d d)
      | none => .no
  | .d (.str a), .d (.str b) => match strBin op a b with
    | some (c, d) => .val c (.d d)
    | none => .no
  | .d (.bool a), .d (.bool b) => match op with
    | .eql => .val (tk P t = .bool) (.d (.bool (a == b)))
    | .neq => .val (tk P t = .bool) (.d (.bool (a != b)))
    | _ => .no
  | .d (.agg a), .d (.agg b) => match flatStruct P t with
    | some ks => match eqFlats ks a b with
      | some r => match op with
        | .eql => .val True (.d (.bool r))
        | .neq => .val True (.d (.bool (!r)))
        | _ => .no
      | none => .no
    | none => .no
  | _, _ => .no

theorem eqGuard_skip (P : Program) (w : World) (op : BinOp) (t : TypeId) (x y : Operand) (a b : Value) (h : (∀ c, a ≠ .agg c) ∧ a ≠ .nilIface) : (eqGuard op t x y a b).run P w = .ok () w := by
  unfold eqGuard
  cases a <;> first | exact absurd rfl (h.1 _) | exact absurd rfl h.2 | (cases op <;> simp)

theorem binInt_run (P : Program) (w : World) (op : BinOp) (t : TypeId) (k : IntKind) (a b : Int) (c d) (h : intBin op k a b = some (c, d)) (hc : c = true) : ∃ v, (binOp op t (.int k a) (.int k b)).run P w = .ok v w ∧ ∀ F, DRel w F d v := by
  cases op <;> simp only [intBin, Option.some.injEq, Prod.mk.injEq, reduceCtorEq] at h <;> (try exact h.elim) <;> obtain ⟨rfl, rfl⟩ := h <;> (try simp only [decide_eq_true_eq] at hc) <;>
    refine ⟨_, by simp only [binOp, Op.intArith, Op.intDiv, Op.intBits, Op.intCmp, ne_eq, not_true_eq_false, if_false, hc, Sem.run_pure, gt_iff_lt, ge_iff_le]; rfl, fun F => by first | exact .int _ _ | exact .bool _⟩
theorem binShift_run (P : Program) (w : World) (op : BinOp) (t : TypeId) (k k' : IntKind) (a b : Int) (c d) (h : shiftBin op k a b = some (c, d)) (hc : c = true) : ∃ v, (binOp op t (.int k a) (.int k' b)).run P w = .ok v w ∧ ∀ F, DRel w F d v := by
  cases op <;> simp only [shiftBin, Option.some.injEq, Prod.mk.injEq, reduceCtorEq] at h <;> (try exact h.elim) <;> obtain ⟨rfl, rfl⟩ := h <;> (try simp only [decide_eq_true_eq] at hc) <;>
    refine ⟨_, by simp [binOp, Op.shift, show ¬ b < 0 by omega]; rfl, fun F => by first | exact .int _ _ | exact .bool _⟩
theorem binStr_run (P : Program) (w : World) (op : BinOp) (t : TypeId) (a b : ByteArray) (c d) (h : strBin op a.data.toList b.data.toList = some (c, d)) (hc : c = true) : ∃ v, (binOp op t (.string a) (.string b)).run P w = .ok v w ∧ ∀ F, DRel w F d v := by
  have ha : a.size = a.data.toList.length := by rw [Array.length_toList]; rfl
  have hb : b.size = b.data.toList.length := by rw [Array.length_toList]; rfl
  cases op <;> simp only [strBin, Option.some.injEq, Prod.mk.injEq, reduceCtorEq] at h <;> (try exact h.elim) <;> obtain ⟨rfl, rfl⟩ := h
  case add =>
    simp only [decide_eq_true_eq] at hc
    have hl : ¬ (9223372036854775807 < ((a.size : Int) + (b.size : Int))) := by omega
    refine ⟨.string (a ++ b), ?_, fun F => .str _ _ (by simp)⟩
    have hmax : IntKind.i64.max = 9223372036854775807 := by decide
    have : ¬ (((a.size + b.size : Nat) : Int) > IntKind.i64.max) := by rw [hmax]; push_cast; omega
    simp only [binOp, Op.stringOp, this, if_false, Sem.run_pure]
  all_goals
    refine ⟨_, by simp only [binOp, Op.stringOp, ByteArray.toList_eq, Sem.run_pure], fun F => .bool _⟩

theorem eqFlat_run {P : Program} {w : World} {F : Nat → Prop} {x y : D} {a b : Value} {r : Bool} {t : TypeId} (d : Nat) (h : eqFlat (tk P t) x y = some r) (hx : DRel w F x a) (hy : DRel w F y b) :
    (Op.equalIn (d + 1) t a b).run P w = .ok r w := by
  unfold eqFlat at h
  split at h
  · rename_i k' k n k2 m htk
    split at h
    · rename_i he; subst he; simp at h; subst h
      cases hx; cases hy
      exact run_equalIn_int w d t k _ n m (tk_int htk)
    · cases h
  · rename_i n m htk
    simp at h; subst h
    cases hx; cases hy
    exact run_equalIn_bool' w d t n m (tk_bool htk)
  · rename_i n m htk
    simp at h; subst h
    cases hx with | str n _ hn => cases hy with | str m _ hm =>
    subst hn; subst hm
    rw [run_equalIn_string w d t n m (tk_str htk), ByteArray.toList_eq, ByteArray.toList_eq]
  · cases h

theorem part_run {P : Program} {w : World} {t : TypeId} {cs : Array Value} {off : Nat} {v : Value} (h : (tk P t).agg = false) (ho : tk P t ≠ .other) (hv : cs[off]? = some v) : (part t cs off).run P w = .ok v w := by
  simp [part, run_isAgg ho, h, hv]

theorem eqFlats_run {P : Program} {w : World} {F : Nat → Prop} (d : Nat) {xa ya : Array Value} : ∀ (fs : List Field) (n : Nat) (xs ys : List D) (r : Bool), eqFlats (fs.map fun f => tk P f.type) xs ys = some r →
    ((fs.zipIdx n).all fun x => x.1.name ≠ "_" && x.1.offset == x.2) = true →
    (∀ (i : Nat) c v, xs[i]? = some c → xa[n + i]? = some v → DRel w F c v) → (∀ (i : Nat) c v, ys[i]? = some c → ya[n + i]? = some v → DRel w F c v) → n + xs.length ≤ xa.size → n + ys.length ≤ ya.size →
    (Op.eqFields (d + 1) xa ya fs).run P w = .ok r w
  | [], n, xs, ys, r, h, _, _, _, _, _ => by
    cases xs <;> cases ys <;> simp [eqFlats] at h
    subst h; simp [Op.eqFields]
  | f :: fs, n, xs, ys, r, h, ha, hx, hy, hlx, hly => by
    cases xs with
    | nil => simp [eqFlats] at h
    | cons x xs =>
    cases ys with
    | nil => simp [eqFlats] at h
    | cons y ys =>
    simp only [List.map_cons, eqFlats] at h
    split at h <;> simp at h
    rename_i p q hp hq
    subst h
    simp only [List.zipIdx_cons, List.all_cons, Bool.and_eq_true, decide_eq_true_eq, beq_iff_eq] at ha
    obtain ⟨⟨hne, hoff⟩, ha⟩ := ha
    simp only [List.length_cons] at hlx hly
    have hxn : n < xa.size := by omega
    have hyn : n < ya.size := by omega
    have hk : (tk P f.type).agg = false ∧ tk P f.type ≠ .other := by
      unfold eqFlat at hp
      split at hp <;> simp_all [TK.agg]
    have e1 := part_run (P := P) (w := w) hk.1 hk.2 (show xa[f.offset]? = some xa[n] by rw [hoff]; simp [hxn])
    have e2 := part_run (P := P) (w := w) hk.1 hk.2 (show ya[f.offset]? = some ya[n] by rw [hoff]; simp [hyn])
    have e3 := eqFlat_run d hp (hx 0 x xa[n] (by simp) (by simp [hxn])) (hy 0 y ya[n] (by simp) (by simp [hyn]))
    have ih := eqFlats_run d fs (n + 1) xs ys q hq (by simpa using ha) (fun i c v hc hv => hx (i + 1) c v (by simpa using hc) (by rw [show n + (i + 1) = n + 1 + i by omega]; exact hv))
      (fun i c v hc hv => hy (i + 1) c v (by simpa using hc) (by rw [show n + (i + 1) = n + 1 + i by omega]; exact hv)) (by omega) (by omega)
    simp only [Op.eqFields, hne, ne_eq, not_false_eq_true, if_true, Sem.run_bind, e1, e2, e3, Result.andThen_ok, Sem.run_ite, Sem.run_pure, ih]
    cases p <;> simp

theorem binR_ok (P : Program) (S : St) (o : Oper) (op : BinOp) (t t' : TypeId) (x y : Operand) (ho : o.op = .binOp op t x y t') (hx : (S.opd x).1 = true) (hy : (S.opd y).1 = true) : ResOk P S o (binR P op t (S.opd x).2 (S.opd y).2) := by
  have hrun : ∀ (a : Act) (w : World) (v : Value), (∀ c, a.eval x ≠ .agg c) → a.eval x ≠ .nilIface → (binOp op t (a.eval x) (a.eval y)).run P w = .ok v w → (execOp a.eval o).run P w = .ok (.value v) w := by
    intro a w v h1 h2 h
    simp [execOp, ho, eqGuard_skip P w op t x y _ (a.eval y) ⟨h1, h2⟩, h]
  unfold binR
  split
  · rename_i k n k' m hxv hyv
    have hev : ∀ {φ G a w}, Rel φ G S a w → a.eval x = .int k n ∧ a.eval y = .int k' m := fun hr => by
      have h1 := hr.opd x hx
      have h2 := hr.opd y hy
      rw [hxv] at h1; rw [hyv] at h2
      exact ⟨int_of h1, int_of h2⟩
    split
    · refine ResOk.pure fun hc φ G a w hr => ?_
      obtain ⟨v, h1, h2⟩ := binShift_run P w .shl t k k' n m _ _ rfl (decide_eq_true hc)
      exact ⟨v, hrun a w v (by simp [(hev hr).1]) (by simp [(hev hr).1]) (by rw [(hev hr).1, (hev hr).2]; exact h1), .d _ _ (h2 _)⟩
    · refine ResOk.pure fun hc φ G a w hr => ?_
      obtain ⟨v, h1, h2⟩ := binShift_run P w .shr t k k' n m _ _ rfl (decide_eq_true hc)
      exact ⟨v, hrun a w v (by simp [(hev hr).1]) (by simp [(hev hr).1]) (by rw [(hev hr).1, (hev hr).2]; exact h1), .d _ _ (h2 _)⟩
    · split
      · rename_i c d h
        refine ResOk.pure ?_
        rintro ⟨rfl, hc⟩ φ G a w hr
        obtain ⟨v, h1, h2⟩ := binInt_run P w op t k n m c d h hc
        exact ⟨v, hrun a w v (by simp [(hev hr).1]) (by simp [(hev hr).1]) (by rw [(hev hr).1, (hev hr).2]; exact h1), .d _ _ (h2 _)⟩
      · trivial
  · rename_i s u hxv hyv
    split
    · rename_i c d h
      refine ResOk.pureB fun hc φ G a w hr => ?_
      have h1 := hr.opd x hx
      have h2 := hr.opd y hy
      rw [hxv] at h1; rw [hyv] at h2
      obtain ⟨b1, e1, rfl⟩ := str_of h1
      obtain ⟨b2, e2, rfl⟩ := str_of h2
      obtain ⟨v, h3, h4⟩ := binStr_run P w op t b1 b2 c d h hc
      exact ⟨v, hrun a w v (by simp [e1]) (by simp [e1]) (by rw [e1, e2]; exact h3), .d _ _ (h4 _)⟩
    · trivial
  · rename_i n m hxv hyv
    have hev : ∀ {φ G a w}, Rel φ G S a w → a.eval x = .bool n ∧ a.eval y = .bool m := fun hr => by
      have h1 := hr.opd x hx
      have h2 := hr.opd y hy
      rw [hxv] at h1; rw [hyv] at h2
      exact ⟨bool_of h1, bool_of h2⟩
    split
    · refine ResOk.pure fun hc φ G a w hr => ⟨.bool (n == m), hrun a w _ (by simp [(hev hr).1]) (by simp [(hev hr).1]) ?_, .d _ _ (.bool _)⟩
      rw [(hev hr).1, (hev hr).2]
      simp [binOp, Op.equal, Op.maxDepth, run_equalIn_bool' w 9999 t n m (tk_bool hc)]
    · refine ResOk.pure fun hc φ G a w hr => ⟨.bool (n != m), hrun a w _ (by simp [(hev hr).1]) (by simp [(hev hr).1]) ?_, .d _ _ (.bool _)⟩
      rw [(hev hr).1, (hev hr).2]
      simp [binOp, Op.equal, Op.maxDepth, run_equalIn_bool' w 9999 t n m (tk_bool hc), bne]
    · trivial
  · rename_i xs ys hxv hyv
    split
    · rename_i ks hks
      split
      · rename_i r hr0
        have key : ∀ {φ G a w}, Rel φ G S a w → ∃ xa ya, a.eval x = .agg xa ∧ a.eval y = .agg ya ∧ (Op.equal t (.agg xa) (.agg ya)).run P w = .ok r w ∧ (eqGuard op t x y (.agg xa) (.agg ya)).run P w = .ok () w := by
          intro φ G a w hr
          have h1 := hr.opd x hx
          have h2 := hr.opd y hy
          rw [hxv] at h1; rw [hyv] at h2
          generalize a.eval x = xv at h1
          generalize a.eval y = yv at h2
          cases h1 with | d _ _ h1 =>
          cases h2 with | d _ _ h2 =>
          cases h1 with | agg _ xa hlx hfx hcx =>
          cases h2 with | agg _ ya hly hfy hcy =>
          unfold flatStruct at hks
          split at hks
          · rename_i fs hu
            split at hks
            · rename_i hcond
              simp only [Bool.and_eq_true, Bool.not_eq_true'] at hcond
              obtain ⟨⟨hsi, hgt⟩, hall⟩ := hcond
              simp at hks
              subst hks
              refine ⟨xa, ya, rfl, rfl, ?_, ?_⟩
              · have hf : P.fieldsOf t = fs := by simp [Program.fieldsOf, hu]
                unfold Op.equal Op.maxDepth
                rw [run_equalIn_struct w 9999 t xa ya (by rw [hf]; exact hu) hsi, hf]
                exact eqFlats_run 9998 fs.toList 0 xs ys r hr0 hall (fun i c v hc hv => hcx i c v hc (by simpa using hv)) (fun i c v hc hv => hcy i c v hc (by simpa using hv)) (by omega) (by omega)
              · cases op <;> simp [eqGuard, hgt]
            · cases hks
          · cases hks
        split
        · refine ResOk.pure fun _ φ G a w hr => ?_
          obtain ⟨xa, ya, e1, e2, h1, h2⟩ := key hr
          exact ⟨.bool r, by simp [execOp, ho, e1, e2, h2, binOp, h1], .d _ _ (.bool _)⟩
        · refine ResOk.pure fun _ φ G a w hr => ?_
          obtain ⟨xa, ya, e1, e2, h1, h2⟩ := key hr
          exact ⟨.bool (!r), by simp [execOp, ho, e1, e2, h2, binOp, h1], .d _ _ (.bool _)⟩
        · trivial
      · trivial
    · trivial
  · trivial

/- Comparisons with the constant nil. -/
def nilR (P : Program) (m : Mem) (neg : Bool) (t : TypeId) (x : AV) : Value → Res
  | .slice none 0 0 => match tk P t with
    | .slice _ => match x with
      | .d (.list (_ :: _)) => .val true (.d (.bool neg))
      | .lit (.slice none 0 0) => .val true (.d (.bool (!neg)))
      | .nn => .val true (.d (.bool neg))
      | .vec k ver _ len => match Mem.get m k with
        | some ⟨_, v, .vec _ _⟩ => .val (v = ver ∧ 0 < len) (.d (.bool neg))
        | _ => .no
      | _ => .no
    | _ => .no
  | .pointer none => match tk P t with
    | .ptr _ => match x with
      | .lit (.pointer none) => .val true (.d (.bool (!neg)))
      | .ptr k ver _ => match Mem.get m k with
        | some ⟨_, v, _⟩ => .val (v = ver) (.d (.bool neg))
        | _ => .no
      | _ => .no
    | _ => .no
  | .nilIface => match tk P t with
    | .iface => match x with
      | .ifc _ _ => .val true (.d (.bool neg))
      | .lit .nilIface => .val true (.d (.bool (!neg)))
      | _ => .no
    | _ => .no
  | _ => .no

theorem list_addr' {φ w F d ds v} (h : AVRel φ w F (.d (.list (d :: ds))) v) : ∃ b off cap, v = .slice (some ⟨b, off, none⟩) (ds.length + 1) cap := by
  cases h with | d _ _ h =>
  cases h with | list _ b off cap sz vs => exact ⟨b, off, cap, rfl⟩
theorem tk_ptr {P : Program} {t e : TypeId} (h : tk P t = .ptr e) : P.underlying t = some (.pointer e) := by
  unfold tk at h; split at h <;> simp_all
theorem tk_iface {P : Program} {t : TypeId} (h : tk P t = .iface) : ∃ ms, P.underlying t = some (.interface ms) := by
  unfold tk at h; split at h <;> simp_all


theorem eqnil_slice {P : Program} (w : World) (d : Nat) {t e : TypeId} (a : Option Addr) (n c : Nat) (h : P.underlying t = some (.slice e)) :
    (Op.equalIn (d + 1) t (.slice a n c) (.slice none 0 0)).run P w = .ok a.isNone w := by
  cases a <;> simp [Op.equalIn, run_underlying h]
theorem eqnil_ptr {P : Program} (w : World) (d : Nat) {t e : TypeId} (a : Option Addr) (h : P.underlying t = some (.pointer e)) :
    (Op.equalIn (d + 1) t (.pointer a) (.pointer none)).run P w = .ok a.isNone w := by
  cases a <;> simp [Op.equalIn, run_underlying h]
theorem eqnil_iface {P : Program} (w : World) (d : Nat) {t : TypeId} {ms} (tx : TypeId) (v : Value) (h : P.underlying t = some (.interface ms)) :
    (Op.equalIn (d + 1) t (.iface tx v) .nilIface).run P w = .ok false w := by
  simp [Op.equalIn, run_underlying h]
theorem eqnil_iface0 {P : Program} (w : World) (d : Nat) {t : TypeId} {ms} (h : P.underlying t = some (.interface ms)) :
    (Op.equalIn (d + 1) t .nilIface .nilIface).run P w = .ok true w := by
  simp [Op.equalIn, run_underlying h]
theorem nil_run {P : Program} {o : Oper} {neg : Bool} {t t' : TypeId} {x : Operand} {v : Value} (ho : o.op = .binOp (if neg then .neq else .eql) t x (.const v) t') {a : Act} {w : World} {b : Bool}
    (h1 : ∀ c, a.eval x ≠ .agg c) (hvn : v = .slice none 0 0 ∨ v = .pointer none ∨ v = .nilIface) (hxn : (∀ k n, a.eval x ≠ .int k n) ∧ (∀ k n, a.eval x ≠ .float k n) ∧ (∀ k n m, a.eval x ≠ .complex k n m) ∧ (∀ s, a.eval x ≠ .string s))
    (h : (Op.equalIn 10000 t (a.eval x) v).run P w = .ok b w) : (execOp a.eval o).run P w = .ok (.value (.bool (if neg then !b else b))) w := by
  have e : a.eval (.const v) = v := rfl
  have hg : (eqGuard (if neg then .neq else .eql) t x (.const v) (a.eval x) v).run P w = .ok () w := by
    unfold eqGuard
    generalize a.eval x = u at h1 ⊢
    rcases hvn with rfl | rfl | rfl <;> cases u <;> cases neg <;> simp
  have hb : (binOp (if neg then .neq else .eql) t (a.eval x) v).run P w = .ok (.bool (if neg then !b else b)) w := by
    generalize a.eval x = u at h hxn ⊢
    obtain ⟨g1, g2, g3, g4⟩ := hxn
    rcases hvn with rfl | rfl | rfl <;> cases u <;> cases neg <;> simp_all [binOp, Op.equal, Op.maxDepth]
  simp only [execOp, ho, e, Sem.run_bind, hg, Result.andThen_ok, hb, Sem.run_pure]

theorem nilR_ok (P : Program) (S : St) (o : Oper) (neg : Bool) (t t' : TypeId) (x : Operand) (v : Value) (ho : o.op = .binOp (if neg then .neq else .eql) t x (.const v) t') (hx : (S.opd x).1 = true) : ResOk P S o (nilR P S.mem neg t (S.opd x).2 v) := by
  have go : ∀ {φ G a w} {b : Bool}, Rel φ G S a w → (∀ c, a.eval x ≠ .agg c) → (v = .slice none 0 0 ∨ v = .pointer none ∨ v = .nilIface) → ((∀ k n, a.eval x ≠ .int k n) ∧ (∀ k n, a.eval x ≠ .float k n) ∧ (∀ k n m, a.eval x ≠ .complex k n m) ∧ (∀ s, a.eval x ≠ .string s)) →
      (Op.equalIn 10000 t (a.eval x) v).run P w = .ok b w → ∃ v', (execOp a.eval o).run P w = .ok (.value v') w ∧ AVRel φ w (Fo G φ S.mem) (.d (.bool (if neg then !b else b))) v' := by
    intro φ G a w b hr h1 h2 h3 h4
    exact ⟨_, nil_run ho h1 h2 h3 h4, .d _ _ (.bool _)⟩
  have eb : ∀ {b : Bool}, (if neg = true then !b else b) = (if neg = true then !b else b) := rfl
  unfold nilR
  split
  · split
    · rename_i e ht
      have ht' := tk_slice ht
      split
      · rename_i d ds hxv
        refine ResOk.pureB fun _ φ G a w hr => ?_
        have hv := hr.opd x hx
        rw [hxv] at hv
        obtain ⟨b, off, cap, hev⟩ := list_addr' hv
        have := go (b := false) hr (by simp [hev]) (.inl rfl) (by simp [hev]) (by rw [hev]; exact eqnil_slice w 9999 _ _ _ ht')
        cases neg <;> simpa using this
      · rename_i hxv
        refine ResOk.pureB fun _ φ G a w hr => ?_
        have hv := hr.opd x hx
        rw [hxv] at hv
        generalize hev : a.eval x = u at hv
        cases hv
        have := go (b := true) hr (by simp [hev]) (.inl rfl) (by simp [hev]) (by rw [hev]; exact eqnil_slice w 9999 _ _ _ ht')
        cases neg <;> simpa using this
      · rename_i hxv
        refine ResOk.pureB fun _ φ G a w hr => ?_
        have hv := hr.opd x hx
        rw [hxv] at hv
        generalize hev : a.eval x = u at hv
        cases hv
        have := go (b := false) hr (by simp [hev]) (.inl rfl) (by simp [hev]) (by rw [hev]; exact eqnil_slice w 9999 _ _ _ ht')
        cases neg <;> simpa using this
      · rename_i k ver off len hxv
        split
        · rename_i key v' sz rows hg
          refine ResOk.pure ?_
          rintro ⟨rfl, hlen⟩ φ G a w hr
          have hv := hr.opd x hx
          rw [hxv] at hv
          obtain ⟨hm, hk, L, hL, hver, hcr⟩ := hr.mem.get hg
          generalize hev : a.eval x = u at hv
          cases hv with
          | vec _ _ _ _ _ L' hL' _ h _ =>
            rw [hL] at hL'; cases hL'
            obtain ⟨ao, cap, rfl, hlc, hpl⟩ := h hver.symm
            obtain ⟨rfl, _⟩ := hpl (by omega)
            have := go (b := false) hr (by simp [hev]) (.inl rfl) (by simp [hev]) (by rw [hev]; exact eqnil_slice w 9999 _ _ _ ht')
            cases neg <;> simpa using this
        · trivial
      · trivial
    · trivial
  · split
    · rename_i e ht
      have ht' := tk_ptr ht
      split
      · rename_i hxv
        refine ResOk.pureB fun _ φ G a w hr => ?_
        have hv := hr.opd x hx
        rw [hxv] at hv
        generalize hev : a.eval x = u at hv
        cases hv
        have := go (b := true) hr (by simp [hev]) (.inr (.inl rfl)) (by simp [hev]) (by rw [hev]; exact eqnil_ptr w 9999 _ ht')
        cases neg <;> simpa using this
      · rename_i k ver off hxv
        split
        · rename_i key v' c hg
          refine ResOk.pure ?_
          rintro rfl φ G a w hr
          have hv := hr.opd x hx
          rw [hxv] at hv
          obtain ⟨hm, hk, L, hL, hver, hcr⟩ := hr.mem.get hg
          have hev := hv.ptr_eq hL hver
          have := go (b := false) hr (by simp [hev]) (.inr (.inl rfl)) (by simp [hev]) (by rw [hev]; exact eqnil_ptr w 9999 _ ht')
          cases neg <;> simpa using this
        · trivial
      · trivial
    · trivial
  · split
    · rename_i ht
      obtain ⟨ms, ht'⟩ := tk_iface ht
      split
      · rename_i ti xi hxv
        refine ResOk.pureB fun _ φ G a w hr => ?_
        have hv := hr.opd x hx
        rw [hxv] at hv
        generalize hev : a.eval x = u at hv
        cases hv
        have := go (b := false) hr (by simp [hev]) (.inr (.inr rfl)) (by simp [hev]) (by rw [hev]; exact eqnil_iface w 9999 _ _ ht')
        cases neg <;> simpa using this
      · rename_i hxv
        refine ResOk.pureB fun _ φ G a w hr => ?_
        have hv := hr.opd x hx
        rw [hxv] at hv
        generalize hev : a.eval x = u at hv
        cases hv
        have := go (b := true) hr (by simp [hev]) (.inr (.inr rfl)) (by simp [hev]) (by rw [hev]; exact eqnil_iface0 w 9999 ht')
        cases neg <;> simpa using this
      · trivial
    · trivial
  · trivial
end Go.Am
end
section
namespace Go.Am
open Go

/- s[i] of a string; x[i] of an array value. -/
def strAt (s : List UInt8) (i : Nat) : UInt8 := s[i]?.getD 0
def indexVR (P : Program) (t : TypeId) (x i : AV) : Res :=
  match i with
  | .d (.int _ n) => match x with
    | .d (.str s) => .val (tk P t = .str ∧ 0 ≤ n ∧ n.toNat < s.length) (.d (.int .u8 (strAt s n.toNat).toNat))
    | .d (.agg cs) => match tk P t with
      | .arr len e => match (tk P e).agg, tsz P e with
        | false, some 1 => .val (0 ≤ n ∧ n.toNat < len ∧ len ≤ cs.length ∧ tk P e ≠ .other) (.d (D.at cs n.toNat))
        | true, some sz => .val (0 ≤ n ∧ n.toNat < len ∧ len * sz ≤ cs.length) (.d (.agg ((cs.drop (n.toNat * sz)).take sz)))
        | _, _ => .no
      | _ => .no
    | _ => .no
  | _ => .no

theorem bytes_get (b : ByteArray) (i : Nat) : b[i]? = b.data.toList[i]? := by
  by_cases h : i < b.size
  · have h' : i < b.data.size := h
    rw [getElem?_pos b i h, Array.getElem?_toList, getElem?_pos b.data i h']
    rfl
  · have h' : ¬ i < b.data.size := h
    rw [getElem?_neg b i h, Array.getElem?_toList, getElem?_neg b.data i h']

theorem run_indexStr {P : Program} {w : World} {t : TypeId} {b : ByteArray} {k : IntKind} {n : Int} (ht : tk P t = .str) (h0 : 0 ≤ n) (hl : n.toNat < b.data.toList.length) :
    (Instr.index t (.string b) (.int k n)).run P w = .ok (.int .u8 (strAt b.data.toList n.toNat).toNat) w := by
  have e : b[n.toNat]? = some (strAt b.data.toList n.toNat) := by rw [bytes_get]; simp only [strAt]; rw [List.getElem?_eq_getElem hl]; rfl
  simp only [Instr.index, asIntOf, Sem.run_bind, Sem.run_pure, Result.andThen_ok, run_underlying (tk_str ht), h0, if_true, e]

theorem partN_run {P : Program} {w : World} {t : TypeId} {cs : Array Value} {off n : Nat} (h : (tk P t).agg = true) (hs : tsz P t = some n) : (part t cs off).run P w = .ok (.agg (cs.extract off (off + n))) w := by
  have ho : tk P t ≠ .other := by intro h'; rw [h'] at h; cases h
  simp [part, run_isAgg ho, h, run_sizeOf hs]

theorem take_drop_rel {w F} {cs : List D} {a : Array Value} (h : DRel w F (.agg cs) (.agg a)) (o n : Nat) (hle : o + n ≤ cs.length) : DRel w F (.agg ((cs.drop o).take n)) (.agg (a.extract o (o + n))) := by
  have hc := h.cells
  cases h with | agg _ _ hl hf hr =>
  have h2 := DRel.ofCells (w := w) (F := F) (cs := (cs.drop o).take n) (vs := (a.toList.drop o).take n) (by simp; omega)
    (fun v hv => hc.2.1 v (by simpa [Value.cells] using List.mem_of_mem_drop (List.mem_of_mem_take hv)))
    (fun i c v h1 h2 => by
      rw [List.getElem?_take] at h1 h2
      split at h1
      · rename_i hi
        simp only [hi, if_true] at h2
        exact hr (o + i) c v (by simpa using h1) (by simpa using h2)
      · cases h1)
  have e : ((a.toList.drop o).take n).toArray = a.extract o (o + n) := by
    apply Array.ext'
    simp
  rwa [e] at h2

theorem indexV_ok (P : Program) (S : St) (o : Oper) (t : TypeId) (x i : Operand) (ho : o.op = .index t x i) (hx : (S.opd x).1 = true) (hi : (S.opd i).1 = true) : ResOk P S o (indexVR P t (S.opd x).2 (S.opd i).2) := by
  unfold indexVR
  split
  · rename_i k n hiv
    split
    · rename_i s hxv
      refine ResOk.pure ?_
      rintro ⟨ht, h0, hl⟩ φ G a w hr
      have h1 := hr.opd x hx
      have h2 := hr.opd i hi
      rw [hxv] at h1; rw [hiv] at h2
      obtain ⟨b, e1, rfl⟩ := str_of h1
      exact ⟨_, by simp only [execOp, ho, e1, int_of h2, Sem.run_bind, run_indexStr ht h0 hl]; rfl, .d _ _ (.int _ _)⟩
    · rename_i cs hxv
      split
      · rename_i len e hte
        split
        · rename_i hag hs
          refine ResOk.pure ?_
          rintro ⟨h0, hl, hle, hne⟩ φ G a w hr
          have h1 := hr.opd x hx
          have h2 := hr.opd i hi
          rw [hxv] at h1; rw [hiv] at h2
          generalize hav : a.eval x = av at h1
          cases h1 with | d _ _ h1 =>
          cases h1 with | agg _ xa hlx hfx hcx =>
          have hn : n < (len : Int) := by omega
          have hxn : n.toNat < xa.size := by omega
          refine ⟨xa[n.toNat], ?_, .d _ _ (hcx n.toNat _ _ (getD_at (by omega)) (by simp [hxn]))⟩
          have hp := part_run (P := P) (w := w) (t := e) (cs := xa) (off := n.toNat * 1) hag hne (v := xa[n.toNat]) (by simp [hxn])
          simp only [Nat.mul_one] at hp
          simp [execOp, ho, hav, int_of h2, Instr.index, asIntOf, run_underlying (tk_arr hte), h0, hn, run_sizeOf hs, hp]
        · rename_i sz hag hs
          refine ResOk.pure ?_
          rintro ⟨h0, hl, hle⟩ φ G a w hr
          have h1 := hr.opd x hx
          have h2 := hr.opd i hi
          rw [hxv] at h1; rw [hiv] at h2
          generalize hav : a.eval x = av at h1
          cases h1 with | d _ _ h1 =>
          have h1' := h1
          cases h1 with | agg _ xa hlx hfx hcx =>
          have hn : n < (len : Int) := by omega
          have hle2 : n.toNat * sz + sz ≤ cs.length := by
            have : (n.toNat + 1) * sz ≤ len * sz := Nat.mul_le_mul_right _ hl
            rw [Nat.add_mul] at this; omega
          refine ⟨_, ?_, .d _ _ (take_drop_rel h1' (n.toNat * sz) sz hle2)⟩
          have hp := partN_run (P := P) (w := w) (t := e) (cs := xa) (off := n.toNat * sz) hag hs
          simp [execOp, ho, hav, int_of h2, Instr.index, asIntOf, run_underlying (tk_arr hte), h0, hn, run_sizeOf hs, hp]
        · trivial
      · trivial
    · trivial
  · trivial

/- x[lo:hi] -/
def bound (m : Option AV) (dflt : Int) : Option Int :=
  match m with
  | none => some dflt
  | some (.d (.int _ n)) => some n
  | some _ => none
def sliceR (P : Program) (m : Mem) (t : TypeId) (x : AV) (lo hi : Option AV) : Res :=
  match x with
  | .d (.str s) => match bound lo 0, bound hi s.length with
    | some l, some h => .val (tk P t = .str ∧ 0 ≤ l ∧ l ≤ h ∧ h.toNat ≤ s.length) (.d (.str ((s.take h.toNat).drop l.toNat)))
    | _, _ => .no
  | .d (.list xs) => match tk P t with
    | .slice e => match tsz P e, bound lo 0, bound hi xs.length with
      | some sz, some l, some h => .val (0 ≤ l ∧ l ≤ h ∧ h.toNat ≤ xs.length ∧ (∀ d ∈ xs, d.size = sz)) (.d (.list ((xs.take h.toNat).drop l.toNat)))
      | _, _, _ => .no
    | _ => .no
  | .vec k ver off len => match tk P t, Mem.get m k with
    | .slice e, some ⟨_, v, .vec sz' _⟩ => match tsz P e, bound lo 0, bound hi len with
      | some sz, some l, some h => .val (v = ver ∧ sz' = sz ∧ 0 ≤ l ∧ l ≤ h ∧ h.toNat ≤ len) (.vec k ver (off + l.toNat) (h.toNat - l.toNat))
      | _, _, _ => .no
    | _, _ => .no
  | .eptr k ver i j => match tk P t, Mem.get m k with
    | .arr n e, some ⟨_, v, .vec sz' rows⟩ => match tsz P e, bound lo 0, bound hi n with
      | some sz, some l, some h => .val (v = ver ∧ sz' = sz ∧ i = 0 ∧ j = 0 ∧ n ≤ rows.length ∧ 0 ≤ l ∧ l ≤ h ∧ h.toNat ≤ n) (.vec k ver l.toNat (h.toNat - l.toNat))
      | _, _, _ => .no
    | _, _ => .no
  | .ptr k ver off => match tk P t, Mem.get m k with
    | .arr n e, some ⟨_, v, .box cs⟩ => match tsz P e, bound lo 0, bound hi n with
      | some sz, some l, some h => .val (v = ver ∧ sz = 1 ∧ off + n ≤ cs.length ∧ 0 ≤ l ∧ l ≤ h ∧ h.toNat ≤ n) (.vec k ver (off + l.toNat) (h.toNat - l.toNat))
      | _, _, _ => .no
    | _, _ => .no
  | _ => .no

theorem run_sliceBounds {P : Program} {w : World} {isS : Bool} {len cap : Nat} {lo hi : Option Value} {l h : Int}
    (hlo : (lo = none ∧ l = 0) ∨ ∃ k, lo = some (.int k l)) (hhi : (hi = none ∧ h = len) ∨ ∃ k, hi = some (.int k h)) (h0 : 0 ≤ l) (hle : l ≤ h) (hcap : h.toNat ≤ cap) :
    (Instr.sliceBounds isS len cap lo hi none).run P w = .ok (l.toNat, h.toNat, cap) w := by
  have h1 : h ≤ (cap : Int) := by omega
  have h2 : 0 ≤ h := by omega
  have h3 : l ≤ (h.toNat : Int) := by omega
  rcases hlo with ⟨rfl, rfl⟩ | ⟨k, rfl⟩ <;> rcases hhi with ⟨rfl, rfl⟩ | ⟨k', rfl⟩ <;>
    simp_all [Instr.sliceBounds, Instr.sliceBound, asIntOf]

theorem bound_rel {S : St} {φ G a w} (hr : Rel φ G S a w) {x : Option Operand} {dflt n : Int} (hx : ∀ y, x = some y → (S.opd y).1 = true) (h : bound (x.map fun y => (S.opd y).2) dflt = some n) :
    (x.map a.eval = none ∧ n = dflt) ∨ ∃ k, x.map a.eval = some (.int k n) := by
  cases x with
  | none => simp [bound] at h; exact .inl ⟨rfl, h.symm⟩
  | some y =>
    right
    simp only [Option.map_some] at h ⊢
    unfold bound at h
    split at h
    · rename_i heq; cases heq
    · rename_i k m heq
      simp at h heq
      subst h
      have := hr.opd y (hx y rfl)
      rw [heq] at this
      exact ⟨k, by rw [int_of this]⟩
    · cases h

theorem list_slice {w F xs v sz} (h : DRel w F (.list xs) v) (hs : ∀ d ∈ xs, d.size = sz) {l hh : Nat} (hle : l ≤ hh) (hlen : hh ≤ xs.length) :
    ∃ ao cap, v = .slice ao xs.length cap ∧ xs.length ≤ cap ∧ (ao = none → cap = 0) ∧ ∀ cap' ao', (ao' = none → cap' = 0) → hh - l ≤ cap' → (ao' = ao.map (·.add (l * sz)) ∨ (hh - l = 0)) → DRel w F (.list ((xs.take hh).drop l)) (.slice ao' (hh - l) cap') := by
  have hl : ((xs.take hh).drop l).length = hh - l := by simp; omega
  generalize hx : D.list xs = x at h
  cases h with
  | nil a c hn0 =>
    simp at hx; subst hx
    refine ⟨a, c, rfl, by simp, hn0, fun cap' ao' hn' _ _ => ?_⟩
    have h1 : hh - l = 0 := by simp at hlen; omega
    rw [h1]
    simp
    exact .nil _ _ hn'
  | list ys b off cap sz' vs hcap hb hF hsz hv hc =>
    simp at hx; subst hx
    refine ⟨_, cap, rfl, hcap, by simp, fun cap' ao' hn' hc' hao => ?_⟩
    by_cases hz : hh - l = 0
    · have e : (xs.take hh).drop l = [] := List.eq_nil_of_length_eq_zero (by omega)
      rw [e, hz]; exact .nil _ _ hn'
    · have hao := hao.resolve_right hz
      have hss : sz' = sz := by
        have hxl : 0 < xs.length := by omega
        rw [← hsz xs[0] (List.getElem_mem hxl), hs xs[0] (List.getElem_mem hxl)]
      subst hss
      simp only [Option.map_some, add_none] at hao
      rw [hao, ← hl]
      refine .list _ b (off + l * sz') cap' sz' (fun i => vs (l + i)) (by rw [hl]; exact hc') hb hF (fun d hd => hsz d (List.mem_of_mem_take (List.mem_of_mem_drop hd))) (fun i d hd => ?_) (fun i j c hi hj => ?_)
      · rw [List.getElem?_drop, List.getElem?_take] at hd
        split at hd
        · exact hv _ d hd
        · cases hd
      · have := hc (l + i) j c (by rw [hl] at hi; omega) hj
        rw [Nat.add_mul, ← Nat.add_assoc] at this
        exact this
  | _ => simp at hx

theorem slice_ok (P : Program) (S : St) (o : Oper) (t : TypeId) (x : Operand) (lo hi : Option Operand) (ho : o.op = .slice t x lo hi none) (hx : (S.opd x).1 = true) (hlo : ∀ y, lo = some y → (S.opd y).1 = true) (hhi : ∀ y, hi = some y → (S.opd y).1 = true) :
    ResOk P S o (sliceR P S.mem t (S.opd x).2 (lo.map fun y => (S.opd y).2) (hi.map fun y => (S.opd y).2)) := by
  unfold sliceR
  split
  · rename_i s hxv
    split
    · rename_i l h hl hh
      refine ResOk.pure ?_
      rintro ⟨ht, h0, hle, hcap⟩ φ G a w hr
      have h1 := hr.opd x hx
      rw [hxv] at h1
      obtain ⟨b, e1, rfl⟩ := str_of h1
      have hbs : b.size = b.data.toList.length := by rw [Array.length_toList]; rfl
      have hsb := run_sliceBounds (P := P) (w := w) (isS := false) (len := b.size) (cap := b.size) (bound_rel hr hlo hl) (by have := bound_rel hr hhi hh; rw [← hbs] at this; exact this) h0 hle (by rw [hbs]; exact hcap)
      refine ⟨.string (b.extract l.toNat h.toNat), ?_, .d _ _ (.str _ _ ?_)⟩
      · simp [execOp, ho, e1, Instr.sliceAt, Instr.slice, run_underlying (tk_str ht), hsb]
      · simp [ByteArray.data_extract, List.drop_take]
    · trivial
  · rename_i xs hxv
    split
    · rename_i e hte
      split
      · rename_i sz l h hs hl hh
        refine ResOk.pure ?_
        rintro ⟨h0, hle, hcap, hsz⟩ φ G a w hr
        have h1 := hr.opd x hx
        rw [hxv] at h1
        generalize hav : a.eval x = av at h1
        cases h1 with | d _ _ h1 =>
        obtain ⟨ao, cap, rfl, hxc, hn0, hsl⟩ := list_slice h1 hsz (l := l.toNat) (hh := h.toNat) (by omega) hcap
        have hc : h.toNat ≤ cap := by omega
        have hsb := run_sliceBounds (P := P) (w := w) (isS := true) (len := xs.length) (cap := cap) (bound_rel hr hlo hl) (bound_rel hr hhi hh) h0 hle hc
        refine ⟨.slice (if cap = l.toNat then ao else ao.map (·.add (l.toNat * sz))) (h.toNat - l.toNat) (cap - l.toNat), ?_, .d _ _ (hsl _ _ (fun hn => ?_) (by omega) ?_)⟩
        · simp [execOp, ho, hav, Instr.sliceAt, Instr.slice, run_underlying (tk_slice hte), hsb, run_sizeOf hs]
        · have : ao = none := by split at hn <;> simp_all
          have := hn0 this; omega
        · by_cases hcl : cap = l.toNat
          · exact .inr (by omega)
          · exact .inl (by simp [hcl])
      · trivial
    · trivial
  · rename_i k ver off len hxv
    split
    · rename_i e key v sz' rows hte hg
      split
      · rename_i sz l h hs hl hh
        refine ResOk.pure ?_
        rintro ⟨rfl, rfl, h0, hle, hcap⟩ φ G a w hr
        have h1 := hr.opd x hx
        rw [hxv] at h1
        obtain ⟨hm, hk, L, hL, hver, hcr⟩ := hr.mem.get hg
        simp only at hver
        generalize hav : a.eval x = av at h1
        cases h1 with
        | vec _ _ _ _ _ L' hL' _ hh' _ =>
          rw [hL] at hL'; cases hL'
          obtain ⟨ao, cap, rfl, hlc, hpl⟩ := hh' hver.symm
          clear hh'
          have hsb := run_sliceBounds (P := P) (w := w) (isS := true) (len := len) (cap := cap) (bound_rel hr hlo hl) (bound_rel hr hhi hh) h0 hle (by omega)
          refine ⟨.slice (if cap = l.toNat then ao else ao.map (·.add (l.toNat * sz'))) (h.toNat - l.toNat) (cap - l.toNat), ?_, ?_⟩
          · simp [execOp, ho, hav, Instr.sliceAt, Instr.slice, run_underlying (tk_slice hte), hsb, run_sizeOf hs]
          · refine .vec k v _ _ _ L hL (by omega) (fun _ => ⟨_, _, rfl, by omega, fun hc => ?_⟩) rfl
            obtain ⟨rfl, hcapeq⟩ := hpl (by omega)
            refine ⟨?_, by omega⟩
            rw [if_neg (by omega)]
            simp only [Option.map_some, add_none, hcr.1, Nat.add_mul, Nat.add_assoc]
      · trivial
    · trivial
  · rename_i k ver i j hxv
    split
    · rename_i n e key v sz' rows hte hg
      split
      · rename_i sz l h hs hl hh
        refine ResOk.pure ?_
        rintro ⟨rfl, rfl, rfl, rfl, hn, h0, hle, hcap⟩ φ G a w hr
        have h1 := hr.opd x hx
        rw [hxv] at h1
        obtain ⟨hm, hk, L, hL, hver, hcr⟩ := hr.mem.get hg
        simp only at hver
        have e1 := h1.eptr_eq hL hver
        have hsb := run_sliceBounds (P := P) (w := w) (isS := false) (len := n) (cap := n) (bound_rel hr hlo hl) (bound_rel hr hhi hh) h0 hle hcap
        refine ⟨.slice (some (if n = l.toNat then ⟨L.blk, L.base, none⟩ else ⟨L.blk, L.base + l.toNat * sz', none⟩)) (h.toNat - l.toNat) (n - l.toNat), ?_, ?_⟩
        · simp [execOp, ho, e1, Instr.sliceAt, Instr.sureAddr, run_underlying (tk_arr hte), hsb, run_sizeOf hs, add_none]
        · refine .vec k v _ _ _ L hL (by omega) (fun _ => ⟨_, _, rfl, by omega, fun hc => ⟨?_, by have := hcr.2.1; omega⟩⟩) rfl
          rw [if_neg (by omega), hcr.1]
      · trivial
    · trivial
  · rename_i k ver off hxv
    split
    · rename_i n e key v cs hte hg
      split
      · rename_i sz l h hs hl hh
        refine ResOk.pure ?_
        rintro ⟨rfl, rfl, hn, h0, hle, hcap⟩ φ G a w hr
        have h1 := hr.opd x hx
        rw [hxv] at h1
        obtain ⟨hm, hk, L, hL, hver, ⟨z1, z2, z3⟩, _⟩ := hr.mem.get hg
        simp only at hver
        have e1 := h1.ptr_eq hL hver
        have hsb := run_sliceBounds (P := P) (w := w) (isS := false) (len := n) (cap := n) (bound_rel hr hlo hl) (bound_rel hr hhi hh) h0 hle hcap
        refine ⟨.slice (some (if n = l.toNat then ⟨L.blk, off, none⟩ else ⟨L.blk, off + l.toNat, none⟩)) (h.toNat - l.toNat) (n - l.toNat), ?_, ?_⟩
        · simp [execOp, ho, e1, Instr.sliceAt, Instr.sureAddr, run_underlying (tk_arr hte), hsb, run_sizeOf hs, add_none]
        · refine .vec k v _ _ _ L hL (by omega) (fun _ => ⟨_, _, rfl, by omega, fun hc => ⟨?_, by omega⟩⟩) rfl
          rw [if_neg (by omega), z1, z2]
          simp
      · trivial
    · trivial
  · trivial
/- The rest. -/
def pickD (t : Bool) (x y : D) : D :=
  match x, y with
  | .bool a, .bool b => .bool (bif t then a else b)
  | x, y => bif t then x else y
def pickAV (t : Bool) (x y : AV) : AV :=
  match x, y with
  | .d x, .d y => .d (pickD t x y)
  | x, y => bif t then x else y
def pickR (c a b : Bool × AV) : Res :=
  match c.2 with
  | .d (.bool t) => .val (c.1 = true ∧ (t = true → a.1 = true) ∧ (t = false → b.1 = true)) (pickAV t a.2 b.2)
  | _ => .no
theorem pick_ok (P : Program) (S : St) (o : Oper) (c x y : Operand) (ho : o.op = .pick c x y) : ResOk P S o (pickR (S.opd c) (S.opd x) (S.opd y)) := by
  unfold pickR
  split
  · rename_i t hc
    refine ResOk.pure ?_
    rintro ⟨h1, h2, h3⟩ φ G a w hr
    have hcv := hr.opd c h1
    rw [hc] at hcv
    have e := bool_of hcv
    cases t
    · have hy := hr.opd y (h3 rfl)
      refine ⟨a.eval y, by simp [execOp, ho, e, asBool], ?_⟩
      have e2 : pickAV false (S.opd x).2 (S.opd y).2 = (S.opd y).2 := by
        unfold pickAV; split
        · rename_i u v h5 h6; rw [h6]; congr 1; unfold pickD; split <;> rfl
        · rfl
      rw [e2]; exact hy
    · have hx := hr.opd x (h2 rfl)
      refine ⟨a.eval x, by simp [execOp, ho, e, asBool], ?_⟩
      have e2 : pickAV true (S.opd x).2 (S.opd y).2 = (S.opd x).2 := by
        unfold pickAV; split
        · rename_i u v h5 h6; rw [h5]; congr 1; unfold pickD; split <;> rfl
        · rfl
      rw [e2]; exact hx
  · trivial

theorem move_ok (P : Program) (S : St) (o : Oper) (x : Operand) (ho : o.op = .move x ∨ o.op = .assign x) (hx : (S.opd x).1 = true) : ResOk P S o (.val True (S.opd x).2) := by
  refine ResOk.pure fun _ φ G a w hr => ⟨a.eval x, ?_, hr.opd x hx⟩
  rcases ho with ho | ho <;> simp [execOp, ho]

def unR (op : UnOp) (x : AV) : Res :=
  match op, x with
  | .not, .d (.bool b) => .val True (.d (.bool (!b)))
  | .neg, .d (.int k n) => .val True (.d (.int k (k.wrap (0 - n))))
  | .xor, .d (.int k n) => .val True (.d (.int k (k.wrap (BitVec.ofInt k.bits (if k.signed then -1 else k.max) ^^^ BitVec.ofInt k.bits n).toNat)))
  | _, _ => .no
theorem un_ok (P : Program) (S : St) (o : Oper) (op : UnOp) (t : TypeId) (x : Operand) (ho : o.op = .unOp op t x) (hx : (S.opd x).1 = true) : ResOk P S o (unR op (S.opd x).2) := by
  unfold unR
  split
  · rename_i b hxv
    refine ResOk.pure fun _ φ G a w hr => ?_
    have h1 := hr.opd x hx
    rw [hxv] at h1
    exact ⟨.bool (!b), by simp [execOp, ho, bool_of h1, Op.unary], .d _ _ (.bool _)⟩
  · rename_i k n hxv
    refine ResOk.pure fun _ φ G a w hr => ?_
    have h1 := hr.opd x hx
    rw [hxv] at h1
    exact ⟨.int k (k.wrap (0 - n)), by simp only [execOp, ho, int_of h1, Op.unary, Op.intArith, Sem.run_bind, Sem.run_pure, Result.andThen_ok], .d _ _ (.int _ _)⟩
  · rename_i k n hxv
    refine ResOk.pure fun _ φ G a w hr => ?_
    have h1 := hr.opd x hx
    rw [hxv] at h1
    exact ⟨_, by simp only [execOp, ho, int_of h1, Op.unary, Op.intBits, Sem.run_bind, Sem.run_pure, Result.andThen_ok], .d _ _ (.int _ _)⟩
  · trivial

def extractR (i : Nat) (x : AV) : Res :=
  match x with
  | .tup vs => match vs[i]? with
    | some v => .val True v
    | none => .no
  | _ => .no
theorem extract_ok (P : Program) (S : St) (o : Oper) (x : Operand) (i : Nat) (ho : o.op = .extract x i) (hx : (S.opd x).1 = true) : ResOk P S o (extractR i (S.opd x).2) := by
  unfold extractR
  split
  · rename_i vs hxv
    split
    · rename_i v hv
      refine ResOk.pure fun _ φ G a w hr => ?_
      have h1 := hr.opd x hx
      rw [hxv] at h1
      generalize hav : a.eval x = av at h1
      cases h1 with | tup _ xa hl hc =>
      have hi : i < xa.size := by rw [← hl]; exact (List.getElem?_eq_some_iff.1 hv).1
      exact ⟨xa[i], by simp [execOp, ho, hav, Instr.extract, hi], hc i v _ hv (by simp [hi])⟩
    · trivial
  · trivial

def makeFuncR (f : Fn) (first : Array Operand) (cap : List AV) : Res :=
  match f, first.toList with
  | .func f, [] => .val True (.fn f cap)
  | _, _ => .no
theorem makeFunc_ok (P : Program) (S : St) (o : Oper) (f : Fn) (first cap : Array Operand) (ho : o.op = .makeFunc f first cap) (hc : ∀ x ∈ cap.toList, (S.opd x).1 = true) : ResOk P S o (makeFuncR f first (cap.toList.map fun x => (S.opd x).2)) := by
  unfold makeFuncR
  split
  · rename_i f hf
    refine ResOk.pure fun _ φ G a w hr => ?_
    have hfe : first = #[] := by cases first; simp_all
    refine ⟨.func (.func f) #[] (cap.map a.eval), by simp [execOp, ho, Instr.makeFunc, hfe], .fn f _ _ (by simp) (fun i c v h1 h2 => ?_)⟩
    simp only [List.getElem?_map, Array.getElem?_toList, Option.map_eq_some_iff] at h1
    simp only [Array.getElem?_map, Option.map_eq_some_iff] at h2
    obtain ⟨x, hx, rfl⟩ := h1
    obtain ⟨y, hy, rfl⟩ := h2
    rw [hx] at hy; cases hy
    exact hr.opd x (hc x (by simpa using Array.mem_of_getElem? hx))
  · trivial

def makeIfaceR (P : Program) (t : TypeId) (x : AV) : Res :=
  match x.norm with
  | .d d => .val (tk P t ≠ .iface ∧ tk P t ≠ .other) (.ifc t d)
  | _ => .no
theorem tk_known {P : Program} {t : TypeId} (h : tk P t ≠ .other) : ∃ d, P.underlying t = some d := by
  unfold tk at h
  cases hu : P.underlying t with
  | none => simp [hu] at h
  | some d => exact ⟨d, rfl⟩
theorem makeIface_ok (P : Program) (S : St) (o : Oper) (t : TypeId) (x : Operand) (ho : o.op = .makeInterface t x) (hx : (S.opd x).1 = true) : ResOk P S o (makeIfaceR P t (S.opd x).2) := by
  unfold makeIfaceR
  split
  · rename_i d hxv
    refine ResOk.pure ?_
    rintro ⟨h1, h2⟩ φ G a w hr
    have h3 := (hr.opd x hx).norm
    rw [hxv] at h3
    obtain ⟨td, hu⟩ := tk_known h2
    refine ⟨.iface t (a.eval x), ?_, ?_⟩
    · have hne : ∀ ms, td ≠ .interface ms := by rintro ms rfl; simp [tk, hu] at h1
      simp only [execOp, ho, Instr.makeInterface, Sem.run_bind, run_underlying hu, Result.andThen_ok]
      cases td <;> first | rfl | exact absurd rfl (hne _)
    · cases h3 with | d _ _ h => exact .ifc t d _ h
  · trivial

/- len -/
def lenRm (P : Program) (m : Mem) (t : TypeId) (x : AV) : Res :=
  match x with
  | .d (.str s) => .val (tk P t = .str) (.d (.int .i64 s.length))
  | .d (.list xs) => match tk P t with
    | .slice _ => .val True (.d (.int .i64 xs.length))
    | _ => .no
  | .vec k ver _ len => match tk P t, Mem.get m k with
    | .slice _, some ⟨_, v, _⟩ => .val (v = ver) (.d (.int .i64 len))
    | _, _ => .no
  | .lit (.slice none 0 0) => match tk P t with
    | .slice _ => .val True (.d (.int .i64 0))
    | _ => .no
  | .nn => match tk P t with
    | .slice _ => .val True (.d (.int .i64 0))
    | _ => .no
  | _ => match tk P t with
    | .arr n _ => .val True (.d (.int .i64 n))
    | _ => .no
theorem run_len_slice {P : Program} {w : World} {t ty e : TypeId} {ao len cap} (h : tk P t = .slice e) : (Builtin.len_ #[t] ty #[.slice ao len cap]).run P w = .ok (.int .i64 len) w := by
  simp [Builtin.len_, run_underlying (tk_slice h), goInt]
theorem len_ok (P : Program) (S : St) (o : Oper) (x : Operand) (t : TypeId) (ho : o.op = .call { callee := .builtin .len, args := #[x], argTypes := #[t] }) (hx : (S.opd x).1 = true) : ResOk P S o (lenRm P S.mem t (S.opd x).2) := by
  have hrun : ∀ (a : Act) (w : World) (v : Value), (Builtin.len_ #[t] o.type #[a.eval x]).run P w = .ok v w → (execOp a.eval o).run P w = .ok (.value v) w := by
    intro a w v h
    simp [execOp, ho, resolve, invoke, builtin, h]
  unfold lenRm
  split
  · rename_i s hxv
    refine ResOk.pure fun ht φ G a w hr => ?_
    have h1 := hr.opd x hx
    rw [hxv] at h1
    obtain ⟨b, e1, rfl⟩ := str_of h1
    have hbs : b.size = b.data.toList.length := by rw [Array.length_toList]; rfl
    refine ⟨.int .i64 b.data.toList.length, hrun a w _ ?_, .d _ _ (.int _ _)⟩
    simp only [Builtin.len_, e1, List.getElem?_toArray, List.getElem?_cons_zero, Sem.run_bind, run_underlying (tk_str ht), Result.andThen_ok, Sem.run_pure, goInt, ← hbs]
  · rename_i xs hxv
    split
    · rename_i e hte
      refine ResOk.pure fun _ φ G a w hr => ?_
      have h1 := hr.opd x hx
      rw [hxv] at h1
      generalize hav : a.eval x = av at h1
      cases h1 with | d _ _ h =>
      have hl : ∃ ao cap, av = .slice ao xs.length cap := by cases h <;> exact ⟨_, _, rfl⟩
      obtain ⟨ao, cap, rfl⟩ := hl
      exact ⟨_, hrun a w _ (by rw [hav]; exact run_len_slice hte), .d _ _ (.int _ _)⟩
    · trivial
  · rename_i k ver off len hxv
    split
    · rename_i e key v cont hte hg
      refine ResOk.pure ?_
      rintro rfl φ G a w hr
      have h1 := hr.opd x hx
      rw [hxv] at h1
      obtain ⟨hm, hk, L, hL, hver, hcr⟩ := hr.mem.get hg
      simp only at hver
      generalize hav : a.eval x = av at h1
      cases h1 with
      | vec _ _ _ _ _ L' hL' _ hh' _ =>
        rw [hL] at hL'; cases hL'
        obtain ⟨ao, cap, rfl, hlc, hpl⟩ := hh' hver.symm
        exact ⟨_, hrun a w _ (by rw [hav]; exact run_len_slice hte), .d _ _ (.int _ _)⟩
    · trivial
  · rename_i hxv
    split
    · rename_i e hte
      refine ResOk.pure fun _ φ G a w hr => ?_
      have h1 := hr.opd x hx
      rw [hxv] at h1
      generalize hav : a.eval x = av at h1
      cases h1
      exact ⟨_, hrun a w _ (by rw [hav]; exact run_len_slice hte), .d _ _ (.int _ _)⟩
    · trivial
  · rename_i hxv
    split
    · rename_i e hte
      refine ResOk.pure fun _ φ G a w hr => ?_
      have h1 := hr.opd x hx
      rw [hxv] at h1
      generalize hav : a.eval x = av at h1
      cases h1
      exact ⟨_, hrun a w _ (by rw [hav]; exact run_len_slice hte), .d _ _ (.int _ _)⟩
    · trivial
  · split
    · rename_i n e hte
      refine ResOk.pure fun _ φ G a w hr => ?_
      refine ⟨.int .i64 n, hrun a w _ ?_, .d _ _ (.int _ _)⟩
      simp [Builtin.len_, run_underlying (tk_arr hte), goInt]
    · trivial

/- min, max of two or more integers -/
def foldMax (isMax : Bool) : AV → List AV → Option D
  | .d (.int k a), [] => some (.int k a)
  | .d (.int k a), y :: r => match y with
    | .d (.int _ b) => foldMax isMax (.d (.int k (if isMax then (if b > a then b else a) else (if b < a then b else a)))) r
    | _ => none
  | _, _ => none
def maxR (isMax : Bool) (xs : List AV) : Res :=
  match xs with
  | x :: r => match foldMax isMax x r with
    | some d => .val True (.d d)
    | none => .no
  | [] => .no
theorem foldMax_run {P : Program} {φ w F} (isMax : Bool) : ∀ (xs : List AV) (x : AV) (vs : List Value) (v : Value) (d : D), foldMax isMax x xs = some d → AVRel φ w F x v → xs.length = vs.length →
    (∀ (i : Nat) c u, xs[i]? = some c → vs[i]? = some u → AVRel φ w F c u) →
    ∃ u, (vs.foldlM (if isMax then Builtin.max2 else Builtin.min2) v).run P w = .ok u w ∧ DRel w F d u := by
  intro xs
  induction xs with
  | nil =>
    intro x vs v d h hx hl hc
    have : vs = [] := List.eq_nil_of_length_eq_zero (by simpa using hl.symm)
    subst this
    unfold foldMax at h
    split at h <;> simp_all
    subst h
    rw [int_of hx]
    exact .int _ _
  | cons y ys ih =>
    intro x vs v d h hx hl hc
    cases vs with
    | nil => simp at hl
    | cons u us =>
      unfold foldMax at h
      split at h
      · simp_all
      · rename_i k a y' r heq
        simp at heq
        obtain ⟨rfl, rfl⟩ := heq
        split at h
        · rename_i k2 b
          have e1 := int_of hx
          have e2 := int_of (hc 0 (.d (.int k2 b)) u (by simp) (by simp))
          subst e1; subst e2
          have hc' : ∀ (i : Nat) c u, ys[i]? = some c → us[i]? = some u → AVRel φ w F c u := fun i c u h1 h2 => hc (i + 1) c u (by simpa using h1) (by simpa using h2)
          cases isMax
          · obtain ⟨u', h1, h2⟩ := ih _ us (.int k (if b < a then b else a)) d h (.d _ _ (.int _ _)) (by simpa using hl) hc'
            refine ⟨u', ?_, h2⟩
            simp only [Bool.false_eq_true, if_false] at h1 ⊢
            simp only [List.foldlM_cons, Builtin.min2, pure_bind]
            exact h1
          · obtain ⟨u', h1, h2⟩ := ih _ us (.int k (if b > a then b else a)) d h (.d _ _ (.int _ _)) (by simpa using hl) hc'
            refine ⟨u', ?_, h2⟩
            simp only [if_true] at h1 ⊢
            simp only [List.foldlM_cons, Builtin.max2, pure_bind]
            exact h1
        · cases h
      · cases h
theorem max_ok (P : Program) (S : St) (o : Oper) (isMax : Bool) (args : Array Operand) (ts : Array TypeId) (ho : o.op = .call { callee := .builtin (if isMax then .max else .min), args, argTypes := ts }) (hx : ∀ x ∈ args.toList, (S.opd x).1 = true) : ResOk P S o (maxR isMax (args.toList.map fun x => (S.opd x).2)) := by
  unfold maxR
  split
  · rename_i x r heq
    split
    · rename_i d hd
      refine ResOk.pure fun _ φ G a w hr => ?_
      obtain ⟨l, hl⟩ : ∃ l, args.toList = l := ⟨_, rfl⟩
      rw [hl] at heq hx
      cases l with
      | nil => simp at heq
      | cons y ys =>
        simp at heq
        obtain ⟨rfl, rfl⟩ := heq
        obtain ⟨u, h1, h2⟩ := foldMax_run (P := P) (φ := φ) (w := w) (F := Fo G φ S.mem) isMax _ _ (ys.map a.eval) (a.eval y) d hd (hr.opd y (hx y (by simp))) (by simp) (fun i c u h1 h2 => by
          simp only [List.getElem?_map, Option.map_eq_some_iff] at h1 h2
          obtain ⟨p, hp, rfl⟩ := h1
          obtain ⟨q, hq, rfl⟩ := h2
          rw [hp] at hq; cases hq
          exact hr.opd p (hx p (by simp [List.mem_of_getElem? hp])))
        refine ⟨u, ?_, .d _ _ h2⟩
        have hal : (args.map a.eval).toList = a.eval y :: ys.map a.eval := by simp [hl]
        cases isMax
        · simp only [Bool.false_eq_true, if_false] at h1 ho
          simp [execOp, ho, resolve, invoke, builtin, Builtin.min_, hl, h1]
        · simp only [if_true] at h1 ho
          simp [execOp, ho, resolve, invoke, builtin, Builtin.max_, hl, h1]
    · trivial
  · trivial
end Go.Am
end
section
namespace Go.Am
open Go

theorem foldl_set (off : Nat) : ∀ (l : List Value) (k : Nat) (cs : Array Value), off + k + l.length ≤ cs.size →
    ((l.zipIdx k).foldl (fun cs x => cs.setIfInBounds (off + x.2) x.1) cs).toList = cs.toList.take (off + k) ++ l ++ cs.toList.drop (off + k + l.length)
  | [], k, cs, _ => by simp
  | v :: l, k, cs, h => by
    simp only [List.zipIdx_cons, List.foldl_cons, List.length_cons] at h ⊢
    rw [foldl_set off l (k + 1) _ (by simp; omega), Array.toList_setIfInBounds]
    have := list_seg_step cs.toList (off + k) v l (by simp; omega)
    rw [show off + (k + 1) = off + k + 1 by omega, show off + k + (l.length + 1) = off + k + 1 + l.length by omega]
    simpa [List.length_cons, Nat.add_assoc, Nat.add_comm 1] using this

theorem fill_one (cs v : Array Value) (off : Nat) (h : off + v.size ≤ cs.size) :
    (v.zipIdx.foldl (fun cs (x : Value × Nat) => cs.setIfInBounds (off + x.2) x.1) cs).toList = putCells cs.toList off v.toList := by
  rw [← Array.foldl_toList, Array.toList_zipIdx, foldl_set off v.toList 0 cs (by simpa using h), putCells_eq _ _ _ (by simpa using h)]
  simp

/-- The parts of a literal, laid into its cells. -/
def fillA (place : Nat → Option (Nat × Nat)) : List (Nat × AV) → Bool → List AV → Option (Bool × List AV)
  | [], c, cs => some (c, cs)
  | (i, x) :: r, c, cs => match place i with
    | some (off, n) => fillA place r (c ∧ x.solid = true ∧ x.cells.length = n ∧ off + n ≤ cs.length) (putCells cs off x.cells)
    | none => none

theorem fillA_run {φ w F} (place : Nat → Option (Nat × Nat)) : ∀ (ps : List (Nat × AV)) (c0 c : Bool) (cs cs' : List AV) (vs : List (Nat × Value)) (va : Array Value),
    fillA place ps c0 cs = some (c, cs') → c = true → cs.length = va.size → (∀ v ∈ va, cell1 v = true) → (∀ (i : Nat) x v, cs[i]? = some x → va[i]? = some v → AVRel φ w F x v) →
    ps.length = vs.length → (∀ (i : Nat) p v, ps[i]? = some p → vs[i]? = some v → p.1 = v.1 ∧ AVRel φ w F p.2 v.2) →
    ∃ va', Instr.fill place va vs = some va' ∧ c0 = true ∧ cs'.length = va'.size ∧ (∀ v ∈ va', cell1 v = true) ∧ ∀ (i : Nat) x v, cs'[i]? = some x → va'[i]? = some v → AVRel φ w F x v
  | [], c0, c, cs, cs', vs, va, h, hc, hl, h1, hr, hpl, hp => by
    have : vs = [] := List.eq_nil_of_length_eq_zero (by simpa using hpl.symm)
    subst this
    simp only [fillA, Option.some.injEq, Prod.mk.injEq] at h
    obtain ⟨rfl, rfl⟩ := h
    exact ⟨va, rfl, hc, hl, h1, hr⟩
  | (i, x) :: ps, c0, c, cs, cs', vs, va, h, hc, hl, h1, hr, hpl, hp => by
    cases vs with
    | nil => simp at hpl
    | cons v vs =>
      obtain ⟨j, v⟩ := v
      obtain ⟨hij, hxv⟩ := hp 0 (i, x) (j, v) (by simp) (by simp)
      simp only at hij hxv
      subst hij
      simp only [fillA] at h
      split at h
      · rename_i off n hpl0
        -- the condition of the rest holds the condition of this part
        obtain ⟨q, hq⟩ : ∃ q : Bool, q = decide (c0 = true ∧ x.solid = true ∧ x.cells.length = n ∧ off + n ≤ cs.length) := ⟨_, rfl⟩
        have hc0 : c = true → q = true := by
          rw [← hq] at h
          clear hq
          revert h
          generalize putCells cs off x.cells = cs2
          clear hp hpl hr h1 hl hxv hc
          induction ps generalizing q cs2 with
          | nil => intro h; simp only [fillA, Option.some.injEq, Prod.mk.injEq] at h; obtain ⟨rfl, _⟩ := h; exact id
          | cons p ps ih =>
            intro h hcc
            simp only [fillA] at h
            split at h
            · exact (of_decide_eq_true (ih _ _ h hcc)).1
            · cases h
        have hcq := hc0 hc
        rw [hq] at hcq
        replace hcq := of_decide_eq_true hcq
        obtain ⟨hc00, hsol, hlen, hle⟩ := hcq
        obtain ⟨hs1, hs2⟩ := hxv.solid hsol
        have hfit : off + v.cells.size ≤ va.size := by omega
        have hset := fill_one va v.cells off hfit
        obtain ⟨va1, hva1⟩ : ∃ va1, va1 = v.cells.zipIdx.foldl (fun cs (x : Value × Nat) => cs.setIfInBounds (off + x.2) x.1) va := ⟨_, rfl⟩
        rw [← hva1] at hset
        have hfl : off + v.cells.toList.length ≤ va.toList.length := by simpa using hfit
        obtain ⟨va', hf, hcc, r1, r2, r3⟩ := fillA_run (φ := φ) (w := w) (F := F) place ps _ c _ cs' vs va1 h hc
          (by rw [putCells_length _ _ _ (by omega), ← Array.length_toList, hset, putCells_length _ _ _ hfl]; simpa using hl)
          (fun u hu => by
            rw [← Array.mem_toList_iff, hset] at hu
            rcases mem_putCells hfl hu with hu | hu
            · exact h1 u (by simpa using hu)
            · exact hs2 u (by simpa using hu))
          (fun i y u hy hu => by
            rw [← Array.getElem?_toList, hset] at hu
            exact putCells_rel (R := fun x v => AVRel φ w F x v) (by simpa using hl) (by simpa using hs1.symm) (by omega) (fun i c v h h' => hr i c v h (by simpa using h')) (fun i c v h h' => hxv.cells hs2 hs1 i c v h (by simpa using h')) i y u hy hu)
          (by simpa using hpl) (fun i p v h h' => hp (i + 1) p v (by simpa using h) (by simpa using h'))
        refine ⟨va', ?_, hc00, r1, r2, r3⟩
        simp only [Instr.fill, hpl0]
        rw [if_neg (by simp; omega)]
        rw [← hf, hva1]
      · cases h

def fplace (P : Program) (t : TypeId) : Option (List (Nat × Nat)) :=
  match P.underlying t with
  | some (.struct fs) => fs.toList.mapM fun f => (P.info? f.type).map fun i => (f.offset, i.size)
  | _ => none

theorem mapM_places {P : Program} {w : World} : ∀ (fs : List Field) (l : List (Nat × Nat)), (fs.mapM fun f => (P.info? f.type).map fun i => (f.offset, i.size)) = some l →
    (fs.mapM fun f => (do pure (f.offset, ← sizeOf f.type) : Sem (Nat × Nat))).run P w = .ok l w
  | [], l, h => by simp at h; subst h; simp
  | f :: fs, l, h => by
    simp only [List.mapM_cons] at h ⊢
    cases hi : P.info? f.type with
    | none => simp [hi] at h
    | some i =>
      simp only [hi, Option.map_some, Option.pure_def, Option.bind_eq_bind, Option.bind_some] at h
      cases hm : (fs.mapM fun f => (P.info? f.type).map fun i => (f.offset, i.size)) with
      | none => simp [hm] at h
      | some l' =>
        simp [hm] at h
        subst h
        have hs : (sizeOf f.type).run P w = .ok i.size w := run_sizeOf (by simp [tsz, hi])
        have ih := mapM_places (P := P) (w := w) fs l' hm
        simp only [Sem.run_bind, hs, Result.andThen_ok, Sem.run_pure, ih]

def buildR (P : Program) (t : TypeId) (ps : List (Nat × AV)) : Res :=
  match tzero P t with
  | some zs => match fplace P t with
    | some l => match fillA (fun i => l[i]?) ps true zs with
      | some (c, cs) => .val c (mkAgg cs)
      | none => .no
    | none => match tk P t with
      | .arr _ e => match tsz P e with
        | some sz => match fillA (fun i => some (i * sz, sz)) ps true zs with
          | some (c, cs) => .val c (mkAgg cs)
          | none => .no
        | none => .no
      | _ => .no
  | none => .no

theorem build_ok (P : Program) (S : St) (o : Oper) (t : TypeId) (ps : Array (Nat × Operand)) (ho : o.op = .build t ps) (hx : ∀ x ∈ ps.toList, (S.opd x.2).1 = true) :
    ResOk P S o (buildR P t (ps.toList.map fun x => (x.1, (S.opd x.2).2))) := by
  have parts : ∀ {φ G a w}, Rel φ G S a w → ∀ (i : Nat) (p : Nat × AV) (v : Nat × Value), (ps.toList.map fun x => (x.1, (S.opd x.2).2))[i]? = some p → (ps.toList.map fun x => (x.1, a.eval x.2))[i]? = some v → p.1 = v.1 ∧ AVRel φ w (Fo G φ S.mem) p.2 v.2 := by
    intro φ G a w hr i p v h1 h2
    simp only [List.getElem?_map, Option.map_eq_some_iff] at h1 h2
    obtain ⟨x, hx1, rfl⟩ := h1
    obtain ⟨y, hy1, rfl⟩ := h2
    rw [hx1] at hy1; cases hy1
    exact ⟨rfl, hr.opd _ (hx x (List.mem_of_getElem? hx1))⟩
  unfold buildR
  split
  · rename_i zs hz
    split
    · rename_i l hl
      split
      · rename_i c cs hf
        refine ResOk.pureB fun hc φ G a w hr => ?_
        obtain ⟨z, hrun, hsz, h1, hrel⟩ := tzero_rel hz w
        obtain ⟨va', h2, _, h3, h4, h5⟩ := fillA_run (φ := φ) (w := w) (F := Fo G φ S.mem) _ _ _ _ _ _ (ps.toList.map fun x => (x.1, a.eval x.2)) z.cells hf hc hsz.symm h1 (fun i x v h h' => hrel _ _ _ i x v h h') (by simp) (parts hr)
        unfold fplace at hl
        split at hl
        · rename_i fs hu
          have hm := mapM_places (P := P) (w := w) fs.toList l hl
          refine ⟨.agg va', ?_, ?_⟩
          · have hmA : (fs.mapM fun f => (do pure (f.offset, ← sizeOf f.type) : Sem (Nat × Nat))).run P w = .ok l.toArray w := by
              rw [Array.mapM_eq_mapM_toList]
              simp only [Sem.run_map, hm, Result.andThen_ok]
            simp only [execOp, ho, Instr.build, Sem.run_bind, hrun, Result.andThen_ok, run_underlying hu, hmA]
            have e : (fun (i : Nat) => l.toArray[i]?) = fun (i : Nat) => l[i]? := by funext i; simp
            have e2 : (Array.map (fun x => (x.1, a.eval x.2)) ps).toList = ps.toList.map fun x => (x.1, a.eval x.2) := by simp
            rw [e, e2, h2]
            rfl
          · have := mkAgg_rel (φ := φ) (w := w) (F := Fo G φ S.mem) (cs := cs) (vs := va'.toList) (by simpa using h3) (fun v hv => h4 v (by simpa using hv)) (fun i c v h h' => h5 i c v h (by simpa using h'))
            simpa using this
        · cases hl
      · trivial
    · split
      · rename_i n e hte
        split
        · rename_i sz hs
          split
          · rename_i c cs hf
            refine ResOk.pureB fun hc φ G a w hr => ?_
            obtain ⟨z, hrun, hsz, h1, hrel⟩ := tzero_rel hz w
            obtain ⟨va', h2, _, h3, h4, h5⟩ := fillA_run (φ := φ) (w := w) (F := Fo G φ S.mem) _ _ _ _ _ _ (ps.toList.map fun x => (x.1, a.eval x.2)) z.cells hf hc hsz.symm h1 (fun i x v h h' => hrel _ _ _ i x v h h') (by simp) (parts hr)
            refine ⟨.agg va', ?_, ?_⟩
            · simp only [execOp, ho, Instr.build, Sem.run_bind, hrun, Result.andThen_ok, run_underlying (tk_arr hte), run_sizeOf hs]
              have e2 : (Array.map (fun x => (x.1, a.eval x.2)) ps).toList = ps.toList.map fun x => (x.1, a.eval x.2) := by simp
              rw [e2, h2]
              rfl
            · have := mkAgg_rel (φ := φ) (w := w) (F := Fo G φ S.mem) (cs := cs) (vs := va'.toList) (by simpa using h3) (fun v hv => h4 v (by simpa using hv)) (fun i c v h h' => h5 i c v h (by simpa using h'))
              simpa using this
          · trivial
        · trivial
      · trivial
  · trivial
end Go.Am
end
section
namespace Go.Am
open Go

theorem fill_all (sz : Nat) : ∀ (vs : List (Nat × Value)) (k : Nat) (cells : Array Value), vs.map (·.1) = List.range' k vs.length → (∀ v ∈ vs, v.2.cells.size = sz) → (k + vs.length) * sz = cells.size →
    ∃ out, Instr.fill (fun i => some (i * sz, sz)) cells vs = some out ∧ out.toList = cells.toList.take (k * sz) ++ vs.flatMap (fun v => v.2.cells.toList)
  | [], k, cells, _, _, hl => by
    refine ⟨cells, rfl, ?_⟩
    simp only [List.length_nil, Nat.add_zero] at hl
    simp only [hl, List.flatMap_nil, List.append_nil]
    rw [← Array.length_toList, List.take_length]
  | (i, v) :: vs, k, cells, hi, hs, hl => by
    simp only [List.map_cons, List.length_cons, List.range'_succ, List.cons.injEq] at hi
    obtain ⟨rfl, hi⟩ := hi
    have hv := hs (i, v) (by simp)
    simp only at hv
    simp only [List.length_cons] at hl
    have hlt : i * sz + v.cells.size ≤ cells.size := by
      rw [hv, ← hl, ← Nat.succ_mul]; exact Nat.mul_le_mul_right _ (by omega)
    have h1 := fill_one cells v.cells (i * sz) hlt
    obtain ⟨c1, hc1⟩ : ∃ c1, c1 = v.cells.zipIdx.foldl (fun cs (x : Value × Nat) => cs.setIfInBounds (i * sz + x.2) x.1) cells := ⟨_, rfl⟩
    rw [← hc1] at h1
    have hfl : i * sz + v.cells.toList.length ≤ cells.toList.length := by simpa using hlt
    have hsz : c1.size = cells.size := by rw [← Array.length_toList, h1, putCells_length _ _ _ hfl]; simp
    obtain ⟨out, h2, h3⟩ := fill_all sz vs (i + 1) c1 hi (fun x hx => hs x (by simp [hx])) (by rw [hsz, ← hl]; congr 1; omega)
    refine ⟨out, ?_, ?_⟩
    · simp only [Instr.fill]
      rw [if_neg (by simp; omega), ← h2, hc1]
    · rw [h3, h1, putCells_eq _ _ _ hfl]
      have hvl : v.cells.toList.length = sz := by simpa using hv
      rw [Nat.succ_mul, List.take_append_of_le_length (by simp; omega), List.take_of_length_le (by simp; omega)]
      simp

theorem rows_parts {φ w F} {sz : Nat} : ∀ (ds : List D) (vs : List Value), ds.length = vs.length → (∀ d ∈ ds, d.size = sz) → (∀ (i : Nat) d v, ds[i]? = some d → vs[i]? = some v → AVRel φ w F (.d d) v) →
    RowsAt w F sz ds (vs.flatMap fun v => v.cells.toList)
  | [], vs, hl, _, _ => by
    have : vs = [] := List.eq_nil_of_length_eq_zero (by simpa using hl.symm)
    subst this; exact RowsAt.nil ..
  | d :: ds, vs, hl, hs, hr => by
    cases vs with
    | nil => simp at hl
    | cons v vs =>
      have ih := rows_parts (φ := φ) (w := w) (F := F) ds vs (by simpa using hl) (fun x hx => hs x (by simp [hx])) (fun i d v h h' => hr (i + 1) d v (by simpa using h) (by simpa using h'))
      have h0 := hr 0 d v (by simp) (by simp)
      cases h0 with | d _ _ h0 =>
      have hds := hs d (by simp)
      have hvs : v.cells.size = sz := by rw [h0.size, hds]
      have one : RowsAt w F sz [d] v.cells.toList := by
        refine ⟨by simp [hvs], fun u hu => h0.cells.2.1 u (by simpa using hu), fun x hx => by simp at hx; subst hx; exact hds, fun i x hx => ?_⟩
        cases i with
        | zero => simp at hx; subst hx; exact ⟨v, h0, fun j c hj => by simpa using hj⟩
        | succ i => simp at hx
      simpa using one.append ih

/-- A list that lies in one new block. -/
theorem list_new {w : World} {F F' : Nat → Prop} {sz : Nat} {ds : List D} {cs rest : List Value} {elem : TypeId} {fr} {w1 : World} {arr : Array Value} (hr : RowsAt w F sz ds cs) (hh : w1.heap[w.heap.size]? = some (.cells arr elem fr)) (harr : arr.toList = cs ++ rest)
    (hm : ∀ x v, DRel w F x v → DRel w1 F' x v) (hF : ¬ F' w.heap.size) (cap : Nat) (hcap : ds.length ≤ cap) : DRel w1 F' (.list ds) (.slice (some ⟨w.heap.size, 0, none⟩) ds.length cap) := by
  obtain ⟨a1, a2, a3, a4⟩ := hr
  have hch : ∀ i, ∃ v, ∀ d, ds[i]? = some d → DRel w F d v ∧ ∀ (j : Nat) c, v.cells[j]? = some c → cs[i * sz + j]? = some c := by
    intro i
    cases hd : ds[i]? with
    | none => exact ⟨undef, fun d h => by cases h⟩
    | some d => obtain ⟨v, h1, h2⟩ := a4 i d hd; exact ⟨v, fun d' h => by cases h; exact ⟨h1, h2⟩⟩
  obtain ⟨vs, hvs⟩ := Classical.axiomOfChoice hch
  refine .list ds w.heap.size 0 cap sz vs hcap ?_ hF a3 (fun i d hd => hm _ _ (hvs i d hd).1) (fun i j c hi hj => ?_)
  · exact (Array.getElem?_eq_some_iff.1 hh).1
  · obtain ⟨h1, h2⟩ := hvs i ds[i] (by simp [hi])
    have h3 := h2 j c hj
    rw [cell?_row hh, ← Array.getElem?_toList, harr, Nat.zero_add, List.getElem?_append_left (List.getElem?_eq_some_iff.1 h3).1]
    exact h3

theorem grow_rel {φ : Phi} {G : Nat → Prop} {m : Mem} {w w1 : World} (hold : ∀ b, b < w.heap.size → w1.heap[b]? = w.heap[b]?) (hs : w.heap.size ≤ w1.heap.size) (x v) (hx : DRel w (Fo G φ m) x v) : DRel w1 (Fo G φ m) x v :=
  hx.mono (fun b hb _ => hold b hb) hs (fun _ _ h => h)

def partDs : List (Nat × AV) → Option (List D)
  | [] => some []
  | (_, x) :: r => match x.norm, partDs r with
    | .d d, some ds => some (d :: ds)
    | _, _ => none
theorem partDs_rel {φ w F} : ∀ (ps : List (Nat × AV)) (ds : List D) (vs : List Value), partDs ps = some ds → ps.length = vs.length → (∀ (i : Nat) p v, ps[i]? = some p → vs[i]? = some v → AVRel φ w F p.2 v) →
    ds.length = vs.length ∧ ∀ (i : Nat) d v, ds[i]? = some d → vs[i]? = some v → AVRel φ w F (.d d) v
  | [], ds, vs, h, hl, _ => by
    simp [partDs] at h; subst h
    exact ⟨by simpa using hl, fun i d v h' => by simp at h'⟩
  | (i, x) :: ps, ds, vs, h, hl, hr => by
    simp only [partDs] at h
    split at h <;> simp at h
    rename_i d ds' hx hds
    subst h
    cases vs with
    | nil => simp at hl
    | cons v vs =>
      have ih := partDs_rel (φ := φ) (w := w) (F := F) ps ds' vs hds (by simpa using hl) (fun i p v h h' => hr (i + 1) p v (by simpa using h) (by simpa using h'))
      refine ⟨by simp [ih.1], fun j d' v' h h' => ?_⟩
      cases j with
      | zero =>
        simp at h h'; subst h; subst h'
        have := (hr 0 (i, x) v (by simp) (by simp)).norm
        simp only [hx] at this; exact this
      | succ j => exact ih.2 j d' v' (by simpa using h) (by simpa using h')

def buildSliceR (P : Program) (m : Mem) (k0 : Nat) (t : TypeId) (len : Nat) (ps : List (Nat × AV)) : Res :=
  match tk P t with
  | .slice e => match tsz P e, tzeroD P e, partDs ps with
    | some sz, some zd, some ds => match Mem.get m k0 with
      | some ⟨_, v, _⟩ => .upd (zd.size = sz ∧ len * sz ≤ 2 ^ 24 ∧ ps.map (·.1) = List.range' 0 len ∧ (∀ d ∈ ds, d.size = sz)) (.vec k0 (v + 1) 0 len) ⟨k0, v + 1, .vec sz ds⟩
      | none => .val (zd.size = sz ∧ len * sz ≤ 2 ^ 24 ∧ ps.map (·.1) = List.range' 0 len ∧ (∀ d ∈ ds, d.size = sz)) (.d (.list ds))
    | _, _, _ => .no
  | _ => .no

theorem run_buildSlice {P : Program} {w : World} {t e : TypeId} {sz len : Nat} {zd : D} (ht : tk P t = .slice e) (hs : tsz P e = some sz) (hz : tzeroD P e = some zd) (hb : len * sz ≤ 2 ^ 24)
    {vs : List (Nat × Value)} (hi : vs.map (·.1) = List.range' 0 len) (hv : ∀ v ∈ vs, v.2.cells.size = sz) :
    ∃ arr : Array Value, arr.toList = vs.flatMap (fun v => v.2.cells.toList) ∧ (Instr.buildSlice t len vs.toArray).run P w = .ok (.slice (some ⟨w.heap.size, 0, none⟩) len len) (w.alloc (.cells arr e)) := by
  obtain ⟨z, hrun, hzsz, hz1, _⟩ := tzeroD_rel hz w
  have hlen : vs.length = len := by
    have := congrArg List.length hi
    simpa using this
  have hb' : ¬ (len * sz > 2 ^ 24) := by omega
  by_cases h0 : len * sz = 0
  · obtain ⟨out, h1, h2⟩ := fill_all sz vs 0 #[] (by rw [hlen]; exact hi) hv (by rw [hlen]; simp [h0])
    refine ⟨out, by simpa using h2, ?_⟩
    simp only [Instr.buildSlice, Sem.run_bind, run_underlying (tk_slice ht), Result.andThen_ok, run_sizeOf hs, h0, if_true, show Array.range 0 = #[] from rfl, Array.map_empty, h1, show ¬ (0 > 2 ^ 24) by decide, if_false, Sem.run_bind, Sem.run_pure, run_newRow]
  · obtain ⟨out, h1, h2⟩ := fill_all sz vs 0 ((Array.range (len * sz)).map (z.cells[· % z.cells.size]!)) (by rw [hlen]; exact hi) hv (by rw [hlen]; simp)
    refine ⟨out, by simpa using h2, ?_⟩
    simp only [Instr.buildSlice, Sem.run_bind, run_underlying (tk_slice ht), Result.andThen_ok, run_sizeOf hs, hb', if_false, h0, hrun, Sem.run_pure, h1, run_newRow]

theorem buildSlice_ok (P : Program) (S : St) (o : Oper) (t : TypeId) (len : Nat) (ps : Array (Nat × Operand)) (ho : o.op = .buildSlice t len ps) (hx : ∀ x ∈ ps.toList, (S.opd x.2).1 = true) :
    ResOk P S o (buildSliceR P S.mem (keyOf o) t len (ps.toList.map fun x => (x.1, (S.opd x.2).2))) := by
  have parts : ∀ {φ G a w}, Rel φ G S a w → ∀ (i : Nat) (p : Nat × AV) (v : Value), (ps.toList.map fun x => (x.1, (S.opd x.2).2))[i]? = some p → (ps.toList.map fun x => a.eval x.2)[i]? = some v → AVRel φ w (Fo G φ S.mem) p.2 v := by
    intro φ G a w hr i p v h1 h2
    simp only [List.getElem?_map, Option.map_eq_some_iff] at h1 h2
    obtain ⟨x, hx1, rfl⟩ := h1
    obtain ⟨y, hy1, rfl⟩ := h2
    rw [hx1] at hy1; cases hy1
    exact hr.opd _ (hx x (List.mem_of_getElem? hx1))
  have main : ∀ {e sz zd ds}, tk P t = .slice e → tsz P e = some sz → tzeroD P e = some zd → partDs (ps.toList.map fun x => (x.1, (S.opd x.2).2)) = some ds → zd.size = sz → len * sz ≤ 2 ^ 24 →
      (ps.toList.map fun x => (x.1, (S.opd x.2).2)).map (·.1) = List.range' 0 len → (∀ d ∈ ds, d.size = sz) → ∀ {φ G a w}, Rel φ G S a w →
      ds.length = len ∧ ∃ arr : Array Value, RowsAt w (Fo G φ S.mem) sz ds arr.toList ∧ (execOp a.eval o).run P w = .ok (.value (.slice (some ⟨w.heap.size, 0, none⟩) len len)) (w.alloc (.cells arr e)) := by
    intro e sz zd ds ht hs hz hds hzs hb hi hsz φ G a w hr
    obtain ⟨h1, h2⟩ := partDs_rel (φ := φ) (w := w) (F := Fo G φ S.mem) _ ds (ps.toList.map fun x => a.eval x.2) hds (by simp) (parts hr)
    have hrows := rows_parts ds _ h1 hsz h2
    have hi' : (ps.toList.map fun x => (x.1, a.eval x.2)).map (·.1) = List.range' 0 len := by rw [← hi]; simp
    have hv : ∀ v ∈ (ps.toList.map fun x => (x.1, a.eval x.2)), v.2.cells.size = sz := by
      intro v hv
      simp only [List.mem_map] at hv
      obtain ⟨x, hxm, rfl⟩ := hv
      obtain ⟨i, hi1, hi2⟩ := List.mem_iff_getElem.1 hxm
      have hid : i < ds.length := by rw [h1]; simpa using hi1
      have := h2 i ds[i] (a.eval x.2) (by simp [hid]) (by simp [List.getElem?_eq_getElem hi1, hi2])
      cases this with | d _ _ h => rw [h.size]; exact hsz _ (List.getElem_mem hid)
    obtain ⟨arr, ha, hrun⟩ := run_buildSlice (P := P) (w := w) ht hs hz hb hi' hv
    refine ⟨?_, arr, ?_, ?_⟩
    · have := congrArg List.length hi
      simp at this
      rw [h1]; simp; exact this
    · rw [ha]
      have e : (ps.toList.map fun x => (x.1, a.eval x.2)).flatMap (fun v => v.2.cells.toList) = (ps.toList.map fun x => a.eval x.2).flatMap (fun v => v.cells.toList) := by simp [List.flatMap_map]
      rw [e]; exact hrows
    · have e2 : (ps.map fun x => (x.1, a.eval x.2)) = (ps.toList.map fun x => (x.1, a.eval x.2)).toArray := by apply Array.ext'; simp
      simp only [execOp, ho, Sem.run_bind]
      have e3 : (ps.map fun (i, x) => (i, a.eval x)) = (ps.toList.map fun x => (x.1, a.eval x.2)).toArray := e2
      rw [e3, hrun]
      rfl
  unfold buildSliceR
  split
  · rename_i e hte
    split
    · rename_i sz zd ds hs hz hds
      split
      · rename_i key v cont hg
        refine ResOk.updI ?_
        rintro ⟨hzs, hb, hi, hsz⟩ φ G a w hr
        obtain ⟨hlen, arr, hrows, hrun⟩ := main hte hs hz hds hzs hb hi hsz hr
        obtain ⟨hm, hk, L, hL, hver, _⟩ := hr.mem.get hg
        simp only at hk hver
        subst hk
        obtain ⟨φ', hm', hk', hφk, hφo⟩ := hr.mem.fresh (e := ⟨keyOf o, v, cont⟩) hm hL hver w rfl rfl rfl rfl arr e sz len (.vec sz ds) (fun φ' hle hav hdr hnew => by
          refine vec_of_rows (cs := arr.toList) (rest := []) (elem := e) rfl rfl (hrows.mono hdr) (by simp) (by simpa using Nat.le_of_eq hlen) (by rw [List.append_nil, hrows.1, hlen]) (fun _ => ?_)
          refine RowAt.new ?_
          rw [hnew, List.append_nil, Array.toArray_toList])
        exact ⟨_, _, φ', .inl hrun, .vec _ (v + 1) 0 _ _ _ hφk (Nat.le_refl _) (fun _ => ⟨_, _, rfl, Nat.le_refl _, fun _ => ⟨by simp, by simp⟩⟩) rfl, hm', hk', hφo⟩
      · refine ResOk.valI ?_
        rintro ⟨hzs, hb, hi, hsz⟩ φ G a w hr
        obtain ⟨hlen, arr, hrows, hrun⟩ := main hte hs hz hds hzs hb hi hsz hr
        have hold : ∀ b, b < w.heap.size → (w.alloc (.cells arr e)).heap[b]? = w.heap[b]? := fun b hb => RowKit.Below.heap_alloc w _ b hb
        have hnew := heap_alloc_new w (.cells arr e)
        refine ⟨_, _, .inl hrun, .d _ _ ?_, hold, by simp, rfl, rfl, rfl⟩
        have := list_new (cap := len) hrows hnew (rest := []) (by simp) (fun x v h => grow_rel hold (by simp) x v h) (fun h => absurd (fo_bound hr.mem _ h) (Nat.lt_irrefl _)) (Nat.le_of_eq hlen)
        rw [hlen] at this
        exact this
    · trivial
  · trivial
/- Conversions. -/
def bytesD (s : List UInt8) : List D := s.map fun b => .int .u8 b.toNat

/-- The bytes of a list of bytes: as a function, for lists that are maps. -/
def byteOf : D → UInt8
  | .int _ n => UInt8.ofNat n.toNat
  | _ => 0

def D.isByte : D → Bool
  | .int .u8 _ => true
  | _ => false
theorem D.isByte_eq {d : D} (h : d.isByte = true) : ∃ n, d = .int .u8 n := by
  unfold D.isByte at h; split at h <;> simp_all
def convR (P : Program) (m : Mem) (k0 : Nat) (src dst : TypeId) (x : AV) : Res :=
  match tk P dst, x with
  | .int k, .d (.int _ n) => .val (tk P src ≠ .other) (.d (.int k (k.wrap n)))
  | .str, .d (.int _ n) => .val (tk P src ≠ .other) (.d (.str (Utf8.encode n).data.toList))
  | .str, .d (.str s) => .val (tk P src = .str) (.d (.str s))
  | .str, x => match tk P src with
    | .slice e => match srcRows m 1 x with
      | some (c, ys) => .val (c ∧ tk P e = .int .u8 ∧ tsz P e = some 1 ∧ ∀ d ∈ ys, d.isByte = true) (.d (.str (ys.map byteOf)))
      | none => .no
    | _ => .no
  | .slice e, .d (.str s) => match tk P src, tk P e, Mem.get m k0 with
    | .str, .int .u8, none => .val True (.d (.list (bytesD s)))
    | _, _, _ => .no
  | _, _ => .no

theorem bytes_loop {P : Program} {w : World} : ∀ (cs : List Value) (s0 : ByteArray) (ns : List Int), cs = ns.map (Value.int .u8) →
    (forIn cs s0 (fun c s => (match c with | .int .u8 n => pure (ForInStep.yield (s.push (UInt8.ofNat n.toNat))) | _ => (do stuck "bytesToString: byte expected"; pure (ForInStep.yield s)) : Sem (ForInStep ByteArray)))).run P w = .ok ⟨(s0.data.toList ++ ns.map fun n => UInt8.ofNat n.toNat).toArray⟩ w
  | [], s0, ns, h => by
    have : ns = [] := by simpa using h.symm
    subst this
    simp
  | c :: cs, s0, ns, h => by
    cases ns with
    | nil => simp at h
    | cons n ns =>
      simp at h
      obtain ⟨rfl, rfl⟩ := h
      simp only [List.forIn_cons, Sem.run_bind, Sem.run_pure, Result.andThen_ok]
      rw [bytes_loop (ns.map (Value.int .u8)) (s0.push (UInt8.ofNat n.toNat)) ns rfl]
      simp

theorem run_toBytes {P : Program} {w : World} {e : TypeId} {b : ByteArray} : ∃ (arr : Array Value) (fr : Nat × Nat) (w' : World) (cap : Nat) (rest : List Value), b.size ≤ cap ∧ (Conv.stringToBytes e b).run P w = .ok (.slice (some ⟨w.heap.size, 0, none⟩) b.size cap) w' ∧
    arr.toList = (b.data.toList.map fun x => Value.int .u8 x.toNat) ++ rest ∧ w'.heap[w.heap.size]? = some (.cells arr e fr) ∧ (∀ k, k < w.heap.size → w'.heap[k]? = w.heap[k]?) ∧ w.heap.size ≤ w'.heap.size ∧ w'.os = w.os ∧ w'.tape = w.tape ∧ w'.output = w.output := by
  obtain ⟨cap, hcap⟩ : ∃ cap, cap = (Question.appendCap b.size 0 e).cut (w.tape w.drawn (.appendCap b.size 0 e)) := ⟨_, rfl⟩
  obtain ⟨arr, harr⟩ : ∃ arr : Array Value, arr = (b.data.map fun x => Value.int .u8 x.toNat) ++ Array.replicate (cap - b.size) (.int .u8 0) := ⟨_, rfl⟩
  obtain ⟨w1, hw1⟩ : ∃ w1, w1 = w.drew.alloc (.cells arr e) := ⟨_, rfl⟩
  have hnew : w1.heap[w.heap.size]? = some (.cells arr e (0, 0)) := by
    have := heap_alloc_new w.drew (.cells arr e)
    rw [← hw1] at this; exact this
  have hlt : w.heap.size < w1.heap.size := (Array.getElem?_eq_some_iff.1 hnew).1
  have hsh : w1.shape? w.heap.size = some (e, arr.size) := by simp [World.shape?, hnew]
  refine ⟨arr, (arr.size, arr.size + 1), w1.freeze ⟨w.heap.size, arr.size, none⟩ 1, cap, List.replicate (cap - b.size) (.int .u8 0), ?_, ?_, ?_, ?_, ?_, ?_, ?_, ?_, ?_⟩
  · rw [hcap]; simp [Question.cut]
  · have hch : (choose (.appendCap b.size 0 e)).run P w = .ok cap w.drew := by
      rw [hcap]; rfl
    have hnr : (newRow e arr).run P w.drew = .ok ⟨w.heap.size, 0, none⟩ w1 := by rw [hw1]; rfl
    have hmk : (markStringish ⟨w.heap.size, 0, none⟩).run P w1 = .ok () (w1.freeze ⟨w.heap.size, arr.size, none⟩ 1) := by
      simp only [markStringish, shape, Sem.run_bind, Sem.run, hsh, Result.andThen_ok, freeze]
    simp only [Conv.stringToBytes, Sem.run_bind, hch, Result.andThen_ok, ← harr, hnr, hmk, Sem.run_pure]
  · rw [harr]; simp
  · simp [World.freeze, Array.getElem?_modify, hnew]
  · intro k hk
    have h1 : (w1.freeze ⟨w.heap.size, arr.size, none⟩ 1).heap[k]? = w1.heap[k]? := by
      simp only [World.freeze, Nat.one_ne_zero, if_false, Array.getElem?_modify]
      rw [if_neg (by omega)]
    rw [h1, hw1]
    exact RowKit.Below.heap_alloc w.drew _ k hk
  · simp [World.freeze]; omega
  · simp [World.freeze, hw1]; rfl
  · simp [World.freeze, hw1]
  · simp [World.freeze, hw1]; rfl

theorem byteOf_int (n : Int) : byteOf (.int .u8 n) = UInt8.ofNat n.toNat := rfl

theorem conv_ok (P : Program) (S : St) (o : Oper) (src dst : TypeId) (x : Operand) (ho : o.op = .convert src dst x) (hx : (S.opd x).1 = true) : ResOk P S o (convR P S.mem (keyOf o) src dst (S.opd x).2) := by
  have hrun : ∀ (a : Act) (w w' : World) (v : Value), (convert src dst (a.eval x)).run P w = .ok v w' → (execOp a.eval o).run P w = .ok (.value v) w' := by
    intro a w w' v h
    simp [execOp, ho, h]
  unfold convR
  split
  · rename_i k k' n hd hxv
    refine ResOk.pure fun hc φ G a w hr => ?_
    have h1 := hr.opd x hx
    rw [hxv] at h1
    obtain ⟨td, hu⟩ := tk_known hc
    refine ⟨.int k (k.wrap n), hrun a w w _ ?_, .d _ _ (.int _ _)⟩
    rw [int_of h1]
    simp [convert, run_underlying hu, run_underlying (tk_int hd), Conv.intToInt]
  · rename_i k n hd hxv
    refine ResOk.pure fun hc φ G a w hr => ?_
    have h1 := hr.opd x hx
    rw [hxv] at h1
    obtain ⟨td, hu⟩ := tk_known hc
    refine ⟨.string (Utf8.encode n), hrun a w w _ ?_, .d _ _ (.str _ _ rfl)⟩
    rw [int_of h1]
    simp [convert, run_underlying hu, run_underlying (tk_str hd), Conv.intToString]
  · rename_i s hd hxv
    refine ResOk.pure fun hc φ G a w hr => ?_
    have h1 := hr.opd x hx
    rw [hxv] at h1
    obtain ⟨b, e1, rfl⟩ := str_of h1
    refine ⟨.string b, hrun a w w _ ?_, .d _ _ (.str _ _ rfl)⟩
    rw [e1]
    simp [convert, run_underlying (tk_str hc), run_underlying (tk_str hd)]
  · rename_i hd _ _
    split
    · rename_i e hsr
      split
      · rename_i c ys hsrc
        refine ResOk.pure ?_
        rintro ⟨hc, htk, hts, hall⟩ φ G a w hr
        replace hall := fun d hd => D.isByte_eq (hall d hd)
        have hxv := hr.opd x hx
        obtain ⟨news, hsa⟩ := src_ok (P := P) hr.mem hxv hsrc hc (fun d hd => by obtain ⟨n, rfl⟩ := hall d hd; rfl)
        have hlen := hsa.len w
        have hfst := hsa.first w (fun _ _ => rfl)
        obtain ⟨r1, r2, r3, r4⟩ := hsa.rows
        -- the cells as numbers
        have hns : ∃ ns : List Int, news = ns.map (Value.int .u8) ∧ ys = ns.map (D.int .u8) := by
          refine ⟨ys.map fun d => (match d with | .int _ n => n | _ => 0), ?_, ?_⟩
          · apply List.ext_getElem?
            intro i
            by_cases hi : i < ys.length
            · obtain ⟨v, hv, hvc⟩ := r4 i ys[i] (by simp [hi])
              obtain ⟨n, hn⟩ := hall ys[i] (List.getElem_mem hi)
              rw [hn] at hv
              cases hv
              have := hvc 0 (.int .u8 n) rfl
              simp only [Nat.mul_one, Nat.add_zero] at this
              rw [this]
              simp [hi, hn]
            · rw [List.getElem?_eq_none (by rw [r1]; omega), List.getElem?_eq_none (by simp; omega)]
          · apply List.ext_getElem?
            intro i
            by_cases hi : i < ys.length
            · obtain ⟨n, hn⟩ := hall ys[i] (List.getElem_mem hi)
              simp [hi, hn]
            · rw [List.getElem?_eq_none (by omega), List.getElem?_eq_none (by simp; omega)]
        obtain ⟨ns, rfl, rfl⟩ := hns
        generalize hev : a.eval x = xv at hlen hfst hxv
        have hv : (∃ ao m cap, xv = .slice ao m cap) ∨ (∃ b, xv = .string b) := by
          cases xv <;> first | exact .inl ⟨_, _, _, rfl⟩ | exact .inr ⟨_, rfl⟩ | (simp [Builtin.lenOf, stuck] at hlen)
        refine ⟨.string ⟨(ns.map fun n => UInt8.ofNat n.toNat).toArray⟩, hrun a w w _ ?_, .d _ _ (.str _ _ ?_)⟩
        · rw [hev]
          rcases hv with ⟨ao, m, cap, rfl⟩ | ⟨b, rfl⟩
          · simp only [Builtin.lenOf, Sem.run_pure, Result.ok.injEq, and_true] at hlen
            subst hlen
            cases ao with
            | none =>
              have hn0 : ns = [] := by
                simp only [Builtin.firstCells, Sem.run_pure, Result.ok.injEq, and_true] at hfst
                have := congrArg Array.size hfst
                simp at this
                exact List.eq_nil_of_length_eq_zero this.symm
              subst hn0
              simp [convert, run_underlying (tk_slice hsr), run_underlying (tk_str hd), run_underlying (tk_int htk), Conv.bytesToString]
              rfl
            | some ad =>
              simp only [Builtin.firstCells, Nat.mul_one] at hfst
              have hb := bytes_loop (P := P) (w := w) (ns.map (Value.int .u8)) ByteArray.empty ns rfl
              simp only [convert, run_underlying (tk_slice hsr), run_underlying (tk_str hd), run_underlying (tk_int htk), Sem.run_bind, Result.andThen_ok, Conv.bytesToString, hfst]
              rw [← Array.forIn_toList]
              simp only [Sem.run_pure]
              refine Eq.trans (congrArg (fun r => Result.andThen r fun a w' => Result.ok (Value.string a) w') hb) ?_
              rfl
          · exfalso
            have hns : ∀ s, (S.opd x).2 = .d (.str s) → False := by assumption
            generalize (S.opd x).2 = y at hsrc hxv hns
            unfold srcRows at hsrc
            split at hsrc
            · cases hxv with | d _ _ h => cases h
            · exact hns _ rfl
            · cases hxv
            · cases hxv
            · split at hsrc
              · rename_i key v' sz' rows hg
                simp only [Option.some.injEq, Prod.mk.injEq] at hsrc
                obtain ⟨rfl, _⟩ := hsrc
                obtain ⟨_, _, L, hL, hver, _⟩ := hr.mem.get hg
                cases hxv with
                | vec _ _ _ _ _ L' hL' _ h _ =>
                  rw [hL] at hL'; cases hL'
                  obtain ⟨_, _, h2, _⟩ := h (by rw [← (of_decide_eq_true hc).1]; exact hver.symm)
                  cases h2
              · cases hsrc
            · cases hsrc
        · simp [byteOf_int, Function.comp_def]
      · trivial
    · trivial
  · rename_i e s hd hxv
    split
    · rename_i hsr htk hg
      intro _ φ G a w hr
      have h1 := hr.opd x hx
      rw [hxv] at h1
      obtain ⟨b, e1, rfl⟩ := str_of h1
      have hbs : b.size = b.data.toList.length := by rw [Array.length_toList]; rfl
      obtain ⟨arr, fr, w', cap, rest, hcap, hrn, harr, hh, hold, hsz, hos, htp, hout⟩ := run_toBytes (P := P) (w := w) (e := e) (b := b)
      have hrows : RowsAt w (Fo G φ S.mem) 1 (bytesD b.data.toList) (b.data.toList.map fun x => Value.int .u8 x.toNat) := by
        refine ⟨by simp [bytesD], ?_, ?_, ?_⟩
        · intro v hv; simp only [List.mem_map] at hv; obtain ⟨y, _, rfl⟩ := hv; rfl
        · intro d hd; simp only [bytesD, List.mem_map] at hd; obtain ⟨y, _, rfl⟩ := hd; rfl
        · intro i d hd
          simp only [bytesD, List.getElem?_map, Option.map_eq_some_iff] at hd
          obtain ⟨y, hy, rfl⟩ := hd
          refine ⟨.int .u8 y.toNat, .int _ _, fun j c hj => ?_⟩
          cases j with
          | zero => simp only [Value.cells] at hj; simp at hj; subst hj; simp only [List.getElem?_map, Nat.mul_one, Nat.add_zero, hy]; rfl
          | succ j => simp [Value.cells] at hj
      have hl := list_new (cap := cap) hrows hh harr (fun x v h => grow_rel hold hsz x v h) (fun h => absurd (fo_bound hr.mem _ h) (Nat.lt_irrefl _)) (by simp [bytesD]; exact hcap)
      refine ⟨_, w', .inl (hrun a w w' _ ?_), .d _ _ hl, hold, hsz, hos, htp, hout⟩
      have hlen : (bytesD b.data.toList).length = b.size := by rw [hbs]; simp [bytesD]
      rw [e1, hlen]
      simp only [convert, run_underlying (tk_str hsr), run_underlying (tk_slice hd), run_underlying (tk_int htk), Sem.run_bind, Result.andThen_ok]
      exact hrn
    · trivial
  · trivial
end Go.Am
end
section
namespace Go.Am
open Go

def okAll (S : St) : List Operand → Bool
  | [] => true
  | x :: r => (S.opd x).1 && okAll S r
theorem okAll_mem {S : St} : ∀ {l : List Operand}, okAll S l = true → ∀ x ∈ l, (S.opd x).1 = true
  | [], _, x, hx => by simp at hx
  | y :: r, h, x, hx => by
    simp only [okAll, Bool.and_eq_true] at h
    rcases List.mem_cons.1 hx with rfl | hx
    · exact h.1
    · exact okAll_mem h.2 x hx

/-- What an operation reads, for the guards. -/
def opOk (S : St) (o : Oper) : Bool :=
  match o.op with
  | .pick _ _ _ => true
  | op => okAll S op.operands.toList

/-- A value that is handed on: nothing becomes an empty vector, where its place is known. -/
def moveR (P : Program) (m : Mem) (k0 : Nat) (t : TypeId) (x : AV) : Res :=
  match x with
  | .lit (.slice none 0 0) => match Mem.get m k0 with
    | some ⟨_, v, _⟩ => match tk P t with
      | .slice e => match tsz P e with
        | some sz => .upd true (.vec k0 (v + 1) 0 0) ⟨k0, v + 1, .vec sz []⟩
        | none => .val true x
      | _ => .val true x
    | none => .val true x
  | x => .val true x

theorem moveR_ok (P : Program) (S : St) (o : Oper) (x : Operand) (ho : o.op = .move x ∨ o.op = .assign x) (hx : (S.opd x).1 = true) : ResOk P S o (moveR P S.mem (keyOf o) o.type (S.opd x).2) := by
  have plain : ResOk P S o (.val true (S.opd x).2) := by
    have := move_ok P S o x ho hx
    simpa using this
  unfold moveR
  split
  · rename_i hxv
    split
    · rename_i key v cont hg
      split
      · split
        · rename_i sz hs
          intro _ φ G a w hr
          obtain ⟨hm, hk, L, hL, hver, hcr⟩ := hr.mem.get hg
          simp only at hk hver
          subst hk
          have hv := hr.opd x hx
          rw [hxv] at hv
          generalize hev : a.eval x = u at hv
          cases hv
          obtain ⟨φ', hm', hk', hφk, hφo⟩ := hr.mem.upd (e' := ⟨keyOf o, v + 1, .vec sz []⟩) hm hL rfl (L' := ⟨v + 1, 0, sz, 0, 0⟩) (by simp only; omega) (fun hh => by simp only at hh; omega) rfl
            (w' := w) (fun _ _ _ => rfl) (Nat.le_refl _) (fun ho => absurd ho (by simp [Cont.owns])) rfl rfl rfl (fun φ' hφ' hle' =>
              ⟨rfl, by simp, by simp, fun hc => by simp at hc⟩)
          refine ⟨.slice none 0 0, w, φ', .inl ?_, ?_, hm', hk', hφo⟩
          · rcases ho with ho | ho <;> simp [execOp, ho, hev]
          · exact .vec _ (v + 1) 0 _ _ _ hφk (Nat.le_refl _) (fun _ => ⟨_, _, rfl, by simp, fun h => by omega⟩) rfl
        · exact plain
      · exact plain
    · exact plain
  · exact plain

def isNilV : Value → Bool
  | .slice none 0 0 => true
  | .pointer none => true
  | .nilIface => true
  | _ => false
def binOpR (P : Program) (S : St) (op : BinOp) (t : TypeId) (x y : Operand) : Res :=
  match y with
  | .const v => match isNilV v, op with
    | true, .eql => nilR P S.mem false t (S.opd x).2 v
    | true, .neq => nilR P S.mem true t (S.opd x).2 v
    | _, _ => binR P op t (S.opd x).2 (S.opd (.const v)).2
  | y => binR P op t (S.opd x).2 (S.opd y).2
theorem binOpR_ok (P : Program) (S : St) (o : Oper) (bop : BinOp) (t t' : TypeId) (x y : Operand) (ho : o.op = .binOp bop t x y t') (hx : (S.opd x).1 = true) (hy : (S.opd y).1 = true) : ResOk P S o (binOpR P S bop t x y) := by
  unfold binOpR
  split
  · split
    · exact nilR_ok P S o false t t' x _ (by simpa using ho) hx
    · exact nilR_ok P S o true t t' x _ (by simpa using ho) hx
    · exact binR_ok P S o _ t t' x _ ho hx hy
  · exact binR_ok P S o bop t t' x y ho hx hy

theorem list_of_rows {w : World} {F F' : Nat → Prop} {sz : Nat} {ds : List D} {cs : List Value} {b off cap : Nat} (hr : RowsAt w F sz ds cs) (hc : ∀ (j : Nat) v, cs[j]? = some v → w.cell? ⟨b, off + j, none⟩ = some v)
    (hb : b < w.heap.size) (hF : ∀ b, F' b → F b) (hFb : ¬ F' b) (hcap : ds.length ≤ cap) : DRel w F' (.list ds) (.slice (some ⟨b, off, none⟩) ds.length cap) := by
  obtain ⟨h1, h2, h3, h4⟩ := hr
  refine .list ds b off cap sz (fun i => if h : i < ds.length then Classical.choose (h4 i ds[i] (by simp [h])) else undef) hcap hb hFb h3 (fun i d hd => ?_) (fun i j c hi hj => ?_)
  · have hi := (List.getElem?_eq_some_iff.1 hd).1
    have := Classical.choose_spec (h4 i ds[i] (by simp [hi]))
    simp only [hi, dif_pos]
    have e : ds[i] = d := (List.getElem?_eq_some_iff.1 hd).2
    rw [← e]
    exact this.1.mono (fun _ _ _ => rfl) (Nat.le_refl _) (fun b _ => hF b)
  · have := Classical.choose_spec (h4 i ds[i] (by simp [hi]))
    simp only [hi, dif_pos] at hj
    have h5 := hc _ _ (this.2 j c hj)
    rw [← Nat.add_assoc] at h5
    exact h5
theorem vec_list {φ w F F'} {k ver off len sz : Nat} {rows : List D} {L : Loc} {v : Value} (hv : AVRel φ w F (.vec k ver off len) v) (hL : φ k = some L) (hver : L.ver = ver) (hc : ContRel φ w F L (.vec sz rows)) (hle : off + len ≤ rows.length)
    (hF : ∀ b, F' b → F b) (hFb : 0 < L.cap → ¬ F' L.blk) : DRel w F' (.list ((rows.drop off).take len)) v := by
  have hlen : ((rows.drop off).take len).length = len := by simp; omega
  cases hv with
  | vec _ _ _ _ _ L' hL' _ h _ =>
    rw [hL] at hL'; cases hL'
    obtain ⟨ao, cap, rfl, hlc, hpl⟩ := h hver.symm
    clear h
    by_cases hl0 : len = 0
    · subst hl0
      simp only [List.take_zero]
      exact .nil _ _ (fun hn => by
        subst hn
        rcases Nat.eq_zero_or_pos cap with h0 | h0
        · exact h0
        · obtain ⟨h1, _⟩ := hpl h0; cases h1)
    · obtain ⟨rfl, hcapeq⟩ := hpl (by omega)
      obtain ⟨arr, elem, hh, hasz, ha1, hr⟩ := rows_of_vec hc (by omega)
      have hr2 := (hr.drop off).take len (by simp; omega)
      have := list_of_rows (F' := F') (b := L.blk) (off := L.base + off * L.sz) (cap := cap) hr2 (fun j u hj => by
        rw [cell?_rowA hh, hc.1]
        rw [List.getElem?_take] at hj
        split at hj
        · rw [List.getElem?_drop, List.getElem?_take] at hj
          split at hj
          · rw [List.getElem?_drop] at hj
            rw [Nat.add_assoc]
            simpa using hj
          · cases hj
        · cases hj) hh.lt hF (hFb (by omega)) (by omega)
      rw [hlen] at this
      exact this

/- What append gives becomes data, where its own key is laid. -/
theorem Mem.set_set {e e' : Ent} (hk : e'.key = e.key) : ∀ m : Mem, Mem.set (Mem.set m e) e' = Mem.set m e'
  | [] => rfl
  | x :: r => by
    simp only [Mem.set]
    by_cases h : x.key = e.key
    · rw [if_pos h, if_pos (by rw [hk]; exact h)]
      simp only [Mem.set]
      rw [if_pos hk.symm]
    · rw [if_neg h, if_neg (by rw [hk]; exact h)]
      simp only [Mem.set]
      rw [if_neg (by rw [hk]; exact h), Mem.set_set hk r]
theorem fz_mem {φ : Phi} {G m w} (h : MemRel φ G m w) {k v sz n : Nat} {rows : List D} (hg : Mem.get m k = some ⟨k, v, .vec sz rows⟩) {x : Value} (hx : AVRel φ w (Fo G φ m) (.vec k v 0 n) x) (hn : n ≤ rows.length) :
    ∃ φ', MemRel φ' G (Mem.set m ⟨k, v + 1, .dead⟩) w ∧ Keeps φ m w φ' (Mem.set m ⟨k, v + 1, .dead⟩) w ∧ (∀ j, j ≠ k → φ' j = φ j) ∧ DRel w (Fo G φ' (Mem.set m ⟨k, v + 1, .dead⟩)) (.list (rows.take n)) x := by
  obtain ⟨hm, _, L, hL, hver, hcr⟩ := h.get hg
  obtain ⟨φ', hm', hk', hφk, hφo⟩ := h.upd (e := ⟨k, v, .vec sz rows⟩) (e' := ⟨k, v + 1, .dead⟩) hm hL rfl (L' := { L with ver := v + 1 }) (by simp only at hver ⊢; omega) (fun hh => by simp only at hver hh; omega) rfl
    (w' := w) (fun _ _ _ => rfl) (Nat.le_refl _) (fun ho => ho.elim) rfl rfl rfl (fun _ _ _ => trivial)
  refine ⟨φ', hm', hk', hφo, ?_⟩
  have hown : ∀ b, Own φ' (Mem.set m ⟨k, v + 1, .dead⟩) b → Own φ m b ∧ ∀ (_ : 0 < L.cap), b ≠ L.blk := by
    rintro b ⟨y, hy, Ly, hLy, hoy, rfl⟩
    rcases (Mem.mem_set h.nodup).1 hy with ⟨rfl, _⟩ | ⟨hym, hne⟩
    · exact hoy.elim
    · simp only at hne
      rw [hφo _ hne] at hLy
      refine ⟨⟨y, hym, Ly, hLy, hoy, rfl⟩, fun hc heq => hne (h.apart y hym _ hm Ly L hLy hL hoy hc heq)⟩
  have := vec_list hx hL hver hcr (by omega) (F' := Fo G φ' (Mem.set m ⟨k, v + 1, .dead⟩)) (fun b => Or.imp id (fun hb => (hown b hb).1)) (fun hc => by
    rintro (hG | ho)
    · exact h.notG _ ⟨_, hm, L, hL, hc, rfl⟩ hG
    · exact (hown _ ho).2 hc rfl)
  simpa using this
def fzRes (m : Mem) (b : Bool) (k0 : Nat) : Res → Res
  | .upd c (.vec k v 0 n) ⟨k', v', .vec sz rows⟩ => if b = true ∧ k ≠ k0 ∧ k' = k ∧ v' = v ∧ n ≤ rows.length ∧ (Mem.get m k).isSome = true then .upd c (.d (.list (rows.take n))) ⟨k, v + 1, .dead⟩ else .upd c (.vec k v 0 n) ⟨k', v', .vec sz rows⟩
  | r => r
theorem fzRes_ok {P : Program} {S : St} {o : Oper} {b : Bool} {k0 : Nat} {r : Res} (h : ResOk P S o r) : ResOk P S o (fzRes S.mem b k0 r) := by
  unfold fzRes
  split
  · rename_i c k v n k' v' sz rows
    split
    · rename_i hh
      obtain ⟨_, _, rfl, rfl, hn, hs⟩ := hh
      intro hc φ G a w hr
      obtain ⟨x, w', φ', h1, h2, h3, h4, h5⟩ := h hc φ G a w hr
      have hin : k' ∈ S.mem.map (·.key) := by
        cases hg : Mem.get S.mem k' with
        | none => rw [hg] at hs; cases hs
        | some e =>
          obtain ⟨h6, h7⟩ := Mem.get_mem hg
          rw [← h7]; exact List.mem_map_of_mem h6
      obtain ⟨φ2, q1, q2, q3, q4⟩ := fz_mem h3 (Mem.get_set_same (x := ⟨k', v', .vec sz rows⟩) hin) h2 hn
      rw [Mem.set_set (e := ⟨k', v', .vec sz rows⟩) (e' := ⟨k', v' + 1, .dead⟩) rfl] at q1 q2 q4
      exact ⟨x, w', φ2, h1, .d _ _ q4, q1, h4.trans q2, fun j hj => by rw [q3 j hj]; exact h5 j hj⟩
    · exact h
  · exact h
def builtinR (P : Program) (S : St) (o : Oper) (b : Builtin) (args : List Operand) (ts : List TypeId) : Res :=
  match b, args, ts with
  | .len, [x], [t] => lenRm P S.mem t (S.opd x).2
  | .append, [s, x], [t, u] => fzRes S.mem (Mem.get S.mem (keyOf o)).isSome (keyOf o) (appR P S.mem (keyOf o) t u (S.opd s).2 (S.opd x).2)
  | .copy, [s, x], [t, _] => copyR P S.mem t (S.opd s).2 (S.opd x).2
  | .max, args, _ => maxR true (args.map fun x => (S.opd x).2)
  | .min, args, _ => maxR false (args.map fun x => (S.opd x).2)
  | _, _, _ => .no

/-- A new array of bytes: rows of its own. -/
def zeroOf : TK → Option D
  | .int k => some (.int k 0)
  | .bool => some (.bool false)
  | _ => none
theorem zeroOf_flat {t : TK} {z : D} (h : zeroOf t = some z) : z.size = 1 ∧ ∀ (w : World) (F : Nat → Prop), ∃ v, DRel w F z v ∧ v.cells = #[v] ∧ ∀ u, DRel w F z u → u = v := by
  cases t with
  | int k => cases h; exact ⟨rfl, fun w F => ⟨_, .int k 0, rfl, fun u hu => by cases hu; rfl⟩⟩
  | bool => cases h; exact ⟨rfl, fun w F => ⟨_, .bool false, rfl, fun u hu => by cases hu; rfl⟩⟩
  | _ => cases h
def isZ : D → AV → Bool
  | .int k n, .d (.int k' n') => k == k' && n == n'
  | .bool b, .d (.bool b') => b == b'
  | _, _ => false
theorem isZ_eq {z : D} {c : AV} (h : isZ z c = true) : c = .d z := by
  unfold isZ at h
  split at h <;> simp_all
def arrR (m : Mem) (k n : Nat) (z : D) (zs : List AV) : Res :=
  match Mem.get m k with
  | some ⟨_, v, _⟩ => .upd (zs.length = n ∧ zs.all (isZ z) = true) (.eptr k (v + 1) 0 0) ⟨k, v + 1, .vec 1 (List.replicate n z)⟩
  | none => .no
def allocR (P : Program) (m : Mem) (k : Nat) (t : TypeId) : Res :=
  match tzero P t with
  | some zs => match tk P t with
    | .arr n e => match zeroOf (tk P e) with
      | some z => arrR m k n z zs
      | none => boxR m k true zs
    | _ => boxR m k true zs
  | none => .no
theorem arr_ok (P : Program) (S : St) (o : Oper) (t : TypeId) (ho : o.op = .alloc t) (n : Nat) (zd : D) (tz : TK) (htz : zeroOf tz = some zd) (zs : List AV) (hz : tzero P t = some zs) : ResOk P S o (arrR S.mem (keyOf o) n zd zs) := by
  obtain ⟨hzs1, hzd⟩ := zeroOf_flat htz
  unfold arrR
  split
  · rename_i key v cont hg
    refine ResOk.updI ?_
    rintro ⟨hn, hall⟩ φ G a w hr
    obtain ⟨z, hrun, hsz, h1, hrel⟩ := tzero_rel hz w
    obtain ⟨hm, hk, L, hL, hver, hcr⟩ := hr.mem.get hg
    simp only at hk hver
    subst hk
    have hzv : ∀ (w : World) (F : Nat → Prop) (i : Nat) u, z.cells[i]? = some u → DRel w F zd u := by
      intro w' F i u hu
      have hi : i < zs.length := by
        have := (Array.getElem?_eq_some_iff.1 hu).1
        omega
      have h3 := hrel φ w (fun _ => False) i zs[i] u (by simp [hi]) hu
      rw [isZ_eq (List.all_eq_true.1 hall _ (List.getElem_mem hi))] at h3
      cases h3 with
      | d _ _ h4 =>
        obtain ⟨v1, q1, _, q2⟩ := hzd w (fun _ => False)
        obtain ⟨v2, q3, _, q4⟩ := hzd w' F
        cases tz with
        | int k => cases htz; cases h4; exact .int k 0
        | bool => cases htz; cases h4; exact .bool false
        | _ => cases htz
    obtain ⟨φ', hm', hk', hφk, hφo⟩ := hr.mem.fresh (e := ⟨keyOf o, v, cont⟩) hm hL hver w rfl rfl rfl rfl z.cells t 1 n (.vec 1 (List.replicate n zd)) (fun φ' hle hav hdr hnew => by
      refine ⟨rfl, by simp, fun d hd => by rw [(List.mem_replicate.1 hd).2]; exact hzs1, fun _ => ⟨z.cells, t, RowAt.new hnew, by simp [hsz, hn], h1, fun i d hd => ?_⟩⟩
      obtain ⟨hi, rfl⟩ := List.getElem?_eq_some_iff.1 hd
      simp at hi
      have hi2 : i < z.cells.size := by omega
      have h5 := fun w F => hzv w F i z.cells[i] (by simp [hi2])
      have h6 := (h5 w (fun _ => False)).size
      rw [hzs1] at h6
      refine ⟨z.cells[i], by simp; exact h5 _ _, fun j c hj => ?_⟩
      have hj0 : j = 0 := by
        have := (Array.getElem?_eq_some_iff.1 hj).1
        omega
      subst hj0
      rw [cells_of_cell1 (h1 _ (by simp))] at hj
      simp at hj
      subst hj
      simp [hi2])
    refine ⟨.pointer (some ⟨w.heap.size, 0, none⟩), _, φ', .inl ?_, ?_, hm', hk', hφo⟩
    · simp [execOp, ho, Instr.alloc, newVar, run_newRow, hrun]
    · exact .eptr _ (v + 1) 0 0 _ _ hφk (Nat.le_refl _) (fun _ => by simp) rfl
  · trivial
theorem allocR_ok (P : Program) (S : St) (o : Oper) (t : TypeId) (ho : o.op = .alloc t) : ResOk P S o (allocR P S.mem (keyOf o) t) := by
  unfold allocR
  split
  · rename_i zs hz
    split
    · split
      · rename_i hzd; exact arr_ok P S o t ho _ _ _ hzd zs hz
      · exact alloc_ok P S o t ho zs hz
    · exact alloc_ok P S o t ho zs hz
  · trivial

/-- A row of bytes that is marked as a text's: it stays what it is. -/
def convM (P : Program) (m : Mem) (k0 : Nat) (src dst : TypeId) (x : AV) : Res :=
  match x with
  | .vec k ver off len => match tk P dst with
    | .slice e => match decide (src = dst), tk P e, Mem.get m k with
      | true, .int .u8, some ⟨_, v, .vec sz rows⟩ => .upd (decide (v = ver ∧ 0 < len)) (.vec k ver off len) ⟨k, ver, .vec sz rows⟩
      | _, _, _ => .no
    | _ => convR P m k0 src dst (.vec k ver off len)
  | x => convR P m k0 src dst x
theorem convM_ok (P : Program) (S : St) (o : Oper) (src dst : TypeId) (x : Operand) (ho : o.op = .convert src dst x) (hx : (S.opd x).1 = true) : ResOk P S o (convM P S.mem (keyOf o) src dst (S.opd x).2) := by
  unfold convM
  split
  · rename_i k ver off len hxv
    split
    · rename_i e hd
      split
      · rename_i key v sz rows hsd htk hg
        refine ResOk.updI ?_
        rintro ⟨rfl, hlen⟩ φ G a w hr
        have hsd : src = dst := of_decide_eq_true hsd
        subst hsd
        obtain ⟨hm, hk, L, hL, hver, hcr⟩ := hr.mem.get hg
        simp only at hk hver
        subst hk
        have hv := hr.opd x hx
        rw [hxv] at hv
        have hv0 := hv
        generalize hev : a.eval x = xv at hv hv0
        cases hv with
        | vec _ _ _ _ _ L' hL' _ h h1c =>
          rw [hL] at hL'; cases hL'
          obtain ⟨ao, cap, rfl, hlc, hpl⟩ := h hver.symm
          obtain ⟨rfl, hcap⟩ := hpl (by omega)
          have hc0 : 0 < L.cap := by omega
          obtain ⟨hLs, hcl, hrs, hrow⟩ := hcr
          obtain ⟨arr, elem, ⟨fr, hh, hfr⟩, hasz, ha1, hrel⟩ := hrow hc0
          obtain ⟨w', hw'⟩ : ∃ w', w' = w.freeze ⟨L.blk, arr.size, none⟩ 1 := ⟨_, rfl⟩
          have hnew : RowAt w' L.blk arr elem := by
            obtain ⟨lo, hi⟩ := fr
            rw [hw']
            by_cases he : lo = hi
            · refine ⟨(arr.size, arr.size + 1), ?_, .inr (Nat.le_refl _)⟩
              simp [World.freeze, Array.getElem?_modify, hh, he]
            · refine ⟨(min lo arr.size, max hi (arr.size + 1)), ?_, ?_⟩
              · simp [World.freeze, Array.getElem?_modify, hh, he]
              · right
                rcases hfr with h | h
                · cases h; exact absurd rfl he
                · simp only at h ⊢; omega
          have hold : ∀ b, b ≠ L.blk → w'.heap[b]? = w.heap[b]? := by
            intro b hb
            rw [hw']
            simp only [World.freeze, Nat.one_ne_zero, if_false, Array.getElem?_modify]
            rw [if_neg (fun e => hb e.symm)]
          have hsz' : w'.heap.size = w.heap.size := by rw [hw']; simp [World.freeze]
          have hos : w'.os = w.os := by rw [hw']; simp [World.freeze]
          have htp : w'.tape = w.tape := by rw [hw']; simp [World.freeze]
          have hou : w'.output = w.output := by rw [hw']; simp [World.freeze]
          have hin : Fo G φ S.mem L.blk := .inr ⟨_, hm, L, hL, hc0, rfl⟩
          obtain ⟨φ', hm', hk', hφk, hφo⟩ := hr.mem.upd (e := ⟨key, v, .vec sz rows⟩) (e' := ⟨key, v, .vec sz rows⟩) hm hL rfl (L' := L) (Nat.le_refl _) (fun _ => rfl) hver
            (w' := w') (fun b _ hn => hold b (fun he => hn ⟨hc0, he⟩)) (by omega) (fun ho => .inl ⟨ho, rfl⟩) hos htp hou (fun φ' hφ' hle' => by
              have hF : ∀ b, Fo G φ' (Mem.set S.mem ⟨key, v, .vec sz rows⟩) b → Fo G φ S.mem b := by
                rintro b (hG | ⟨y, hy, Ly, hLy, hoy, rfl⟩)
                · exact .inl hG
                · right
                  rcases (Mem.mem_set hr.mem.nodup).1 hy with ⟨rfl, _⟩ | ⟨hym, hne⟩
                  · rw [hφ'] at hLy; simp at hLy; subst hLy; exact ⟨_, hm, L, hL, hoy, rfl⟩
                  · simp only at hne
                    rw [hφ'] at hLy; simp [hne] at hLy
                    exact ⟨y, hym, Ly, hLy, hoy, rfl⟩
              exact ⟨hLs, hcl, hrs, fun _ => ⟨arr, elem, hnew, hasz, ha1, fun i d hd => let ⟨u, hu, hj⟩ := hrel i d hd
                ⟨u, hu.mono (fun b _ hn => hold b (fun he => hn (he ▸ hin))) (by omega) (fun b _ => hF b), hj⟩⟩⟩)
          refine ⟨.slice (some ⟨L.blk, L.base + off * L.sz, none⟩) len cap, w', φ', .inl ?_, .vec key v off len _ L hφk (Nat.le_of_eq hver.symm) (fun _ => ⟨_, _, rfl, hlc, hpl⟩) h1c, hm', hk', hφo⟩
          have hsh : w.shape? L.blk = some (elem, arr.size) := by simp [World.shape?, hh]
          have hmk : (markStringish ⟨L.blk, L.base + off * L.sz, none⟩).run P w = .ok () w' := by
            simp only [markStringish, shape, Sem.run_bind, Sem.run, hsh, Result.andThen_ok, freeze, hw']
          simp [execOp, ho, hev, convert, run_underlying (tk_slice hd), run_underlying (tk_int htk), Sem.run_bind, hmk]
      · trivial
    · rw [← hxv]; exact conv_ok P S o src dst x ho hx
  · exact conv_ok P S o src dst x ho hx
def stepv (P : Program) (S : St) (o : Oper) : Res :=
  match o.op with
  | .move x => moveR P S.mem (keyOf o) o.type (S.opd x).2
  | .assign x => moveR P S.mem (keyOf o) o.type (S.opd x).2
  | .pick c a b => pickR (S.opd c) (S.opd a) (S.opd b)
  | .alloc t => allocR P S.mem (keyOf o) t
  | .box _ x => boxR S.mem (keyOf o) (S.opd x).2.solid (S.opd x).2.cells
  | .load t x => loadR P S.mem t (S.opd x).2
  | .store t p x => storeR P S.mem t (S.opd p).2 (S.opd x).2
  | .fieldAddr s x f => fieldRm P S.mem s f (S.opd x).2
  | .nilCheck x => nilCheckR S.mem (S.opd x).2
  | .indexAddr t x i => indexR P S.mem t (S.opd x).2 (S.opd i).2
  | .index t x i => indexVR P t (S.opd x).2 (S.opd i).2
  | .slice t x lo hi none => sliceR P S.mem t (S.opd x).2 (lo.map fun y => (S.opd y).2) (hi.map fun y => (S.opd y).2)
  | .binOp op t x y _ => binOpR P S op t x y
  | .unOp op _ x => unR op (S.opd x).2
  | .convert s d x => convM P S.mem (keyOf o) s d (S.opd x).2
  | .makeInterface t x => makeIfaceR P t (S.opd x).2
  | .makeFunc f first cap => makeFuncR f first (cap.toList.map fun x => (S.opd x).2)
  | .makeSlice t l c => makeR P S.mem (keyOf o) t (S.opd l).2 (S.opd c).2
  | .build t ps => buildR P t (ps.toList.map fun x => (x.1, (S.opd x.2).2))
  | .buildSlice t len ps => buildSliceR P S.mem (keyOf o) t len (ps.toList.map fun x => (x.1, (S.opd x.2).2))
  | .extract x i => extractR i (S.opd x).2
  | .call { callee := .builtin b, args, argTypes } => builtinR P S o b args.toList argTypes.toList
  | _ => .no

theorem stepv_ok (P : Program) (S : St) (o : Oper) (h : opOk S o = true) : ResOk P S o (stepv P S o) := by
  unfold opOk at h
  unfold stepv
  have one : ∀ {l : List Operand}, okAll S l = true → ∀ x ∈ l, (S.opd x).1 = true := okAll_mem
  split
  · rename_i x ho; simp only [ho] at h; exact moveR_ok P S o x (.inl ho) (one h x (by simp [Op.operands]))
  · rename_i x ho; simp only [ho] at h; exact moveR_ok P S o x (.inr ho) (one h x (by simp [Op.operands]))
  · rename_i c a b ho; exact pick_ok P S o c a b ho
  · rename_i t ho; exact allocR_ok P S o t ho
  · rename_i t x ho; simp only [ho] at h; exact box_ok P S o t x ho (one h x (by simp [Op.operands]))
  · rename_i t x ho; simp only [ho] at h; exact (load_ok P S o t x ho (one h x (by simp [Op.operands]))).res
  · rename_i t p x ho; simp only [ho] at h; exact store_ok P S o t p x ho (one h p (by simp [Op.operands])) (one h x (by simp [Op.operands]))
  · rename_i s x f ho; simp only [ho] at h; exact field_ok P S o s x f ho (one h x (by simp [Op.operands]))
  · rename_i x ho; simp only [ho] at h; exact nilCheck_ok P S o x ho (one h x (by simp [Op.operands]))
  · rename_i t x i ho; simp only [ho] at h; exact index_ok P S o t x i ho (one h x (by simp [Op.operands])) (one h i (by simp [Op.operands]))
  · rename_i t x i ho; simp only [ho] at h; exact indexV_ok P S o t x i ho (one h x (by simp [Op.operands])) (one h i (by simp [Op.operands]))
  · rename_i t x lo hi ho; simp only [ho] at h
    exact slice_ok P S o t x lo hi ho (one h x (by simp [Op.operands])) (fun y hy => one h y (by simp [Op.operands, hy])) (fun y hy => one h y (by simp [Op.operands, hy]))
  · rename_i op t x y t' ho; simp only [ho] at h; exact binOpR_ok P S o op t t' x y ho (one h x (by simp [Op.operands])) (one h y (by simp [Op.operands]))
  · rename_i op t x ho; simp only [ho] at h; exact un_ok P S o op t x ho (one h x (by simp [Op.operands]))
  · rename_i s d x ho; simp only [ho] at h; exact convM_ok P S o s d x ho (one h x (by simp [Op.operands]))
  · rename_i t x ho; simp only [ho] at h; exact makeIface_ok P S o t x ho (one h x (by simp [Op.operands]))
  · rename_i f first cap ho; simp only [ho] at h; exact makeFunc_ok P S o f first cap ho (fun x hx => one h x (by simp [Op.operands]; right; simpa using hx))
  · rename_i t l c ho; simp only [ho] at h; exact make_ok P S o t l c ho (one h l (by simp [Op.operands])) (one h c (by simp [Op.operands]))
  · rename_i t ps ho; simp only [ho] at h; exact build_ok P S o t ps ho (fun x hx => one h x.2 (by simp only [Op.operands, List.toList_toArray, List.mem_map]; exact ⟨x, hx, rfl⟩))
  · rename_i t len ps ho; simp only [ho] at h; exact buildSlice_ok P S o t len ps ho (fun x hx => one h x.2 (by simp only [Op.operands, List.toList_toArray, List.mem_map]; exact ⟨x, hx, rfl⟩))
  · rename_i x i ho; simp only [ho] at h; exact extract_ok P S o x i ho (one h x (by simp [Op.operands]))
  · rename_i b args ts ho
    simp only [ho] at h
    have ha : ∀ x ∈ args.toList, (S.opd x).1 = true := fun x hx => one h x (by simp [Op.operands, Call.operands]; simpa using hx)
    have hargs : ∀ {l : List Operand}, args.toList = l → args = l.toArray := fun h => by rw [← h]
    have hts : ∀ {l : List TypeId}, ts.toList = l → ts = l.toArray := fun h => by rw [← h]
    unfold builtinR
    split
    · rename_i x t h1 h2; rw [hargs h1, hts h2] at ho; exact len_ok P S o x t ho (ha x (by simp [h1]))
    · rename_i s x t u h1 h2; rw [hargs h1, hts h2] at ho; exact fzRes_ok <| app_ok P S o s x t u ho (ha s (by simp [h1])) (ha x (by simp [h1]))
    · rename_i s x t u h1 h2; rw [hargs h1, hts h2] at ho; exact copy_ok P S o s x t u ho (ha s (by simp [h1])) (ha x (by simp [h1]))
    · exact max_ok P S o true args ts (by simpa using ho) ha
    · exact max_ok P S o false args ts (by simpa using ho) ha
    · trivial
  · trivial

/- Exits. -/
inductive XE where
  | normal
  | exit (id : Nat)
  | ret
  | panic (t : TypeId) (x : D)

def Post (n : Nat) (φ : Phi) (G : Nat → Prop) (m : Mem) (w : World) (Q : XE → St → Prop) : Exit → Act → World → Prop
  | .normal, a', w' => ∃ φ' S', S'.n = n ∧ Q .normal S' ∧ Rel φ' G S' a' w' ∧ Keeps φ m w φ' S'.mem w'
  | .exit id, a', w' => ∃ φ' S', S'.n = n ∧ Q (.exit id) S' ∧ Rel φ' G S' a' w' ∧ Keeps φ m w φ' S'.mem w'
  | .ret, a', w' => ∃ φ' S', S'.n = n ∧ Q .ret S' ∧ Rel φ' G S' a' w' ∧ Keeps φ m w φ' S'.mem w'
  | .panic chain, a', w' => ∃ φ' S' t x v, chain = [{ v := .iface t v, recovered := false }] ∧ DRel w' (Fo G φ' S'.mem) x v ∧ S'.n = n ∧ Q (.panic t x) S' ∧ Rel φ' G S' a' w' ∧ Keeps φ m w φ' S'.mem w'
  | _, _, _ => False

theorem Post.weaken {n φ G m w Q φ1 m1 w1 e a' w'} (hk : Keeps φ m w φ1 m1 w1) (h : Post n φ1 G m1 w1 Q e a' w') : Post n φ G m w Q e a' w' := by
  cases e with
  | normal => obtain ⟨φ', S', h0, h1, h2, h3⟩ := h; exact ⟨φ', S', h0, h1, h2, hk.trans h3⟩
  | exit id => obtain ⟨φ', S', h0, h1, h2, h3⟩ := h; exact ⟨φ', S', h0, h1, h2, hk.trans h3⟩
  | ret => obtain ⟨φ', S', h0, h1, h2, h3⟩ := h; exact ⟨φ', S', h0, h1, h2, hk.trans h3⟩
  | panic chain => obtain ⟨φ', S', t, x, v, hc, hd, h0, h1, h2, h3⟩ := h; exact ⟨φ', S', t, x, v, hc, hd, h0, h1, h2, hk.trans h3⟩
  | _ => exact h.elim

theorem Post.mono {n φ G m w Q Q' e a' w'} (hq : ∀ e S, Q e S → Q' e S) (h : Post n φ G m w Q e a' w') : Post n φ G m w Q' e a' w' := by
  cases e with
  | normal => obtain ⟨φ', S', h0, h1, h2⟩ := h; exact ⟨φ', S', h0, hq _ _ h1, h2⟩
  | exit id => obtain ⟨φ', S', h0, h1, h2⟩ := h; exact ⟨φ', S', h0, hq _ _ h1, h2⟩
  | ret => obtain ⟨φ', S', h0, h1, h2⟩ := h; exact ⟨φ', S', h0, hq _ _ h1, h2⟩
  | panic chain => obtain ⟨φ', S', t, x, v, hc, hd, h0, h1, h2⟩ := h; exact ⟨φ', S', t, x, v, hc, hd, h0, hq _ _ h1, h2⟩
  | _ => exact h.elim

/-- From the state S the code ends as Q says. -/
def Tri (P : Program) (c : Code) (S : St) (Q : XE → St → Prop) : Prop :=
  ∀ φ G a w, Rel φ G S a w → c.wp P (Post S.n φ G S.mem w Q) a w

def grd (all : List Oper) (S : St) (j : Nat) : Option (Bool × AV) :=
  match all[j]? with
  | some o => match o.dst with
    | some t => Env.lk S.env t
    | none => none
  | none => none

/-- Every operation writes a slot that there is. -/
def dstsOk (n : Nat) (ops : List Oper) : Bool := ops.all fun o => match o.dst with | some t => decide (t < n) | none => true

theorem put_n (S : St) (d g x) : (S.put d g x).n = S.n := by cases d <;> rfl
theorem put_mem (S : St) (d g x) : (S.put d g x).mem = S.mem := by cases d <;> rfl

theorem Ran.step {P : Program} {o : Oper} {a : Act} {w w' : World} {v : Value} {next R} (h : Ran P o a w v w') (hn : next (a.put o.dst v) w') : o.wp P a w next R := by
  unfold Oper.wp
  rcases h with h | ⟨h, rfl⟩ <;> rw [h] <;> exact hn

theorem Rel.grow {φ G S a w w'} (h : Rel φ G S a w) (hold : ∀ b, b < w.heap.size → w'.heap[b]? = w.heap[b]?) (hs : w.heap.size ≤ w'.heap.size) : Rel φ G S a w' :=
  ⟨h.size, h.defers, fun t x hx => (h.env t x hx).mono (Phi.le_refl _) (fun b hb _ => hold b hb) hs (fun _ _ h => h), h.mem.grow hold hs, h.glob.mono (fun b hb _ => hold b hb) hs (fun _ _ h => h)⟩

theorem val_step {P : Program} {S : St} {o : Oper} {c : Bool} {x : AV} {gb : Bool} (hr : ResOk P S o (.val c x)) (hc : c = true) {φ G a w} (h : Rel φ G S a w) (hd : ∀ t, o.dst = some t → t < S.n) {next : Act → World → Prop} {R}
    (hn : ∀ a' w', Rel φ G (S.put o.dst gb x) a' w' → Keeps φ S.mem w φ S.mem w' → next a' w') : o.wp P a w next R := by
  obtain ⟨v, w', hran, hav, hold, hs, hos, ht, hout⟩ := hr hc φ G a w h
  exact hran.step (hn _ _ ((h.grow hold hs).put o.dst hd gb x v (fun _ => hav)) (Keeps.grow hold hs hos ht hout))
theorem upd_step {P : Program} {S : St} {o : Oper} {c : Bool} {x : AV} {e : Ent} (hr : ResOk P S o (.upd c x e)) (hc : c = true) {φ G a w} (h : Rel φ G S a w) (hd : ∀ t, o.dst = some t → t < S.n) {next : Act → World → Prop} {R}
    (hn : ∀ φ' a' w', Rel φ' G (({ S with mem := Mem.set S.mem e } : St).put o.dst true x) a' w' → Keeps φ S.mem w φ' (Mem.set S.mem e) w' → next a' w') : o.wp P a w next R := by
  obtain ⟨v, w', φ', hran, hav, hm, hk, _⟩ := hr hc φ G a w h
  exact hran.step (hn φ' _ _ ((h.turn hm hk).put o.dst hd true x v (fun _ => hav)) hk)

theorem grd_yield {all : List Oper} {S : St} {j : Nat} {b : Bool} {φ G a w} (h : Rel φ G S a w) (hg : grd all S j = some (true, .d (.bool b))) : yielded all.toArray a.tmps j = some b := by
  unfold grd at hg
  split at hg
  · rename_i o ho
    split at hg
    · rename_i t ht
      have := bool_of (h.env t _ hg)
      unfold yielded
      simp only [List.getElem?_toArray, ho, Option.bind_some, ht]
      rw [Array.getD_eq_getD_getElem?] at this
      cases hq : a.tmps[t]? with
      | none => simp [hq, undef] at this
      | some v => simp [hq] at this; simp [this]
    · cases hg
  · cases hg

/- Rules. -/
section
variable {P : Program} {S : St} {Q : XE → St → Prop}

theorem Tri.mono {c : Code} {Q' : XE → St → Prop} (h : Tri P c S Q) (hq : ∀ e S, Q e S → Q' e S) : Tri P c S Q' :=
  fun φ G a w hr => wp_mono (h φ G a w hr) fun _ _ _ hp => hp.mono hq

/-- Only what is kept. -/
def St.prune (S : St) (keep : List Nat) : St := { S with env := keep.filterMap fun t => (Env.lk S.env t).map fun x => (t, x) }

theorem lk_filterMap (env : Env) : ∀ (keep : List Nat) (t : Nat) (x : Bool × AV), Env.lk (keep.filterMap fun t => (Env.lk env t).map fun x => (t, x)) t = some x → Env.lk env t = some x
  | [], t, x, h => by simp [Env.lk] at h
  | k :: r, t, x, h => by
    simp only [List.filterMap_cons] at h
    cases hk : Env.lk env k with
    | none => simp [hk] at h; exact lk_filterMap env r t x h
    | some y =>
      simp only [hk, Option.map_some, Env.lk] at h
      by_cases hkt : k = t
      · subst hkt; simp at h; subst h; exact hk
      · simp [hkt] at h; exact lk_filterMap env r t x h

theorem Rel.prune {φ G a w} (h : Rel φ G S a w) (keep : List Nat) : Rel φ G (S.prune keep) a w :=
  ⟨h.size, h.defers, fun t x hx => h.env t x (lk_filterMap _ _ _ _ hx), h.mem, h.glob⟩

theorem tri_seq {x y : Code} (h : Tri P x S fun e S' => match e with | .normal => Tri P y S' Q | e => Q e S') : Tri P (.seq x y) S Q := by
  intro φ G a w hr
  refine wp_seq (wp_mono (h φ G a w hr) fun e a' w' hp => ?_)
  cases e with
  | normal =>
    obtain ⟨φ', S', hn, h1, h2, h3⟩ := hp
    exact wp_mono (h1 φ' G a' w' h2) fun e a2 w2 hp2 => by rw [hn] at hp2; exact hp2.weaken h3
  | _ => exact hp

theorem tri_cond {c : Operand} {x y : Code} {b : Bool} (hc : S.opd c = (true, .d (.bool b))) (ht : b = true → Tri P x S Q) (hf : b = false → Tri P y S Q) : Tri P (.cond c x y) S Q := by
  intro φ G a w hr
  have hv := hr.opd c (by rw [hc])
  rw [hc] at hv
  have e := bool_of hv
  cases b
  · exact wp_cond_false e (hf rfl φ G a w hr)
  · exact wp_cond_true e (ht rfl φ G a w hr)

theorem tri_skip (h : Q .normal S) : Tri P .skip S Q := fun φ _ _ _ hr => wp_skip ⟨φ, S, rfl, h, hr, Keeps.refl ..⟩
theorem tri_ret (h : Q .ret S) : Tri P .ret S Q := fun φ _ _ _ hr => wp_ret ⟨φ, S, rfl, h, hr, Keeps.refl ..⟩
theorem tri_exit {id : Nat} (h : Q (.exit id) S) : Tri P (.exit id) S Q := fun φ _ _ _ hr => wp_exit ⟨φ, S, rfl, h, hr, Keeps.refl ..⟩
theorem tri_block {id : Nat} {c : Code} (h : Tri P c S fun e S' => match e with | .exit id' => if id' = id then Q .normal S' else Q (.exit id') S' | e => Q e S') : Tri P (.block id c) S Q := by
  intro φ G a w hr
  refine wp_block (wp_mono (h φ G a w hr) fun e a' w' hp => ?_)
  cases e with
  | exit id' =>
    obtain ⟨φ', S', hn, h1, h2, h3⟩ := hp
    simp only [Exit.inBlock]
    by_cases hid : id' = id
    · simp only [hid, if_true] at h1 ⊢
      exact ⟨φ', S', hn, h1, h2, h3⟩
    · simp only [hid, if_false] at h1 ⊢
      exact ⟨φ', S', hn, h1, h2, h3⟩
  | _ => exact hp

/-- A loop: what holds of the state at every round's head, with a measure. -/
theorem tri_loop {c : Code} {α : Type} (I : α → St) (J : α → Prop) (μ : α → Nat) (x0 : α) (hS : S = I x0) (h0 : J x0)
    (round : ∀ x, J x → Tri P c (I x) fun e S' => match e with | .normal => ∃ x', S' = I x' ∧ J x' ∧ μ x' < μ x | e => Q e S') : Tri P (.loop c) S Q := by
  intro φ G a w hr
  subst hS
  intro b k cs
  have key : ∀ n x φ1 a1 w1, μ x = n → J x → (I x).n = (I x0).n → Rel φ1 G (I x) a1 w1 → Keeps φ (I x0).mem w φ1 (I x).mem w1 →
      ∃ e a' w', Post (I x0).n φ G (I x0).mem w Q e a' w' ∧ Arrives P (lone (b.at a1 (.code c :: .inLoop c :: k)) cs w1) b k cs e a' w' := by
    intro n
    induction n using Nat.strongRecOn with
    | _ n ih =>
      intro x φ1 a1 w1 hn hJ hnn hr1 hk1
      obtain ⟨e, a2, w2, hp, harr⟩ := round x hJ φ1 G a1 w1 hr1 b (.inLoop c :: k) cs
      cases e with
      | normal =>
        obtain ⟨φ2, S2, hn2, ⟨x', rfl, hJ', hlt⟩, hr2, hk2⟩ := hp
        obtain ⟨e3, a3, w3, hp3, harr3⟩ := ih (μ x') (by omega) x' φ2 a2 w2 rfl hJ' (hn2.trans hnn) hr2 (hk1.trans hk2)
        exact ⟨e3, a3, w3, hp3, .of_steps (Steps.trans harr (.one step_inLoop)) harr3⟩
      | exit id => exact ⟨.exit id, a2, w2, by rw [hnn] at hp; exact Post.weaken (e := .exit id) hk1 hp, .pass (x := .inLoop c) rfl (fun _ _ => .inl (by simp)) harr⟩
      | goto l => exact hp.elim
      | ret => exact ⟨.ret, a2, w2, by rw [hnn] at hp; exact Post.weaken (e := .ret) hk1 hp, .pass (x := .inLoop c) rfl (fun _ _ => .inl (by simp)) harr⟩
      | panic ch => exact ⟨.panic ch, a2, w2, by rw [hnn] at hp; exact Post.weaken (e := .panic ch) hk1 hp, .pass (x := .inLoop c) rfl (fun _ _ => .inl (by simp)) harr⟩
      | outgrown => exact hp.elim
  obtain ⟨e, a', w', hq, harr⟩ := key _ x0 φ a w rfl h0 rfl hr (Keeps.refl ..)
  exact ⟨e, a', w', hq, .of_steps (.one step_loop) harr⟩
end
end Go.Am
end

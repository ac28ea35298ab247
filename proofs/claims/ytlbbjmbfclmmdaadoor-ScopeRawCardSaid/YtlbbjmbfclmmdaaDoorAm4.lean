/-
  The abstract machine, part 4: stores, new variables, append, copy, make.
-/
import Derived.Test.YtlbbjmbfclmmdaaDoorAm3
namespace Go.Am
open Go

def AV.solid : AV → Bool
  | .junk => false
  | .tup _ => false
  | _ => true

theorem AVRel.solid {φ w F x v} (h : AVRel φ w F x v) (hs : x.solid = true) : v.cells.size = x.cells.length ∧ ∀ u ∈ v.cells, cell1 u = true := by
  have one : ∀ {v : Value} {x : AV}, cell1 v = true → x.cells.length = 1 → v.cells.size = x.cells.length ∧ ∀ u ∈ v.cells, cell1 u = true := by
    intro v x h1 hl
    rw [cells_of_cell1 h1, hl]
    exact ⟨rfl, fun u hu => by simp at hu; subst hu; exact h1⟩
  cases h with
  | junk => simp [AV.solid] at hs
  | tup => simp [AV.solid] at hs
  | d x v h =>
    have hc := h.cells
    refine ⟨?_, hc.2.1⟩
    have := hc.1
    cases x <;> simp_all [AV.cells, D.cells]
  | agg cs a hl h1 hc => exact ⟨by simp [Value.cells, AV.cells, hl], h1⟩
  | ptr _ _ _ _ _ _ _ _ h1 => exact one h1 rfl
  | vec _ _ _ _ _ _ _ _ _ h1 => exact one h1 rfl
  | eptr _ _ _ _ _ _ _ _ _ h1 => exact one h1 rfl
  | rptr => exact one rfl rfl
  | fn => exact one rfl rfl
  | ifc => exact one rfl rfl
  | lit _ h1 => exact one h1 rfl
  | nn => exact one rfl rfl

def putCells {α : Type} (cs : List α) (off : Nat) (ys : List α) : List α :=
  match ys with
  | [y] => cs.set off y
  | ys => cs.take off ++ ys ++ cs.drop (off + ys.length)

theorem putCells_eq {α : Type} (cs : List α) (off : Nat) (ys : List α) (h : off + ys.length ≤ cs.length) : putCells cs off ys = cs.take off ++ ys ++ cs.drop (off + ys.length) := by
  unfold putCells
  split
  · rename_i y
    simp at h
    rw [List.set_eq_take_append_cons_drop, if_pos (by omega)]
    simp
  · rfl
theorem putCells_length {α : Type} (cs : List α) (off : Nat) (ys : List α) (h : off + ys.length ≤ cs.length) : (putCells cs off ys).length = cs.length := by
  rw [putCells_eq cs off ys h]; simp; omega
theorem putCells_get {α : Type} (cs : List α) (off : Nat) (ys : List α) (h : off + ys.length ≤ cs.length) (i : Nat) :
    (putCells cs off ys)[i]? = if i < off then cs[i]? else if i < off + ys.length then ys[i - off]? else cs[i]? := by
  rw [putCells_eq cs off ys h]
  by_cases h1 : i < off
  · rw [if_pos h1, List.append_assoc, List.getElem?_append_left (by simp; omega), List.getElem?_take, if_pos h1]
  · rw [if_neg h1, List.append_assoc, List.getElem?_append_right (by simp; omega)]
    simp only [List.length_take, Nat.min_eq_left (show off ≤ cs.length by omega)]
    by_cases h2 : i < off + ys.length
    · rw [if_pos h2, List.getElem?_append_left (by omega)]
    · rw [if_neg h2, List.getElem?_append_right (by omega), List.getElem?_drop]
      congr 1; omega

theorem putCells_rel {α β : Type} {R : α → β → Prop} {cs ys : List α} {vs us : List β} {off : Nat} (hl : cs.length = vs.length) (hl' : ys.length = us.length) (h : off + ys.length ≤ cs.length)
    (hc : ∀ (i : Nat) c v, cs[i]? = some c → vs[i]? = some v → R c v) (hy : ∀ (i : Nat) c v, ys[i]? = some c → us[i]? = some v → R c v) :
    ∀ (i : Nat) c v, (putCells cs off ys)[i]? = some c → (putCells vs off us)[i]? = some v → R c v := by
  intro i c v
  rw [putCells_get cs off ys h, putCells_get vs off us (by omega), ← hl']
  split
  · exact hc i c v
  · split
    · exact hy _ c v
    · exact hc i c v

theorem fo_bound {φ G m w} (h : MemRel φ G m w) : ∀ b, Fo G φ m b → b < w.heap.size := fun b hb => hb.elim (h.bound b) (fun ho => h.own_lt ho)

theorem setRow_other' (w : World) (g k : Nat) (cs : Array Value) (h : k ≠ g) : (w.setRow g cs).heap[k]? = w.heap[k]? := by
  simp only [World.setRow, Array.getElem?_modify]; rw [if_neg (fun e => h e.symm)]

/-- A store into an owned row: the world behind it, for any new content that fits. -/
theorem MemRel.storeL {φ G m w} (h : MemRel φ G m w) {e : Ent} (he : e ∈ m) {L : Loc} (hL : φ e.key = some L) (hver : L.ver = e.ver) (ho : e.cont.owns L) (arr' : Array Value)
    (L' : Loc) (hv : e.ver ≤ L'.ver) (hsame : L'.ver = L.ver → L' = L) (hb : L'.blk = L.blk) (c' : Cont)
    (hc : ∀ φ' : Phi, φ.le φ' → (∀ x v, AVRel φ w (Fo G φ m) x v → AVRel φ' (w.setRow L.blk arr') (Fo G φ' (Mem.set m ⟨e.key, L'.ver, c'⟩)) x v) →
      (∀ x v, DRel w (Fo G φ m) x v → DRel (w.setRow L.blk arr') (Fo G φ' (Mem.set m ⟨e.key, L'.ver, c'⟩)) x v) →
      ContRel φ' (w.setRow L.blk arr') (Fo G φ' (Mem.set m ⟨e.key, L'.ver, c'⟩)) L' c') :
    ∃ φ', MemRel φ' G (Mem.set m ⟨e.key, L'.ver, c'⟩) (w.setRow L.blk arr') ∧ Keeps φ m w φ' (Mem.set m ⟨e.key, L'.ver, c'⟩) (w.setRow L.blk arr') ∧ φ' e.key = some L' ∧ ∀ k, k ≠ e.key → φ' k = φ k := by
  have hown : Own φ m L.blk := ⟨e, he, L, hL, ho, rfl⟩
  refine h.upd (e' := ⟨e.key, L'.ver, c'⟩) he hL rfl (L' := L') (by rw [hver]; exact hv) hsame rfl
    (fun b hb hn => setRow_other' w L.blk b arr' (fun heq => hn ⟨ho, heq⟩)) (by simp) (fun _ => .inl ⟨ho, hb⟩) rfl rfl rfl ?_
  intro φ' hφ hle
  have hF : ∀ b, b < w.heap.size → Fo G φ' (Mem.set m ⟨e.key, L'.ver, c'⟩) b → Fo G φ m b := by
    rintro b hbl (hG | ⟨x, hx, Lx, hLx, hox, rfl⟩)
    · exact .inl hG
    · right
      rcases (Mem.mem_set h.nodup).1 hx with ⟨rfl, _⟩ | ⟨hxm, hne⟩
      · subst hφ; simp at hLx; subst hLx; exact ⟨e, he, L, hL, ho, hb.symm⟩
      · subst hφ; simp at hne; simp [hne] at hLx; exact ⟨x, hxm, Lx, hLx, hox, rfl⟩
  have hk : ∀ b, b < w.heap.size → ¬ Fo G φ m b → (w.setRow L.blk arr').heap[b]? = w.heap[b]? :=
    fun b hb hn => setRow_other' w L.blk b arr' (fun heq => hn (.inr (heq ▸ hown)))
  exact hc φ' hle (fun x v hx => hx.mono hle hk (by simp) hF) (fun x v hx => hx.mono hk (by simp) hF)
theorem MemRel.store {φ G m w} (h : MemRel φ G m w) {e : Ent} (he : e ∈ m) {L : Loc} (hL : φ e.key = some L) (hver : L.ver = e.ver) (ho : e.cont.owns L) (arr' : Array Value)
    (ver' : Nat) (hv : e.ver ≤ ver') (c' : Cont)
    (hc : ∀ φ' : Phi, φ.le φ' → (∀ x v, AVRel φ w (Fo G φ m) x v → AVRel φ' (w.setRow L.blk arr') (Fo G φ' (Mem.set m ⟨e.key, ver', c'⟩)) x v) →
      (∀ x v, DRel w (Fo G φ m) x v → DRel (w.setRow L.blk arr') (Fo G φ' (Mem.set m ⟨e.key, ver', c'⟩)) x v) →
      ContRel φ' (w.setRow L.blk arr') (Fo G φ' (Mem.set m ⟨e.key, ver', c'⟩)) { L with ver := ver' } c') :
    ∃ φ', MemRel φ' G (Mem.set m ⟨e.key, ver', c'⟩) (w.setRow L.blk arr') ∧ Keeps φ m w φ' (Mem.set m ⟨e.key, ver', c'⟩) (w.setRow L.blk arr') ∧ φ' e.key = some { L with ver := ver' } ∧ ∀ k, k ≠ e.key → φ' k = φ k :=
  h.storeL he hL hver ho arr' { L with ver := ver' } hv (fun hh => by simp at hh; cases L; simp_all) rfl c' hc

/-- A new block: the entry of a key is laid anew in it. -/
theorem MemRel.fresh {φ G m w} (h : MemRel φ G m w) {e : Ent} (he : e ∈ m) {L : Loc} (hL : φ e.key = some L) (hver : L.ver = e.ver) (w1 : World) (hw1 : w1.heap = w.heap) (hos : w1.os = w.os) (htp : w1.tape = w.tape) (hout : w1.output = w.output)
    (arr : Array Value) (elem : TypeId) (sz cap : Nat) (c' : Cont)
    (hc : ∀ φ' : Phi, φ.le φ' → (∀ x v, AVRel φ w (Fo G φ m) x v → AVRel φ' (w1.alloc (.cells arr elem)) (Fo G φ' (Mem.set m ⟨e.key, e.ver + 1, c'⟩)) x v) →
      (∀ x v, DRel w (Fo G φ m) x v → DRel (w1.alloc (.cells arr elem)) (Fo G φ' (Mem.set m ⟨e.key, e.ver + 1, c'⟩)) x v) →
      (w1.alloc (.cells arr elem)).heap[w.heap.size]? = some (.cells arr elem (0, 0)) →
      ContRel φ' (w1.alloc (.cells arr elem)) (Fo G φ' (Mem.set m ⟨e.key, e.ver + 1, c'⟩)) ⟨e.ver + 1, w.heap.size, sz, cap, 0⟩ c') :
    ∃ φ', MemRel φ' G (Mem.set m ⟨e.key, e.ver + 1, c'⟩) (w1.alloc (.cells arr elem)) ∧ Keeps φ m w φ' (Mem.set m ⟨e.key, e.ver + 1, c'⟩) (w1.alloc (.cells arr elem)) ∧
      φ' e.key = some ⟨e.ver + 1, w.heap.size, sz, cap, 0⟩ ∧ ∀ k, k ≠ e.key → φ' k = φ k := by
  have hold : ∀ b, b < w.heap.size → (w1.alloc (.cells arr elem)).heap[b]? = w.heap[b]? := fun b hb => by rw [RowKit.Below.heap_alloc w1 _ b (by rw [hw1]; exact hb), hw1]
  have hsz : w.heap.size ≤ (w1.alloc (.cells arr elem)).heap.size := by simp [hw1]
  refine h.upd (e' := ⟨e.key, e.ver + 1, c'⟩) he hL rfl (L' := ⟨e.ver + 1, w.heap.size, sz, cap, 0⟩) (by rw [hver]; simp) (fun hh => by simp [hver] at hh) rfl
    (fun b hb _ => hold b hb) hsz (fun _ => .inr (Nat.le_refl _)) hos htp hout ?_
  intro φ' hφ hle
  have hF : ∀ b, b < w.heap.size → Fo G φ' (Mem.set m ⟨e.key, e.ver + 1, c'⟩) b → Fo G φ m b := by
    rintro b hb (hG | ⟨x, hx, Lx, hLx, hox, rfl⟩)
    · exact .inl hG
    · right
      rcases (Mem.mem_set h.nodup).1 hx with ⟨rfl, _⟩ | ⟨hxm, hne⟩
      · subst hφ; simp at hLx; subst hLx; simp at hb
      · subst hφ; simp at hne; simp [hne] at hLx; exact ⟨x, hxm, Lx, hLx, hox, rfl⟩
  refine hc φ' hle (fun x v hx => hx.mono hle (fun b hb _ => hold b hb) hsz hF) (fun x v hx => hx.mono (fun b hb _ => hold b hb) hsz hF) ?_
  have := heap_alloc_new w1 (.cells arr elem)
  rwa [hw1] at this

/- Stores. -/
def D.setCells (r : D) (j : Nat) (y : D) : D := .agg (putCells r.cells j y.cells)
def storeR (P : Program) (m : Mem) (t : TypeId) (p x : AV) : Res :=
  match p with
  | .ptr k ver off => match Mem.get m k with
    | some ⟨_, v, .box cs⟩ => .upd (v = ver ∧ x.solid = true ∧ tsz P t = some x.cells.length ∧ off + x.cells.length ≤ cs.length) .junk ⟨k, ver, .box (putCells cs off x.cells)⟩
    | _ => .no
  | .eptr k ver i j => match Mem.get m k, x.norm with
    | some ⟨_, v, .vec sz rows⟩, .d y => match tk P t with
      | .struct => .upd (v = ver ∧ i < rows.length ∧ tsz P t = some sz ∧ y.size = sz ∧ j = 0) .junk ⟨k, ver, .vec sz (rows.set i y)⟩
      | _ => match sz with
        | 1 => .upd (v = ver ∧ i < rows.length ∧ tsz P t = some 1 ∧ y.size = 1 ∧ j = 0) .junk ⟨k, ver, .vec 1 (rows.set i y)⟩
        | sz => .upd (v = ver ∧ i < rows.length ∧ tsz P t = some y.size ∧ j + y.size ≤ sz ∧ (D.at rows i).flat = false) .junk ⟨k, ver, .vec sz (rows.set i ((D.at rows i).setCells j y))⟩
    | _, _ => .no
  | _ => .no

theorem store_row_rel {w w' : World} {F F' : Nat → Prop} {arr : Array Value} {rows : List D} {base sz cap i o : Nat} {us : List Value} {r' : D} {v' : Value} (hs : arr.size = base + cap * sz) (hcap : rows.length ≤ cap) (hi : i < rows.length)
    (ho : base + i * sz ≤ o) (hou : o + us.length ≤ base + i * sz + sz)
    (hrel : ∀ (n : Nat) (d : D), rows[n]? = some d → ∃ v, DRel w F d v ∧ ∀ (j : Nat) (c : Value), v.cells[j]? = some c → arr[base + n * sz + j]? = some c)
    (hsize : ∀ d ∈ rows, d.size = sz)
    (hm : ∀ x v, DRel w F x v → DRel w' F' x v) (hr' : DRel w' F' r' v') (hrs : r'.size = sz)
    (hv' : ∀ (j : Nat) (c : Value), v'.cells[j]? = some c → (putCells arr.toList o us)[base + i * sz + j]? = some c) :
    ∀ (n : Nat) (d : D), (rows.set i r')[n]? = some d → ∃ v, DRel w' F' d v ∧ ∀ (j : Nat) (c : Value), v.cells[j]? = some c → (putCells arr.toList o us).toArray[base + n * sz + j]? = some c := by
  have hin : base + i * sz + sz ≤ arr.size := by
    have : i * sz + sz ≤ cap * sz := by rw [← Nat.succ_mul]; exact Nat.mul_le_mul_right _ (by omega)
    omega
  intro n d hd
  by_cases hn : n = i
  · subst hn
    simp [hi] at hd
    subst hd
    exact ⟨v', hr', fun j c hj => by simpa using hv' j c hj⟩
  · rw [List.getElem?_set_ne (fun h => hn h.symm)] at hd
    obtain ⟨v, hv, hvc⟩ := hrel n d hd
    refine ⟨v, hm d v hv, fun j c hj => ?_⟩
    have hjs : j < sz := by
      have h1 := hv.size
      rw [hsize d (List.mem_of_getElem? hd)] at h1
      have := (Array.getElem?_eq_some_iff.1 hj).1
      omega
    rw [List.getElem?_toArray, putCells_get arr.toList o us (by simp; omega)]
    have key : ¬ (o ≤ base + n * sz + j ∧ base + n * sz + j < o + us.length) := by
      rintro ⟨h1, h2⟩
      rcases Nat.lt_or_gt_of_ne hn with hlt | hgt
      · have : n * sz + sz ≤ i * sz := by rw [← Nat.succ_mul]; exact Nat.mul_le_mul_right _ hlt
        omega
      · have : i * sz + sz ≤ n * sz := by rw [← Nat.succ_mul]; exact Nat.mul_le_mul_right _ hgt
        omega
    have hh := hvc j c hj
    split
    · simpa using hh
    · rw [if_neg (by omega)]; simpa using hh
theorem run_storeAt' {P : Program} {t : TypeId} {w : World} {b o : Nat} {arr : Array Value} {elem : TypeId} {v : Value} (hs : tsz P t = some v.cells.size)
    (hg : w.heap[b]? = some (.cells arr elem (0, 0))) (hl : o + v.cells.size ≤ arr.size) (h1 : ∀ x ∈ v.cells, cell1 x = true) :
    (Instr.storeAt t (.pointer (some ⟨b, o, none⟩)) v).run P w = .ok () (w.setRow b (putCells arr.toList o v.cells.toList).toArray) := by
  rw [run_storeAt hs hg hl h1, putCells_eq _ _ _ (by simpa using hl)]
  simp

theorem heap_setRow {w : World} {b : Nat} {arr : Array Value} {elem : TypeId} {fr} (hg : w.heap[b]? = some (.cells arr elem fr)) (arr' : Array Value) : (w.setRow b arr').heap[b]? = some (.cells arr' elem fr) := setRow_heap w b arr arr' elem fr hg

theorem mem_putCells {α : Type} {cs ys : List α} {off : Nat} {x : α} (h : off + ys.length ≤ cs.length) (hx : x ∈ putCells cs off ys) : x ∈ cs ∨ x ∈ ys := by
  rw [putCells_eq cs off ys h] at hx
  simp only [List.mem_append] at hx
  rcases hx with (hx | hx) | hx
  · exact .inl (List.mem_of_mem_take hx)
  · exact .inr hx
  · exact .inl (List.mem_of_mem_drop hx)

theorem store_ok (P : Program) (S : St) (o : Oper) (t : TypeId) (p x : Operand) (ho : o.op = .store t p x) (hp : (S.opd p).1 = true) (hx : (S.opd x).1 = true) : ResOk P S o (storeR P S.mem t (S.opd p).2 (S.opd x).2) := by
  have hrun : ∀ (a : Act) (w w' : World), (Instr.storeAt t (a.eval p) (a.eval x)).run P w = .ok () w' → Ran P o a w undef w' := by
    intro a w w' h
    exact .inr ⟨by simp [execOp, ho, h], rfl⟩
  unfold storeR
  split
  · rename_i k ver off hpv
    split
    · rename_i key v cs hg
      refine ResOk.updI ?_
      rintro ⟨rfl, hsol, hts, hle⟩ φ G a w hr
      have hv := hr.opd p hp
      have hxv := hr.opd x hx
      rw [hpv] at hv
      obtain ⟨hm, hk, L, hL, hver, arr, elem, hh, hsz, h1, hrel⟩ := hr.mem.get hg
      have e := hv.ptr_eq hL hver
      obtain ⟨hs1, hs2⟩ := hxv.solid hsol
      simp only at hk
      subst hk
      have hput : off + (a.eval x).cells.toList.length ≤ arr.toList.length := by simp only [Array.length_toList, hs1, hsz]; exact hle
      obtain ⟨φ', hm', hk', hφk, hφo⟩ := hr.mem.store (e := ⟨key, v, .box cs⟩) hm hL hver trivial (putCells arr.toList off (a.eval x).cells.toList).toArray v (Nat.le_refl _) (.box (putCells cs off (S.opd x).2.cells)) (fun φ' hle' hav hdr => by
        refine ⟨_, elem, heap_setRow hh _, ?_, ?_, ?_⟩
        · rw [putCells_length _ _ _ hle, ← hsz]
          show (putCells arr.toList off _).length = _
          rw [putCells_length _ _ _ hput]
          simp
        · intro u hu
          rcases mem_putCells hput (by simpa using hu) with hu | hu
          · exact h1 u (by simpa using hu)
          · exact hs2 u (by simpa using hu)
        · intro i c u hc hu
          refine hav c u ?_
          exact putCells_rel (vs := arr.toList) (us := (a.eval x).cells.toList) (by simp [hsz]) (by simpa using hs1.symm) hle (fun i c v h h' => hrel i c v h (by simpa using h'))
            (fun i c v h h' => hxv.cells hs2 hs1 i c v h (by simpa using h')) i c u hc (by simpa using hu))
      refine ⟨undef, _, φ', hrun a w _ ?_, .junk _, hm', hk', hφo⟩
      rw [e]
      exact run_storeAt' (by rw [hs1]; exact hts) hh (by omega) hs2
    · trivial
  · rename_i k ver i j hpv
    have vec : ∀ (c : Prop) [Decidable c] (sz : Nat) (rows : List D) (y r' : D) (v : Nat), Mem.get S.mem k = some ⟨k, v, .vec sz rows⟩ → (S.opd x).2.norm = .d y →
        (c → v = ver ∧ i < rows.length ∧ tsz P t = some y.size ∧ j + y.size ≤ sz ∧ ((D.at rows i).size = sz → r'.size = sz) ∧
          ∀ w F (u v : Value), (D.at rows i).size = sz → DRel w F (D.at rows i) v → DRel w F y u → ∃ v', DRel w F r' v' ∧ v'.cells.toList = putCells v.cells.toList j u.cells.toList) →
        ResOk P S o (.upd (decide c) .junk ⟨k, ver, .vec sz (rows.set i r')⟩) := by
      intro c _ sz rows y r' v hg hy hcc
      refine ResOk.updI fun hc φ G a w hr => ?_
      obtain ⟨rfl, hlt, hts, hj, hrs0, hmk⟩ := hcc hc
      have hv := hr.opd p hp
      have hxv := (hr.opd x hx).norm
      rw [hy] at hxv
      rw [hpv] at hv
      obtain ⟨hm, hk, L, hL, hver, hLsz, hcap, hrs, hrow⟩ := hr.mem.get hg
      have e := hv.eptr_eq hL hver
      have hcap0 : 0 < L.cap := by omega
      obtain ⟨arr, elem, hh, hsz, h1, hrel⟩ := hrow hcap0
      have hrs' : r'.size = sz := hrs0 (by rw [hrs _ (List.mem_of_getElem? (getD_at hlt)), hLsz])
      cases hxv with
      | d _ u hu =>
        generalize hev : a.eval x = u at hu
        have hus : u.cells.size = y.size := hu.size
        have hin : L.base + i * L.sz + L.sz ≤ arr.size := by
          have : i * L.sz + L.sz ≤ L.cap * L.sz := by rw [← Nat.succ_mul]; exact Nat.mul_le_mul_right _ (by omega)
          omega
        obtain ⟨rv, hrv, hrvc⟩ := hrel i _ (getD_at hlt)
        have hrvs : rv.cells.size = L.sz := by rw [hrv.size]; exact hrs _ (List.mem_of_getElem? (getD_at hlt))
        have hput : L.base + i * L.sz + j + u.cells.toList.length ≤ arr.toList.length := by simp [hus]; omega
        obtain ⟨φ', hm', hk', hφk, hφo⟩ := hr.mem.store (e := ⟨k, v, .vec sz rows⟩) hm hL hver hcap0 (putCells arr.toList (L.base + i * L.sz + j) u.cells.toList).toArray v (Nat.le_refl _) (.vec sz (rows.set i r')) (fun φ' hle' hav hdr => by
          refine ⟨hLsz, by simpa using hcap, ?_, fun _ => ⟨_, elem, heap_setRow hh _, ?_, ?_, ?_⟩⟩
          · intro d hd
            rcases List.mem_or_eq_of_mem_set hd with hd | rfl
            · exact hrs d hd
            · show _ = L.sz; rw [hLsz]; exact hrs'
          · show (putCells arr.toList _ _).length = _
            rw [putCells_length _ _ _ hput]
            simpa using hsz
          · intro z hz
            rcases mem_putCells hput (by simpa using hz) with hz | hz
            · exact h1 z (by simpa using hz)
            · exact hu.cells.2.1 z (by simpa using hz)
          · obtain ⟨v', hv', hvc'⟩ := hmk _ _ u rv (by rw [hrs _ (List.mem_of_getElem? (getD_at hlt)), hLsz]) (hdr _ _ hrv) (hdr _ _ hu)
            refine store_row_rel (F := Fo G φ S.mem) (base := L.base) (cap := L.cap) (sz := L.sz) hsz hcap hlt (by omega) (by simp [hus]; omega) hrel hrs hdr hv' (by rw [hrs', hLsz]) ?_
            intro q c hq
            have hq' : (putCells rv.cells.toList j u.cells.toList)[q]? = some c := by rw [← hvc']; simpa using hq
            have hql : q < L.sz := by
              have := (List.getElem?_eq_some_iff.1 hq').1
              rw [putCells_length _ _ _ (by simp [hus, hrvs]; omega)] at this
              simpa [hrvs] using this
            rw [putCells_get _ _ _ (by simp [hus, hrvs]; omega)] at hq'
            rw [putCells_get _ _ _ hput]
            by_cases h1 : q < j
            · rw [if_pos h1] at hq'; rw [if_pos (by omega)]
              simpa using hrvc q c (by simpa using hq')
            · rw [if_neg h1] at hq'; rw [if_neg (by omega)]
              by_cases h2 : q < j + u.cells.toList.length
              · rw [if_pos h2] at hq'; rw [if_pos (by omega)]
                rw [show L.base + i * L.sz + q - (L.base + i * L.sz + j) = q - j by omega]; exact hq'
              · rw [if_neg h2] at hq'; rw [if_neg (by omega)]
                simpa using hrvc q c (by simpa using hq'))
        refine ⟨undef, _, φ', hrun a w _ ?_, .junk _, hm', hk', hφo⟩
        rw [e, hev]
        exact run_storeAt' (by rw [hus]; exact hts) hh (by simpa using hput) hu.cells.2.1
    have whole : ∀ (y r : D), y.size = r.size → ∀ w F (u v : Value), DRel w F r v → DRel w F y u → ∃ v', DRel w F y v' ∧ v'.cells.toList = putCells v.cells.toList 0 u.cells.toList := by
      intro y r hyr w F u v hr hy
      refine ⟨u, hy, ?_⟩
      have h1 := hr.size
      have h2 := hy.size
      rw [putCells_eq _ _ _ (by simp; omega)]
      simp; omega
    split
    · rename_i key v sz rows y hg hy
      have hk : key = k := (Mem.get_mem hg).2
      subst hk
      split
      · exact vec _ sz rows y y v hg hy (fun ⟨h1, h2, h3, h4, h5⟩ => ⟨h1, h2, by rw [h4]; exact h3, by omega, fun _ => h4, by
          subst h5
          intro w F u v hs hr' hy'
          exact whole y _ (by rw [hs, h4]) w F u v hr' hy'⟩)
      · split
        · exact vec _ 1 rows y y v hg hy (fun ⟨h1, h2, h3, h4, h5⟩ => ⟨h1, h2, by rw [h4]; exact h3, by omega, fun _ => h4, by
            subst h5
            intro w F u v hs hr' hy'
            exact whole y _ (by rw [hs, h4]) w F u v hr' hy'⟩)
        · refine vec _ sz rows y _ v hg hy (fun ⟨h1, h2, h3, h4, h5⟩ => ⟨h1, h2, h3, h4, ?_, ?_⟩)
          · intro h6
            show (putCells _ _ _).length = sz
            rw [putCells_length _ _ _ (by rw [D.cells_length, D.cells_length, h6]; exact h4), D.cells_length, h6]
          · intro w F u v hs hr' hy'
            obtain ⟨ra, rfl⟩ := agg_of_flat hr' h5
            have hcr := hr'.cells
            have hcy := hy'.cells
            have hl : j + y.cells.length ≤ (D.at rows i).cells.length := by rw [D.cells_length, D.cells_length, hs]; exact h4
            refine ⟨.agg (putCells ra.toList j u.cells.toList).toArray, .ofCells ?_ ?_ ?_, by simp [Value.cells]⟩
            · have h6 := hcr.1
              simp only [Value.cells] at h6
              rw [putCells_length _ _ _ hl, putCells_length _ _ _ (by rw [hcy.1, h6]; exact hl), ← h6]
            · intro z hz
              have h6 := hcr.1
              simp only [Value.cells] at h6
              rcases mem_putCells (by rw [hcy.1, h6]; exact hl) hz with hz | hz
              · exact hcr.2.1 z (by simpa [Value.cells] using hz)
              · exact hcy.2.1 z (by simpa using hz)
            · exact putCells_rel (by simpa [Value.cells] using hcr.1.symm) (by simpa using hcy.1.symm) hl (fun i c v h h' => (hcr.2.2 i c v h (by simpa [Value.cells] using h')).1) (fun i c v h h' => (hcy.2.2 i c v h (by simpa using h')).1)
    · trivial
  · trivial
end Go.Am

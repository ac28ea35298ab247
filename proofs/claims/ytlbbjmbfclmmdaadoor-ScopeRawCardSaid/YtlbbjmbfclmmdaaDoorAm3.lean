/-
  The abstract machine, part 3: what single operations do: loads, stores, new variables.
-/
import Derived.Test.YtlbbjmbfclmmdaaDoorAm2
namespace Go.Am
open Go

theorem oneCell_of_cell1 {v : Value} (h : cell1 v = true) : v.oneCell' = true := by cases v <;> simp_all [cell1, Value.oneCell']

inductive TK where
  | int (k : IntKind)
  | bool
  | str
  | slice (e : TypeId)
  | arr (n : Nat) (e : TypeId)
  | struct
  | iface
  | ptr (e : TypeId)
  | func
  | other
  deriving DecidableEq

def tk (P : Program) (t : TypeId) : TK :=
  match P.underlying t with
  | some (.int k) => .int k
  | some .bool => .bool
  | some .string => .str
  | some (.slice e) => .slice e
  | some (.array n e) => .arr n e
  | some (.struct _) => .struct
  | some (.interface _) => .iface
  | some (.pointer e) => .ptr e
  | some (.func _ _ _) => .func
  | _ => .other
def tsz (P : Program) (t : TypeId) : Option Nat := (P.info? t).map (·.size)
def foff (P : Program) (s : TypeId) (f : Nat) : Option Nat :=
  match P.underlying s with
  | some (.struct fs) => match fs[f]? with
    | some fl => match P.info? fl.type with
      | some i => if i.size = 0 then none else some fl.offset
      | none => none
    | none => none
  | _ => none
def TK.agg : TK → Bool
  | .arr _ _ => true
  | .struct => true
  | _ => false

theorem run_isAgg {P : Program} {t : TypeId} {w : World} (h : tk P t ≠ .other) : (isAgg t).run P w = .ok (tk P t).agg w := by
  unfold isAgg
  cases hu : P.underlying t with
  | none => simp [tk, hu] at h
  | some d =>
    rw [Sem.run_bind, run_underlying hu]
    cases d <;> simp_all [tk, TK.agg]
theorem run_sizeOf {P : Program} {t : TypeId} {n : Nat} {w : World} (h : tsz P t = some n) : (sizeOf t).run P w = .ok n w := by
  unfold tsz at h
  cases hi : P.info? t with
  | none => simp [hi] at h
  | some i => simp [hi] at h; simp [sizeOf, typeInfo, hi, h]

theorem add_none (b o j : Nat) : (⟨b, o, none⟩ : Addr).add j = ⟨b, o + j, none⟩ := by unfold Addr.add; split <;> simp_all

theorem run_load1 {P : Program} {t : TypeId} {w : World} {a : Addr} {v : Value} (ha : (tk P t).agg = false) (ho : tk P t ≠ .other) (hc : w.cell? a = some v) :
    (Instr.loadAt t (.pointer (some a))).run P w = .ok v w := by
  simp [Instr.loadAt, Instr.sureAddr, loadVar, Sem.run_bind, run_isAgg ho, ha, load, Sem.run, hc]
theorem run_loadN {P : Program} {t : TypeId} {w : World} {b o : Nat} {vs : List Value} (ha : (tk P t).agg = true) (hs : tsz P t = some vs.length)
    (hc : ∀ j v, vs[j]? = some v → w.cell? ⟨b, o + j, none⟩ = some v) :
    (Instr.loadAt t (.pointer (some ⟨b, o, none⟩))).run P w = .ok (.agg vs.toArray) w := by
  have ho : tk P t ≠ .other := by intro h; rw [h] at ha; cases ha
  have hl := run_loadCells_list (P := P) w ⟨b, o, none⟩ vs (fun j v h => by rw [add_none]; exact hc j v h)
  simp [Instr.loadAt, Instr.sureAddr, loadVar, Sem.run_bind, run_isAgg ho, ha, run_sizeOf hs, hl]

/-- A store of a value of n cells into a row that is known. -/
theorem run_storeAt {P : Program} {t : TypeId} {w : World} {b o : Nat} {arr : Array Value} {elem : TypeId} {v : Value} (hs : tsz P t = some v.cells.size)
    (hg : w.heap[b]? = some (.cells arr elem (0, 0))) (hl : o + v.cells.size ≤ arr.size) (h1 : ∀ x ∈ v.cells, cell1 x = true) :
    (Instr.storeAt t (.pointer (some ⟨b, o, none⟩)) v).run P w = .ok () (w.setRow b (arr.toList.take o ++ v.cells.toList ++ arr.toList.drop (o + v.cells.size)).toArray) := by
  have h := run_storeCells_at (P := P) b o elem v.cells.toList 0 arr w hg (by simpa using hl) (fun x hx => oneCell_of_cell1 (h1 x (by simpa using hx)))
  simp only [Nat.add_zero, Array.length_toList] at h
  simp [Instr.storeAt, Instr.sureAddr, storeVar, Sem.run_bind, run_sizeOf hs, h]

/- Data and their cells. -/
def D.cells : D → List D
  | .agg cs => cs
  | x => [x]
def D.at (xs : List D) (i : Nat) : D := xs[i]?.getD (.bool false)
def D.cell (x : D) (j : Nat) : D := x.cells[j]?.getD (.bool false)

def toD1 : AV → Option D
  | .d x => some x
  | .lit (.slice none 0 0) => some (.list [])
  | .nn => some (.list [])
  | _ => none
def toDs : List AV → Option (List D)
  | [] => some []
  | x :: r => match x, toDs r with
    | .d y, some ys => some (y :: ys)
    | _, _ => none
def toDsN : List AV → Option (List D)
  | [] => some []
  | x :: r => match toD1 x, toDsN r with
    | some y, some ys => some (y :: ys)
    | _, _ => none
def mkAgg (cs : List AV) : AV := match toDs cs with | some ds => .d (.agg ds) | none => .agg cs
def AV.norm : AV → AV
  | .agg cs => match toDsN cs with | some ds => .d (.agg ds) | none => .agg cs
  | .lit (.slice none 0 0) => .d (.list [])
  | .nn => .d (.list [])
  | x => x
def AV.cells : AV → List AV
  | .agg cs => cs
  | .d (.agg ds) => ds.map .d
  | x => [x]

theorem D.cells_length (x : D) : x.cells.length = x.size := by cases x <;> rfl

theorem single_rel {w : World} {F : Nat → Prop} {x : D} {v : Value} (hf : x.flat = true) (h : DRel w F x v) (hx : x.cells = [x]) (hv : v.cells = #[v]) :
    v.cells.toList.length = x.cells.length ∧ (∀ u ∈ v.cells, cell1 u = true) ∧ ∀ (i : Nat) (c : D) (u : Value), x.cells[i]? = some c → v.cells[i]? = some u → DRel w F c u ∧ c.flat = true := by
  rw [hx, hv]
  refine ⟨rfl, fun u hu => by simp at hu; subst hu; exact h.one hf, fun i c u h1 h2 => ?_⟩
  cases i with
  | zero => simp at h1 h2; subst h1; subst h2; exact ⟨h, hf⟩
  | succ i => simp at h1
theorem DRel.cells {w F x v} (h : DRel w F x v) : v.cells.toList.length = x.cells.length ∧ (∀ u ∈ v.cells, cell1 u = true) ∧ ∀ (i : Nat) (c : D) (u : Value), x.cells[i]? = some c → v.cells[i]? = some u → DRel w F c u ∧ c.flat = true := by
  cases hd : x with
  | agg cs =>
    subst hd
    cases h with
    | agg cs a hl hf hc =>
      refine ⟨by simp [D.cells, Value.cells, hl], ?_, fun i c u h1 h2 => ⟨hc i c u h1 h2, hf c (List.mem_of_getElem? h1)⟩⟩
      intro u hu
      have hu : u ∈ a := hu
      obtain ⟨i, hi, rfl⟩ := Array.mem_iff_getElem.1 hu
      have hi' : i < cs.length := by rw [hl]; exact hi
      exact (hc i cs[i] a[i] (by simp [hi']) (by simp [hi])).one (hf _ (List.getElem_mem hi'))
  | _ => subst hd; exact single_rel rfl h rfl (cells_of_cell1 (h.one rfl))

theorem DRel.ofCells {w F} {cs : List D} {vs : List Value} (hl : cs.length = vs.length) (h1 : ∀ v ∈ vs, cell1 v = true)
    (hc : ∀ (i : Nat) c v, cs[i]? = some c → vs[i]? = some v → DRel w F c v) : DRel w F (.agg cs) (.agg vs.toArray) := by
  refine .agg cs vs.toArray (by simpa using hl) ?_ (fun i d v h h' => hc i d v h (by simpa using h'))
  intro d hd
  obtain ⟨i, hi, rfl⟩ := List.mem_iff_getElem.1 hd
  have hi' : i < vs.length := by omega
  have h3 := hc i cs[i] vs[i] (by simp [hi]) (by simp [hi'])
  have h2 := h1 vs[i] (List.getElem_mem hi')
  revert h3 h2
  generalize vs[i] = v
  generalize cs[i] = c
  intro h3 h2
  cases h3 <;> simp_all [D.flat, cell1]

theorem toDs_rel {φ w F} : ∀ {cs : List AV} {ds : List D} {vs : List Value}, toDs cs = some ds → (∀ (i : Nat) c v, cs[i]? = some c → vs[i]? = some v → AVRel φ w F c v) →
    cs.length = ds.length ∧ ∀ (i : Nat) d v, ds[i]? = some d → vs[i]? = some v → DRel w F d v
  | [], ds, vs, h, _ => by simp [toDs] at h; subst h; simp
  | x :: r, ds, vs, h, hc => by
    simp only [toDs] at h
    split at h <;> simp at h
    rename_i y ys hy
    subst h
    cases vs with
    | nil =>
      have ih := toDs_rel (φ := φ) (w := w) (F := F) (vs := []) hy (fun i c v _ h2 => by simp at h2)
      exact ⟨by simp [ih.1], fun i d v _ h2 => by simp at h2⟩
    | cons v0 vs =>
      have ih := toDs_rel (vs := vs) hy (fun i c v h1 h2 => hc (i + 1) c v (by simpa using h1) (by simpa using h2))
      refine ⟨by simp [ih.1], fun i d v h1 h2 => ?_⟩
      cases i with
      | zero =>
        simp at h1 h2; subst h1; subst h2
        have := hc 0 (.d y) v0 (by simp) (by simp)
        cases this with | d _ _ h => exact h
      | succ i => exact ih.2 i d v (by simpa using h1) (by simpa using h2)
theorem toD1_rel {φ w F x d v} (h : toD1 x = some d) (hx : AVRel φ w F x v) : DRel w F d v := by
  unfold toD1 at h
  split at h <;> simp at h
  · subst h; cases hx with | d _ _ h => exact h
  · subst h; cases hx; exact .nil none 0 fun _ => rfl
  · subst h; cases hx; exact .nil _ _ (by simp)
theorem toDsN_rel {φ w F} : ∀ {cs : List AV} {ds : List D} {vs : List Value}, toDsN cs = some ds → (∀ (i : Nat) c v, cs[i]? = some c → vs[i]? = some v → AVRel φ w F c v) →
    cs.length = ds.length ∧ ∀ (i : Nat) d v, ds[i]? = some d → vs[i]? = some v → DRel w F d v
  | [], ds, vs, h, _ => by simp [toDsN] at h; subst h; simp
  | x :: r, ds, vs, h, hc => by
    simp only [toDsN] at h
    split at h <;> simp at h
    rename_i y ys hx hy
    subst h
    cases vs with
    | nil =>
      have ih := toDsN_rel (φ := φ) (w := w) (F := F) (vs := []) hy (fun i c v _ h2 => by simp at h2)
      exact ⟨by simp [ih.1], fun i d v _ h2 => by simp at h2⟩
    | cons v0 vs =>
      have ih := toDsN_rel (vs := vs) hy (fun i c v h1 h2 => hc (i + 1) c v (by simpa using h1) (by simpa using h2))
      refine ⟨by simp [ih.1], fun i d v h1 h2 => ?_⟩
      cases i with
      | zero =>
        simp at h1 h2; subst h1; subst h2
        exact toD1_rel hx (hc 0 x v0 (by simp) (by simp))
      | succ i => exact ih.2 i d v (by simpa using h1) (by simpa using h2)

theorem mkAgg_rel {φ w F} {cs : List AV} {vs : List Value} (hl : cs.length = vs.length) (h1 : ∀ v ∈ vs, cell1 v = true)
    (hc : ∀ (i : Nat) c v, cs[i]? = some c → vs[i]? = some v → AVRel φ w F c v) : AVRel φ w F (mkAgg cs) (.agg vs.toArray) := by
  unfold mkAgg
  split
  · rename_i ds hds
    have := toDs_rel hds hc
    exact .d _ _ (.ofCells (by omega) h1 this.2)
  · exact .agg cs vs.toArray (by simpa using hl) (fun v hv => h1 v (by simpa using hv)) (fun i c v h h' => hc i c v h (by simpa using h'))

theorem AVRel.norm {φ w F x v} (h : AVRel φ w F x v) : AVRel φ w F x.norm v := by
  unfold AV.norm
  split
  · rename_i cs
    split
    · rename_i ds hds
      cases h with
      | agg _ a hl h1 hc =>
        have := toDsN_rel (vs := a.toList) hds (fun i c v h h' => hc i c v h (by simpa using h'))
        have h2 := DRel.ofCells (w := w) (F := F) (cs := ds) (vs := a.toList) (by simp; omega) (fun v hv => h1 v (by simpa using hv)) this.2
        rw [Array.toArray_toList] at h2
        exact .d _ _ h2
    · exact h
  · cases h; exact .d _ _ (.nil none 0 fun _ => rfl)
  · cases h; exact .d _ _ (.nil _ _ (by simp))
  · exact h

theorem AVRel.cells {φ w F x v} (h : AVRel φ w F x v) (h1 : ∀ u ∈ v.cells, cell1 u = true) (hl : v.cells.size = x.cells.length) :
    ∀ (i : Nat) c u, x.cells[i]? = some c → v.cells[i]? = some u → AVRel φ w F c u := by
  cases h with
  | agg cs a hl h1 hc => exact fun i c u hc' hu => hc i c u hc' hu
  | d x v h =>
    intro i c u hc' hu
    have := h.cells
    cases x with
    | agg cs =>
      simp only [AV.cells, List.getElem?_map, Option.map_eq_some_iff] at hc'
      obtain ⟨y, hy, rfl⟩ := hc'
      exact .d _ _ (this.2.2 i y u hy hu).1
    | _ =>
      simp only [AV.cells] at hc'
      cases i with
      | zero => simp at hc'; subst hc'; exact .d _ _ (this.2.2 0 _ u rfl hu).1
      | succ i => simp at hc'
  | junk v =>
    intro i c u hc' hu
    cases i with
    | zero => simp [AV.cells] at hc'; subst hc'; exact .junk _
    | succ i => simp [AV.cells] at hc'
  | ptr k ver off v L hL hv h h2 =>
    intro i c u hc' hu
    rw [cells_of_cell1 h2] at hu
    cases i with
    | zero => simp [AV.cells] at hc' hu; subst hc'; subst hu; exact .ptr k ver off v L hL hv h h2
    | succ i => simp [AV.cells] at hc'
  | vec k ver off len v L hL hv h h2 =>
    intro i c u hc' hu
    rw [cells_of_cell1 h2] at hu
    cases i with
    | zero => simp [AV.cells] at hc' hu; subst hc'; subst hu; exact .vec k ver off len v L hL hv h h2
    | succ i => simp [AV.cells] at hc'
  | eptr k ver p j v L hL hv h h2 =>
    intro i c u hc' hu
    rw [cells_of_cell1 h2] at hu
    cases i with
    | zero => simp [AV.cells] at hc' hu; subst hc'; subst hu; exact .eptr k ver p j v L hL hv h h2
    | succ i => simp [AV.cells] at hc'
  | rptr x j b off x' hb hF hx hc =>
    intro i c u hc' hu
    cases i with
    | zero => simp [AV.cells, Value.cells] at hc' hu; subst hc'; subst hu; exact .rptr x j b off x' hb hF hx hc
    | succ i => simp [AV.cells] at hc'
  | fn f cap a hl' hc =>
    intro i c u hc' hu
    cases i with
    | zero => simp [AV.cells, Value.cells] at hc' hu; subst hc'; subst hu; exact .fn f cap a hl' hc
    | succ i => simp [AV.cells] at hc'
  | tup vs a hl hc =>
    have := h1 (.tuple a) (by simp [Value.cells])
    simp [cell1] at this
  | ifc t x v h =>
    intro i c u hc' hu
    cases i with
    | zero => simp [AV.cells, Value.cells] at hc' hu; subst hc'; subst hu; exact .ifc t x v h
    | succ i => simp [AV.cells] at hc'
  | lit v h2 =>
    intro i c u hc' hu
    rw [cells_of_cell1 h2] at hu
    cases i with
    | zero => simp [AV.cells] at hc' hu; subst hc'; subst hu; exact .lit _ h2
    | succ i => simp [AV.cells] at hc'
  | nn a cap =>
    intro i c u hc' hu
    cases i with
    | zero => simp [AV.cells, Value.cells] at hc' hu; subst hc'; subst hu; exact .nn a cap
    | succ i => simp [AV.cells] at hc'

/- Operands. -/
def constAV : Value → AV
  | .int k n => .d (.int k n)
  | .bool b => .d (.bool b)
  | .string s => .d (.str s.data.toList)
  | .agg _ => .junk
  | .tuple _ => .junk
  | v => .lit v
theorem constAV_rel (φ w F v) : AVRel φ w F (constAV v) v := by
  cases v <;> first | exact .d _ _ (.int _ _) | exact .d _ _ (.bool _) | exact .d _ _ (.str _ _ rfl) | exact .junk _ | exact .lit _ rfl

def glk : List (Nat × D) → Nat → Option D
  | [], _ => none
  | (g, d) :: r, k => if g = k then some d else glk r k
theorem glk_mem : ∀ {l : List (Nat × D)} {g d}, glk l g = some d → (g, d) ∈ l
  | [], g, d, h => by simp [glk] at h
  | (g', d') :: r, g, d, h => by
    simp only [glk] at h
    split at h
    · rename_i hg; subst hg; cases h; simp
    · have := glk_mem h; simp [this]
def St.opd (S : St) : Operand → Bool × AV
  | .tmp t => (Env.lk S.env t).getD (true, .junk)
  | .const v => (true, constAV v)
  | .global g => match glk S.gl g with
    | some d => (true, .rptr d 0)
    | none => (true, .lit (.pointer (some ⟨g, 0, none⟩)))
  | .func f => (true, .fn f [])

theorem Rel.opd {φ G S a w} (h : Rel φ G S a w) (x : Operand) (hx : (S.opd x).1 = true) : AVRel φ w (Fo G φ S.mem) (S.opd x).2 (a.eval x) := by
  cases x with
  | tmp t =>
    simp only [St.opd] at hx ⊢
    cases hl : Env.lk S.env t with
    | none => exact .junk _
    | some y =>
      obtain ⟨g, x⟩ := y
      rw [hl] at hx
      simp only [Option.getD_some] at hx ⊢
      subst hx
      exact h.env t x hl
  | const v => exact constAV_rel ..
  | global g =>
    simp only [St.opd] at hx ⊢
    split
    · rename_i d hd
      obtain ⟨h1, h2, x', h3, h4⟩ := h.glob _ (glk_mem hd)
      have e : a.eval (.global g) = .pointer (some ⟨g, 0 + 0, none⟩) := rfl
      rw [e]
      exact .rptr d 0 g 0 x' h1 h2 h3 (fun i c hi => by simpa using h4 i c hi)
    · exact .lit _ rfl
  | func f => exact .fn f [] #[] rfl (by simp)

/-- What one operation does to a state: nothing is known; a value; a value and one entry turned. -/
inductive Res where
  | no
  | val (c : Bool) (x : AV)
  | upd (c : Bool) (x : AV) (e : Ent)

def Ran (P : Program) (o : Oper) (a : Act) (w : World) (v : Value) (w' : World) : Prop :=
  (execOp a.eval o).run P w = .ok (.value v) w' ∨ ((execOp a.eval o).run P w = .ok .skip w' ∧ v = undef)

def ResOk (P : Program) (S : St) (o : Oper) : Res → Prop
  | .no => True
  | .val c x => c = true → ∀ φ G a w, Rel φ G S a w → ∃ v w', Ran P o a w v w' ∧ AVRel φ w' (Fo G φ S.mem) x v ∧
      (∀ b, b < w.heap.size → w'.heap[b]? = w.heap[b]?) ∧ w.heap.size ≤ w'.heap.size ∧ w'.os = w.os ∧ w'.tape = w.tape ∧ w'.output = w.output
  | .upd c x e => c = true → ∀ φ G a w, Rel φ G S a w → ∃ v w' φ', Ran P o a w v w' ∧ AVRel φ' w' (Fo G φ' (Mem.set S.mem e)) x v ∧
      MemRel φ' G (Mem.set S.mem e) w' ∧ Keeps φ S.mem w φ' (Mem.set S.mem e) w' ∧ ∀ k, k ≠ e.key → φ' k = φ k

/-- A value that leaves the world as it is. -/
theorem ResOk.pure {P S o x} {c : Prop} [Decidable c] (h : c → ∀ φ G a w, Rel φ G S a w → ∃ v, (execOp a.eval o).run P w = .ok (.value v) w ∧ AVRel φ w (Fo G φ S.mem) x v) : ResOk P S o (.val (decide c) x) := by
  intro hc φ G a w hr
  obtain ⟨v, h1, h2⟩ := h (of_decide_eq_true hc) φ G a w hr
  exact ⟨v, w, .inl h1, h2, fun _ _ => rfl, Nat.le_refl _, rfl, rfl, rfl⟩

theorem ResOk.updI {P S o x e} {c : Prop} [Decidable c] (h : c → ∀ φ G a w, Rel φ G S a w → ∃ v w' φ', Ran P o a w v w' ∧ AVRel φ' w' (Fo G φ' (Mem.set S.mem e)) x v ∧
      MemRel φ' G (Mem.set S.mem e) w' ∧ Keeps φ S.mem w φ' (Mem.set S.mem e) w' ∧ ∀ k, k ≠ e.key → φ' k = φ k) : ResOk P S o (.upd (decide c) x e) := fun hc => h (of_decide_eq_true hc)
theorem ResOk.valI {P S o x} {c : Prop} [Decidable c] (h : c → ∀ φ G a w, Rel φ G S a w → ∃ v w', Ran P o a w v w' ∧ AVRel φ w' (Fo G φ S.mem) x v ∧
      (∀ b, b < w.heap.size → w'.heap[b]? = w.heap[b]?) ∧ w.heap.size ≤ w'.heap.size ∧ w'.os = w.os ∧ w'.tape = w.tape ∧ w'.output = w.output) : ResOk P S o (.val (decide c) x) := fun hc => h (of_decide_eq_true hc)
theorem ResOk.pureB {P S o x} {c : Bool} (h : c = true → ∀ φ G a w, Rel φ G S a w → ∃ v, (execOp a.eval o).run P w = .ok (.value v) w ∧ AVRel φ w (Fo G φ S.mem) x v) : ResOk P S o (.val c x) := by
  intro hc φ G a w hr
  obtain ⟨v, h1, h2⟩ := h hc φ G a w hr
  exact ⟨v, w, .inl h1, h2, fun _ _ => rfl, Nat.le_refl _, rfl, rfl, rfl⟩
/-- A value that leaves the world as it is, or nothing. -/
def PureOk (P : Program) (S : St) (o : Oper) : Res → Prop
  | .no => True
  | .val c x => c = true → ∀ φ G a w, Rel φ G S a w → ∃ v, (execOp a.eval o).run P w = .ok (.value v) w ∧ AVRel φ w (Fo G φ S.mem) x v
  | .upd _ _ _ => False
theorem PureOk.of {P S o x} {c : Prop} [Decidable c] (h : c → ∀ φ G a w, Rel φ G S a w → ∃ v, (execOp a.eval o).run P w = .ok (.value v) w ∧ AVRel φ w (Fo G φ S.mem) x v) : PureOk P S o (.val (decide c) x) := fun hc => h (of_decide_eq_true hc)
theorem PureOk.res {P S o r} (h : PureOk P S o r) : ResOk P S o r := by
  cases r with
  | no => trivial
  | val c x =>
    intro hc φ G a w hr
    obtain ⟨v, h1, h2⟩ := h hc φ G a w hr
    exact ⟨v, w, .inl h1, h2, fun _ _ => rfl, Nat.le_refl _, rfl, rfl, rfl⟩
  | upd c x e => exact h.elim

/- Loads. -/
def loadR (P : Program) (m : Mem) (t : TypeId) (p : AV) : Res :=
  match p with
  | .ptr k ver off => match Mem.get m k with
    | some ⟨_, v, .box cs⟩ => match (tk P t).agg with
      | true => match tsz P t with
        | some n => .val (v = ver ∧ off + n ≤ cs.length) (mkAgg ((cs.drop off).take n))
        | none => .no
      | false => .val (v = ver ∧ tk P t ≠ .other ∧ off < cs.length) (cs[off]?.getD .junk)
    | _ => .no
  | .eptr k ver i j => match Mem.get m k with
    | some ⟨_, v, .vec sz rows⟩ => match (tk P t).agg with
      | true => .val (v = ver ∧ i < rows.length ∧ tsz P t = some sz ∧ j = 0 ∧ (D.at rows i).flat = false) (.d (D.at rows i))
      | false => .val (v = ver ∧ tk P t ≠ .other ∧ i < rows.length ∧ j < sz) (.d (D.cell (D.at rows i) j))
    | _ => .no
  | .rptr x j => match (tk P t).agg with
    | true => match j with
      | 0 => .val (tsz P t = some x.size ∧ x.flat = false) (.d x)
      | j => match tsz P t with
        | some n => .val (j + n ≤ x.size) (.d (.agg ((x.cells.drop j).take n)))
        | none => .no
    | false => .val (tk P t ≠ .other ∧ j < x.size) (.d (x.cell j))
  | _ => .no

theorem MemRel.get {φ G m w} (h : MemRel φ G m w) {k e} (hg : Mem.get m k = some e) : e ∈ m ∧ e.key = k ∧ ∃ L, φ k = some L ∧ L.ver = e.ver ∧ ContRel φ w (Fo G φ m) L e.cont := by
  obtain ⟨hm, hk⟩ := Mem.get_mem hg
  obtain ⟨L, h1, h2, h3⟩ := h.ents e hm
  rw [hk] at h1
  exact ⟨hm, hk, L, h1, h2, h3⟩

theorem AVRel.ptr_eq {φ w F k ver off v L} (h : AVRel φ w F (.ptr k ver off) v) (hL : φ k = some L) (hv : L.ver = ver) : v = .pointer (some ⟨L.blk, off, none⟩) := by
  cases h with | ptr _ _ _ _ L' hL' _ h _ => rw [hL] at hL'; cases hL'; exact h hv.symm
theorem AVRel.eptr_eq {φ w F k ver i j v L} (h : AVRel φ w F (.eptr k ver i j) v) (hL : φ k = some L) (hv : L.ver = ver) : v = .pointer (some ⟨L.blk, L.base + i * L.sz + j, none⟩) := by
  cases h with | eptr _ _ _ _ _ L' hL' _ h _ => rw [hL] at hL'; cases hL'; exact h hv.symm

theorem cell?_row {w : World} {b : Nat} {arr : Array Value} {e : TypeId} {fr} (h : w.heap[b]? = some (.cells arr e fr)) (o : Nat) : w.cell? ⟨b, o, none⟩ = arr[o]? := by
  simp [World.cell?, h]

theorem getD_at {xs : List D} {i : Nat} (h : i < xs.length) : xs[i]? = some (D.at xs i) := by simp [D.at, h]

theorem agg_of_flat {w F x v} (h : DRel w F x v) (hf : x.flat = false) : ∃ arr, v = .agg arr := by
  cases h <;> simp_all [D.flat]

theorem load_ok (P : Program) (S : St) (o : Oper) (t : TypeId) (x : Operand) (ho : o.op = .load t x) (hx : (S.opd x).1 = true) : PureOk P S o (loadR P S.mem t (S.opd x).2) := by
  have hrun : ∀ (a : Act) (w : World) (v : Value), (Instr.loadAt t (a.eval x)).run P w = .ok v w → (execOp a.eval o).run P w = .ok (.value v) w := by
    intro a w v h
    simp [execOp, ho, h]
  unfold loadR
  split
  · rename_i k ver off hp
    split
    · rename_i key v cs hg
      split
      · rename_i hagg
        split
        · rename_i n hn
          refine PureOk.of ?_
          rintro ⟨rfl, hle⟩ φ G a w hr
          have hv := hr.opd x hx
          rw [hp] at hv
          obtain ⟨hm, hk, L, hL, hver, arr, elem, hh, hsz, h1, hrel⟩ := hr.mem.get hg
          have e := hv.ptr_eq hL hver
          have hlen : ((arr.toList.drop off).take n).length = n := by simp; omega
          refine ⟨.agg ((arr.toList.drop off).take n).toArray, hrun a w _ ?_, ?_⟩
          · rw [e]
            refine run_loadN hagg (by rw [hlen]; exact hn) (fun j v hj => ?_)
            rw [cell?_row hh]
            rw [List.getElem?_take] at hj
            split at hj
            · simpa using hj
            · cases hj
          · refine mkAgg_rel (by rw [hlen]; simp; omega) (fun v hv => h1 v ?_) (fun i c v hc hv => ?_)
            · have := List.mem_of_mem_take hv
              simpa using List.mem_of_mem_drop this
            · rw [List.getElem?_take] at hc hv
              split at hc
              · rename_i hi
                simp only [hi, if_true] at hv
                exact hrel (off + i) c v (by simpa using hc) (by simpa using hv)
              · cases hc
        · trivial
      · rename_i hagg
        refine PureOk.of ?_
        rintro ⟨rfl, hne, hlt⟩ φ G a w hr
        have hv := hr.opd x hx
        rw [hp] at hv
        obtain ⟨hm, hk, L, hL, hver, arr, elem, hh, hsz, h1, hrel⟩ := hr.mem.get hg
        have e := hv.ptr_eq hL hver
        have hlt' : off < arr.size := by omega
        refine ⟨arr[off], hrun a w _ ?_, hrel off _ _ ?_ (by simp [hlt'])⟩
        · rw [e]; exact run_load1 hagg hne (by rw [cell?_row hh]; simp [hlt'])
        · simp [hlt]
    · trivial
  · rename_i k ver i j hp
    split
    · rename_i key v sz rows hg
      split
      · rename_i hagg
        refine PureOk.of ?_
        rintro ⟨rfl, hlt, hts, rfl, hf⟩ φ G a w hr
        have hv := hr.opd x hx
        rw [hp] at hv
        obtain ⟨hm, hk, L, hL, hver, hLsz, hcap, hrs, hrow⟩ := hr.mem.get hg
        have e := hv.eptr_eq hL hver
        obtain ⟨arr, elem, hh, hsz, h1, hrel⟩ := hrow (by omega)
        obtain ⟨u, hu, huc⟩ := hrel i _ (getD_at hlt)
        obtain ⟨ua, rfl⟩ := agg_of_flat hu hf
        refine ⟨.agg ua, hrun a w _ ?_, .d _ _ hu⟩
        rw [e]
        have hus : ua.toList.length = sz := by
          have h3 := hu.size
          rw [hrs _ (List.mem_of_getElem? (getD_at hlt)), hLsz] at h3
          simpa [Value.cells] using h3
        have := run_loadN (P := P) (t := t) (w := w) (b := L.blk) (o := L.base + i * L.sz + 0) (vs := ua.toList) hagg (by rw [hus]; exact hts) (fun j v hj => by
          rw [cell?_row hh]
          exact huc j v (by simpa [Value.cells] using hj))
        simpa using this
      · rename_i hagg
        refine PureOk.of ?_
        rintro ⟨rfl, hne, hlt, hj⟩ φ G a w hr
        have hv := hr.opd x hx
        rw [hp] at hv
        obtain ⟨hm, hk, L, hL, hver, hLsz, hcap, hrs, hrow⟩ := hr.mem.get hg
        have e := hv.eptr_eq hL hver
        obtain ⟨arr, elem, hh, hsz, h1, hrel⟩ := hrow (by omega)
        obtain ⟨u, hu, huc⟩ := hrel i _ (getD_at hlt)
        have hus : (D.at rows i).size = sz := by rw [hrs _ (List.mem_of_getElem? (getD_at hlt)), hLsz]
        have hj' : j < u.cells.size := by rw [hu.size, hus]; exact hj
        have hjd : j < (D.at rows i).cells.length := by rw [D.cells_length, hus]; exact hj
        refine ⟨u.cells[j], hrun a w _ ?_, .d _ _ (hu.cells.2.2 j _ _ (by simp [D.cell, hjd]) (by simp [hj'])).1⟩
        rw [e]
        exact run_load1 hagg hne (by rw [cell?_row hh]; exact huc j _ (by simp [hj']))
    · trivial
  · rename_i d j hp
    split
    · rename_i hagg
      split
      · refine PureOk.of ?_
        rintro ⟨hts, hf⟩ φ G a w hr
        have hv := hr.opd x hx
        rw [hp] at hv
        generalize hav : a.eval x = av at hv
        cases hv with
        | rptr _ _ b off x' hb hF hxr hc =>
          obtain ⟨ua, rfl⟩ := agg_of_flat hxr hf
          refine ⟨.agg ua, hrun a w _ ?_, .d _ _ hxr⟩
          rw [hav]
          exact run_loadN (vs := ua.toList) hagg (by rw [hts]; have := hxr.size; simp [Value.cells] at this; simp [this]) (fun j v hj => hc j v (by simpa [Value.cells] using hj))
      · split
        · rename_i n hn
          refine PureOk.of ?_
          intro hle φ G a w hr
          have hv := hr.opd x hx
          rw [hp] at hv
          generalize hav : a.eval x = av at hv
          cases hv with
          | rptr _ _ b off x' hb hF hxr hc =>
            have hcs := hxr.cells
            have hl : x'.cells.toList.length = d.size := by rw [hcs.1, D.cells_length]
            have hlen : ((x'.cells.toList.drop j).take n).length = n := by simp at hl ⊢; omega
            refine ⟨.agg ((x'.cells.toList.drop j).take n).toArray, hrun a w _ ?_, .d _ _ (.ofCells ?_ ?_ ?_)⟩
            · rw [hav]
              refine run_loadN hagg (by rw [hlen]; exact hn) (fun i v hi => ?_)
              rw [List.getElem?_take] at hi
              split at hi
              · rw [show off + j + i = off + (j + i) by omega]
                exact hc (j + i) v (by simpa using hi)
              · cases hi
            · rw [hlen]; simp [D.cells_length]; omega
            · intro v hv
              exact hcs.2.1 v (by simpa using List.mem_of_mem_drop (List.mem_of_mem_take hv))
            · intro i c v h1 h2
              rw [List.getElem?_take] at h1 h2
              split at h1
              · rename_i hi
                simp only [hi, if_true] at h2
                exact (hcs.2.2 (j + i) c v (by simpa using h1) (by simpa using h2)).1
              · cases h1
        · trivial
    · rename_i hagg
      refine PureOk.of ?_
      rintro ⟨hne, hj⟩ φ G a w hr
      have hv := hr.opd x hx
      rw [hp] at hv
      generalize hav : a.eval x = av at hv
      cases hv with
      | rptr _ _ b off x' hb hF hxr hc =>
        have hj' : j < x'.cells.size := by rw [hxr.size]; exact hj
        have hjd : j < d.cells.length := by rw [D.cells_length]; exact hj
        refine ⟨x'.cells[j], hrun a w _ ?_, .d _ _ (hxr.cells.2.2 j _ _ (by simp [D.cell, hjd]) (by simp [hj'])).1⟩
        rw [hav]
        exact run_load1 hagg hne (hc j _ (by simp [hj']))
  · trivial
end Go.Am

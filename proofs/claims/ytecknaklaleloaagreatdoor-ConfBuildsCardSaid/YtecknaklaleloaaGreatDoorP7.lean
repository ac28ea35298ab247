/-
  Texts of one proof, one behind the other.
-/
import Derived.Test.YtecknaklaleloaaGreatDoorP6
import Derived.ProofKit
import Derived.ChangeArms
import Derived.ChangeCalls
import Derived.Test.YtecknaklaleloaaGreatDoorProg
import Derived.Shelf.LaysC
import Derived.KernelRfl
import Derived.Shelf.Strings.Split
import Derived.Shelf.Strings.FieldsFuncAny
import Derived.Shelf.Strconv.ParseIntPublic10
import Derived.Shelf.Strconv.Itoa4
import Derived.Shelf.Strconv.Itoa3
import Derived.LaidLaws
import Derived.SizedLaws
import Derived.Handed
import Derived.Shelf.Vars
set_option linter.all false
section
namespace Go.Am
open Go Go.ChangeShapes Go.WideShapes Go.RowKit
def tiles (P : Program) (ok : TypeId → Bool) : List Field → Nat → Nat → Bool
  | [], o, tot => o == tot
  | f :: r, o, tot => f.offset == o && ok f.type && tiles P ok r (o + P.cellsOf f.type) tot
def plainT (P : Program) : Nat → TypeId → Bool
  | 0, _ => false
  | n + 1, t => match P.underlying t with
    | some .bool | some (.int _) | some .string => P.cellsOf t == 1
    | some (.slice e) => P.cellsOf t == 1 && plainT P n e && decide (1 ≤ P.cellsOf e)
    | some (.struct fs) => tiles P (plainT P n) fs.toList 0 (P.cellsOf t)
    | _ => false
def typed (P : Program) : Nat → TypeId → D → Prop
  | 0, _, _ => False
  | n + 1, t, d => match P.underlying t with
    | some .bool => ∃ b, d = .bool b
    | some (.int k) => ∃ z, d = .int k z ∧ (Lit.int k z).wf = true
    | some .string => ∃ s, d = .str s ∧ s.length ≤ maxLen
    | some (.slice e) => ∃ xs, d = .list xs ∧ xs.length ≤ maxLen ∧ ∀ x ∈ xs, typed P n e x
    | some (.struct fs) => ∃ ys : List D, d = .agg (ys.flatMap D.cells) ∧ ys.length = fs.size ∧ ∀ (i : Nat) (f : Field) (y : D), fs[i]? = some f → ys[i]? = some y → typed P n f.type y
    | _ => False
def Reads (w : World) (F : Nat → Prop) (d : D) (cs : List Value) : Prop :=
  d.cells.length = cs.length ∧ (∀ u ∈ cs, cell1 u = true) ∧ ∀ (i : Nat) c u, d.cells[i]? = some c → cs[i]? = some u → DRel w F c u ∧ c.flat = true
theorem Reads.one {w F d v} (h : DRel w F d v) (hf : d.flat = true) (hc : d.cells = [d]) : Reads w F d [v] := by
  refine ⟨by rw [hc]; rfl, fun u hu => ?_, fun i c u h1 h2 => ?_⟩
  · simp at hu; subst hu; exact h.one hf
  · rw [hc] at h1
    cases i with
    | zero => simp at h1 h2; subst h1; subst h2; exact ⟨h, hf⟩
    | succ i => simp at h1
def shaped (d : D) (cs : List Value) : Value :=
  match d with
  | .agg _ => .agg cs.toArray
  | _ => cs.headD undef
theorem Reads.rel {w F d cs} (h : Reads w F d cs) : DRel w F d (shaped d cs) := by
  obtain ⟨h1, h2, h3⟩ := h
  have key : d.flat = true → d.cells = [d] → DRel w F d (cs.headD undef) := by
    intro hf hc
    rw [hc] at h1 h3
    match cs, h1 with
    | [u], _ => exact (h3 0 d u rfl rfl).1
  cases d with
  | agg ds => exact DRel.ofCells h1 h2 (fun i c v hc hv => (h3 i c v hc hv).1)
  | _ => exact key rfl rfl
theorem Reads.shaped_cells {w F d cs} (h : Reads w F d cs) : (shaped d cs).cells.toList = cs := by
  obtain ⟨h1, h2, h3⟩ := h
  have key : d.cells = [d] → (cs.headD undef).cells.toList = cs := by
    intro hc
    rw [hc] at h1
    match cs, h1, h2 with
    | [u], _, h2 => simp only [List.headD]; rw [cells_of_cell1 (h2 u (by simp))]
  cases d with
  | agg ds => simp [shaped, Value.cells]
  | _ => exact key rfl
theorem cells?_get {w : World} {base : Nat} {a : Addr} {n : Nat} {cs : List Value} (h : w.cells? base a n = some cs) : cs.length = n ∧ ∀ j, j < n → w.cell? (a.add j) = cs[j]? := by
  unfold World.cells? at h
  split at h
  · exact ⟨by simpa using mapM_some_length h, fun j hj => mapM_some_get h j j (by simp [hj])⟩
  · cases h
theorem add_add {b off n j : Nat} : (Addr.add (Addr.add ⟨b, off, none⟩ n) j) = ⟨b, off + n + j, none⟩ := by
  unfold Addr.add
  split <;> split <;> simp_all
theorem cell?_lt {w : World} {a : Addr} {c : Value} (h : w.cell? a = some c) : a.block < w.heap.size ∧ a.spot = none := by
  unfold World.cell? at h
  split at h
  · rename_i hh
    refine ⟨(Array.getElem?_eq_some_iff.1 hh).1, ?_⟩
    split at h
    · cases h
    · rename_i hs; simpa using hs
  · cases h
theorem reads_fields {P : Program} {w : World} {F : Nat → Prop} {n : Nat} {cs : List Value} {ok : TypeId → Bool} : ∀ (fs : List Field) (o : Nat), tiles P ok fs o cs.length = true →
    (∀ f ∈ fs, ok f.type = true → ∃ d, typed P n f.type d ∧ Reads w F d ((cs.drop f.offset).take (P.cellsOf f.type)) ∧ d.cells.length = P.cellsOf f.type) →
    ∃ ys : List D, ys.length = fs.length ∧ (∀ (i : Nat) (f : Field) (y : D), fs[i]? = some f → ys[i]? = some y → typed P n f.type y) ∧ o ≤ cs.length ∧ Reads w F (.agg (ys.flatMap D.cells)) (cs.drop o)
  | [], o, ht, _ => by
    simp only [tiles, beq_iff_eq] at ht
    subst ht
    exact ⟨[], rfl, fun i f y hf => by simp at hf, Nat.le_refl _, by simp [D.cells], by simp, fun i c u h1 => by simp [D.cells] at h1⟩
  | f :: r, o, ht, hf => by
    simp only [tiles, Bool.and_eq_true, beq_iff_eq] at ht
    obtain ⟨⟨rfl, hok⟩, hr⟩ := ht
    obtain ⟨ys, h1, h2, h3, h4⟩ := reads_fields r _ hr (fun f' h' => hf f' (by simp [h']))
    obtain ⟨d, hd, hR, hl⟩ := hf f (by simp) hok
    refine ⟨d :: ys, by simp [h1], fun i f' y hi hy => ?_, by omega, ?_⟩
    · cases i with
      | zero => simp at hi hy; subst hi; subst hy; exact hd
      | succ i => simp at hi hy; exact h2 i f' y hi hy
    · have hsplit : cs.drop f.offset = (cs.drop f.offset).take (P.cellsOf f.type) ++ cs.drop (f.offset + P.cellsOf f.type) := by
        rw [← List.drop_drop, List.take_append_drop]
      obtain ⟨a1, a2, a3⟩ := hR
      obtain ⟨b1, b2, b3⟩ := h4
      have hcells : (D.agg ((d :: ys).flatMap D.cells)).cells = d.cells ++ (D.agg (ys.flatMap D.cells)).cells := by simp [D.cells]
      rw [hsplit]
      unfold Reads
      rw [hcells]
      refine ⟨by simp only [List.length_append, a1, b1], fun u hu => ?_, fun i c u hc hu => ?_⟩
      · rcases List.mem_append.1 hu with hu | hu
        · exact a2 u hu
        · exact b2 u hu
      · by_cases hi : i < d.cells.length
        · rw [List.getElem?_append_left hi] at hc
          rw [List.getElem?_append_left (by omega)] at hu
          exact a3 i c u hc hu
        · rw [List.getElem?_append_right (by omega)] at hc
          rw [List.getElem?_append_right (by omega)] at hu
          rw [← a1] at hu
          exact b3 _ c u hc hu
section
variable {H : Type} {enc : TypeId × Value → H} {P : Program} {w : World} {base : Nat} {sp : Nat → Bool} {held : Bool}
theorem read_data : ∀ (n : Nat) (m : Nat) (t : TypeId) (cs : List Value) (x : DataW H × List MemPlace), plainT P n t = true → DataW.trod enc P w base sp held m t cs = some x →
    ∃ d, typed P n t d ∧ Reads w (fun _ => False) d cs ∧ d.cells.length = P.cellsOf t
  | 0, _, _, _, _, hp, _ => by cases hp
  | n + 1, m, t, cs, x, hp, hx => by
    simp only [plainT] at hp
    simp only [typed]
    cases ht : P.underlying t with
    | none => rw [ht] at hp; cases hp
    | some u =>
      rw [ht] at hp
      cases u with
      | bool =>
        obtain ⟨b, rfl, _⟩ := DataW.trod_bool ht hx
        exact ⟨.bool b, ⟨b, rfl⟩, Reads.one (.bool b) rfl rfl, by simp at hp; simp [D.cells, hp]⟩
      | int k =>
        obtain ⟨z, rfl, _, hw⟩ := DataW.trod_int ht hx
        exact ⟨.int k z, ⟨z, rfl, hw⟩, Reads.one (.int k z) rfl rfl, by simp at hp; simp [D.cells, hp]⟩
      | string =>
        obtain ⟨s, rfl, _, hw⟩ := DataW.trod_string ht hx
        exact ⟨.str s.data.toList, ⟨_, rfl, by simpa using hw⟩, Reads.one (.str s _ rfl) rfl rfl, by simp at hp; simp [D.cells, hp]⟩
      | slice e =>
        simp only [Bool.and_eq_true, beq_iff_eq, decide_eq_true_eq] at hp
        obtain ⟨⟨h1, h2⟩, h3⟩ := hp
        rcases DataW.trod_slice ht hx with ⟨rfl, _⟩ | ⟨a, len, cap, elems, rest, m', rfl, rfl, _, hb, hlc, hcm, hel, hget, _⟩
        · exact ⟨.list [], ⟨[], rfl, by simp, by simp⟩, Reads.one (.nil none 0 (fun _ => rfl)) rfl rfl, by simp [D.cells, h1]⟩
        · have hq : ∀ i, ∃ p : D × Value, i < len → typed P n e p.1 ∧ DRel w (fun _ => False) p.1 p.2 ∧ p.1.size = P.cellsOf e ∧ a.block < w.heap.size ∧ a.spot = none ∧
              ∀ j c, p.2.cells[j]? = some c → w.cell? ⟨a.block, a.off + i * P.cellsOf e + j, none⟩ = some c := by
            intro i
            by_cases hi : i < len
            · have h4 := hget i hi
              have h5 : ∃ y, elems[i]? = some y := ⟨elems[i]'(by omega), by simp [show i < elems.length by omega]⟩
              obtain ⟨y, hy⟩ := h5
              rw [hy] at h4
              simp only [Option.bind_eq_some_iff] at h4
              obtain ⟨cs', hcs, hy'⟩ := h4
              obtain ⟨d, hd, hR, hl⟩ := read_data n m' e cs' y h2 hy'
              obtain ⟨g1, g2⟩ := cells?_get hcs
              have g3 : a.block < w.heap.size ∧ a.spot = none := by
                have h0 : ∃ i0, i0 < len ∧ i0 = 0 := ⟨0, by omega, rfl⟩
                have h40 := hget 0 (by omega)
                have h50 : ∃ y, elems[0]? = some y := ⟨elems[0]'(by omega), by simp [show 0 < elems.length by omega]⟩
                obtain ⟨y0, hy0⟩ := h50
                rw [hy0] at h40
                simp only [Option.bind_eq_some_iff] at h40
                obtain ⟨cs0, hcs0, _⟩ := h40
                obtain ⟨g01, g02⟩ := cells?_get hcs0
                have h6 := g02 0 (by omega)
                have h7 : ∃ c, cs0[0]? = some c := ⟨cs0[0]'(by omega), by simp [show 0 < cs0.length by omega]⟩
                obtain ⟨c, hc⟩ := h7
                rw [hc] at h6
                have h8 := cell?_lt h6
                simpa [Addr.add] using h8
              refine ⟨⟨d, shaped d cs'⟩, fun _ => ⟨hd, hR.rel, by rw [← D.cells_length]; exact hl, g3.1, g3.2, fun j c hj => ?_⟩⟩
              have h6 := hR.shaped_cells
              have h7 : cs'[j]? = some c := by rw [← h6]; simpa using hj
              have hjl : j < P.cellsOf e := by
                have := (List.getElem?_eq_some_iff.1 h7).1
                omega
              have h8 := g2 j hjl
              obtain ⟨ab, ao, ae⟩ := a
              obtain rfl : ae = none := g3.2
              rw [add_add] at h8
              rw [h8]; exact h7
            · exact ⟨⟨.bool false, undef⟩, fun h => absurd h hi⟩
          obtain ⟨f, hf⟩ := Classical.axiomOfChoice hq
          refine ⟨.list ((List.range len).map fun i => (f i).1), ⟨_, rfl, by simp; omega, fun x hx => ?_⟩, Reads.one ?_ rfl rfl, by simp [D.cells, h1]⟩
          · simp only [List.mem_map, List.mem_range] at hx
            obtain ⟨i, hi, rfl⟩ := hx
            exact (hf i hi).1
          · by_cases hl : len = 0
            · subst hl
              exact .nil (some a) cap (fun h => by cases h)
            · have h0 := hf 0 (by omega)
              obtain ⟨ab, ao, ae⟩ := a
              obtain rfl : ae = none := h0.2.2.2.2.1
              have hlen : ((List.range len).map fun i => (f i).1).length = len := by simp
              have := DRel.list (w := w) (F := fun _ => False) ((List.range len).map fun i => (f i).1) ab ao cap (P.cellsOf e) (fun i => (f i).2) (by rw [hlen]; exact hlc) h0.2.2.2.1 (fun h => h)
                (fun d hd => by
                  simp only [List.mem_map, List.mem_range] at hd
                  obtain ⟨i, hi, rfl⟩ := hd
                  exact (hf i hi).2.2.1)
                (fun i d hd => by
                  simp only [List.getElem?_map, Option.map_eq_some_iff] at hd
                  obtain ⟨i', hi', rfl⟩ := hd
                  have := List.getElem?_eq_some_iff.1 hi'
                  obtain ⟨hi2, hi3⟩ := this
                  simp at hi2 hi3
                  subst hi3
                  exact (hf _ hi2).2.1)
                (fun i j c hi hj => by
                  rw [hlen] at hi
                  exact (hf i hi).2.2.2.2.2 j c hj)
              rw [hlen] at this
              exact this
      | struct fs =>
        obtain ⟨xs, m', rfl, _, hl, hxs, hget⟩ := DataW.trod_struct ht hx
        simp only at hp
        rw [← hl] at hp
        obtain ⟨ys, h1, h2, _, h4⟩ := reads_fields (n := n) (w := w) (F := fun _ => False) fs.toList 0 hp (fun f hf hok => by
          obtain ⟨i, hi, he⟩ := List.mem_iff_getElem.1 hf
          have h5 := hget i f (by simp at hi he; simp [hi, he])
          have h6 : ∃ y, xs[i]? = some y := ⟨xs[i]'(by simp at hi; omega), by simp [show i < xs.length by simp at hi; omega]⟩
          obtain ⟨y, hy⟩ := h6
          rw [hy] at h5
          exact read_data n m' f.type _ y hok h5)
        refine ⟨.agg (ys.flatMap D.cells), ⟨ys, rfl, by simpa using h1, fun i f y hi hy => h2 i f y (by simpa using hi) hy⟩, by simpa using h4, ?_⟩
        have := h4.1
        rw [this]; simpa using hl
      | _ => cases hp
end
end Go.Am
end
section
namespace Go.Am
open Go Go.ChangeShapes Go.WideShapes Go.RowKit
section
variable {H : Type} {enc : TypeId × Value → H} {P : Program} {w : World} {base : Nat} {sp : Nat → Bool} {held : Bool}
theorem arg_rel {n : Nat} {t : TypeId} {v : Value} {d : DataW H} {ps : List MemPlace} {b0 : Nat} (hp : plainT P n t = true) (hv : Value.okWide P w .any b0 t v) (h : DataW.Trod enc P w base sp held t v d ps) :
    ∃ x, typed P n t x ∧ DRel w (fun _ => False) x v := by
  obtain ⟨m, hm⟩ := h
  obtain ⟨x, hx, hR, _⟩ := read_data n m t _ _ hp hm
  refine ⟨x, hx, ?_⟩
  have h1 := hR.rel
  cases n with
  | zero => cases hp
  | succ n =>
    simp only [plainT] at hp
    simp only [typed] at hx
    cases ht : P.underlying t with
    | none => rw [ht] at hp; cases hp
    | some u =>
      rw [ht] at hp hx
      cases u with
      | bool => obtain ⟨b, rfl⟩ := okWide_bool ht hv; obtain ⟨y, rfl⟩ := hx; exact h1
      | int k => obtain ⟨b, rfl⟩ := okWide_int ht hv; obtain ⟨y, rfl, _⟩ := hx; exact h1
      | string => obtain ⟨b, rfl⟩ := okWide_string ht hv; obtain ⟨y, rfl, _⟩ := hx; exact h1
      | slice e => obtain ⟨a, len, cap, rfl⟩ := okWide_slice ht hv; obtain ⟨y, rfl, _⟩ := hx; exact h1
      | struct fs =>
        simp only [Value.okWide, ht] at hv
        obtain ⟨cs, rfl, _⟩ := hv
        obtain ⟨ys, rfl, _⟩ := hx
        simpa [shaped, Value.cells] using h1
      | _ => cases hp
theorem args_rel {n b0 : Nat} : ∀ {ts : List TypeId} {vs : List Value} {ds : List (DataW H)} {ps : List MemPlace}, DataW.TrodAll enc P w base sp held ts vs ds ps → (∀ t ∈ ts, plainT P n t = true) →
    (∀ (j : Nat) t v, ts[j]? = some t → vs[j]? = some v → Value.okWide P w .any b0 t v) →
    ∃ xs : List D, xs.length = vs.length ∧ xs.length = ts.length ∧ (∀ (i : Nat) t x, ts[i]? = some t → xs[i]? = some x → typed P n t x) ∧ ∀ (i : Nat) x v, xs[i]? = some x → vs[i]? = some v → DRel w (fun _ => False) x v
  | [], [], [], _, _, _, _ => ⟨[], rfl, rfl, fun i t x h => by simp at h, fun i x v h => by simp at h⟩
  | t :: ts, v :: vs, d :: ds, ps, h, hp, hv => by
    obtain ⟨p, q, h1, h2, _⟩ := h
    obtain ⟨x, hx, hr⟩ := arg_rel (hp t (by simp)) (hv 0 t v rfl rfl) h1
    obtain ⟨xs, g1, g2, g3, g4⟩ := args_rel h2 (fun t ht => hp t (by simp [ht])) (fun j t v h3 h4 => hv (j + 1) t v (by simpa using h3) (by simpa using h4))
    refine ⟨x :: xs, by simp [g1], by simp [g2], fun i t' x' h3 h4 => ?_, fun i x' v' h3 h4 => ?_⟩
    · cases i with
      | zero => simp at h3 h4; subst h3; subst h4; exact hx
      | succ i => simp at h3 h4; exact g3 i t' x' h3 h4
    · cases i with
      | zero => simp at h3 h4; subst h3; subst h4; exact hr
      | succ i => simp at h3 h4; exact g4 i x' v' h3 h4
  | [], _ :: _, _, _, h, _, _ => by cases h
  | [], [], _ :: _, _, h, _, _ => by cases h
  | _ :: _, [], _, _, h, _, _ => by cases h
  | _ :: _, _ :: _, [], _, h, _, _ => by cases h
theorem trodAll_stays (hl : laidOutB P = true) {W W' : World} (hb : Below W.heap.size W W') : ∀ {ts : List TypeId} {vs : List Value} {ds : List (DataW H)} {ps : List MemPlace}, DataW.TrodAll enc P W 0 (fun _ => true) true ts vs ds ps →
    (∀ t ∈ ts, P.readableRec t = true ∧ t < P.types.size) → (∀ x ∈ ps, x.block < W.heap.size) → DataW.TrodAll enc P W' 0 (fun b => decide (b < W.heap.size)) true ts vs ds ps
  | [], [], [], _, h, _, _ => h
  | t :: ts, v :: vs, d :: ds, ps, h, hp, hlt => by
    obtain ⟨p, q, h1, h2, rfl⟩ := h
    exact ⟨p, q, Below.trod hl (hp t (by simp)).1 (hp t (by simp)).2 h1 hb (fun x hx => hlt x (by simp [hx])), trodAll_stays hl hb h2 (fun t ht => hp t (by simp [ht])) (fun x hx => hlt x (by simp [hx])), rfl⟩
  | [], _ :: _, _, _, h, _, _ => by cases h
  | [], [], _ :: _, _, h, _, _ => by cases h
  | _ :: _, [], _, _, h, _, _ => by cases h
  | _ :: _, _ :: _, [], _, h, _, _ => by cases h
end
section
variable {P : Program} {n : Nat} {t : TypeId} {d : D}
def fieldsT (P : Program) (n : Nat) : List Field → List D → Prop
  | [], ds => ds = []
  | f :: r, ds => ∃ y ds', typed P n f.type y ∧ fieldsT P n r ds' ∧ ds = y.cells ++ ds'
theorem fieldsT_of : ∀ {fs : List Field} {ys : List D}, ys.length = fs.length → (∀ (i : Nat) (f : Field) (y : D), fs[i]? = some f → ys[i]? = some y → typed P n f.type y) → fieldsT P n fs (ys.flatMap D.cells)
  | [], [], _, _ => rfl
  | f :: fs, y :: ys, h, hf => ⟨y, ys.flatMap D.cells, hf 0 f y rfl rfl, fieldsT_of (by simpa using h) (fun i f y h1 h2 => hf (i + 1) f y (by simpa using h1) (by simpa using h2)), by simp⟩
theorem typed_int {k : IntKind} (ht : P.underlying t = some (.int k)) (h : typed P (n + 1) t d) : ∃ z, d = .int k z ∧ (Lit.int k z).wf = true := by simpa only [typed, ht] using h
theorem typed_bool (ht : P.underlying t = some .bool) (h : typed P (n + 1) t d) : ∃ b, d = .bool b := by simpa only [typed, ht] using h
theorem typed_string (ht : P.underlying t = some .string) (h : typed P (n + 1) t d) : ∃ s, d = .str s ∧ s.length ≤ maxLen := by simpa only [typed, ht] using h
theorem typed_slice {e : TypeId} (ht : P.underlying t = some (.slice e)) (h : typed P (n + 1) t d) : ∃ xs, d = .list xs ∧ xs.length ≤ maxLen ∧ ∀ x ∈ xs, typed P n e x := by simpa only [typed, ht] using h
theorem typed_struct {fs : Array Field} (ht : P.underlying t = some (.struct fs)) (h : typed P (n + 1) t d) : ∃ ds, d = .agg ds ∧ fieldsT P n fs.toList ds := by
  simp only [typed, ht] at h
  obtain ⟨ys, rfl, h1, h2⟩ := h
  exact ⟨_, rfl, fieldsT_of (by simpa using h1) (fun i f y h3 h4 => h2 i f y (by simpa using h3) h4)⟩
end
def ctxB (X : Ctx) : Bool :=
  (List.range X.P.funcs.size).all (fun g => match X.P.funcs[g]? with | some fn => fn.name != "runtime.NumGoroutine" && (match fn.body with | some c => codeDst X g fn.ntmps c | none => true) | none => true) && X.P.follows .mixedOrders && X.ov.isNone
def OrcOk (X : Ctx) (g : FuncId) (h : List AV → Option AV) : Prop := callable X.P g = true ∧ ∀ (avs : List AV) (a : AV), h avs = some a → ∀ (φ : Phi) (F : Nat → Prop) (w : World) (vs : Array Value), GlobRel w F X.gl → (∀ b, F b → b < w.heap.size) → avs.length = vs.size →
    (∀ (i : Nat) x v, avs[i]? = some x → vs[i]? = some v → AVRel φ w F x v) → Calls X.P g vs w fun e w' => ∃ v, e = .returned v ∧ Below w.heap.size w w' ∧ AVRel φ w' F a v
theorem OrcOk.lift {X : Ctx} {g : FuncId} {h : List D → Option D} (hh : callable X.P g = true ∧ ∀ (ds : List D) (d : D), h ds = some d → ∀ (F : Nat → Prop) (w : World) (vs : Array Value), GlobRel w F X.gl → (∀ b, F b → b < w.heap.size) → ds.length = vs.size →
    (∀ (i : Nat) x v, ds[i]? = some x → vs[i]? = some v → DRel w F x v) → Calls X.P g vs w fun e w' => ∃ v, e = .returned v ∧ Below w.heap.size w w' ∧ DRel w' F d v) : OrcOk X g (liftO h) := by
  refine ⟨hh.1, fun avs a ha φ F w vs hgl hFb hl hr => ?_⟩
  unfold liftO at ha
  cases hds : toDs avs with
  | none => rw [hds] at ha; cases ha
  | some ds =>
    rw [hds] at ha
    obtain ⟨d, hd, rfl⟩ := Option.map_eq_some_iff.1 ha
    have he := toDs_eq hds
    subst he
    refine (hh.2 ds d hd F w vs hgl hFb (by simpa using hl) (fun i x v hx hv => ?_)).mono ?_
    · have := hr i (.d x) v (by simp [hx]) hv
      cases this with | d _ _ h => exact h
    · rintro e w' ⟨v, rfl, hb, hv⟩
      exact ⟨v, rfl, hb, .d _ _ hv⟩
theorem CtxOk.of {X : Ctx} (h : ctxB X = true) (ho : ∀ g h, X.orc g = some h → OrcOk X g h) : CtxOk X := by
  simp only [ctxB, Bool.and_eq_true, List.all_eq_true, List.mem_range] at h
  have key : ∀ (g : FuncId) (fn : Func), X.P.funcs[g]? = some fn → fn.name ≠ "runtime.NumGoroutine" ∧ (match fn.body with | some c => codeDst X g fn.ntmps c | none => true) = true := by
    intro g fn hg
    have h1 := h.1.1 g (Array.getElem?_eq_some_iff.1 hg).1
    rw [hg] at h1
    simpa using h1
  refine ⟨by simpa using h.2, fun g fn hg => (key g fn hg).1, fun g fn c hg hb => ?_, h.1.2, ho⟩
  have := (key g fn hg).2
  rw [hb] at this
  exact this
theorem list_map_of {α : Type} {f : α → D} : ∀ {xs : List D}, (∀ x ∈ xs, ∃ r, x = f r) → ∃ rs : List α, xs = rs.map f
  | [], _ => ⟨[], rfl⟩
  | x :: xs, h => by
    obtain ⟨r, rfl⟩ := h x (by simp)
    obtain ⟨rs, rfl⟩ := list_map_of (xs := xs) (fun y hy => h y (by simp [hy]))
    exact ⟨r :: rs, rfl⟩
def fr0 : Fr := ⟨fun _ => False, []⟩
theorem law_calls {X : Ctx} (hX : CtxOk X) {f : FuncId} {b : Bool} {xs : List D} (hc : callT X f (xs.map .d) [] = some (.ret (.d (.bool b)), [])) {W : World} {args : Array Value} (hl : xs.length = args.size)
    (hr : ∀ (i : Nat) x v, xs[i]? = some x → args[i]? = some v → DRel W (fun _ => False) x v) (hg : GlobRel W (fun _ => False) X.gl) :
    Calls X.P f args W fun e W' => e = .returned (.bool b) ∧ Below W.heap.size W W' := by
  have h := (callT_ok hX f _ _ _ _ hc).2
  have hF : ∀ b, Fo fr0 (fun _ => none) (inM 0 []) b → False := by
    intro b hb
    rcases hb with hb | ⟨e, he, _⟩
    · exact hb
    · simp [inM] at he
  refine (h (fun _ => none) fr0 W args ⟨by simp [inM], fun k L hL => by simp at hL, fun e he => by simp [inM] at he, fun e he => by simp [inM] at he, fun b ⟨e, he, _⟩ => by simp [inM] at he, fun b hb => hb.elim⟩
    (hg.mono (fun _ _ _ => rfl) (Nat.le_refl _) (fun b _ hb => hF b hb)) (by simpa using hl) (fun i x v hx hv => ?_)).mono ?_
  · simp only [List.getElem?_map, Option.map_eq_some_iff] at hx
    obtain ⟨d, hd, rfl⟩ := hx
    exact .d d v ((hr i d v hd hv).mono (fun _ _ _ => rfl) (Nat.le_refl _) (fun b _ hb => hF b hb))
  · rintro e W' ⟨φ', m', out, ⟨rfl, rfl⟩, hm, hk, ho⟩
    refine ⟨?_, hk.os, hk.tape, hk.output, hk.size, fun k hk' => hk.old k hk' (fun ⟨e, he, _⟩ => by simp [inM] at he)⟩
    cases e with
    | returned v =>
      simp only [OutRel] at ho
      cases ho with
      | d x v h => cases h; rfl
    | _ => exact ho.elim
section
variable {H : Type} {enc : TypeId × Value → H}
theorem law_contract {X : Ctx} (hX : CtxOk X) {f : FuncId} {fn : Func} {s : ChangeSpec} {apart fresh handsOn : Bool} {n : Nat} {tb : TypeId}
    (hlaid : laidOutB X.P = true) (hts : (fn.params.toList.all fun t => X.P.readableRec t && decide (t < X.P.types.size) && plainT X.P n t) = true)
    (hres : fn.resultTypes = #[tb]) (htb : X.P.underlying tb = some .bool) (hvars : s.vars = [])
    (hspec : ∀ ds : List (DataW H), ds.length = fn.params.size → s.fn H ds = { results := [.lit (.bool true)], args := ds })
    {W : World} {base : Nat} {args : Array Value} {ds gs : List (DataW H)} {before : List MemPlace}
    (hval : ∀ (j : Nat) t v, fn.params[j]? = some t → args[j]? = some v → Value.okWide X.P W .any base t v)
    (hW : DataW.Whole enc X.P fn.params.toList s.vars apart W args.toList ds gs before) (hg : GlobRel W (fun _ => False) X.gl)
    (hrun : ∀ xs : List D, xs.length = fn.params.size → (∀ (i : Nat) t x, fn.params[i]? = some t → xs[i]? = some x → typed X.P n t x) → callT X f (xs.map .d) [] = some (.ret (.d (.bool true)), [])) :
    Calls X.P f args W fun e W' => ∃ v, e = .returned v ∧ s.post enc X.P fn apart fresh handsOn false W args v W' := by
  have hW' := hW
  obtain ⟨p, q, hA, hV, rfl, hfz, hnd⟩ := hW
  rw [hvars] at hV
  obtain ⟨rfl, rfl⟩ : gs = [] ∧ q = [] := by
    cases gs with
    | nil => exact ⟨rfl, hV⟩
    | cons g r => exact absurd hV (by intro h; cases h)
  simp only [List.all_eq_true, Bool.and_eq_true, decide_eq_true_eq] at hts
  obtain ⟨xs, h1, h2, h3, h4⟩ := args_rel (n := n) (b0 := base) hA (fun t ht => (hts t ht).2) (fun j t v ht hv => hval j t v (by simpa using ht) (by simpa using hv))
  have hlen := trodAll_length hA
  refine (law_calls hX (hrun xs (by simpa using h2) (fun i t x ht hx => h3 i t x (by simpa using ht) hx)) (by simpa using h1) (fun i x v hx hv => h4 i x v hx (by simpa using hv)) hg).mono ?_
  rintro e W' ⟨rfl, hb⟩
  have hlt : ∀ x ∈ p, x.block < W.heap.size := fun x hx => by simpa using hW'.lt x (by simpa using hx)
  have hs : s.fn H (ds ++ []) = { results := [.lit (.bool true)], args := ds } := by
    rw [List.append_nil]; exact hspec ds (by simpa using hlen.2)
  refine ⟨_, rfl, ds, [], p ++ [], [], p, [], hW', ?_, ?_, ?_, hb.frame _, fun h => by cases h⟩
  · rw [hs, hres]
    exact trodAll_mk1 (shut_bool htb true)
  · rw [hs]
    exact trodAll_stays hlaid hb hA (fun t ht => (hts t ht).1) hlt
  · rw [hs, hvars]
    rfl
end
end Go.Am
end
section
namespace Go.Am
open Go
set_option maxRecDepth 20000
def rhoF : Nat → Nat
  | 129 => 73
  | 138 => 54
  | 143 => 55
  | 146 => 12
  | 171 => 16
  | 173 => 17
  | 174 => 71
  | 195 => 67
  | 197 => 68
  | 205 => 101
  | 217 => 83
  | 218 => 69
  | 219 => 70
  | 221 => 36
  | 224 => 85
  | 225 => 84
  | 229 => 13
  | 243 => 39
  | 245 => 88
  | 246 => 40
  | 247 => 87
  | 260 => 82
  | 266 => 91
  | 267 => 86
  | 268 => 53
  | 279 => 94
  | 280 => 95
  | 281 => 96
  | 282 => 97
  | 283 => 58
  | 284 => 59
  | 285 => 60
  | 286 => 61
  | 287 => 93
  | 314 => 92
  | 316 => 100
  | 317 => 72
  | 318 => 74
  | 319 => 75
  | 320 => 76
  | 321 => 98
  | 322 => 99
  | 337 => 89
  | 338 => 90
  | _ => 0
def rhoT : Nat → Nat
  | 0 => 0
  | 2 => 2
  | 3 => 3
  | 4 => 4
  | 5 => 5
  | 9 => 9
  | 20 => 20
  | 21 => 21
  | 31 => 61
  | 37 => 114
  | 40 => 64
  | 46 => 117
  | 51 => 136
  | 53 => 111
  | 75 => 130
  | 80 => 169
  | 85 => 131
  | 105 => 126
  | 119 => 147
  | 127 => 165
  | 138 => 149
  | 139 => 150
  | 143 => 166
  | 145 => 168
  | 146 => 140
  | 152 => 89
  | 154 => 91
  | 167 => 152
  | 168 => 155
  | 171 => 110
  | 173 => 115
  | 175 => 153
  | 210 => 163
  | 212 => 135
  | 213 => 137
  | 232 => 158
  | 233 => 159
  | _ => 0
def rhoG : Nat → Nat
  | 1 => 1
  | 3 => 2
  | 4 => 3
  | 15 => 6
  | 16 => 7
  | 17 => 0
  | 18 => 4
  | 19 => 5
  | _ => 0
def rho : Go.Shelf.Ren := ⟨rhoF, rhoT, rhoG⟩
theorem lays146 : Go.Proofs.Lays.n146 Go.Proofs.Tryz.prog rho where
  mixed := by kernel_rfl
  f138 := by kernel_rfl
  f143 := by kernel_rfl
  f146 := by kernel_rfl
  f195 := by kernel_rfl
  f197 := by kernel_rfl
  f217 := by kernel_rfl
  f218 := by kernel_rfl
  f219 := by kernel_rfl
  f221 := by kernel_rfl
  f224 := by kernel_rfl
  f225 := by kernel_rfl
  f260 := by kernel_rfl
  f266 := by kernel_rfl
  f267 := by kernel_rfl
  f268 := by kernel_rfl
  f314 := by kernel_rfl
  t0 := by kernel_rfl
  a0 := by intro w; kernel_rfl
  z0 := by intro w; kernel_rfl
  v0 := by intro w; kernel_rfl
  t3 := by kernel_rfl
  a3 := by intro w; kernel_rfl
  z3 := by intro w; kernel_rfl
  v3 := by intro w; kernel_rfl
  t4 := by kernel_rfl
  a4 := by intro w; kernel_rfl
  z4 := by intro w; kernel_rfl
  v4 := by intro w; kernel_rfl
  t5 := by kernel_rfl
  a5 := by intro w; kernel_rfl
  z5 := by intro w; kernel_rfl
  v5 := by intro w; kernel_rfl
  t9 := by kernel_rfl
  a9 := by intro w; kernel_rfl
  z9 := by intro w; kernel_rfl
  v9 := by intro w; kernel_rfl
  t21 := by kernel_rfl
  a21 := by intro w; kernel_rfl
  z21 := by intro w; kernel_rfl
  v21 := by intro w; kernel_rfl
  t31 := by kernel_rfl
  a31 := by intro w; kernel_rfl
  z31 := by intro w; kernel_rfl
  v31 := by intro w; kernel_rfl
  t46 := by kernel_rfl
  a46 := by intro w; kernel_rfl
  z46 := by intro w; kernel_rfl
  v46 := by intro w; kernel_rfl
  t51 := by kernel_rfl
  a51 := by intro w; kernel_rfl
  z51 := by intro w; kernel_rfl
  v51 := by intro w; kernel_rfl
  t105 := by kernel_rfl
  a105 := by intro w; kernel_rfl
  z105 := by intro w; kernel_rfl
  v105 := by intro w; kernel_rfl
  t119 := by kernel_rfl
  a119 := by intro w; kernel_rfl
  z119 := by intro w; kernel_rfl
  t138 := by kernel_rfl
  a138 := by intro w; kernel_rfl
  z138 := by intro w; kernel_rfl
  v138 := by intro w; kernel_rfl
  t139 := by kernel_rfl
  a139 := by intro w; kernel_rfl
  z139 := by intro w; kernel_rfl
  v139 := by intro w; kernel_rfl
  t146 := by kernel_rfl
  a146 := by intro w; kernel_rfl
  z146 := by intro w; kernel_rfl
  v146 := by intro w; kernel_rfl
  g1 := by kernel_rfl
  g3 := by kernel_rfl
  g4 := by kernel_rfl
theorem lays229 : Go.Proofs.Lays.n229 Go.Proofs.Tryz.prog rho where
  mixed := by kernel_rfl
  f229 := by kernel_rfl
  t0 := by kernel_rfl
  a0 := by intro w; kernel_rfl
  z0 := by intro w; kernel_rfl
  v0 := by intro w; kernel_rfl
  t3 := by kernel_rfl
  a3 := by intro w; kernel_rfl
  z3 := by intro w; kernel_rfl
  v3 := by intro w; kernel_rfl
  t4 := by kernel_rfl
  a4 := by intro w; kernel_rfl
  z4 := by intro w; kernel_rfl
  v4 := by intro w; kernel_rfl
  t9 := by kernel_rfl
  a9 := by intro w; kernel_rfl
  z9 := by intro w; kernel_rfl
  v9 := by intro w; kernel_rfl
  t21 := by kernel_rfl
  a21 := by intro w; kernel_rfl
  z21 := by intro w; kernel_rfl
  v21 := by intro w; kernel_rfl
  t31 := by kernel_rfl
  a31 := by intro w; kernel_rfl
  z31 := by intro w; kernel_rfl
  v31 := by intro w; kernel_rfl
  t40 := by kernel_rfl
  a40 := by intro w; kernel_rfl
  z40 := by intro w; kernel_rfl
  v40 := by intro w; kernel_rfl
  t152 := by kernel_rfl
  a152 := by intro w; kernel_rfl
  z152 := by intro w; kernel_rfl
  v152 := by intro w; kernel_rfl
  t154 := by kernel_rfl
  a154 := by intro w; kernel_rfl
  z154 := by intro w; kernel_rfl
  v154 := by intro w; kernel_rfl
theorem laysM173 : Go.Proofs.LaysM.n173 Go.Proofs.Tryz.prog rho where
  mixed := by kernel_rfl
  f129 := by kernel_rfl
  f173 := by kernel_rfl
  f246 := by kernel_rfl
  f283 := by kernel_rfl
  f284 := by kernel_rfl
  f285 := by kernel_rfl
  f286 := by kernel_rfl
  f317 := by kernel_rfl
  f318 := by kernel_rfl
  f319 := by kernel_rfl
  f320 := by kernel_rfl
  f337 := by kernel_rfl
  f338 := by kernel_rfl
  t0 := by kernel_rfl
  a0 := by intro w; kernel_rfl
  z0 := by intro w; kernel_rfl
  v0 := by intro w; kernel_rfl
  t2 := by kernel_rfl
  a2 := by intro w; kernel_rfl
  z2 := by intro w; kernel_rfl
  v2 := by intro w; kernel_rfl
  t3 := by kernel_rfl
  a3 := by intro w; kernel_rfl
  z3 := by intro w; kernel_rfl
  v3 := by intro w; kernel_rfl
  t4 := by kernel_rfl
  a4 := by intro w; kernel_rfl
  z4 := by intro w; kernel_rfl
  v4 := by intro w; kernel_rfl
  t5 := by kernel_rfl
  a5 := by intro w; kernel_rfl
  z5 := by intro w; kernel_rfl
  v5 := by intro w; kernel_rfl
  t9 := by kernel_rfl
  a9 := by intro w; kernel_rfl
  z9 := by intro w; kernel_rfl
  v9 := by intro w; kernel_rfl
  t20 := by kernel_rfl
  a20 := by intro w; kernel_rfl
  z20 := by intro w; kernel_rfl
  v20 := by intro w; kernel_rfl
  t37 := by kernel_rfl
  a37 := by intro w; kernel_rfl
  z37 := by intro w; kernel_rfl
  v37 := by intro w; kernel_rfl
  t46 := by kernel_rfl
  a46 := by intro w; kernel_rfl
  z46 := by intro w; kernel_rfl
  v46 := by intro w; kernel_rfl
  t51 := by kernel_rfl
  a51 := by intro w; kernel_rfl
  z51 := by intro w; kernel_rfl
  v51 := by intro w; kernel_rfl
  t53 := by kernel_rfl
  a53 := by intro w; kernel_rfl
  z53 := by intro w; kernel_rfl
  v53 := by intro w; kernel_rfl
  t171 := by kernel_rfl
  a171 := by intro w; kernel_rfl
  z171 := by intro w; kernel_rfl
  v171 := by intro w; kernel_rfl
  t173 := by kernel_rfl
  a173 := by intro w; kernel_rfl
  z173 := by intro w; kernel_rfl
  v173 := by intro w; kernel_rfl
  t212 := by kernel_rfl
  a212 := by intro w; kernel_rfl
  z212 := by intro w; kernel_rfl
  v212 := by intro w; kernel_rfl
  t213 := by kernel_rfl
  a213 := by intro w; kernel_rfl
  z213 := by intro w; kernel_rfl
  t232 := by kernel_rfl
  a232 := by intro w; kernel_rfl
  z232 := by intro w; kernel_rfl
  v232 := by intro w; kernel_rfl
  t233 := by kernel_rfl
  a233 := by intro w; kernel_rfl
  z233 := by intro w; kernel_rfl
  v233 := by intro w; kernel_rfl
  g17 := by kernel_rfl
  g18 := by kernel_rfl
  g19 := by kernel_rfl
  i0 := by kernel_rfl
  i2 := by kernel_rfl
  i3 := by kernel_rfl
  i4 := by kernel_rfl
  i5 := by kernel_rfl
  i9 := by kernel_rfl
  i20 := by kernel_rfl
  i37 := by kernel_rfl
  i46 := by kernel_rfl
  i51 := by kernel_rfl
  i53 := by kernel_rfl
  i171 := by kernel_rfl
  i173 := by kernel_rfl
  i212 := by kernel_rfl
  i232 := by kernel_rfl
  i233 := by kernel_rfl
  m17 := by kernel_rfl
  m18 := by kernel_rfl
  m19 := by kernel_rfl
theorem laysC174 : Go.Proofs.LaysC.n174 Go.Proofs.Tryz.prog rho where
  mixed := by kernel_rfl
  f129 := by kernel_rfl
  f171 := by kernel_rfl
  f174 := by kernel_rfl
  f205 := by kernel_rfl
  f243 := by kernel_rfl
  f245 := by kernel_rfl
  f246 := by kernel_rfl
  f247 := by kernel_rfl
  f279 := by kernel_rfl
  f280 := by kernel_rfl
  f281 := by kernel_rfl
  f282 := by kernel_rfl
  f283 := by kernel_rfl
  f284 := by kernel_rfl
  f285 := by kernel_rfl
  f286 := by kernel_rfl
  f287 := by kernel_rfl
  f316 := by kernel_rfl
  f317 := by kernel_rfl
  f318 := by kernel_rfl
  f319 := by kernel_rfl
  f320 := by kernel_rfl
  f321 := by kernel_rfl
  f322 := by kernel_rfl
  f337 := by kernel_rfl
  f338 := by kernel_rfl
  t0 := by kernel_rfl
  a0 := by intro w; kernel_rfl
  z0 := by intro w; kernel_rfl
  v0 := by intro w; kernel_rfl
  t2 := by kernel_rfl
  a2 := by intro w; kernel_rfl
  z2 := by intro w; kernel_rfl
  v2 := by intro w; kernel_rfl
  t3 := by kernel_rfl
  a3 := by intro w; kernel_rfl
  z3 := by intro w; kernel_rfl
  v3 := by intro w; kernel_rfl
  t4 := by kernel_rfl
  a4 := by intro w; kernel_rfl
  z4 := by intro w; kernel_rfl
  v4 := by intro w; kernel_rfl
  t5 := by kernel_rfl
  a5 := by intro w; kernel_rfl
  z5 := by intro w; kernel_rfl
  v5 := by intro w; kernel_rfl
  t9 := by kernel_rfl
  a9 := by intro w; kernel_rfl
  z9 := by intro w; kernel_rfl
  v9 := by intro w; kernel_rfl
  t20 := by kernel_rfl
  a20 := by intro w; kernel_rfl
  z20 := by intro w; kernel_rfl
  v20 := by intro w; kernel_rfl
  t21 := by kernel_rfl
  a21 := by intro w; kernel_rfl
  z21 := by intro w; kernel_rfl
  v21 := by intro w; kernel_rfl
  t37 := by kernel_rfl
  a37 := by intro w; kernel_rfl
  z37 := by intro w; kernel_rfl
  v37 := by intro w; kernel_rfl
  t46 := by kernel_rfl
  a46 := by intro w; kernel_rfl
  z46 := by intro w; kernel_rfl
  v46 := by intro w; kernel_rfl
  t51 := by kernel_rfl
  a51 := by intro w; kernel_rfl
  z51 := by intro w; kernel_rfl
  v51 := by intro w; kernel_rfl
  t53 := by kernel_rfl
  a53 := by intro w; kernel_rfl
  z53 := by intro w; kernel_rfl
  v53 := by intro w; kernel_rfl
  t75 := by kernel_rfl
  a75 := by intro w; kernel_rfl
  z75 := by intro w; kernel_rfl
  v75 := by intro w; kernel_rfl
  t85 := by kernel_rfl
  a85 := by intro w; kernel_rfl
  z85 := by intro w; kernel_rfl
  v85 := by intro w; kernel_rfl
  t127 := by kernel_rfl
  a127 := by intro w; kernel_rfl
  z127 := by intro w; kernel_rfl
  v127 := by intro w; kernel_rfl
  t143 := by kernel_rfl
  a143 := by intro w; kernel_rfl
  z143 := by intro w; kernel_rfl
  v143 := by intro w; kernel_rfl
  t145 := by kernel_rfl
  a145 := by intro w; kernel_rfl
  z145 := by intro w; kernel_rfl
  v145 := by intro w; kernel_rfl
  t167 := by kernel_rfl
  a167 := by intro w; kernel_rfl
  z167 := by intro w; kernel_rfl
  v167 := by intro w; kernel_rfl
  t168 := by kernel_rfl
  a168 := by intro w; kernel_rfl
  z168 := by intro w; kernel_rfl
  v168 := by intro w; kernel_rfl
  t171 := by kernel_rfl
  a171 := by intro w; kernel_rfl
  z171 := by intro w; kernel_rfl
  v171 := by intro w; kernel_rfl
  t173 := by kernel_rfl
  a173 := by intro w; kernel_rfl
  z173 := by intro w; kernel_rfl
  v173 := by intro w; kernel_rfl
  t175 := by kernel_rfl
  a175 := by intro w; kernel_rfl
  z175 := by intro w; kernel_rfl
  v175 := by intro w; kernel_rfl
  t210 := by kernel_rfl
  a210 := by intro w; kernel_rfl
  z210 := by intro w; kernel_rfl
  v210 := by intro w; kernel_rfl
  t212 := by kernel_rfl
  a212 := by intro w; kernel_rfl
  z212 := by intro w; kernel_rfl
  v212 := by intro w; kernel_rfl
  t213 := by kernel_rfl
  a213 := by intro w; kernel_rfl
  z213 := by intro w; kernel_rfl
  t232 := by kernel_rfl
  a232 := by intro w; kernel_rfl
  z232 := by intro w; kernel_rfl
  v232 := by intro w; kernel_rfl
  t233 := by kernel_rfl
  a233 := by intro w; kernel_rfl
  z233 := by intro w; kernel_rfl
  v233 := by intro w; kernel_rfl
  g15 := by kernel_rfl
  g16 := by kernel_rfl
  g17 := by kernel_rfl
  g18 := by kernel_rfl
  g19 := by kernel_rfl
  t80 := by kernel_rfl
  a80 := by intro w; kernel_rfl
  z80 := by intro w; kernel_rfl
  v80 := by intro w; kernel_rfl
  i0 := by kernel_rfl
  i2 := by kernel_rfl
  i3 := by kernel_rfl
  i4 := by kernel_rfl
  i5 := by kernel_rfl
  i9 := by kernel_rfl
  i20 := by kernel_rfl
  i21 := by kernel_rfl
  i37 := by kernel_rfl
  i46 := by kernel_rfl
  i51 := by kernel_rfl
  i53 := by kernel_rfl
  i75 := by kernel_rfl
  i80 := by kernel_rfl
  i85 := by kernel_rfl
  i127 := by kernel_rfl
  i143 := by kernel_rfl
  i145 := by kernel_rfl
  i167 := by kernel_rfl
  i168 := by kernel_rfl
  i171 := by kernel_rfl
  i173 := by kernel_rfl
  i175 := by kernel_rfl
  i210 := by kernel_rfl
  i212 := by kernel_rfl
  i232 := by kernel_rfl
  i233 := by kernel_rfl
  m15 := by kernel_rfl
  m16 := by kernel_rfl
  m17 := by kernel_rfl
  m18 := by kernel_rfl
  m19 := by kernel_rfl
  c0 := by kernel_rfl
  c2 := by kernel_rfl
  c3 := by kernel_rfl
  c4 := by kernel_rfl
  c5 := by kernel_rfl
  c9 := by kernel_rfl
  c20 := by kernel_rfl
  c21 := by kernel_rfl
  c37 := by kernel_rfl
  c46 := by kernel_rfl
  c51 := by kernel_rfl
  c53 := by kernel_rfl
  c75 := by kernel_rfl
  c80 := by kernel_rfl
  c85 := by kernel_rfl
  c127 := by kernel_rfl
  c143 := by kernel_rfl
  c145 := by kernel_rfl
  c167 := by kernel_rfl
  c168 := by kernel_rfl
  c171 := by kernel_rfl
  c173 := by kernel_rfl
  c175 := by kernel_rfl
  c210 := by kernel_rfl
  c212 := by kernel_rfl
  c213 := by kernel_rfl
  c232 := by kernel_rfl
  c233 := by kernel_rfl
theorem laysM171 : Go.Proofs.LaysM.n171 Go.Proofs.Tryz.prog rho where
  mixed := by kernel_rfl
  f129 := by kernel_rfl
  f171 := by kernel_rfl
  f243 := by kernel_rfl
  f246 := by kernel_rfl
  f283 := by kernel_rfl
  f284 := by kernel_rfl
  f285 := by kernel_rfl
  f286 := by kernel_rfl
  f317 := by kernel_rfl
  f318 := by kernel_rfl
  f319 := by kernel_rfl
  f320 := by kernel_rfl
  f337 := by kernel_rfl
  f338 := by kernel_rfl
  t0 := by kernel_rfl
  a0 := by intro w; kernel_rfl
  z0 := by intro w; kernel_rfl
  v0 := by intro w; kernel_rfl
  t2 := by kernel_rfl
  a2 := by intro w; kernel_rfl
  z2 := by intro w; kernel_rfl
  v2 := by intro w; kernel_rfl
  t3 := by kernel_rfl
  a3 := by intro w; kernel_rfl
  z3 := by intro w; kernel_rfl
  v3 := by intro w; kernel_rfl
  t4 := by kernel_rfl
  a4 := by intro w; kernel_rfl
  z4 := by intro w; kernel_rfl
  v4 := by intro w; kernel_rfl
  t5 := by kernel_rfl
  a5 := by intro w; kernel_rfl
  z5 := by intro w; kernel_rfl
  v5 := by intro w; kernel_rfl
  t9 := by kernel_rfl
  a9 := by intro w; kernel_rfl
  z9 := by intro w; kernel_rfl
  v9 := by intro w; kernel_rfl
  t20 := by kernel_rfl
  a20 := by intro w; kernel_rfl
  z20 := by intro w; kernel_rfl
  v20 := by intro w; kernel_rfl
  t37 := by kernel_rfl
  a37 := by intro w; kernel_rfl
  z37 := by intro w; kernel_rfl
  v37 := by intro w; kernel_rfl
  t46 := by kernel_rfl
  a46 := by intro w; kernel_rfl
  z46 := by intro w; kernel_rfl
  v46 := by intro w; kernel_rfl
  t51 := by kernel_rfl
  a51 := by intro w; kernel_rfl
  z51 := by intro w; kernel_rfl
  v51 := by intro w; kernel_rfl
  t53 := by kernel_rfl
  a53 := by intro w; kernel_rfl
  z53 := by intro w; kernel_rfl
  v53 := by intro w; kernel_rfl
  t171 := by kernel_rfl
  a171 := by intro w; kernel_rfl
  z171 := by intro w; kernel_rfl
  v171 := by intro w; kernel_rfl
  t173 := by kernel_rfl
  a173 := by intro w; kernel_rfl
  z173 := by intro w; kernel_rfl
  v173 := by intro w; kernel_rfl
  t212 := by kernel_rfl
  a212 := by intro w; kernel_rfl
  z212 := by intro w; kernel_rfl
  v212 := by intro w; kernel_rfl
  t213 := by kernel_rfl
  a213 := by intro w; kernel_rfl
  z213 := by intro w; kernel_rfl
  t232 := by kernel_rfl
  a232 := by intro w; kernel_rfl
  z232 := by intro w; kernel_rfl
  v232 := by intro w; kernel_rfl
  t233 := by kernel_rfl
  a233 := by intro w; kernel_rfl
  z233 := by intro w; kernel_rfl
  v233 := by intro w; kernel_rfl
  g17 := by kernel_rfl
  g18 := by kernel_rfl
  g19 := by kernel_rfl
  i0 := by kernel_rfl
  i2 := by kernel_rfl
  i3 := by kernel_rfl
  i4 := by kernel_rfl
  i5 := by kernel_rfl
  i9 := by kernel_rfl
  i20 := by kernel_rfl
  i37 := by kernel_rfl
  i46 := by kernel_rfl
  i51 := by kernel_rfl
  i53 := by kernel_rfl
  i171 := by kernel_rfl
  i173 := by kernel_rfl
  i212 := by kernel_rfl
  i232 := by kernel_rfl
  i233 := by kernel_rfl
  m17 := by kernel_rfl
  m18 := by kernel_rfl
  m19 := by kernel_rfl
end Go.Am
end
section
namespace Go.Am
open Go Go.Proofs
variable [Inhabited Mx2]
open Go.RowKit
set_option maxRecDepth 20000
theorem callable_of {P : Program} {g : FuncId} {fn : Func} (hf : P.funcs[g]? = some fn) (hb : fn.body.isSome = true) (hn : (fn.name == "runtime.NumGoroutine") = false) : callable P g = true := by
  unfold callable; rw [hf]; simp only [hb, hn]; rfl
theorem dstr_of {w F s v} (h : DRel w F (.str s) v) : ∃ b : ByteArray, v = .string b ∧ b.data.toList = s := by
  cases h with
  | str b s h => exact ⟨b, rfl, h⟩
theorem dint_of {w F k n v} (h : DRel w F (.int k n) v) : v = .int k n := by cases h; rfl
theorem two_args {ds : List D} {a b : D} {w F} {vs : Array Value} (hd : ds = [a, b]) (hl : ds.length = vs.size) (hr : ∀ (i : Nat) x v, ds[i]? = some x → vs[i]? = some v → DRel w F x v) :
    ∃ x y, vs = #[x, y] ∧ DRel w F a x ∧ DRel w F b y := by
  subst hd
  obtain ⟨l⟩ := vs
  match l, hl with
  | [x, y], _ => exact ⟨x, y, rfl, hr 0 a x rfl rfl, hr 1 b y rfl rfl⟩
theorem one_arg {ds : List D} {a : D} {w F} {vs : Array Value} (hd : ds = [a]) (hl : ds.length = vs.size) (hr : ∀ (i : Nat) x v, ds[i]? = some x → vs[i]? = some v → DRel w F x v) :
    ∃ x, vs = #[x] ∧ DRel w F a x := by
  subst hd
  obtain ⟨l⟩ := vs
  match l, hl with
  | [x], _ => exact ⟨x, rfl, hr 0 a x rfl rfl⟩
theorem mx_cell {w : World} {F} (hg : GlobRel w F gl0) : ∃ m, w.cell? ⟨1, 0, none⟩ = some (.int .i64 m) := by
  obtain ⟨_, _, x', h1, h2⟩ := hg (1, .int .i64 (id (α := Int) (default : Mx2))) (by simp [gl0])
  generalize id (α := Int) (default : Mx2) = z at h1
  obtain rfl := dint_of h1
  exact ⟨z, h2 0 _ (by simp [Value.cells])⟩
theorem opq_cell {w : World} {F} {g : Nat} (hg : GlobRel w F gl0) (hm : (g, D.opq) ∈ gl0) : ∃ v, w.cell? ⟨g, 0, none⟩ = some v ∧ (v = .nilIface ∨ ∃ t p, v = .iface t p) := by
  obtain ⟨_, _, x', h1, h2⟩ := hg _ hm
  cases h1 with
  | opq _ h =>
    refine ⟨x', h2 0 x' ?_, h⟩
    rcases h with rfl | ⟨t, p, rfl⟩ <;> rfl
theorem tab10_eq : tab10 = Go.Lib.pow10Tab := by decide
theorem tab_is {w : World} {F} (hg : GlobRel w F gl0) : Go.Lib.TabIs Tryz.prog w "internal/strconv.uint64pow10" .u64 Go.Lib.pow10Tab := by
  obtain ⟨⟨_, h0⟩, _, x', h1, h2⟩ := hg (0, .agg (tab10.map fun z => .int .u64 z)) (by simp [gl0])
  obtain ⟨cur, e, fz, hh, hs⟩ := h0 _ rfl
  have hgn : Tryz.prog.globalNamed "internal/strconv.uint64pow10" = some 0 := by kernel_rfl
  unfold Go.Lib.TabIs World.var?
  rw [hgn]
  simp only [Option.bind_some]
  rw [hh]
  simp only [Option.some.injEq]
  cases h1 with
  | agg cs a hl hf hc =>
    rw [← tab10_eq]
    simp only [List.length_map] at hl hs
    apply Array.ext
    · simp; omega
    · intro i hi1 hi2
      have hi : i < tab10.length := by simpa using hi2
      have hx : ∃ v, a[i]? = some v := ⟨a[i]'(by omega), by simp [show i < a.size by omega]⟩
      obtain ⟨v, hv⟩ := hx
      have q1 := hc i (.int .u64 tab10[i]) v (by simp [hi]) hv
      obtain rfl := dint_of q1
      have q2 := h2 i _ (by simpa [Value.cells] using hv)
      unfold World.cell? at q2
      simp only [hh] at q2
      have q3 : cur[i]? = some (.int .u64 tab10[i]) := by simpa using q2
      have q4 := (Array.getElem?_eq_some_iff.1 q3).2
      simp only [q4]
      simp
theorem drel_strs {w : World} {F : Nat → Prop} (l : List ByteArray) (b cap : Nat) (hb : b < w.heap.size) (hF : ¬ F b) (hcap : l.length ≤ cap)
    (hc : ∀ (i : Nat) s, l[i]? = some s → w.cell? ⟨b, i, none⟩ = some (.string s)) : DRel w F (.list (l.map fun s => .str s.data.toList)) (.slice (some ⟨b, 0, none⟩) l.length cap) := by
  have := DRel.list (w := w) (F := F) (l.map fun s => .str s.data.toList) b 0 cap 1 (fun i => .string (l[i]?.getD ⟨#[]⟩)) (by simpa using hcap) hb hF (by simp [D.size]) (fun i d hd => by
    simp only [List.getElem?_map, Option.map_eq_some_iff] at hd
    obtain ⟨s, hs, rfl⟩ := hd
    rw [hs]
    exact .str s _ rfl) (fun i j c hi hj => by
    have hi : i < l.length := by simpa using hi
    cases j with
    | zero =>
      simp [Value.cells] at hj
      subst hj
      have := hc i l[i] (by simp [hi])
      simpa [hi] using this
    | succ j => simp [Value.cells] at hj)
  simpa using this
theorem split_ok : OrcOk ctx 12 (liftO splitO) := by
  refine OrcOk.lift ⟨callable_of Tryz.func12 (by kernel_rfl) (by kernel_rfl), fun ds d hd F w vs hg hFb hl hr => ?_⟩
  unfold splitO at hd
  split at hd
  · split at hd
    · rename_i hs
      obtain ⟨x, y, rfl, h1, h2⟩ := two_args rfl hl hr
      obtain ⟨a, rfl, rfl⟩ := dstr_of h1
      obtain ⟨b, rfl, rfl⟩ := dstr_of h2
      obtain ⟨m, hm⟩ := mx_cell hg
      refine (Any.strings_Split lays146 (by kernel_rfl) a b m w (by simpa using hs.1) hm (by simpa using hs.2)).mono ?_
      rintro e w' ⟨rfl, rfl⟩
      cases hd
      refine ⟨_, rfl, Below.alloc (Below.refl _ _) (Nat.le_refl _) _, ?_⟩
      have hlen := Go.Lib.splitB_all b (by simpa using hs.2) 0 _ a rfl
      have hdat := Go.Lib.splitB_data b 0 (Go.Lib.countB a b) a
      generalize hL : Go.Lib.splitB b 0 (Go.Lib.countB a b) a = L at hlen hdat ⊢
      have he : (Go.Lib.split a.data.toList b.data.toList).map D.str = L.map fun s => .str s.data.toList := by
        unfold Go.Lib.split
        rw [show Go.Lib.count a.data.toList b.data.toList = Go.Lib.countB a b from rfl, ← hdat]
        simp
      rw [he]
      rw [show Go.Lib.countB a b + 1 = L.length from hlen.symm]
      refine drel_strs L _ _ ?_ ?_ (Nat.le_refl _) ?_
      · exact (Array.getElem?_eq_some_iff.1 (heap_alloc_new w _)).1
      · intro hf
        exact absurd (hFb _ hf) (by omega)
      · intro i s hs'
        simp only [World.cell?, heap_alloc_new]
        simp [hs']
    · cases hd
  · cases hd
theorem grow_below (w : World) (k : Nat) (os : Array Obj) : Below w.heap.size w (Go.Sort.grow (w.drewN k) os) :=
  ⟨rfl, rfl, rfl, by show w.heap.size ≤ (w.heap ++ os).size; rw [Array.size_append]; omega, fun j hj => by show (w.heap ++ os)[j]? = _; exact Array.getElem?_append_left hj⟩
theorem fi_ok : OrcOk ctx 17 (liftO fiO) := by
  refine OrcOk.lift ⟨callable_of Tryz.func17 (by kernel_rfl) (by kernel_rfl), fun ds d hd F w vs hg hFb hl hr => ?_⟩
  unfold fiO at hd
  split at hd
  · split at hd
    · rename_i hs
      obtain ⟨rfl, hs1, hs2⟩ := hs
      obtain ⟨x, y, rfl, h1, h2⟩ := two_args rfl hl hr
      obtain rfl := dint_of h1
      obtain rfl := dint_of h2
      refine (Any.strconv_FormatInt_10 laysM173 _ hs1 hs2 w (tab_is hg)).mono ?_
      rintro e w' ⟨rfl, k, os, rfl⟩
      cases hd
      exact ⟨_, rfl, grow_below w k os, .str _ _ (by simp)⟩
    · cases hd
  · cases hd
theorem it_ok : OrcOk ctx 16 (liftO itO) := by
  refine OrcOk.lift ⟨callable_of Tryz.func16 (by kernel_rfl) (by kernel_rfl), fun ds d hd F w vs hg hFb hl hr => ?_⟩
  unfold itO at hd
  split at hd
  · split at hd
    · rename_i hs
      obtain ⟨x, rfl, h1⟩ := one_arg rfl hl hr
      obtain rfl := dint_of h1
      refine (Any.strconv_Itoa laysM171 _ hs.1 hs.2 w (tab_is hg)).mono ?_
      rintro e w' ⟨rfl, k, os, rfl⟩
      cases hd
      exact ⟨_, rfl, grow_below w k os, .str _ _ (by simp)⟩
    · cases hd
  · cases hd
theorem three_av {avs : List AV} {a b c : AV} {φ w F} {vs : Array Value} (hd : avs = [a, b, c]) (hl : avs.length = vs.size) (hr : ∀ (i : Nat) x v, avs[i]? = some x → vs[i]? = some v → AVRel φ w F x v) :
    ∃ x y z, vs = #[x, y, z] ∧ AVRel φ w F a x ∧ AVRel φ w F b y ∧ AVRel φ w F c z := by
  subst hd
  obtain ⟨l⟩ := vs
  match l, hl with
  | [x, y, z], _ => exact ⟨x, y, z, rfl, hr 0 a x rfl rfl, hr 1 b y rfl rfl, hr 2 c z rfl rfl⟩
theorem two_av {avs : List AV} {a b : AV} {φ w F} {vs : Array Value} (hd : avs = [a, b]) (hl : avs.length = vs.size) (hr : ∀ (i : Nat) x v, avs[i]? = some x → vs[i]? = some v → AVRel φ w F x v) :
    ∃ x y, vs = #[x, y] ∧ AVRel φ w F a x ∧ AVRel φ w F b y := by
  subst hd
  obtain ⟨l⟩ := vs
  match l, hl with
  | [x, y], _ => exact ⟨x, y, rfl, hr 0 a x rfl rfl, hr 1 b y rfl rfl⟩
theorem av_d {φ w F x v} (h : AVRel φ w F (.d x) v) : DRel w F x v := by cases h; assumption
theorem tup2 {φ w F a b x y} (h1 : AVRel φ w F a x) (h2 : AVRel φ w F b y) : AVRel φ w F (.tup [a, b]) (.tuple #[x, y]) := by
  refine .tup _ _ rfl fun i c v hc hv => ?_
  match i, hc, hv with
  | 0, hc, hv => simp at hc hv; subst hc; subst hv; exact h1
  | 1, hc, hv => simp at hc hv; subst hc; subst hv; exact h2
  | i + 2, hc, _ => simp at hc
theorem pi_ok : OrcOk ctx 71 piO := by
  refine ⟨callable_of Tryz.func71 (by kernel_rfl) (by kernel_rfl), fun avs a ha φ F w vs hg hFb hl hr => ?_⟩
  unfold piO at ha
  split at ha
  · split at ha
    · rename_i hs
      obtain ⟨rfl, rfl, hlen⟩ := hs
      obtain ⟨x, y, z, rfl, h1, h2, h3⟩ := three_av rfl hl hr
      obtain ⟨s, rfl, rfl⟩ := dstr_of (av_d h1)
      obtain rfl := dint_of (av_d h2)
      obtain rfl := dint_of (av_d h3)
      have hlen : s.size ≤ 281474976710656 := by simpa using hlen
      cases ha
      unfold piA
      rcases hp : Go.Lib.parseIntB 64 s.data.toList with n | _ | _
      · refine (Any.strconv_ParseInt_10_at64_ok laysC174 s (by omega) n hp w).mono ?_
        rintro e w' ⟨rfl, hw⟩
        refine ⟨_, rfl, ?_, tup2 (.d _ _ (.int _ _)) (.lit _ rfl)⟩
        rcases hw with rfl | ⟨t, rfl⟩
        · exact Below.refl _ _
        · exact Go.Lib.bytesWorld_below _ _ _
      · obtain ⟨ev, hv, hev⟩ := opq_cell (g := 6) hg (by simp [gl0])
        refine (Any.strconv_ParseInt_10_at64_syntax laysC174 s hlen hp ev w hv hev).mono ?_
        rintro e w' ⟨N, rfl, _, _, hb⟩
        exact ⟨_, rfl, hb, tup2 (.d _ _ (.int _ _)) (.err _ _)⟩
      · obtain ⟨ev, hv, hev⟩ := opq_cell (g := 7) hg (by simp [gl0])
        refine (Any.strconv_ParseInt_10_at64_range laysC174 s hlen hp ev w hv hev).mono ?_
        rintro e w' ⟨N, rfl, _, _, hb⟩
        exact ⟨_, rfl, hb, tup2 (.d _ _ (.int _ _)) (.err _ _)⟩
    · cases ha
  · cases ha
theorem blank_gives (w : World) : PredAt Tryz.prog 14 #[] encR (fun r => decide ((r : Int) = 32)) w := fun W r _ => by
  unfold FnGives
  go_enter Tryz.func14, Tryz.ntmps14
  go_wp2
  refine ⟨rfl, _, results_tmp (t := 2) (by rw [Tryz.results14]) _ _ _, ?_⟩
  exact ⟨rfl, 0, rfl⟩
theorem own_cell {w : World} {base : Nat} {e : TypeId} {A n cap : Nat} {xs : List Value} (h : w.ownsRow base e 1 (.slice (some ⟨A, 0, none⟩) n cap) n xs) : A < w.heap.size ∧ ∀ (i : Nat) x, xs[i]? = some x → w.cell? ⟨A, i, none⟩ = some x := by
  obtain ⟨hl, h⟩ := h
  rcases h with ⟨h, _⟩ | ⟨g, cap', cur, hv, _, hh, hn, _, hs, ht⟩
  · cases h
  · cases hv
    refine ⟨(Array.getElem?_eq_some_iff.1 hh).1, fun i x hx => ?_⟩
    rw [← ht] at hx
    rw [List.getElem?_take] at hx
    split at hx
    · simp only [World.cell?, hh]
      simpa using hx
    · cases hx
theorem ff_ok : OrcOk ctx 13 (ffO 14 32) := by
  refine ⟨callable_of Tryz.func13 (by kernel_rfl) (by kernel_rfl), fun avs a ha φ F w vs hg hFb hl hr => ?_⟩
  unfold ffO at ha
  split at ha
  · split at ha
    · rename_i hs
      obtain ⟨rfl, hlen⟩ := hs
      obtain ⟨x, y, rfl, h1, h2⟩ := two_av rfl hl hr
      obtain ⟨s, rfl, rfl⟩ := dstr_of (av_d h1)
      have hy : y = .func (.func 14) #[] #[] := by
        generalize hq : AV.fn 14 [] = q at h2
        cases h2 with
        | fn f cap a hf' hl' hc' =>
          simp only [AV.fn.injEq] at hq
          obtain ⟨rfl, rfl⟩ := hq
          have : a = #[] := by
            apply Array.eq_empty_of_size_eq_zero
            simpa using hl'.symm
          subst this
          rfl
        | bnd f cap a hl' hc' =>
          simp only [AV.fn.injEq] at hq
          have e : Nat.add f 1000000 = 14 := hq.1.symm
          simp only [Nat.add_eq] at e
          exact absurd e (Nat.ne_of_gt (Nat.lt_of_lt_of_le (by decide) (Nat.le_add_left _ _)))
        | _ => cases hq
      subst hy
      cases ha
      refine (Any.strings_FieldsFunc lays229 14 #[] (enters_of Tryz.func14 (by kernel_rfl) rfl) (fun r => decide ((r : Int) = 32)) s w (by simpa using hlen) (blank_gives w) (by kernel_rfl) (by kernel_rfl)).mono ?_
      rintro e w' ⟨A, rfl, hA, hown, hb⟩
      refine ⟨_, rfl, hb, .d _ _ ?_⟩
      obtain ⟨hAl, hc⟩ := own_cell hown
      have hss : (⟨s.data.toList.toArray⟩ : ByteArray) = s := by simp
      rw [hss]
      refine drel_strs _ A _ hAl (fun hf => absurd (hFb _ hf) (by omega)) (Nat.le_refl _) (fun i x hx => hc i _ (by simp [hx]))
    · cases ha
  · cases ha
theorem orcs_ok : ∀ g h, ctx.orc g = some h → OrcOk ctx g h := by
  intro g h hg
  have hg' : orc0 g = some h := hg
  unfold orc0 at hg'
  split at hg'
  all_goals first | (cases hg'; first | exact split_ok | exact ff_ok | exact it_ok | exact fi_ok | exact pi_ok) | cases hg'
end Go.Am
end
section
namespace Go.Am
open Go
theorem laid_mem {P : Program} {w : World} {n : String} {d : DataW Unit} : ∀ {l : List (String × DataW Unit)} {ps : List MemPlace}, DataW.LaidVars P w l ps → (n, d) ∈ l →
    ∃ g t cs fuel p, P.globalNamed n = some g ∧ (P.globals[g]?).map (·.type) = some t ∧ w.var? P n = some cs ∧ DataW.trod (fun _ => ()) P w 0 (fun _ => true) false fuel t cs.toList = some (d, p)
  | [], _, _, hm => by simp at hm
  | (n', d') :: r, ps, ⟨g, t, cs, fuel, p, q, h1, h2, h3, h4, h5, _⟩, hm => by
    rcases List.mem_cons.1 hm with hm | hm
    · cases hm
      exact ⟨g, t, cs, fuel, p, h1, h2, h3, h4⟩
    · exact laid_mem h5 hm
theorem trod_ints {H : Type} {enc : TypeId × Value → H} {P : Program} {w : World} {base : Nat} {sp : Nat → Bool} {held : Bool} {fuel : Nat} {t e : TypeId} {n : Nat} {k : IntKind} {cs : List Value} {ds : List (DataW H)} {p : List MemPlace}
    (ha : P.underlying t = some (.array n e)) (he : P.underlying e = some (.int k)) (hc : P.cellsOf e = 1) (h : DataW.trod enc P w base sp held fuel t cs = some (.agg ds, p)) :
    cs.length = P.cellsOf t ∧ ds.length = n ∧ ∀ i, i < n → ∃ z, cs[i]? = some (.int k z) ∧ ds[i]? = some (.lit (.int k z)) := by
  cases fuel with
  | zero => simp [DataW.trod] at h
  | succ m =>
    unfold DataW.trod at h
    rw [ha] at h
    simp only at h
    split at h
    · rename_i hl
      simp only [Option.map_eq_some_iff, Prod.mk.injEq, DataW.agg.injEq] at h
      obtain ⟨xs, hx, rfl, _⟩ := h
      have h1 : xs.length = n := by simpa using mapM_some_length hx
      refine ⟨hl, by simpa using h1, fun i hi => ?_⟩
      have h2 := mapM_some_get hx i i (by simp [hi])
      have h3 : i < xs.length := by omega
      have h4 : xs[i]? = some xs[i] := by simp [h3]
      rw [h4, hc] at h2
      obtain ⟨z, h5, h6, _⟩ := DataW.trod_int he h2
      refine ⟨z, ?_, by simp [h4, h6]⟩
      have h7 := congrArg (·[0]?) h5
      simpa [List.getElem?_take, List.getElem?_drop] using h7
    · cases h
theorem glob_of_laid {P : Program} {W : World} {l : List (String × DataW Unit)} {name : String} {g : Nat} {t e : TypeId} {n : Nat} {k : IntKind} {zs : List Int}
    (hl : laidMet P l W) (hm : (name, DataW.agg (zs.map fun z => .lit (.int k z))) ∈ l) (hg : P.globalNamed name = some g) (ht : (P.globals[g]?).map (·.type) = some t)
    (ha : P.underlying t = some (.array n e)) (he : P.underlying e = some (.int k)) (hc : P.cellsOf e = 1) (hn : 0 < n) (hct : P.cellsOf t = n) :
    (g < W.heap.size ∧ ∀ cs, D.agg (zs.map fun z => .int k z) = .agg cs → ∃ cur e fz, W.heap[g]? = some (.cells cur e fz) ∧ cur.size = cs.length) ∧ ∃ x', DRel W (fun _ => False) (.agg (zs.map fun z => .int k z)) x' ∧ ∀ (i : Nat) (c : Value), x'.cells[i]? = some c → W.cell? ⟨g, i, none⟩ = some c := by
  obtain ⟨ps, hv, _⟩ := hl
  obtain ⟨g', t', cs, fuel, p, h1, h2, h3, h4⟩ := laid_mem hv hm
  obtain rfl := Option.some.inj (hg.symm.trans h1)
  obtain rfl := Option.some.inj (ht.symm.trans h2)
  obtain ⟨h50, h5, h6⟩ := trod_ints ha he hc h4
  rw [hct] at h50
  simp at h5
  have h7 : ∀ i z, zs[i]? = some z → W.cell? ⟨g, i, none⟩ = some (.int k z) := by
    intro i z hz
    have hi : i < n := by
      have := (List.getElem?_eq_some_iff.1 hz).1
      omega
    obtain ⟨z', h8, h9⟩ := h6 i hi
    simp [hz] at h9
    subst h9
    rw [World.var?_cell hg h3 i]
    simpa using h8
  refine ⟨⟨?_, ?_⟩, .agg (zs.map fun z => Value.int k z).toArray, ?_, ?_⟩
  · have hz : ∃ z, zs[0]? = some z := ⟨zs[0]'(by omega), by simp [show 0 < zs.length by omega]⟩
    obtain ⟨z, hz⟩ := hz
    exact (cell?_lt (h7 0 z hz)).1
  · rintro cs' hcs'
    obtain rfl := D.agg.inj hcs'
    unfold World.var? at h3
    rw [hg] at h3
    simp only [Option.bind_some] at h3
    split at h3
    · rename_i cur e' fz hh
      cases h3
      exact ⟨_, _, _, hh, by simp at h5 h50 ⊢; omega⟩
    · cases h3
  · refine DRel.ofCells (by simp) (fun v hv => ?_) (fun i c v hc' hv => ?_)
    · simp at hv
      obtain ⟨z, _, rfl⟩ := hv
      rfl
    · simp only [List.getElem?_map, Option.map_eq_some_iff] at hc' hv
      obtain ⟨z, hz, rfl⟩ := hc'
      obtain ⟨z', hz', rfl⟩ := hv
      rw [hz] at hz'
      cases hz'
      exact .int k z
  · intro i c hi
    simp [Value.cells] at hi
    obtain ⟨z, hz, rfl⟩ := hi
    exact h7 i z hz
end Go.Am
end
section
namespace Go.Am
open Go
variable {H : Type} {enc : TypeId × Value → H}
theorem handed_of {a : Assume} {C : Checked} {os : Os} {f : FuncId} {fn : Func} {s : ChangeSpec} {conds : List PathCond} {apart fresh handsOn again : Bool} {X : World → Array Value → Prop}
    (hX : ∀ (w w' : World) (args : Array Value), w.heap = w'.heap → X w args → X w' args)
    (own : ownKnob C.prog.godebug = none) (started : os.Started) (noInit : C.prog.inits.idxOf? f = none) (hfn : C.prog.funcs[f]? = some fn)
    (witness : ∃ (w : World) (tape : Tape) (i : Input), w.os = os ∧ (w.forCall tape i).Shaped C.prog ∧ i.vars = [] ∧ Input.okWide C.prog (w.forCall tape i) .any w.heap.size f i ∧
      ((s.pre enc C.prog fn conds apart (w.forCall tape i).memory i.args ∧ X (w.forCall tape i).memory i.args) ∧ sizedMet enc C.prog fn (OpenSpec.ofChange s) apart (w.forCall tape i).memory i.args) ∧ a.holds C.prog (lone (Frame.enter C.prog f i.args .normal) [] (w.forCall tape i)))
    (contract : ∀ (W : World) (base : Nat) (args : Array Value) (ds gs : List (DataW H)) (before : List MemPlace),
      (∀ (j : Nat) t v, fn.params[j]? = some t → args[j]? = some v → Value.okWide C.prog W .any base t v) →
      DataW.Whole enc C.prog fn.params.toList s.vars apart W args.toList ds gs before → X W args → W.ShapedOpen C.prog →
      Calls C.prog f args W fun e W' => ∃ v, e = .returned v ∧ s.post enc C.prog fn apart fresh handsOn again W args v W') :
    ReturnsInHanded a C os f .any (fun w args => (s.pre enc C.prog fn conds apart w args ∧ X w args) ∧ sizedMet enc C.prog fn (OpenSpec.ofChange s) apart w args) (s.post enc C.prog fn apart fresh handsOn again) := by
  refine returnsInHanded_of_calls own started noInit witness ?_
  intro w tape i _ hsh _ hok hpre _
  obtain ⟨_, _, _, fn', hfn', _, _, _, _, hval⟩ := hok
  have e : fn' = fn := Option.some.inj (hfn'.symm.trans hfn)
  subst e
  obtain ⟨⟨⟨ds, gs, before, hw, hc⟩, hx⟩, hz⟩ := hpre
  have hw' := DataW.Whole.of_heap (w' := w.forCall tape i) (by rfl) hw
  refine (contract (w.forCall tape i) w.heap.size i.args ds gs before hval hw' (hX _ _ _ (by rfl) hx) hsh).mono fun e W' ⟨v, he, hp⟩ => ?_
  subst he
  exact ChangeSpec.post_blind hp
end Go.Am
end
section
namespace Go.Am
open Go Go.ChangeShapes Go.WideShapes Go.RowKit
theorem opq_of_laid {P : Program} {W : World} {l : List (String × DataW Unit)} {name : String} {g : Nat} {t : TypeId} {d : DataW Unit} {ms : Array (String × TypeId)}
    (hl : laidMet P l W) (hm : (name, d) ∈ l) (hg : P.globalNamed name = some g) (ht : (P.globals[g]?).map (·.type) = some t) (hu : P.underlying t = some (.interface ms)) :
    ∃ v, W.cell? ⟨g, 0, none⟩ = some v ∧ (v = .nilIface ∨ ∃ u p, v = .iface u p) := by
  obtain ⟨ps, hv, _⟩ := hl
  obtain ⟨g', t', cs, fuel, p, h1, h2, h3, h4⟩ := laid_mem hv hm
  obtain rfl := Option.some.inj (hg.symm.trans h1)
  obtain rfl := Option.some.inj (ht.symm.trans h2)
  have key : ∃ v, cs.toList = [v] ∧ (v = .nilIface ∨ ∃ u p, v = .iface u p) := by
    cases fuel with
    | zero => simp [DataW.trod] at h4
    | succ m =>
      unfold DataW.trod at h4
      rw [hu] at h4
      split at h4 <;> first | (rename_i hq; exact ⟨_, by assumption, .inl rfl⟩) | (exact ⟨_, by assumption, .inr ⟨_, _, rfl⟩⟩) | (simp_all; done)
  obtain ⟨v, hcs, hs⟩ := key
  refine ⟨v, ?_, hs⟩
  rw [World.var?_cell hg h3 0]
  have := congrArg (·[0]?) hcs
  simpa using this
end Go.Am
end

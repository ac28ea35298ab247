/-
  The abstract machine, part 11: more operations on values.
-/
import Derived.Test.YtlbbjmbfclmmdaaDoorAm10
namespace Go.Am
open Go

/- s[i] of a string; x[i] of an array value. -/
def strAt (s : List UInt8) (i : Nat) : UInt8 := s[i]?.getD 0
def indexVR (P : Program) (t : TypeId) (x i : AV) : Res :=
  match i with
  | .d (.int _ n) => match x with
    | .d (.str s) => .val (tk P t = .str ∧ 0 ≤ n ∧ n.toNat < s.length) (.d (.int .u8 (strAt s n.toNat).toNat))
    | .d (.agg cs) => match tk P t with
      | .arr len e => match (tk P e).agg, tsz P e with
        | false, some 1 => .val (0 ≤ n ∧ n.toNat < len ∧ len ≤ cs.length ∧ tk P e ≠ .other) (.d (D.at cs n.toNat))
        | true, some sz => .val (0 ≤ n ∧ n.toNat < len ∧ len * sz ≤ cs.length) (.d (.agg ((cs.drop (n.toNat * sz)).take sz)))
        | _, _ => .no
      | _ => .no
    | _ => .no
  | _ => .no

theorem bytes_get (b : ByteArray) (i : Nat) : b[i]? = b.data.toList[i]? := by
  by_cases h : i < b.size
  · have h' : i < b.data.size := h
    rw [getElem?_pos b i h, Array.getElem?_toList, getElem?_pos b.data i h']
    rfl
  · have h' : ¬ i < b.data.size := h
    rw [getElem?_neg b i h, Array.getElem?_toList, getElem?_neg b.data i h']

theorem run_indexStr {P : Program} {w : World} {t : TypeId} {b : ByteArray} {k : IntKind} {n : Int} (ht : tk P t = .str) (h0 : 0 ≤ n) (hl : n.toNat < b.data.toList.length) :
    (Instr.index t (.string b) (.int k n)).run P w = .ok (.int .u8 (strAt b.data.toList n.toNat).toNat) w := by
  have e : b[n.toNat]? = some (strAt b.data.toList n.toNat) := by rw [bytes_get]; simp only [strAt]; rw [List.getElem?_eq_getElem hl]; rfl
  simp only [Instr.index, asIntOf, Sem.run_bind, Sem.run_pure, Result.andThen_ok, run_underlying (tk_str ht), h0, if_true, e]

theorem partN_run {P : Program} {w : World} {t : TypeId} {cs : Array Value} {off n : Nat} (h : (tk P t).agg = true) (hs : tsz P t = some n) : (part t cs off).run P w = .ok (.agg (cs.extract off (off + n))) w := by
  have ho : tk P t ≠ .other := by intro h'; rw [h'] at h; cases h
  simp [part, run_isAgg ho, h, run_sizeOf hs]

theorem take_drop_rel {w F} {cs : List D} {a : Array Value} (h : DRel w F (.agg cs) (.agg a)) (o n : Nat) (hle : o + n ≤ cs.length) : DRel w F (.agg ((cs.drop o).take n)) (.agg (a.extract o (o + n))) := by
  have hc := h.cells
  cases h with | agg _ _ hl hf hr =>
  have h2 := DRel.ofCells (w := w) (F := F) (cs := (cs.drop o).take n) (vs := (a.toList.drop o).take n) (by simp; omega)
    (fun v hv => hc.2.1 v (by simpa [Value.cells] using List.mem_of_mem_drop (List.mem_of_mem_take hv)))
    (fun i c v h1 h2 => by
      rw [List.getElem?_take] at h1 h2
      split at h1
      · rename_i hi
        simp only [hi, if_true] at h2
        exact hr (o + i) c v (by simpa using h1) (by simpa using h2)
      · cases h1)
  have e : ((a.toList.drop o).take n).toArray = a.extract o (o + n) := by
    apply Array.ext'
    simp
  rwa [e] at h2

theorem indexV_ok (P : Program) (S : St) (o : Oper) (t : TypeId) (x i : Operand) (ho : o.op = .index t x i) (hx : (S.opd x).1 = true) (hi : (S.opd i).1 = true) : ResOk P S o (indexVR P t (S.opd x).2 (S.opd i).2) := by
  unfold indexVR
  split
  · rename_i k n hiv
    split
    · rename_i s hxv
      refine ResOk.pure ?_
      rintro ⟨ht, h0, hl⟩ φ G a w hr
      have h1 := hr.opd x hx
      have h2 := hr.opd i hi
      rw [hxv] at h1; rw [hiv] at h2
      obtain ⟨b, e1, rfl⟩ := str_of h1
      exact ⟨_, by simp only [execOp, ho, e1, int_of h2, Sem.run_bind, run_indexStr ht h0 hl]; rfl, .d _ _ (.int _ _)⟩
    · rename_i cs hxv
      split
      · rename_i len e hte
        split
        · rename_i hag hs
          refine ResOk.pure ?_
          rintro ⟨h0, hl, hle, hne⟩ φ G a w hr
          have h1 := hr.opd x hx
          have h2 := hr.opd i hi
          rw [hxv] at h1; rw [hiv] at h2
          generalize hav : a.eval x = av at h1
          cases h1 with | d _ _ h1 =>
          cases h1 with | agg _ xa hlx hfx hcx =>
          have hn : n < (len : Int) := by omega
          have hxn : n.toNat < xa.size := by omega
          refine ⟨xa[n.toNat], ?_, .d _ _ (hcx n.toNat _ _ (getD_at (by omega)) (by simp [hxn]))⟩
          have hp := part_run (P := P) (w := w) (t := e) (cs := xa) (off := n.toNat * 1) hag hne (v := xa[n.toNat]) (by simp [hxn])
          simp only [Nat.mul_one] at hp
          simp [execOp, ho, hav, int_of h2, Instr.index, asIntOf, run_underlying (tk_arr hte), h0, hn, run_sizeOf hs, hp]
        · rename_i sz hag hs
          refine ResOk.pure ?_
          rintro ⟨h0, hl, hle⟩ φ G a w hr
          have h1 := hr.opd x hx
          have h2 := hr.opd i hi
          rw [hxv] at h1; rw [hiv] at h2
          generalize hav : a.eval x = av at h1
          cases h1 with | d _ _ h1 =>
          have h1' := h1
          cases h1 with | agg _ xa hlx hfx hcx =>
          have hn : n < (len : Int) := by omega
          have hle2 : n.toNat * sz + sz ≤ cs.length := by
            have : (n.toNat + 1) * sz ≤ len * sz := Nat.mul_le_mul_right _ hl
            rw [Nat.add_mul] at this; omega
          refine ⟨_, ?_, .d _ _ (take_drop_rel h1' (n.toNat * sz) sz hle2)⟩
          have hp := partN_run (P := P) (w := w) (t := e) (cs := xa) (off := n.toNat * sz) hag hs
          simp [execOp, ho, hav, int_of h2, Instr.index, asIntOf, run_underlying (tk_arr hte), h0, hn, run_sizeOf hs, hp]
        · trivial
      · trivial
    · trivial
  · trivial

/- x[lo:hi] -/
def bound (m : Option AV) (dflt : Int) : Option Int :=
  match m with
  | none => some dflt
  | some (.d (.int _ n)) => some n
  | some _ => none
def sliceR (P : Program) (m : Mem) (t : TypeId) (x : AV) (lo hi : Option AV) : Res :=
  match x with
  | .d (.str s) => match bound lo 0, bound hi s.length with
    | some l, some h => .val (tk P t = .str ∧ 0 ≤ l ∧ l ≤ h ∧ h.toNat ≤ s.length) (.d (.str ((s.take h.toNat).drop l.toNat)))
    | _, _ => .no
  | .d (.list xs) => match tk P t with
    | .slice e => match tsz P e, bound lo 0, bound hi xs.length with
      | some sz, some l, some h => .val (0 ≤ l ∧ l ≤ h ∧ h.toNat ≤ xs.length ∧ (∀ d ∈ xs, d.size = sz)) (.d (.list ((xs.take h.toNat).drop l.toNat)))
      | _, _, _ => .no
    | _ => .no
  | .vec k ver off len => match tk P t, Mem.get m k with
    | .slice e, some ⟨_, v, .vec sz' _⟩ => match tsz P e, bound lo 0, bound hi len with
      | some sz, some l, some h => .val (v = ver ∧ sz' = sz ∧ 0 ≤ l ∧ l ≤ h ∧ h.toNat ≤ len) (.vec k ver (off + l.toNat) (h.toNat - l.toNat))
      | _, _, _ => .no
    | _, _ => .no
  | _ => .no

theorem run_sliceBounds {P : Program} {w : World} {isS : Bool} {len cap : Nat} {lo hi : Option Value} {l h : Int}
    (hlo : (lo = none ∧ l = 0) ∨ ∃ k, lo = some (.int k l)) (hhi : (hi = none ∧ h = len) ∨ ∃ k, hi = some (.int k h)) (h0 : 0 ≤ l) (hle : l ≤ h) (hcap : h.toNat ≤ cap) :
    (Instr.sliceBounds isS len cap lo hi none).run P w = .ok (l.toNat, h.toNat, cap) w := by
  have h1 : h ≤ (cap : Int) := by omega
  have h2 : 0 ≤ h := by omega
  have h3 : l ≤ (h.toNat : Int) := by omega
  rcases hlo with ⟨rfl, rfl⟩ | ⟨k, rfl⟩ <;> rcases hhi with ⟨rfl, rfl⟩ | ⟨k', rfl⟩ <;>
    simp_all [Instr.sliceBounds, Instr.sliceBound, asIntOf]

theorem bound_rel {S : St} {φ G a w} (hr : Rel φ G S a w) {x : Option Operand} {dflt n : Int} (hx : ∀ y, x = some y → (S.opd y).1 = true) (h : bound (x.map fun y => (S.opd y).2) dflt = some n) :
    (x.map a.eval = none ∧ n = dflt) ∨ ∃ k, x.map a.eval = some (.int k n) := by
  cases x with
  | none => simp [bound] at h; exact .inl ⟨rfl, h.symm⟩
  | some y =>
    right
    simp only [Option.map_some] at h ⊢
    unfold bound at h
    split at h
    · rename_i heq; cases heq
    · rename_i k m heq
      simp at h heq
      subst h
      have := hr.opd y (hx y rfl)
      rw [heq] at this
      exact ⟨k, by rw [int_of this]⟩
    · cases h

theorem list_slice {w F xs v sz} (h : DRel w F (.list xs) v) (hs : ∀ d ∈ xs, d.size = sz) {l hh : Nat} (hle : l ≤ hh) (hlen : hh ≤ xs.length) :
    ∃ ao cap, v = .slice ao xs.length cap ∧ xs.length ≤ cap ∧ (ao = none → cap = 0) ∧ ∀ cap' ao', (ao' = none → cap' = 0) → hh - l ≤ cap' → (ao' = ao.map (·.add (l * sz)) ∨ (hh - l = 0)) → DRel w F (.list ((xs.take hh).drop l)) (.slice ao' (hh - l) cap') := by
  have hl : ((xs.take hh).drop l).length = hh - l := by simp; omega
  generalize hx : D.list xs = x at h
  cases h with
  | nil a c hn0 =>
    simp at hx; subst hx
    refine ⟨a, c, rfl, by simp, hn0, fun cap' ao' hn' _ _ => ?_⟩
    have h1 : hh - l = 0 := by simp at hlen; omega
    rw [h1]
    simp
    exact .nil _ _ hn'
  | list ys b off cap sz' vs hcap hb hF hsz hv hc =>
    simp at hx; subst hx
    refine ⟨_, cap, rfl, hcap, by simp, fun cap' ao' hn' hc' hao => ?_⟩
    by_cases hz : hh - l = 0
    · have e : (xs.take hh).drop l = [] := List.eq_nil_of_length_eq_zero (by omega)
      rw [e, hz]; exact .nil _ _ hn'
    · have hao := hao.resolve_right hz
      have hss : sz' = sz := by
        have hxl : 0 < xs.length := by omega
        rw [← hsz xs[0] (List.getElem_mem hxl), hs xs[0] (List.getElem_mem hxl)]
      subst hss
      simp only [Option.map_some, add_none] at hao
      rw [hao, ← hl]
      refine .list _ b (off + l * sz') cap' sz' (fun i => vs (l + i)) (by rw [hl]; exact hc') hb hF (fun d hd => hsz d (List.mem_of_mem_take (List.mem_of_mem_drop hd))) (fun i d hd => ?_) (fun i j c hi hj => ?_)
      · rw [List.getElem?_drop, List.getElem?_take] at hd
        split at hd
        · exact hv _ d hd
        · cases hd
      · have := hc (l + i) j c (by rw [hl] at hi; omega) hj
        rw [Nat.add_mul, ← Nat.add_assoc] at this
        exact this
  | _ => simp at hx

theorem slice_ok (P : Program) (S : St) (o : Oper) (t : TypeId) (x : Operand) (lo hi : Option Operand) (ho : o.op = .slice t x lo hi none) (hx : (S.opd x).1 = true) (hlo : ∀ y, lo = some y → (S.opd y).1 = true) (hhi : ∀ y, hi = some y → (S.opd y).1 = true) :
    ResOk P S o (sliceR P S.mem t (S.opd x).2 (lo.map fun y => (S.opd y).2) (hi.map fun y => (S.opd y).2)) := by
  unfold sliceR
  split
  · rename_i s hxv
    split
    · rename_i l h hl hh
      refine ResOk.pure ?_
      rintro ⟨ht, h0, hle, hcap⟩ φ G a w hr
      have h1 := hr.opd x hx
      rw [hxv] at h1
      obtain ⟨b, e1, rfl⟩ := str_of h1
      have hbs : b.size = b.data.toList.length := by rw [Array.length_toList]; rfl
      have hsb := run_sliceBounds (P := P) (w := w) (isS := false) (len := b.size) (cap := b.size) (bound_rel hr hlo hl) (by have := bound_rel hr hhi hh; rw [← hbs] at this; exact this) h0 hle (by rw [hbs]; exact hcap)
      refine ⟨.string (b.extract l.toNat h.toNat), ?_, .d _ _ (.str _ _ ?_)⟩
      · simp [execOp, ho, e1, Instr.sliceAt, Instr.slice, run_underlying (tk_str ht), hsb]
      · simp [ByteArray.data_extract, List.drop_take]
    · trivial
  · rename_i xs hxv
    split
    · rename_i e hte
      split
      · rename_i sz l h hs hl hh
        refine ResOk.pure ?_
        rintro ⟨h0, hle, hcap, hsz⟩ φ G a w hr
        have h1 := hr.opd x hx
        rw [hxv] at h1
        generalize hav : a.eval x = av at h1
        cases h1 with | d _ _ h1 =>
        obtain ⟨ao, cap, rfl, hxc, hn0, hsl⟩ := list_slice h1 hsz (l := l.toNat) (hh := h.toNat) (by omega) hcap
        have hc : h.toNat ≤ cap := by omega
        have hsb := run_sliceBounds (P := P) (w := w) (isS := true) (len := xs.length) (cap := cap) (bound_rel hr hlo hl) (bound_rel hr hhi hh) h0 hle hc
        refine ⟨.slice (if cap = l.toNat then ao else ao.map (·.add (l.toNat * sz))) (h.toNat - l.toNat) (cap - l.toNat), ?_, .d _ _ (hsl _ _ (fun hn => ?_) (by omega) ?_)⟩
        · simp [execOp, ho, hav, Instr.sliceAt, Instr.slice, run_underlying (tk_slice hte), hsb, run_sizeOf hs]
        · have : ao = none := by split at hn <;> simp_all
          have := hn0 this; omega
        · by_cases hcl : cap = l.toNat
          · exact .inr (by omega)
          · exact .inl (by simp [hcl])
      · trivial
    · trivial
  · rename_i k ver off len hxv
    split
    · rename_i e key v sz' rows hte hg
      split
      · rename_i sz l h hs hl hh
        refine ResOk.pure ?_
        rintro ⟨rfl, rfl, h0, hle, hcap⟩ φ G a w hr
        have h1 := hr.opd x hx
        rw [hxv] at h1
        obtain ⟨hm, hk, L, hL, hver, hcr⟩ := hr.mem.get hg
        simp only at hver
        generalize hav : a.eval x = av at h1
        cases h1 with
        | vec _ _ _ _ _ L' hL' _ hh' _ =>
          rw [hL] at hL'; cases hL'
          obtain ⟨ao, cap, rfl, hlc, hpl⟩ := hh' hver.symm
          clear hh'
          have hsb := run_sliceBounds (P := P) (w := w) (isS := true) (len := len) (cap := cap) (bound_rel hr hlo hl) (bound_rel hr hhi hh) h0 hle (by omega)
          refine ⟨.slice (if cap = l.toNat then ao else ao.map (·.add (l.toNat * sz'))) (h.toNat - l.toNat) (cap - l.toNat), ?_, ?_⟩
          · simp [execOp, ho, hav, Instr.sliceAt, Instr.slice, run_underlying (tk_slice hte), hsb, run_sizeOf hs]
          · refine .vec k v _ _ _ L hL (by omega) (fun _ => ⟨_, _, rfl, by omega, fun hc => ?_⟩) rfl
            obtain ⟨rfl, hcapeq⟩ := hpl (by omega)
            refine ⟨?_, by omega⟩
            rw [if_neg (by omega)]
            simp only [Option.map_some, add_none, hcr.1, Nat.add_mul, Nat.add_assoc]
      · trivial
    · trivial
  · trivial
/- The rest. -/
def pickD (t : Bool) (x y : D) : D :=
  match x, y with
  | .bool a, .bool b => .bool (bif t then a else b)
  | x, y => bif t then x else y
def pickAV (t : Bool) (x y : AV) : AV :=
  match x, y with
  | .d x, .d y => .d (pickD t x y)
  | x, y => bif t then x else y
def pickR (c a b : Bool × AV) : Res :=
  match c.2 with
  | .d (.bool t) => .val (c.1 = true ∧ (t = true → a.1 = true) ∧ (t = false → b.1 = true)) (pickAV t a.2 b.2)
  | _ => .no
theorem pick_ok (P : Program) (S : St) (o : Oper) (c x y : Operand) (ho : o.op = .pick c x y) : ResOk P S o (pickR (S.opd c) (S.opd x) (S.opd y)) := by
  unfold pickR
  split
  · rename_i t hc
    refine ResOk.pure ?_
    rintro ⟨h1, h2, h3⟩ φ G a w hr
    have hcv := hr.opd c h1
    rw [hc] at hcv
    have e := bool_of hcv
    cases t
    · have hy := hr.opd y (h3 rfl)
      refine ⟨a.eval y, by simp [execOp, ho, e, asBool], ?_⟩
      have e2 : pickAV false (S.opd x).2 (S.opd y).2 = (S.opd y).2 := by
        unfold pickAV; split
        · rename_i u v h5 h6; rw [h6]; congr 1; unfold pickD; split <;> rfl
        · rfl
      rw [e2]; exact hy
    · have hx := hr.opd x (h2 rfl)
      refine ⟨a.eval x, by simp [execOp, ho, e, asBool], ?_⟩
      have e2 : pickAV true (S.opd x).2 (S.opd y).2 = (S.opd x).2 := by
        unfold pickAV; split
        · rename_i u v h5 h6; rw [h5]; congr 1; unfold pickD; split <;> rfl
        · rfl
      rw [e2]; exact hx
  · trivial

theorem move_ok (P : Program) (S : St) (o : Oper) (x : Operand) (ho : o.op = .move x ∨ o.op = .assign x) (hx : (S.opd x).1 = true) : ResOk P S o (.val True (S.opd x).2) := by
  refine ResOk.pure fun _ φ G a w hr => ⟨a.eval x, ?_, hr.opd x hx⟩
  rcases ho with ho | ho <;> simp [execOp, ho]

def unR (op : UnOp) (x : AV) : Res :=
  match op, x with
  | .not, .d (.bool b) => .val True (.d (.bool (!b)))
  | .neg, .d (.int k n) => .val True (.d (.int k (k.wrap (0 - n))))
  | .xor, .d (.int k n) => .val True (.d (.int k (k.wrap (BitVec.ofInt k.bits (if k.signed then -1 else k.max) ^^^ BitVec.ofInt k.bits n).toNat)))
  | _, _ => .no
theorem un_ok (P : Program) (S : St) (o : Oper) (op : UnOp) (t : TypeId) (x : Operand) (ho : o.op = .unOp op t x) (hx : (S.opd x).1 = true) : ResOk P S o (unR op (S.opd x).2) := by
  unfold unR
  split
  · rename_i b hxv
    refine ResOk.pure fun _ φ G a w hr => ?_
    have h1 := hr.opd x hx
    rw [hxv] at h1
    exact ⟨.bool (!b), by simp [execOp, ho, bool_of h1, Op.unary], .d _ _ (.bool _)⟩
  · rename_i k n hxv
    refine ResOk.pure fun _ φ G a w hr => ?_
    have h1 := hr.opd x hx
    rw [hxv] at h1
    exact ⟨.int k (k.wrap (0 - n)), by simp only [execOp, ho, int_of h1, Op.unary, Op.intArith, Sem.run_bind, Sem.run_pure, Result.andThen_ok], .d _ _ (.int _ _)⟩
  · rename_i k n hxv
    refine ResOk.pure fun _ φ G a w hr => ?_
    have h1 := hr.opd x hx
    rw [hxv] at h1
    exact ⟨_, by simp only [execOp, ho, int_of h1, Op.unary, Op.intBits, Sem.run_bind, Sem.run_pure, Result.andThen_ok], .d _ _ (.int _ _)⟩
  · trivial

def extractR (i : Nat) (x : AV) : Res :=
  match x with
  | .tup vs => match vs[i]? with
    | some v => .val True v
    | none => .no
  | _ => .no
theorem extract_ok (P : Program) (S : St) (o : Oper) (x : Operand) (i : Nat) (ho : o.op = .extract x i) (hx : (S.opd x).1 = true) : ResOk P S o (extractR i (S.opd x).2) := by
  unfold extractR
  split
  · rename_i vs hxv
    split
    · rename_i v hv
      refine ResOk.pure fun _ φ G a w hr => ?_
      have h1 := hr.opd x hx
      rw [hxv] at h1
      generalize hav : a.eval x = av at h1
      cases h1 with | tup _ xa hl hc =>
      have hi : i < xa.size := by rw [← hl]; exact (List.getElem?_eq_some_iff.1 hv).1
      exact ⟨xa[i], by simp [execOp, ho, hav, Instr.extract, hi], hc i v _ hv (by simp [hi])⟩
    · trivial
  · trivial

def makeFuncR (f : Fn) (first : Array Operand) (cap : List AV) : Res :=
  match f, first.toList with
  | .func f, [] => .val True (.fn f cap)
  | _, _ => .no
theorem makeFunc_ok (P : Program) (S : St) (o : Oper) (f : Fn) (first cap : Array Operand) (ho : o.op = .makeFunc f first cap) (hc : ∀ x ∈ cap.toList, (S.opd x).1 = true) : ResOk P S o (makeFuncR f first (cap.toList.map fun x => (S.opd x).2)) := by
  unfold makeFuncR
  split
  · rename_i f hf
    refine ResOk.pure fun _ φ G a w hr => ?_
    have hfe : first = #[] := by cases first; simp_all
    refine ⟨.func (.func f) #[] (cap.map a.eval), by simp [execOp, ho, Instr.makeFunc, hfe], .fn f _ _ (by simp) (fun i c v h1 h2 => ?_)⟩
    simp only [List.getElem?_map, Array.getElem?_toList, Option.map_eq_some_iff] at h1
    simp only [Array.getElem?_map, Option.map_eq_some_iff] at h2
    obtain ⟨x, hx, rfl⟩ := h1
    obtain ⟨y, hy, rfl⟩ := h2
    rw [hx] at hy; cases hy
    exact hr.opd x (hc x (by simpa using Array.mem_of_getElem? hx))
  · trivial

def makeIfaceR (P : Program) (t : TypeId) (x : AV) : Res :=
  match x.norm with
  | .d d => .val (tk P t ≠ .iface ∧ tk P t ≠ .other) (.ifc t d)
  | _ => .no
theorem tk_known {P : Program} {t : TypeId} (h : tk P t ≠ .other) : ∃ d, P.underlying t = some d := by
  unfold tk at h
  cases hu : P.underlying t with
  | none => simp [hu] at h
  | some d => exact ⟨d, rfl⟩
theorem makeIface_ok (P : Program) (S : St) (o : Oper) (t : TypeId) (x : Operand) (ho : o.op = .makeInterface t x) (hx : (S.opd x).1 = true) : ResOk P S o (makeIfaceR P t (S.opd x).2) := by
  unfold makeIfaceR
  split
  · rename_i d hxv
    refine ResOk.pure ?_
    rintro ⟨h1, h2⟩ φ G a w hr
    have h3 := (hr.opd x hx).norm
    rw [hxv] at h3
    obtain ⟨td, hu⟩ := tk_known h2
    refine ⟨.iface t (a.eval x), ?_, ?_⟩
    · have hne : ∀ ms, td ≠ .interface ms := by rintro ms rfl; simp [tk, hu] at h1
      simp only [execOp, ho, Instr.makeInterface, Sem.run_bind, run_underlying hu, Result.andThen_ok]
      cases td <;> first | rfl | exact absurd rfl (hne _)
    · cases h3 with | d _ _ h => exact .ifc t d _ h
  · trivial

/- len -/
def lenRm (P : Program) (m : Mem) (t : TypeId) (x : AV) : Res :=
  match x with
  | .d (.str s) => .val (tk P t = .str) (.d (.int .i64 s.length))
  | .d (.list xs) => match tk P t with
    | .slice _ => .val True (.d (.int .i64 xs.length))
    | _ => .no
  | .vec k ver _ len => match tk P t, Mem.get m k with
    | .slice _, some ⟨_, v, _⟩ => .val (v = ver) (.d (.int .i64 len))
    | _, _ => .no
  | .lit (.slice none 0 0) => match tk P t with
    | .slice _ => .val True (.d (.int .i64 0))
    | _ => .no
  | .nn => match tk P t with
    | .slice _ => .val True (.d (.int .i64 0))
    | _ => .no
  | _ => match tk P t with
    | .arr n _ => .val True (.d (.int .i64 n))
    | _ => .no
theorem run_len_slice {P : Program} {w : World} {t ty e : TypeId} {ao len cap} (h : tk P t = .slice e) : (Builtin.len_ #[t] ty #[.slice ao len cap]).run P w = .ok (.int .i64 len) w := by
  simp [Builtin.len_, run_underlying (tk_slice h), goInt]
theorem len_ok (P : Program) (S : St) (o : Oper) (x : Operand) (t : TypeId) (ho : o.op = .call { callee := .builtin .len, args := #[x], argTypes := #[t] }) (hx : (S.opd x).1 = true) : ResOk P S o (lenRm P S.mem t (S.opd x).2) := by
  have hrun : ∀ (a : Act) (w : World) (v : Value), (Builtin.len_ #[t] o.type #[a.eval x]).run P w = .ok v w → (execOp a.eval o).run P w = .ok (.value v) w := by
    intro a w v h
    simp [execOp, ho, resolve, invoke, builtin, h]
  unfold lenRm
  split
  · rename_i s hxv
    refine ResOk.pure fun ht φ G a w hr => ?_
    have h1 := hr.opd x hx
    rw [hxv] at h1
    obtain ⟨b, e1, rfl⟩ := str_of h1
    have hbs : b.size = b.data.toList.length := by rw [Array.length_toList]; rfl
    refine ⟨.int .i64 b.data.toList.length, hrun a w _ ?_, .d _ _ (.int _ _)⟩
    simp only [Builtin.len_, e1, List.getElem?_toArray, List.getElem?_cons_zero, Sem.run_bind, run_underlying (tk_str ht), Result.andThen_ok, Sem.run_pure, goInt, ← hbs]
  · rename_i xs hxv
    split
    · rename_i e hte
      refine ResOk.pure fun _ φ G a w hr => ?_
      have h1 := hr.opd x hx
      rw [hxv] at h1
      generalize hav : a.eval x = av at h1
      cases h1 with | d _ _ h =>
      have hl : ∃ ao cap, av = .slice ao xs.length cap := by cases h <;> exact ⟨_, _, rfl⟩
      obtain ⟨ao, cap, rfl⟩ := hl
      exact ⟨_, hrun a w _ (by rw [hav]; exact run_len_slice hte), .d _ _ (.int _ _)⟩
    · trivial
  · rename_i k ver off len hxv
    split
    · rename_i e key v cont hte hg
      refine ResOk.pure ?_
      rintro rfl φ G a w hr
      have h1 := hr.opd x hx
      rw [hxv] at h1
      obtain ⟨hm, hk, L, hL, hver, hcr⟩ := hr.mem.get hg
      simp only at hver
      generalize hav : a.eval x = av at h1
      cases h1 with
      | vec _ _ _ _ _ L' hL' _ hh' _ =>
        rw [hL] at hL'; cases hL'
        obtain ⟨ao, cap, rfl, hlc, hpl⟩ := hh' hver.symm
        exact ⟨_, hrun a w _ (by rw [hav]; exact run_len_slice hte), .d _ _ (.int _ _)⟩
    · trivial
  · rename_i hxv
    split
    · rename_i e hte
      refine ResOk.pure fun _ φ G a w hr => ?_
      have h1 := hr.opd x hx
      rw [hxv] at h1
      generalize hav : a.eval x = av at h1
      cases h1
      exact ⟨_, hrun a w _ (by rw [hav]; exact run_len_slice hte), .d _ _ (.int _ _)⟩
    · trivial
  · rename_i hxv
    split
    · rename_i e hte
      refine ResOk.pure fun _ φ G a w hr => ?_
      have h1 := hr.opd x hx
      rw [hxv] at h1
      generalize hav : a.eval x = av at h1
      cases h1
      exact ⟨_, hrun a w _ (by rw [hav]; exact run_len_slice hte), .d _ _ (.int _ _)⟩
    · trivial
  · split
    · rename_i n e hte
      refine ResOk.pure fun _ φ G a w hr => ?_
      refine ⟨.int .i64 n, hrun a w _ ?_, .d _ _ (.int _ _)⟩
      simp [Builtin.len_, run_underlying (tk_arr hte), goInt]
    · trivial

/- min, max of two or more integers -/
def foldMax (isMax : Bool) : AV → List AV → Option D
  | .d (.int k a), [] => some (.int k a)
  | .d (.int k a), y :: r => match y with
    | .d (.int _ b) => foldMax isMax (.d (.int k (if isMax then (if b > a then b else a) else (if b < a then b else a)))) r
    | _ => none
  | _, _ => none
def maxR (isMax : Bool) (xs : List AV) : Res :=
  match xs with
  | x :: r => match foldMax isMax x r with
    | some d => .val True (.d d)
    | none => .no
  | [] => .no
theorem foldMax_run {P : Program} {φ w F} (isMax : Bool) : ∀ (xs : List AV) (x : AV) (vs : List Value) (v : Value) (d : D), foldMax isMax x xs = some d → AVRel φ w F x v → xs.length = vs.length →
    (∀ (i : Nat) c u, xs[i]? = some c → vs[i]? = some u → AVRel φ w F c u) →
    ∃ u, (vs.foldlM (if isMax then Builtin.max2 else Builtin.min2) v).run P w = .ok u w ∧ DRel w F d u := by
  intro xs
  induction xs with
  | nil =>
    intro x vs v d h hx hl hc
    have : vs = [] := List.eq_nil_of_length_eq_zero (by simpa using hl.symm)
    subst this
    unfold foldMax at h
    split at h <;> simp_all
    subst h
    rw [int_of hx]
    exact .int _ _
  | cons y ys ih =>
    intro x vs v d h hx hl hc
    cases vs with
    | nil => simp at hl
    | cons u us =>
      unfold foldMax at h
      split at h
      · simp_all
      · rename_i k a y' r heq
        simp at heq
        obtain ⟨rfl, rfl⟩ := heq
        split at h
        · rename_i k2 b
          have e1 := int_of hx
          have e2 := int_of (hc 0 (.d (.int k2 b)) u (by simp) (by simp))
          subst e1; subst e2
          have hc' : ∀ (i : Nat) c u, ys[i]? = some c → us[i]? = some u → AVRel φ w F c u := fun i c u h1 h2 => hc (i + 1) c u (by simpa using h1) (by simpa using h2)
          cases isMax
          · obtain ⟨u', h1, h2⟩ := ih _ us (.int k (if b < a then b else a)) d h (.d _ _ (.int _ _)) (by simpa using hl) hc'
            refine ⟨u', ?_, h2⟩
            simp only [Bool.false_eq_true, if_false] at h1 ⊢
            simp only [List.foldlM_cons, Builtin.min2, pure_bind]
            exact h1
          · obtain ⟨u', h1, h2⟩ := ih _ us (.int k (if b > a then b else a)) d h (.d _ _ (.int _ _)) (by simpa using hl) hc'
            refine ⟨u', ?_, h2⟩
            simp only [if_true] at h1 ⊢
            simp only [List.foldlM_cons, Builtin.max2, pure_bind]
            exact h1
        · cases h
      · cases h
theorem max_ok (P : Program) (S : St) (o : Oper) (isMax : Bool) (args : Array Operand) (ts : Array TypeId) (ho : o.op = .call { callee := .builtin (if isMax then .max else .min), args, argTypes := ts }) (hx : ∀ x ∈ args.toList, (S.opd x).1 = true) : ResOk P S o (maxR isMax (args.toList.map fun x => (S.opd x).2)) := by
  unfold maxR
  split
  · rename_i x r heq
    split
    · rename_i d hd
      refine ResOk.pure fun _ φ G a w hr => ?_
      obtain ⟨l, hl⟩ : ∃ l, args.toList = l := ⟨_, rfl⟩
      rw [hl] at heq hx
      cases l with
      | nil => simp at heq
      | cons y ys =>
        simp at heq
        obtain ⟨rfl, rfl⟩ := heq
        obtain ⟨u, h1, h2⟩ := foldMax_run (P := P) (φ := φ) (w := w) (F := Fo G φ S.mem) isMax _ _ (ys.map a.eval) (a.eval y) d hd (hr.opd y (hx y (by simp))) (by simp) (fun i c u h1 h2 => by
          simp only [List.getElem?_map, Option.map_eq_some_iff] at h1 h2
          obtain ⟨p, hp, rfl⟩ := h1
          obtain ⟨q, hq, rfl⟩ := h2
          rw [hp] at hq; cases hq
          exact hr.opd p (hx p (by simp [List.mem_of_getElem? hp])))
        refine ⟨u, ?_, .d _ _ h2⟩
        have hal : (args.map a.eval).toList = a.eval y :: ys.map a.eval := by simp [hl]
        cases isMax
        · simp only [Bool.false_eq_true, if_false] at h1 ho
          simp [execOp, ho, resolve, invoke, builtin, Builtin.min_, hl, h1]
        · simp only [if_true] at h1 ho
          simp [execOp, ho, resolve, invoke, builtin, Builtin.max_, hl, h1]
    · trivial
  · trivial
end Go.Am

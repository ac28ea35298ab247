/-
  The abstract machine, part 10: operations on values.
-/
import Derived.Test.YtlbbjmbfclmmdaaDoorAm9
import Derived.Laws.StructEq
namespace Go.Am
open Go

/- Integers. -/
def intBin (op : BinOp) (k : IntKind) (a b : Int) : Option (Bool × D) :=
  match op with
  | .add => some (true, .int k (k.wrap (a + b)))
  | .sub => some (true, .int k (k.wrap (a - b)))
  | .mul => some (true, .int k (k.wrap (a * b)))
  | .quo => some (b ≠ 0, .int k (k.wrap (a.tdiv b)))
  | .rem => some (b ≠ 0, .int k (a.tmod b))
  | .and => some (true, .int k (k.wrap (BitVec.ofInt k.bits a &&& BitVec.ofInt k.bits b).toNat))
  | .or => some (true, .int k (k.wrap (BitVec.ofInt k.bits a ||| BitVec.ofInt k.bits b).toNat))
  | .xor => some (true, .int k (k.wrap (BitVec.ofInt k.bits a ^^^ BitVec.ofInt k.bits b).toNat))
  | .andNot => some (true, .int k (k.wrap (BitVec.ofInt k.bits a &&& ~~~BitVec.ofInt k.bits b).toNat))
  | .eql => some (true, .bool (a == b))
  | .neq => some (true, .bool (a != b))
  | .lss => some (true, .bool (decide (a < b)))
  | .leq => some (true, .bool (decide (a ≤ b)))
  | .gtr => some (true, .bool (decide (b < a)))
  | .geq => some (true, .bool (decide (b ≤ a)))
  | _ => none
def shiftBin (op : BinOp) (k : IntKind) (a b : Int) : Option (Bool × D) :=
  match op with
  | .shl => some (0 ≤ b, .int k (k.wrap (a * 2 ^ (min b.toNat k.bits))))
  | .shr => some (0 ≤ b, .int k (a.fdiv (2 ^ (min b.toNat k.bits))))
  | _ => none
def strBin (op : BinOp) (s t : List UInt8) : Option (Bool × D) :=
  match op with
  | .add => some (s.length + t.length ≤ 4611686018427387904, .str (s ++ t))
  | .eql => some (true, .bool (s == t))
  | .neq => some (true, .bool (!(s == t)))
  | .lss => some (true, .bool (Op.bytesLess s t))
  | .leq => some (true, .bool (Op.bytesLess s t || s == t))
  | .gtr => some (true, .bool (!(Op.bytesLess s t || s == t)))
  | .geq => some (true, .bool (!Op.bytesLess s t))
  | _ => none

/- Equality of data of flat types. -/
def eqFlat : TK → D → D → Option Bool
  | .int _, .int k a, .int k' b => if k = k' then some (a == b) else none
  | .bool, .bool a, .bool b => some (a == b)
  | .str, .str a, .str b => some (a == b)
  | _, _, _ => none
def eqFlats : List TK → List D → List D → Option Bool
  | [], [], [] => some true
  | k :: ks, x :: xs, y :: ys => match eqFlat k x y, eqFlats ks xs ys with
    | some a, some b => some (a && b)
    | _, _ => none
  | _, _, _ => none

/-- A struct all of whose fields are one cell each, none named by a blank: the kinds of its fields. -/
def flatStruct (P : Program) (t : TypeId) : Option (List TK) :=
  match P.underlying t with
  | some (.struct fs) => if !P.stoodInHeld t && !P.eqGuardType P.depth t && (fs.toList.zipIdx.all fun x => x.1.name ≠ "_" && x.1.offset == x.2) then some (fs.toList.map fun f => tk P f.type) else none
  | _ => none

def binR (P : Program) (op : BinOp) (t : TypeId) (x y : AV) : Res :=
  match x, y with
  | .d (.int k a), .d (.int k' b) => match op with
    | .shl => .val (0 ≤ b) (.d (.int k (k.wrap (a * 2 ^ (min b.toNat k.bits)))))
    | .shr => .val (0 ≤ b) (.d (.int k (a.fdiv (2 ^ (min b.toNat k.bits)))))
    | op => match intBin op k a b with
      | some (c, d) => .val (k = k' ∧ c) (.d d)
      | none => .no
  | .d (.str a), .d (.str b) => match strBin op a b with
    | some (c, d) => .val c (.d d)
    | none => .no
  | .d (.bool a), .d (.bool b) => match op with
    | .eql => .val (tk P t = .bool) (.d (.bool (a == b)))
    | .neq => .val (tk P t = .bool) (.d (.bool (a != b)))
    | _ => .no
  | .d (.agg a), .d (.agg b) => match flatStruct P t with
    | some ks => match eqFlats ks a b with
      | some r => match op with
        | .eql => .val True (.d (.bool r))
        | .neq => .val True (.d (.bool (!r)))
        | _ => .no
      | none => .no
    | none => .no
  | _, _ => .no

theorem eqGuard_skip (P : Program) (w : World) (op : BinOp) (t : TypeId) (x y : Operand) (a b : Value) (h : (∀ c, a ≠ .agg c) ∧ a ≠ .nilIface) : (eqGuard op t x y a b).run P w = .ok () w := by
  unfold eqGuard
  cases a <;> first | exact absurd rfl (h.1 _) | exact absurd rfl h.2 | (cases op <;> simp)

theorem binInt_run (P : Program) (w : World) (op : BinOp) (t : TypeId) (k : IntKind) (a b : Int) (c d) (h : intBin op k a b = some (c, d)) (hc : c = true) : ∃ v, (binOp op t (.int k a) (.int k b)).run P w = .ok v w ∧ ∀ F, DRel w F d v := by
  cases op <;> simp only [intBin, Option.some.injEq, Prod.mk.injEq, reduceCtorEq] at h <;> (try exact h.elim) <;> obtain ⟨rfl, rfl⟩ := h <;> (try simp only [decide_eq_true_eq] at hc) <;>
    refine ⟨_, by simp only [binOp, Op.intArith, Op.intDiv, Op.intBits, Op.intCmp, ne_eq, not_true_eq_false, if_false, hc, Sem.run_pure, gt_iff_lt, ge_iff_le]; rfl, fun F => by first | exact .int _ _ | exact .bool _⟩
theorem binShift_run (P : Program) (w : World) (op : BinOp) (t : TypeId) (k k' : IntKind) (a b : Int) (c d) (h : shiftBin op k a b = some (c, d)) (hc : c = true) : ∃ v, (binOp op t (.int k a) (.int k' b)).run P w = .ok v w ∧ ∀ F, DRel w F d v := by
  cases op <;> simp only [shiftBin, Option.some.injEq, Prod.mk.injEq, reduceCtorEq] at h <;> (try exact h.elim) <;> obtain ⟨rfl, rfl⟩ := h <;> (try simp only [decide_eq_true_eq] at hc) <;>
    refine ⟨_, by simp [binOp, Op.shift, show ¬ b < 0 by omega]; rfl, fun F => by first | exact .int _ _ | exact .bool _⟩
theorem binStr_run (P : Program) (w : World) (op : BinOp) (t : TypeId) (a b : ByteArray) (c d) (h : strBin op a.data.toList b.data.toList = some (c, d)) (hc : c = true) : ∃ v, (binOp op t (.string a) (.string b)).run P w = .ok v w ∧ ∀ F, DRel w F d v := by
  have ha : a.size = a.data.toList.length := by rw [Array.length_toList]; rfl
  have hb : b.size = b.data.toList.length := by rw [Array.length_toList]; rfl
  cases op <;> simp only [strBin, Option.some.injEq, Prod.mk.injEq, reduceCtorEq] at h <;> (try exact h.elim) <;> obtain ⟨rfl, rfl⟩ := h
  case add =>
    simp only [decide_eq_true_eq] at hc
    have hl : ¬ (9223372036854775807 < ((a.size : Int) + (b.size : Int))) := by omega
    refine ⟨.string (a ++ b), ?_, fun F => .str _ _ (by simp)⟩
    have hmax : IntKind.i64.max = 9223372036854775807 := by decide
    have : ¬ (((a.size + b.size : Nat) : Int) > IntKind.i64.max) := by rw [hmax]; push_cast; omega
    simp only [binOp, Op.stringOp, this, if_false, Sem.run_pure]
  all_goals
    refine ⟨_, by simp only [binOp, Op.stringOp, ByteArray.toList_eq, Sem.run_pure], fun F => .bool _⟩

theorem eqFlat_run {P : Program} {w : World} {F : Nat → Prop} {x y : D} {a b : Value} {r : Bool} {t : TypeId} (d : Nat) (h : eqFlat (tk P t) x y = some r) (hx : DRel w F x a) (hy : DRel w F y b) :
    (Op.equalIn (d + 1) t a b).run P w = .ok r w := by
  unfold eqFlat at h
  split at h
  · rename_i k' k n k2 m htk
    split at h
    · rename_i he; subst he; simp at h; subst h
      cases hx; cases hy
      exact run_equalIn_int w d t k _ n m (tk_int htk)
    · cases h
  · rename_i n m htk
    simp at h; subst h
    cases hx; cases hy
    exact run_equalIn_bool' w d t n m (tk_bool htk)
  · rename_i n m htk
    simp at h; subst h
    cases hx with | str n _ hn => cases hy with | str m _ hm =>
    subst hn; subst hm
    rw [run_equalIn_string w d t n m (tk_str htk), ByteArray.toList_eq, ByteArray.toList_eq]
  · cases h

theorem part_run {P : Program} {w : World} {t : TypeId} {cs : Array Value} {off : Nat} {v : Value} (h : (tk P t).agg = false) (ho : tk P t ≠ .other) (hv : cs[off]? = some v) : (part t cs off).run P w = .ok v w := by
  simp [part, run_isAgg ho, h, hv]

theorem eqFlats_run {P : Program} {w : World} {F : Nat → Prop} (d : Nat) {xa ya : Array Value} : ∀ (fs : List Field) (n : Nat) (xs ys : List D) (r : Bool), eqFlats (fs.map fun f => tk P f.type) xs ys = some r →
    ((fs.zipIdx n).all fun x => x.1.name ≠ "_" && x.1.offset == x.2) = true →
    (∀ (i : Nat) c v, xs[i]? = some c → xa[n + i]? = some v → DRel w F c v) → (∀ (i : Nat) c v, ys[i]? = some c → ya[n + i]? = some v → DRel w F c v) → n + xs.length ≤ xa.size → n + ys.length ≤ ya.size →
    (Op.eqFields (d + 1) xa ya fs).run P w = .ok r w
  | [], n, xs, ys, r, h, _, _, _, _, _ => by
    cases xs <;> cases ys <;> simp [eqFlats] at h
    subst h; simp [Op.eqFields]
  | f :: fs, n, xs, ys, r, h, ha, hx, hy, hlx, hly => by
    cases xs with
    | nil => simp [eqFlats] at h
    | cons x xs =>
    cases ys with
    | nil => simp [eqFlats] at h
    | cons y ys =>
    simp only [List.map_cons, eqFlats] at h
    split at h <;> simp at h
    rename_i p q hp hq
    subst h
    simp only [List.zipIdx_cons, List.all_cons, Bool.and_eq_true, decide_eq_true_eq, beq_iff_eq] at ha
    obtain ⟨⟨hne, hoff⟩, ha⟩ := ha
    simp only [List.length_cons] at hlx hly
    have hxn : n < xa.size := by omega
    have hyn : n < ya.size := by omega
    have hk : (tk P f.type).agg = false ∧ tk P f.type ≠ .other := by
      unfold eqFlat at hp
      split at hp <;> simp_all [TK.agg]
    have e1 := part_run (P := P) (w := w) hk.1 hk.2 (show xa[f.offset]? = some xa[n] by rw [hoff]; simp [hxn])
    have e2 := part_run (P := P) (w := w) hk.1 hk.2 (show ya[f.offset]? = some ya[n] by rw [hoff]; simp [hyn])
    have e3 := eqFlat_run d hp (hx 0 x xa[n] (by simp) (by simp [hxn])) (hy 0 y ya[n] (by simp) (by simp [hyn]))
    have ih := eqFlats_run d fs (n + 1) xs ys q hq (by simpa using ha) (fun i c v hc hv => hx (i + 1) c v (by simpa using hc) (by rw [show n + (i + 1) = n + 1 + i by omega]; exact hv))
      (fun i c v hc hv => hy (i + 1) c v (by simpa using hc) (by rw [show n + (i + 1) = n + 1 + i by omega]; exact hv)) (by omega) (by omega)
    simp only [Op.eqFields, hne, ne_eq, not_false_eq_true, if_true, Sem.run_bind, e1, e2, e3, Result.andThen_ok, Sem.run_ite, Sem.run_pure, ih]
    cases p <;> simp

theorem binR_ok (P : Program) (S : St) (o : Oper) (op : BinOp) (t t' : TypeId) (x y : Operand) (ho : o.op = .binOp op t x y t') (hx : (S.opd x).1 = true) (hy : (S.opd y).1 = true) : ResOk P S o (binR P op t (S.opd x).2 (S.opd y).2) := by
  have hrun : ∀ (a : Act) (w : World) (v : Value), (∀ c, a.eval x ≠ .agg c) → a.eval x ≠ .nilIface → (binOp op t (a.eval x) (a.eval y)).run P w = .ok v w → (execOp a.eval o).run P w = .ok (.value v) w := by
    intro a w v h1 h2 h
    simp [execOp, ho, eqGuard_skip P w op t x y _ (a.eval y) ⟨h1, h2⟩, h]
  unfold binR
  split
  · rename_i k n k' m hxv hyv
    have hev : ∀ {φ G a w}, Rel φ G S a w → a.eval x = .int k n ∧ a.eval y = .int k' m := fun hr => by
      have h1 := hr.opd x hx
      have h2 := hr.opd y hy
      rw [hxv] at h1; rw [hyv] at h2
      exact ⟨int_of h1, int_of h2⟩
    split
    · refine ResOk.pure fun hc φ G a w hr => ?_
      obtain ⟨v, h1, h2⟩ := binShift_run P w .shl t k k' n m _ _ rfl (decide_eq_true hc)
      exact ⟨v, hrun a w v (by simp [(hev hr).1]) (by simp [(hev hr).1]) (by rw [(hev hr).1, (hev hr).2]; exact h1), .d _ _ (h2 _)⟩
    · refine ResOk.pure fun hc φ G a w hr => ?_
      obtain ⟨v, h1, h2⟩ := binShift_run P w .shr t k k' n m _ _ rfl (decide_eq_true hc)
      exact ⟨v, hrun a w v (by simp [(hev hr).1]) (by simp [(hev hr).1]) (by rw [(hev hr).1, (hev hr).2]; exact h1), .d _ _ (h2 _)⟩
    · split
      · rename_i c d h
        refine ResOk.pure ?_
        rintro ⟨rfl, hc⟩ φ G a w hr
        obtain ⟨v, h1, h2⟩ := binInt_run P w op t k n m c d h hc
        exact ⟨v, hrun a w v (by simp [(hev hr).1]) (by simp [(hev hr).1]) (by rw [(hev hr).1, (hev hr).2]; exact h1), .d _ _ (h2 _)⟩
      · trivial
  · rename_i s u hxv hyv
    split
    · rename_i c d h
      refine ResOk.pureB fun hc φ G a w hr => ?_
      have h1 := hr.opd x hx
      have h2 := hr.opd y hy
      rw [hxv] at h1; rw [hyv] at h2
      obtain ⟨b1, e1, rfl⟩ := str_of h1
      obtain ⟨b2, e2, rfl⟩ := str_of h2
      obtain ⟨v, h3, h4⟩ := binStr_run P w op t b1 b2 c d h hc
      exact ⟨v, hrun a w v (by simp [e1]) (by simp [e1]) (by rw [e1, e2]; exact h3), .d _ _ (h4 _)⟩
    · trivial
  · rename_i n m hxv hyv
    have hev : ∀ {φ G a w}, Rel φ G S a w → a.eval x = .bool n ∧ a.eval y = .bool m := fun hr => by
      have h1 := hr.opd x hx
      have h2 := hr.opd y hy
      rw [hxv] at h1; rw [hyv] at h2
      exact ⟨bool_of h1, bool_of h2⟩
    split
    · refine ResOk.pure fun hc φ G a w hr => ⟨.bool (n == m), hrun a w _ (by simp [(hev hr).1]) (by simp [(hev hr).1]) ?_, .d _ _ (.bool _)⟩
      rw [(hev hr).1, (hev hr).2]
      simp [binOp, Op.equal, Op.maxDepth, run_equalIn_bool' w 9999 t n m (tk_bool hc)]
    · refine ResOk.pure fun hc φ G a w hr => ⟨.bool (n != m), hrun a w _ (by simp [(hev hr).1]) (by simp [(hev hr).1]) ?_, .d _ _ (.bool _)⟩
      rw [(hev hr).1, (hev hr).2]
      simp [binOp, Op.equal, Op.maxDepth, run_equalIn_bool' w 9999 t n m (tk_bool hc), bne]
    · trivial
  · rename_i xs ys hxv hyv
    split
    · rename_i ks hks
      split
      · rename_i r hr0
        have key : ∀ {φ G a w}, Rel φ G S a w → ∃ xa ya, a.eval x = .agg xa ∧ a.eval y = .agg ya ∧ (Op.equal t (.agg xa) (.agg ya)).run P w = .ok r w ∧ (eqGuard op t x y (.agg xa) (.agg ya)).run P w = .ok () w := by
          intro φ G a w hr
          have h1 := hr.opd x hx
          have h2 := hr.opd y hy
          rw [hxv] at h1; rw [hyv] at h2
          generalize a.eval x = xv at h1
          generalize a.eval y = yv at h2
          cases h1 with | d _ _ h1 =>
          cases h2 with | d _ _ h2 =>
          cases h1 with | agg _ xa hlx hfx hcx =>
          cases h2 with | agg _ ya hly hfy hcy =>
          unfold flatStruct at hks
          split at hks
          · rename_i fs hu
            split at hks
            · rename_i hcond
              simp only [Bool.and_eq_true, Bool.not_eq_true'] at hcond
              obtain ⟨⟨hsi, hgt⟩, hall⟩ := hcond
              simp at hks
              subst hks
              refine ⟨xa, ya, rfl, rfl, ?_, ?_⟩
              · have hf : P.fieldsOf t = fs := by simp [Program.fieldsOf, hu]
                unfold Op.equal Op.maxDepth
                rw [run_equalIn_struct w 9999 t xa ya (by rw [hf]; exact hu) hsi, hf]
                exact eqFlats_run 9998 fs.toList 0 xs ys r hr0 hall (fun i c v hc hv => hcx i c v hc (by simpa using hv)) (fun i c v hc hv => hcy i c v hc (by simpa using hv)) (by omega) (by omega)
              · cases op <;> simp [eqGuard, hgt]
            · cases hks
          · cases hks
        split
        · refine ResOk.pure fun _ φ G a w hr => ?_
          obtain ⟨xa, ya, e1, e2, h1, h2⟩ := key hr
          exact ⟨.bool r, by simp [execOp, ho, e1, e2, h2, binOp, h1], .d _ _ (.bool _)⟩
        · refine ResOk.pure fun _ φ G a w hr => ?_
          obtain ⟨xa, ya, e1, e2, h1, h2⟩ := key hr
          exact ⟨.bool (!r), by simp [execOp, ho, e1, e2, h2, binOp, h1], .d _ _ (.bool _)⟩
        · trivial
      · trivial
    · trivial
  · trivial

/- Comparisons with the constant nil. -/
def nilR (P : Program) (m : Mem) (neg : Bool) (t : TypeId) (x : AV) : Value → Res
  | .slice none 0 0 => match tk P t with
    | .slice _ => match x with
      | .d (.list (_ :: _)) => .val true (.d (.bool neg))
      | .lit (.slice none 0 0) => .val true (.d (.bool (!neg)))
      | .nn => .val true (.d (.bool neg))
      | .vec k ver _ len => match Mem.get m k with
        | some ⟨_, v, .vec _ _⟩ => .val (v = ver ∧ 0 < len) (.d (.bool neg))
        | _ => .no
      | _ => .no
    | _ => .no
  | .pointer none => match tk P t with
    | .ptr _ => match x with
      | .lit (.pointer none) => .val true (.d (.bool (!neg)))
      | .ptr k ver _ => match Mem.get m k with
        | some ⟨_, v, _⟩ => .val (v = ver) (.d (.bool neg))
        | _ => .no
      | _ => .no
    | _ => .no
  | .nilIface => match tk P t with
    | .iface => match x with
      | .ifc _ _ => .val true (.d (.bool neg))
      | .lit .nilIface => .val true (.d (.bool (!neg)))
      | _ => .no
    | _ => .no
  | _ => .no

theorem list_addr' {φ w F d ds v} (h : AVRel φ w F (.d (.list (d :: ds))) v) : ∃ b off cap, v = .slice (some ⟨b, off, none⟩) (ds.length + 1) cap := by
  cases h with | d _ _ h =>
  cases h with | list _ b off cap sz vs => exact ⟨b, off, cap, rfl⟩
theorem tk_ptr {P : Program} {t e : TypeId} (h : tk P t = .ptr e) : P.underlying t = some (.pointer e) := by
  unfold tk at h; split at h <;> simp_all
theorem tk_iface {P : Program} {t : TypeId} (h : tk P t = .iface) : ∃ ms, P.underlying t = some (.interface ms) := by
  unfold tk at h; split at h <;> simp_all


theorem eqnil_slice {P : Program} (w : World) (d : Nat) {t e : TypeId} (a : Option Addr) (n c : Nat) (h : P.underlying t = some (.slice e)) :
    (Op.equalIn (d + 1) t (.slice a n c) (.slice none 0 0)).run P w = .ok a.isNone w := by
  cases a <;> simp [Op.equalIn, run_underlying h]
theorem eqnil_ptr {P : Program} (w : World) (d : Nat) {t e : TypeId} (a : Option Addr) (h : P.underlying t = some (.pointer e)) :
    (Op.equalIn (d + 1) t (.pointer a) (.pointer none)).run P w = .ok a.isNone w := by
  cases a <;> simp [Op.equalIn, run_underlying h]
theorem eqnil_iface {P : Program} (w : World) (d : Nat) {t : TypeId} {ms} (tx : TypeId) (v : Value) (h : P.underlying t = some (.interface ms)) :
    (Op.equalIn (d + 1) t (.iface tx v) .nilIface).run P w = .ok false w := by
  simp [Op.equalIn, run_underlying h]
theorem eqnil_iface0 {P : Program} (w : World) (d : Nat) {t : TypeId} {ms} (h : P.underlying t = some (.interface ms)) :
    (Op.equalIn (d + 1) t .nilIface .nilIface).run P w = .ok true w := by
  simp [Op.equalIn, run_underlying h]
theorem nil_run {P : Program} {o : Oper} {neg : Bool} {t t' : TypeId} {x : Operand} {v : Value} (ho : o.op = .binOp (if neg then .neq else .eql) t x (.const v) t') {a : Act} {w : World} {b : Bool}
    (h1 : ∀ c, a.eval x ≠ .agg c) (hvn : v = .slice none 0 0 ∨ v = .pointer none ∨ v = .nilIface) (hxn : (∀ k n, a.eval x ≠ .int k n) ∧ (∀ k n, a.eval x ≠ .float k n) ∧ (∀ k n m, a.eval x ≠ .complex k n m) ∧ (∀ s, a.eval x ≠ .string s))
    (h : (Op.equalIn 10000 t (a.eval x) v).run P w = .ok b w) : (execOp a.eval o).run P w = .ok (.value (.bool (if neg then !b else b))) w := by
  have e : a.eval (.const v) = v := rfl
  have hg : (eqGuard (if neg then .neq else .eql) t x (.const v) (a.eval x) v).run P w = .ok () w := by
    unfold eqGuard
    generalize a.eval x = u at h1 ⊢
    rcases hvn with rfl | rfl | rfl <;> cases u <;> cases neg <;> simp
  have hb : (binOp (if neg then .neq else .eql) t (a.eval x) v).run P w = .ok (.bool (if neg then !b else b)) w := by
    generalize a.eval x = u at h hxn ⊢
    obtain ⟨g1, g2, g3, g4⟩ := hxn
    rcases hvn with rfl | rfl | rfl <;> cases u <;> cases neg <;> simp_all [binOp, Op.equal, Op.maxDepth]
  simp only [execOp, ho, e, Sem.run_bind, hg, Result.andThen_ok, hb, Sem.run_pure]

theorem nilR_ok (P : Program) (S : St) (o : Oper) (neg : Bool) (t t' : TypeId) (x : Operand) (v : Value) (ho : o.op = .binOp (if neg then .neq else .eql) t x (.const v) t') (hx : (S.opd x).1 = true) : ResOk P S o (nilR P S.mem neg t (S.opd x).2 v) := by
  have go : ∀ {φ G a w} {b : Bool}, Rel φ G S a w → (∀ c, a.eval x ≠ .agg c) → (v = .slice none 0 0 ∨ v = .pointer none ∨ v = .nilIface) → ((∀ k n, a.eval x ≠ .int k n) ∧ (∀ k n, a.eval x ≠ .float k n) ∧ (∀ k n m, a.eval x ≠ .complex k n m) ∧ (∀ s, a.eval x ≠ .string s)) →
      (Op.equalIn 10000 t (a.eval x) v).run P w = .ok b w → ∃ v', (execOp a.eval o).run P w = .ok (.value v') w ∧ AVRel φ w (Fo G φ S.mem) (.d (.bool (if neg then !b else b))) v' := by
    intro φ G a w b hr h1 h2 h3 h4
    exact ⟨_, nil_run ho h1 h2 h3 h4, .d _ _ (.bool _)⟩
  have eb : ∀ {b : Bool}, (if neg = true then !b else b) = (if neg = true then !b else b) := rfl
  unfold nilR
  split
  · split
    · rename_i e ht
      have ht' := tk_slice ht
      split
      · rename_i d ds hxv
        refine ResOk.pureB fun _ φ G a w hr => ?_
        have hv := hr.opd x hx
        rw [hxv] at hv
        obtain ⟨b, off, cap, hev⟩ := list_addr' hv
        have := go (b := false) hr (by simp [hev]) (.inl rfl) (by simp [hev]) (by rw [hev]; exact eqnil_slice w 9999 _ _ _ ht')
        cases neg <;> simpa using this
      · rename_i hxv
        refine ResOk.pureB fun _ φ G a w hr => ?_
        have hv := hr.opd x hx
        rw [hxv] at hv
        generalize hev : a.eval x = u at hv
        cases hv
        have := go (b := true) hr (by simp [hev]) (.inl rfl) (by simp [hev]) (by rw [hev]; exact eqnil_slice w 9999 _ _ _ ht')
        cases neg <;> simpa using this
      · rename_i hxv
        refine ResOk.pureB fun _ φ G a w hr => ?_
        have hv := hr.opd x hx
        rw [hxv] at hv
        generalize hev : a.eval x = u at hv
        cases hv
        have := go (b := false) hr (by simp [hev]) (.inl rfl) (by simp [hev]) (by rw [hev]; exact eqnil_slice w 9999 _ _ _ ht')
        cases neg <;> simpa using this
      · rename_i k ver off len hxv
        split
        · rename_i key v' sz rows hg
          refine ResOk.pure ?_
          rintro ⟨rfl, hlen⟩ φ G a w hr
          have hv := hr.opd x hx
          rw [hxv] at hv
          obtain ⟨hm, hk, L, hL, hver, hcr⟩ := hr.mem.get hg
          generalize hev : a.eval x = u at hv
          cases hv with
          | vec _ _ _ _ _ L' hL' _ h _ =>
            rw [hL] at hL'; cases hL'
            obtain ⟨ao, cap, rfl, hlc, hpl⟩ := h hver.symm
            obtain ⟨rfl, _⟩ := hpl (by omega)
            have := go (b := false) hr (by simp [hev]) (.inl rfl) (by simp [hev]) (by rw [hev]; exact eqnil_slice w 9999 _ _ _ ht')
            cases neg <;> simpa using this
        · trivial
      · trivial
    · trivial
  · split
    · rename_i e ht
      have ht' := tk_ptr ht
      split
      · rename_i hxv
        refine ResOk.pureB fun _ φ G a w hr => ?_
        have hv := hr.opd x hx
        rw [hxv] at hv
        generalize hev : a.eval x = u at hv
        cases hv
        have := go (b := true) hr (by simp [hev]) (.inr (.inl rfl)) (by simp [hev]) (by rw [hev]; exact eqnil_ptr w 9999 _ ht')
        cases neg <;> simpa using this
      · rename_i k ver off hxv
        split
        · rename_i key v' c hg
          refine ResOk.pure ?_
          rintro rfl φ G a w hr
          have hv := hr.opd x hx
          rw [hxv] at hv
          obtain ⟨hm, hk, L, hL, hver, hcr⟩ := hr.mem.get hg
          have hev := hv.ptr_eq hL hver
          have := go (b := false) hr (by simp [hev]) (.inr (.inl rfl)) (by simp [hev]) (by rw [hev]; exact eqnil_ptr w 9999 _ ht')
          cases neg <;> simpa using this
        · trivial
      · trivial
    · trivial
  · split
    · rename_i ht
      obtain ⟨ms, ht'⟩ := tk_iface ht
      split
      · rename_i ti xi hxv
        refine ResOk.pureB fun _ φ G a w hr => ?_
        have hv := hr.opd x hx
        rw [hxv] at hv
        generalize hev : a.eval x = u at hv
        cases hv
        have := go (b := false) hr (by simp [hev]) (.inr (.inr rfl)) (by simp [hev]) (by rw [hev]; exact eqnil_iface w 9999 _ _ ht')
        cases neg <;> simpa using this
      · rename_i hxv
        refine ResOk.pureB fun _ φ G a w hr => ?_
        have hv := hr.opd x hx
        rw [hxv] at hv
        generalize hev : a.eval x = u at hv
        cases hv
        have := go (b := true) hr (by simp [hev]) (.inr (.inr rfl)) (by simp [hev]) (by rw [hev]; exact eqnil_iface0 w 9999 ht')
        cases neg <;> simpa using this
      · trivial
    · trivial
  · trivial
end Go.Am

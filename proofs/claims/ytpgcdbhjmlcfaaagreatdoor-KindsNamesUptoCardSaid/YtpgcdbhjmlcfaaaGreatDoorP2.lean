/-
  Texts of one proof, one behind the other.
-/
import Derived.Test.YtpgcdbhjmlcfaaaGreatDoorP1
import Derived.Orders
set_option linter.all false
section
namespace Go.Am
open Go
def strAt (s : List UInt8) (i : Nat) : UInt8 := s[i]?.getD 0
def indexVR (P : Program) (t : TypeId) (x i : AV) : Res :=
 match i with
 | .d (.int _ n) => match x with
  | .d (.str s) => .val (tk P t = .str ∧ 0 ≤ n ∧ n.toNat < s.length) (.d (.int .u8 (strAt s n.toNat).toNat))
  | .d (.agg cs) => match tk P t with
   | .arr len e => match (tk P e).agg, tsz P e with
    | false, some 1 => .val (0 ≤ n ∧ n.toNat < len ∧ len ≤ cs.length ∧ tk P e ≠ .other) (.d (D.at cs n.toNat))
    | true, some sz => .val (0 ≤ n ∧ n.toNat < len ∧ len * sz ≤ cs.length) (.d (.agg ((cs.drop (n.toNat * sz)).take sz)))
    | _, _ => .no
   | _ => .no
  | _ => .no
 | _ => .no
theorem bytes_get (b : ByteArray) (i : Nat) : b[i]? = b.data.toList[i]? := by
 by_cases h : i < b.size
 · have h' : i < b.data.size := h
   rw [getElem?_pos b i h, Array.getElem?_toList, getElem?_pos b.data i h']
   rfl
 · have h' : ¬ i < b.data.size := h
   rw [getElem?_neg b i h, Array.getElem?_toList, getElem?_neg b.data i h']
theorem run_indexStr {P : Program} {w : World} {t : TypeId} {b : ByteArray} {k : IntKind} {n : Int} (ht : tk P t = .str) (h0 : 0 ≤ n) (hl : n.toNat < b.data.toList.length) :
 (Instr.index t (.string b) (.int k n)).run P w = .ok (.int .u8 (strAt b.data.toList n.toNat).toNat) w := by
 have e : b[n.toNat]? = some (strAt b.data.toList n.toNat) := by rw [bytes_get]; simp only [strAt]; rw [List.getElem?_eq_getElem hl]; rfl
 simp only [Instr.index, asIntOf, Sem.run_bind, Sem.run_pure, Result.andThen_ok, run_underlying (tk_str ht), h0, if_true, e]
theorem partN_run {P : Program} {w : World} {t : TypeId} {cs : Array Value} {off n : Nat} (h : (tk P t).agg = true) (hs : tsz P t = some n) : (part t cs off).run P w = .ok (.agg (cs.extract off (off + n))) w := by
 have ho : tk P t ≠ .other := by intro h'; rw [h'] at h; cases h
 simp [part, run_isAgg ho, h, run_sizeOf hs]
theorem take_drop_rel {w F} {cs : List D} {a : Array Value} (h : DRel w F (.agg cs) (.agg a)) (o n : Nat) (hle : o + n ≤ cs.length) : DRel w F (.agg ((cs.drop o).take n)) (.agg (a.extract o (o + n))) := by
 have hc := h.cells
 cases h with | agg _ _ hl hf hr =>
 have h2 := DRel.ofCells (w := w) (F := F) (cs := (cs.drop o).take n) (vs := (a.toList.drop o).take n) (by simp; omega)
  (fun v hv => hc.2.1 v (by simpa [Value.cells] using List.mem_of_mem_drop (List.mem_of_mem_take hv)))
  (fun i c v h1 h2 => by
   rw [List.getElem?_take] at h1 h2
   split at h1
   · rename_i hi
     simp only [hi, if_true] at h2
     exact hr (o + i) c v (by simpa using h1) (by simpa using h2)
   · cases h1)
 have e : ((a.toList.drop o).take n).toArray = a.extract o (o + n) := by
  apply Array.ext'
  simp
 rwa [e] at h2
theorem indexV_ok (P : Program) (S : St) (o : Oper) (t : TypeId) (x i : Operand) (ho : o.op = .index t x i) (hx : (S.opd x).1 = true) (hi : (S.opd i).1 = true) : ResOk P S o (indexVR P t (S.opd x).2 (S.opd i).2) := by
 unfold indexVR
 split
 · rename_i k n hiv
   split
   · rename_i s hxv
     refine ResOk.pure ?_
     rintro ⟨ht, h0, hl⟩ φ G a w hr
     have h1 := hr.opd x hx
     have h2 := hr.opd i hi
     rw [hxv] at h1; rw [hiv] at h2
     obtain ⟨b, e1, rfl⟩ := str_of h1
     exact ⟨_, by simp only [execOp, ho, e1, int_of h2, Sem.run_bind, run_indexStr ht h0 hl]; rfl, .d _ _ (.int _ _)⟩
   · rename_i cs hxv
     split
     · rename_i len e hte
       split
       · rename_i hag hs
         refine ResOk.pure ?_
         rintro ⟨h0, hl, hle, hne⟩ φ G a w hr
         have h1 := hr.opd x hx
         have h2 := hr.opd i hi
         rw [hxv] at h1; rw [hiv] at h2
         generalize hav : a.eval x = av at h1
         cases h1 with | d _ _ h1 =>
         cases h1 with | agg _ xa hlx hfx hcx =>
         have hn : n < (len : Int) := by omega
         have hxn : n.toNat < xa.size := by omega
         refine ⟨xa[n.toNat], ?_, .d _ _ (hcx n.toNat _ _ (getD_at (by omega)) (by simp [hxn]))⟩
         have hp := part_run (P := P) (w := w) (t := e) (cs := xa) (off := n.toNat * 1) hag hne (v := xa[n.toNat]) (by simp [hxn])
         simp only [Nat.mul_one] at hp
         simp [execOp, ho, hav, int_of h2, Instr.index, asIntOf, run_underlying (tk_arr hte), h0, hn, run_sizeOf hs, hp]
       · rename_i sz hag hs
         refine ResOk.pure ?_
         rintro ⟨h0, hl, hle⟩ φ G a w hr
         have h1 := hr.opd x hx
         have h2 := hr.opd i hi
         rw [hxv] at h1; rw [hiv] at h2
         generalize hav : a.eval x = av at h1
         cases h1 with | d _ _ h1 =>
         have h1' := h1
         cases h1 with | agg _ xa hlx hfx hcx =>
         have hn : n < (len : Int) := by omega
         have hle2 : n.toNat * sz + sz ≤ cs.length := by
          have : (n.toNat + 1) * sz ≤ len * sz := Nat.mul_le_mul_right _ hl
          rw [Nat.add_mul] at this; omega
         refine ⟨_, ?_, .d _ _ (take_drop_rel h1' (n.toNat * sz) sz hle2)⟩
         have hp := partN_run (P := P) (w := w) (t := e) (cs := xa) (off := n.toNat * sz) hag hs
         simp [execOp, ho, hav, int_of h2, Instr.index, asIntOf, run_underlying (tk_arr hte), h0, hn, run_sizeOf hs, hp]
       · trivial
     · trivial
   · trivial
 · trivial
def bound (m : Option AV) (dflt : Int) : Option Int :=
 match m with
 | none => some dflt
 | some (.d (.int _ n)) => some n
 | some _ => none
def sliceR (P : Program) (m : Mem) (t : TypeId) (x : AV) (lo hi : Option AV) : Res :=
 match x with
 | .d (.str s) => match bound lo 0, bound hi s.length with
  | some l, some h => .val (tk P t = .str ∧ 0 ≤ l ∧ l ≤ h ∧ h.toNat ≤ s.length) (.d (.str ((s.take h.toNat).drop l.toNat)))
  | _, _ => .no
 | .d (.list xs) => match tk P t with
  | .slice e => match tsz P e, bound lo 0, bound hi xs.length with
   | some sz, some l, some h => .val (0 ≤ l ∧ l ≤ h ∧ h.toNat ≤ xs.length ∧ (∀ d ∈ xs, d.size = sz)) (.d (.list ((xs.take h.toNat).drop l.toNat)))
   | _, _, _ => .no
  | _ => .no
 | .vec k ver off len => match tk P t, Mem.get m k with
  | .slice e, some ⟨_, v, .vec sz' _⟩ => match tsz P e, bound lo 0, bound hi len with
   | some sz, some l, some h => .val (v = ver ∧ sz' = sz ∧ 0 ≤ l ∧ l ≤ h ∧ h.toNat ≤ len) (.vec k ver (off + l.toNat) (h.toNat - l.toNat))
   | _, _, _ => .no
  | .slice e, some ⟨_, v, .vv _ _⟩ => match tsz P e, bound lo 0, bound hi len with
   | some sz, some l, some h => .val (v = ver ∧ sz = 1 ∧ 0 ≤ l ∧ l ≤ h ∧ h.toNat ≤ len) (.vec k ver (off + l.toNat) (h.toNat - l.toNat))
   | _, _, _ => .no
  | _, _ => .no
 | .eptr k ver i j => match tk P t, Mem.get m k with
  | .arr n e, some ⟨_, v, .vec sz' rows⟩ => match tsz P e, bound lo 0, bound hi n with
   | some sz, some l, some h => .val (v = ver ∧ sz' = sz ∧ i = 0 ∧ j = 0 ∧ n ≤ rows.length ∧ 0 ≤ l ∧ l ≤ h ∧ h.toNat ≤ n) (.vec k ver l.toNat (h.toNat - l.toNat))
   | _, _, _ => .no
  | _, _ => .no
 | .ptr k ver off => match tk P t, Mem.get m k with
  | .arr n e, some ⟨_, v, .box cs⟩ => match tsz P e, bound lo 0, bound hi n with
   | some sz, some l, some h => .val (v = ver ∧ sz = 1 ∧ off + n ≤ cs.length ∧ 0 ≤ l ∧ l ≤ h ∧ h.toNat ≤ n) (.vec k ver (off + l.toNat) (h.toNat - l.toNat))
   | _, _, _ => .no
  | _, _ => .no
 | _ => .no
theorem run_sliceBounds {P : Program} {w : World} {isS : Bool} {len cap : Nat} {lo hi : Option Value} {l h : Int}
 (hlo : (lo = none ∧ l = 0) ∨ ∃ k, lo = some (.int k l)) (hhi : (hi = none ∧ h = len) ∨ ∃ k, hi = some (.int k h)) (h0 : 0 ≤ l) (hle : l ≤ h) (hcap : h.toNat ≤ cap) :
 (Instr.sliceBounds isS len cap lo hi none).run P w = .ok (l.toNat, h.toNat, cap) w := by
 have h1 : h ≤ (cap : Int) := by omega
 have h2 : 0 ≤ h := by omega
 have h3 : l ≤ (h.toNat : Int) := by omega
 rcases hlo with ⟨rfl, rfl⟩ | ⟨k, rfl⟩ <;> rcases hhi with ⟨rfl, rfl⟩ | ⟨k', rfl⟩ <;>
  simp_all [Instr.sliceBounds, Instr.sliceBound, asIntOf]
theorem bound_rel {S : St} {φ G a w} (hr : Rel φ G S a w) {x : Option Operand} {dflt n : Int} (hx : ∀ y, x = some y → (S.opd y).1 = true) (h : bound (x.map fun y => (S.opd y).2) dflt = some n) :
 (x.map a.eval = none ∧ n = dflt) ∨ ∃ k, x.map a.eval = some (.int k n) := by
 cases x with
 | none => simp [bound] at h; exact .inl ⟨rfl, h.symm⟩
 | some y =>
  right
  simp only [Option.map_some] at h ⊢
  unfold bound at h
  split at h
  · rename_i heq; cases heq
  · rename_i k m heq
    simp at h heq
    subst h
    have := hr.opd y (hx y rfl)
    rw [heq] at this
    exact ⟨k, by rw [int_of this]⟩
  · cases h
theorem list_slice {w F xs v sz} (h : DRel w F (.list xs) v) (hs : ∀ d ∈ xs, d.size = sz) {l hh : Nat} (hle : l ≤ hh) (hlen : hh ≤ xs.length) :
 ∃ ao cap, v = .slice ao xs.length cap ∧ xs.length ≤ cap ∧ (ao = none → cap = 0) ∧ ∀ cap' ao', (ao' = none → cap' = 0) → hh - l ≤ cap' → (ao' = ao.map (·.add (l * sz)) ∨ (hh - l = 0)) → DRel w F (.list ((xs.take hh).drop l)) (.slice ao' (hh - l) cap') := by
 have hl : ((xs.take hh).drop l).length = hh - l := by simp; omega
 generalize hx : D.list xs = x at h
 cases h with
 | nil a c hn0 =>
  simp at hx; subst hx
  refine ⟨a, c, rfl, by simp, hn0, fun cap' ao' hn' _ _ => ?_⟩
  have h1 : hh - l = 0 := by simp at hlen; omega
  rw [h1]
  simp
  exact .nil _ _ hn'
 | list ys b off cap sz' vs hcap hb hF hsz hv hc =>
  simp at hx; subst hx
  refine ⟨_, cap, rfl, hcap, by simp, fun cap' ao' hn' hc' hao => ?_⟩
  by_cases hz : hh - l = 0
  · have e : (xs.take hh).drop l = [] := List.eq_nil_of_length_eq_zero (by omega)
    rw [e, hz]; exact .nil _ _ hn'
  · have hao := hao.resolve_right hz
    have hss : sz' = sz := by
     have hxl : 0 < xs.length := by omega
     rw [← hsz xs[0] (List.getElem_mem hxl), hs xs[0] (List.getElem_mem hxl)]
    subst hss
    simp only [Option.map_some, add_none] at hao
    rw [hao, ← hl]
    refine .list _ b (off + l * sz') cap' sz' (fun i => vs (l + i)) (by rw [hl]; exact hc') hb hF (fun d hd => hsz d (List.mem_of_mem_take (List.mem_of_mem_drop hd))) (fun i d hd => ?_) (fun i j c hi hj => ?_)
    · rw [List.getElem?_drop, List.getElem?_take] at hd
      split at hd
      · exact hv _ d hd
      · cases hd
    · have := hc (l + i) j c (by rw [hl] at hi; omega) hj
      rw [Nat.add_mul, ← Nat.add_assoc] at this
      exact this
 | _ => simp at hx
theorem slice_ok (P : Program) (S : St) (o : Oper) (t : TypeId) (x : Operand) (lo hi : Option Operand) (ho : o.op = .slice t x lo hi none) (hx : (S.opd x).1 = true) (hlo : ∀ y, lo = some y → (S.opd y).1 = true) (hhi : ∀ y, hi = some y → (S.opd y).1 = true) :
 ResOk P S o (sliceR P S.mem t (S.opd x).2 (lo.map fun y => (S.opd y).2) (hi.map fun y => (S.opd y).2)) := by
 unfold sliceR
 split
 · rename_i s hxv
   split
   · rename_i l h hl hh
     refine ResOk.pure ?_
     rintro ⟨ht, h0, hle, hcap⟩ φ G a w hr
     have h1 := hr.opd x hx
     rw [hxv] at h1
     obtain ⟨b, e1, rfl⟩ := str_of h1
     have hbs : b.size = b.data.toList.length := by rw [Array.length_toList]; rfl
     have hsb := run_sliceBounds (P := P) (w := w) (isS := false) (len := b.size) (cap := b.size) (bound_rel hr hlo hl) (by have := bound_rel hr hhi hh; rw [← hbs] at this; exact this) h0 hle (by rw [hbs]; exact hcap)
     refine ⟨.string (b.extract l.toNat h.toNat), ?_, .d _ _ (.str _ _ ?_)⟩
     · simp [execOp, ho, e1, Instr.sliceAt, Instr.slice, run_underlying (tk_str ht), hsb]
     · simp [ByteArray.data_extract, List.drop_take]
   · trivial
 · rename_i xs hxv
   split
   · rename_i e hte
     split
     · rename_i sz l h hs hl hh
       refine ResOk.pure ?_
       rintro ⟨h0, hle, hcap, hsz⟩ φ G a w hr
       have h1 := hr.opd x hx
       rw [hxv] at h1
       generalize hav : a.eval x = av at h1
       cases h1 with | d _ _ h1 =>
       obtain ⟨ao, cap, rfl, hxc, hn0, hsl⟩ := list_slice h1 hsz (l := l.toNat) (hh := h.toNat) (by omega) hcap
       have hc : h.toNat ≤ cap := by omega
       have hsb := run_sliceBounds (P := P) (w := w) (isS := true) (len := xs.length) (cap := cap) (bound_rel hr hlo hl) (bound_rel hr hhi hh) h0 hle hc
       refine ⟨.slice (if cap = l.toNat then ao else ao.map (·.add (l.toNat * sz))) (h.toNat - l.toNat) (cap - l.toNat), ?_, .d _ _ (hsl _ _ (fun hn => ?_) (by omega) ?_)⟩
       · simp [execOp, ho, hav, Instr.sliceAt, Instr.slice, run_underlying (tk_slice hte), hsb, run_sizeOf hs]
       · have : ao = none := by split at hn <;> simp_all
         have := hn0 this; omega
       · by_cases hcl : cap = l.toNat
         · exact .inr (by omega)
         · exact .inl (by simp [hcl])
     · trivial
   · trivial
 · rename_i k ver off len hxv
   split
   · rename_i e key v sz' rows hte hg
     split
     · rename_i sz l h hs hl hh
       refine ResOk.pure ?_
       rintro ⟨rfl, rfl, h0, hle, hcap⟩ φ G a w hr
       have h1 := hr.opd x hx
       rw [hxv] at h1
       obtain ⟨hm, hk, L, hL, hver, hcr⟩ := hr.mem.get hg
       simp only at hver
       generalize hav : a.eval x = av at h1
       cases h1 with
       | vec _ _ _ _ _ L' hL' _ hh' _ =>
        rw [hL] at hL'; cases hL'
        obtain ⟨ao, cap, rfl, hlc, hpl⟩ := hh' hver.symm
        clear hh'
        have hsb := run_sliceBounds (P := P) (w := w) (isS := true) (len := len) (cap := cap) (bound_rel hr hlo hl) (bound_rel hr hhi hh) h0 hle (by omega)
        refine ⟨.slice (if cap = l.toNat then ao else ao.map (·.add (l.toNat * sz'))) (h.toNat - l.toNat) (cap - l.toNat), ?_, ?_⟩
        · simp [execOp, ho, hav, Instr.sliceAt, Instr.slice, run_underlying (tk_slice hte), hsb, run_sizeOf hs]
        · refine .vec k v _ _ _ L hL (by omega) (fun _ => ⟨_, _, rfl, by omega, fun hc => ?_⟩) rfl
          obtain ⟨rfl, hcapeq⟩ := hpl (by omega)
          refine ⟨?_, by omega⟩
          rw [if_neg (by omega)]
          simp only [Option.map_some, add_none, hcr.1, Nat.add_mul, Nat.add_assoc]
     · trivial
   · rename_i e key v rows y hte hg
     split
     · rename_i sz l h hs hl hh
       refine ResOk.pure ?_
       rintro ⟨rfl, rfl, h0, hle, hcap⟩ φ G a w hr
       have h1 := hr.opd x hx
       rw [hxv] at h1
       obtain ⟨hm, hk, L, hL, hver, hcr⟩ := hr.mem.get hg
       simp only at hver
       generalize hav : a.eval x = av at h1
       cases h1 with
       | vec _ _ _ _ _ L' hL' _ hh' _ =>
        rw [hL] at hL'; cases hL'
        obtain ⟨ao, cap, rfl, hlc, hpl⟩ := hh' hver.symm
        clear hh'
        have hsb := run_sliceBounds (P := P) (w := w) (isS := true) (len := len) (cap := cap) (bound_rel hr hlo hl) (bound_rel hr hhi hh) h0 hle (by omega)
        refine ⟨.slice (if cap = l.toNat then ao else ao.map (·.add (l.toNat * 1))) (h.toNat - l.toNat) (cap - l.toNat), ?_, ?_⟩
        · simp [execOp, ho, hav, Instr.sliceAt, Instr.slice, run_underlying (tk_slice hte), hsb, run_sizeOf hs]
        · refine .vec k v _ _ _ L hL (by omega) (fun _ => ⟨_, _, rfl, by omega, fun hc => ?_⟩) rfl
          obtain ⟨rfl, hcapeq⟩ := hpl (by omega)
          refine ⟨?_, by omega⟩
          rw [if_neg (by omega)]
          simp only [Option.map_some, add_none, hcr.1.1, Nat.add_mul, Nat.add_assoc]
     · trivial
   · trivial
 · rename_i k ver i j hxv
   split
   · rename_i n e key v sz' rows hte hg
     split
     · rename_i sz l h hs hl hh
       refine ResOk.pure ?_
       rintro ⟨rfl, rfl, rfl, rfl, hn, h0, hle, hcap⟩ φ G a w hr
       have h1 := hr.opd x hx
       rw [hxv] at h1
       obtain ⟨hm, hk, L, hL, hver, hcr⟩ := hr.mem.get hg
       simp only at hver
       have e1 := h1.eptr_eq hL hver
       have hsb := run_sliceBounds (P := P) (w := w) (isS := false) (len := n) (cap := n) (bound_rel hr hlo hl) (bound_rel hr hhi hh) h0 hle hcap
       refine ⟨.slice (some (if n = l.toNat then ⟨L.blk, L.base, none⟩ else ⟨L.blk, L.base + l.toNat * sz', none⟩)) (h.toNat - l.toNat) (n - l.toNat), ?_, ?_⟩
       · simp [execOp, ho, e1, Instr.sliceAt, Instr.sureAddr, run_underlying (tk_arr hte), hsb, run_sizeOf hs, add_none]
       · refine .vec k v _ _ _ L hL (by omega) (fun _ => ⟨_, _, rfl, by omega, fun hc => ⟨?_, by have := hcr.2.1; omega⟩⟩) rfl
         rw [if_neg (by omega), hcr.1]
     · trivial
   · trivial
 · rename_i k ver off hxv
   split
   · rename_i n e key v cs hte hg
     split
     · rename_i sz l h hs hl hh
       refine ResOk.pure ?_
       rintro ⟨rfl, rfl, hn, h0, hle, hcap⟩ φ G a w hr
       have h1 := hr.opd x hx
       rw [hxv] at h1
       obtain ⟨hm, hk, L, hL, hver, ⟨z1, z2, z3⟩, _⟩ := hr.mem.get hg
       simp only at hver
       have e1 := h1.ptr_eq hL hver
       have hsb := run_sliceBounds (P := P) (w := w) (isS := false) (len := n) (cap := n) (bound_rel hr hlo hl) (bound_rel hr hhi hh) h0 hle hcap
       refine ⟨.slice (some (if n = l.toNat then ⟨L.blk, off, none⟩ else ⟨L.blk, off + l.toNat, none⟩)) (h.toNat - l.toNat) (n - l.toNat), ?_, ?_⟩
       · simp [execOp, ho, e1, Instr.sliceAt, Instr.sureAddr, run_underlying (tk_arr hte), hsb, run_sizeOf hs, add_none]
       · refine .vec k v _ _ _ L hL (by omega) (fun _ => ⟨_, _, rfl, by omega, fun hc => ⟨?_, by omega⟩⟩) rfl
         rw [if_neg (by omega), z1, z2]
         simp
     · trivial
   · trivial
 · trivial
def pickD (t : Bool) (x y : D) : D :=
 match x, y with
 | .bool a, .bool b => .bool (bif t then a else b)
 | x, y => bif t then x else y
def pickAV (t : Bool) (x y : AV) : AV :=
 match x, y with
 | .d x, .d y => .d (pickD t x y)
 | x, y => bif t then x else y
def pickR (c a b : Bool × AV) : Res :=
 match c.2 with
 | .d (.bool t) => .val (c.1 = true ∧ (t = true → a.1 = true) ∧ (t = false → b.1 = true)) (pickAV t a.2 b.2)
 | _ => .no
theorem pick_ok (P : Program) (S : St) (o : Oper) (c x y : Operand) (ho : o.op = .pick c x y) : ResOk P S o (pickR (S.opd c) (S.opd x) (S.opd y)) := by
 unfold pickR
 split
 · rename_i t hc
   refine ResOk.pure ?_
   rintro ⟨h1, h2, h3⟩ φ G a w hr
   have hcv := hr.opd c h1
   rw [hc] at hcv
   have e := bool_of hcv
   cases t
   · have hy := hr.opd y (h3 rfl)
     refine ⟨a.eval y, by simp [execOp, ho, e, asBool], ?_⟩
     have e2 : pickAV false (S.opd x).2 (S.opd y).2 = (S.opd y).2 := by
      unfold pickAV; split
      · rename_i u v h5 h6; rw [h6]; congr 1; unfold pickD; split <;> rfl
      · rfl
     rw [e2]; exact hy
   · have hx := hr.opd x (h2 rfl)
     refine ⟨a.eval x, by simp [execOp, ho, e, asBool], ?_⟩
     have e2 : pickAV true (S.opd x).2 (S.opd y).2 = (S.opd x).2 := by
      unfold pickAV; split
      · rename_i u v h5 h6; rw [h5]; congr 1; unfold pickD; split <;> rfl
      · rfl
     rw [e2]; exact hx
 · trivial
theorem move_ok (P : Program) (S : St) (o : Oper) (x : Operand) (ho : o.op = .move x ∨ o.op = .assign x) (hx : (S.opd x).1 = true) : ResOk P S o (.val True (S.opd x).2) := by
 refine ResOk.pure fun _ φ G a w hr => ⟨a.eval x, ?_, hr.opd x hx⟩
 rcases ho with ho | ho <;> simp [execOp, ho]
def unR (op : UnOp) (x : AV) : Res :=
 match op, x with
 | .not, .d (.bool b) => .val True (.d (.bool (!b)))
 | .neg, .d (.int k n) => .val True (.d (.int k (k.wrap (0 - n))))
 | .xor, .d (.int k n) => .val True (.d (.int k (k.wrap (BitVec.ofInt k.bits (if k.signed then -1 else k.max) ^^^ BitVec.ofInt k.bits n).toNat)))
 | _, _ => .no
theorem un_ok (P : Program) (S : St) (o : Oper) (op : UnOp) (t : TypeId) (x : Operand) (ho : o.op = .unOp op t x) (hx : (S.opd x).1 = true) : ResOk P S o (unR op (S.opd x).2) := by
 unfold unR
 split
 · rename_i b hxv
   refine ResOk.pure fun _ φ G a w hr => ?_
   have h1 := hr.opd x hx
   rw [hxv] at h1
   exact ⟨.bool (!b), by simp [execOp, ho, bool_of h1, Op.unary], .d _ _ (.bool _)⟩
 · rename_i k n hxv
   refine ResOk.pure fun _ φ G a w hr => ?_
   have h1 := hr.opd x hx
   rw [hxv] at h1
   exact ⟨.int k (k.wrap (0 - n)), by simp only [execOp, ho, int_of h1, Op.unary, Op.intArith, Sem.run_bind, Sem.run_pure, Result.andThen_ok], .d _ _ (.int _ _)⟩
 · rename_i k n hxv
   refine ResOk.pure fun _ φ G a w hr => ?_
   have h1 := hr.opd x hx
   rw [hxv] at h1
   exact ⟨_, by simp only [execOp, ho, int_of h1, Op.unary, Op.intBits, Sem.run_bind, Sem.run_pure, Result.andThen_ok], .d _ _ (.int _ _)⟩
 · trivial
def extractR (i : Nat) (x : AV) : Res :=
 match x with
 | .tup vs => match vs[i]? with
  | some v => .val True v
  | none => .no
 | _ => .no
theorem extract_ok (P : Program) (S : St) (o : Oper) (x : Operand) (i : Nat) (ho : o.op = .extract x i) (hx : (S.opd x).1 = true) : ResOk P S o (extractR i (S.opd x).2) := by
 unfold extractR
 split
 · rename_i vs hxv
   split
   · rename_i v hv
     refine ResOk.pure fun _ φ G a w hr => ?_
     have h1 := hr.opd x hx
     rw [hxv] at h1
     generalize hav : a.eval x = av at h1
     cases h1 with | tup _ xa hl hc =>
     have hi : i < xa.size := by rw [← hl]; exact (List.getElem?_eq_some_iff.1 hv).1
     exact ⟨xa[i], by simp [execOp, ho, hav, Instr.extract, hi], hc i v _ hv (by simp [hi])⟩
   · trivial
 · trivial
def makeFuncR (f : Fn) (first cap : List AV) : Res :=
 match f, first with
 | .func f, [] => .val (f < bnB) (.fn f cap)
 | .func f, x :: r => match cap with
  | [] => .val True (.fn (f + bnB) (x :: r))
  | _ => .no
 | _, _ => .no
theorem makeFunc_ok (P : Program) (S : St) (o : Oper) (f : Fn) (first cap : Array Operand) (ho : o.op = .makeFunc f first cap) (hf : ∀ x ∈ first.toList, (S.opd x).1 = true) (hc : ∀ x ∈ cap.toList, (S.opd x).1 = true) : ResOk P S o (makeFuncR f (first.toList.map fun x => (S.opd x).2) (cap.toList.map fun x => (S.opd x).2)) := by
 have key : ∀ (l : Array Operand), (∀ x ∈ l.toList, (S.opd x).1 = true) → ∀ φ G a w, Rel φ G S a w → ∀ (i : Nat) (c : AV) (v : Value), (l.toList.map fun x => (S.opd x).2)[i]? = some c → (l.map a.eval)[i]? = some v → AVRel φ w (Fo G φ S.mem) c v := by
  intro l hl φ G a w hr i c v h1 h2
  simp only [List.getElem?_map, Array.getElem?_toList, Option.map_eq_some_iff] at h1
  simp only [Array.getElem?_map, Option.map_eq_some_iff] at h2
  obtain ⟨x, hx, rfl⟩ := h1
  obtain ⟨y, hy, rfl⟩ := h2
  rw [hx] at hy; cases hy
  exact hr.opd x (hl x (by simpa using Array.mem_of_getElem? hx))
 generalize hfs : (first.toList.map fun x => (S.opd x).2) = fs
 generalize hcs : (cap.toList.map fun x => (S.opd x).2) = cs
 unfold makeFuncR
 split
 · rename_i f
   refine ResOk.pure fun hlt φ G a w hr => ?_
   have hfe : first = #[] := by cases first; simp_all
   refine ⟨.func (.func f) #[] (cap.map a.eval), by simp [execOp, ho, Instr.makeFunc, hfe], .fn f _ _ hlt (by simp [← hcs]) (fun i c v h1 h2 => ?_)⟩
   rw [← hcs] at h1
   exact key cap hc φ G a w hr i c v h1 h2
 · rename_i f x r
   split
   · refine ResOk.pure fun _ φ G a w hr => ?_
     have hce : cap = #[] := by cases cap; simp_all
     refine ⟨.func (.func f) (first.map a.eval) #[], by simp [execOp, ho, Instr.makeFunc, hce], .bnd f _ _ (by rw [← hfs]; simp) (fun i c v h1 h2 => ?_)⟩
     rw [← hfs] at h1
     exact key first hf φ G a w hr i c v h1 h2
   · trivial
 · trivial
def makeIfaceR (P : Program) (t : TypeId) (x : AV) : Res :=
 match x.norm with
 | .d d => .val (tk P t ≠ .iface ∧ tk P t ≠ .other) (.ifc t d)
 | _ => .no
theorem tk_known {P : Program} {t : TypeId} (h : tk P t ≠ .other) : ∃ d, P.underlying t = some d := by
 unfold tk at h
 cases hu : P.underlying t with
 | none => simp [hu] at h
 | some d => exact ⟨d, rfl⟩
theorem makeIface_ok (P : Program) (S : St) (o : Oper) (t : TypeId) (x : Operand) (ho : o.op = .makeInterface t x) (hx : (S.opd x).1 = true) : ResOk P S o (makeIfaceR P t (S.opd x).2) := by
 unfold makeIfaceR
 split
 · rename_i d hxv
   refine ResOk.pure ?_
   rintro ⟨h1, h2⟩ φ G a w hr
   have h3 := (hr.opd x hx).norm
   rw [hxv] at h3
   obtain ⟨td, hu⟩ := tk_known h2
   refine ⟨.iface t (a.eval x), ?_, ?_⟩
   · have hne : ∀ ms, td ≠ .interface ms := by rintro ms rfl; simp [tk, hu] at h1
     simp only [execOp, ho, Instr.makeInterface, Sem.run_bind, run_underlying hu, Result.andThen_ok]
     cases td <;> first | rfl | exact absurd rfl (hne _)
   · cases h3 with | d _ _ h => exact .ifc t d _ h
 · trivial
def lenRm (P : Program) (m : Mem) (t : TypeId) (x : AV) : Res :=
 match x with
 | .d (.str s) => .val (tk P t = .str) (.d (.int .i64 s.length))
 | .d (.list xs) => match tk P t with
  | .slice _ => .val True (.d (.int .i64 xs.length))
  | _ => .no
 | .vec k ver _ len => match tk P t, Mem.get m k with
  | .slice _, some ⟨_, v, _⟩ => .val (v = ver) (.d (.int .i64 len))
  | _, _ => .no
 | .lit (.slice none 0 0) => match tk P t with
  | .slice _ => .val True (.d (.int .i64 0))
  | _ => .no
 | .nn => match tk P t with
  | .slice _ => .val True (.d (.int .i64 0))
  | _ => .no
 | _ => match tk P t with
  | .arr n _ => .val True (.d (.int .i64 n))
  | _ => .no
theorem run_len_slice {P : Program} {w : World} {t ty e : TypeId} {ao len cap} (h : tk P t = .slice e) : (Builtin.len_ #[t] ty #[.slice ao len cap]).run P w = .ok (.int .i64 len) w := by
 simp [Builtin.len_, run_underlying (tk_slice h), goInt]
theorem len_ok (P : Program) (S : St) (o : Oper) (x : Operand) (t : TypeId) (ho : o.op = .call { callee := .builtin .len, args := #[x], argTypes := #[t] }) (hx : (S.opd x).1 = true) : ResOk P S o (lenRm P S.mem t (S.opd x).2) := by
 have hrun : ∀ (a : Act) (w : World) (v : Value), (Builtin.len_ #[t] o.type #[a.eval x]).run P w = .ok v w → (execOp a.eval o).run P w = .ok (.value v) w := by
  intro a w v h
  simp [execOp, ho, resolve, invoke, builtin, h]
 unfold lenRm
 split
 · rename_i s hxv
   refine ResOk.pure fun ht φ G a w hr => ?_
   have h1 := hr.opd x hx
   rw [hxv] at h1
   obtain ⟨b, e1, rfl⟩ := str_of h1
   have hbs : b.size = b.data.toList.length := by rw [Array.length_toList]; rfl
   refine ⟨.int .i64 b.data.toList.length, hrun a w _ ?_, .d _ _ (.int _ _)⟩
   simp only [Builtin.len_, e1, List.getElem?_toArray, List.getElem?_cons_zero, Sem.run_bind, run_underlying (tk_str ht), Result.andThen_ok, Sem.run_pure, goInt, ← hbs]
 · rename_i xs hxv
   split
   · rename_i e hte
     refine ResOk.pure fun _ φ G a w hr => ?_
     have h1 := hr.opd x hx
     rw [hxv] at h1
     generalize hav : a.eval x = av at h1
     cases h1 with | d _ _ h =>
     have hl : ∃ ao cap, av = .slice ao xs.length cap := by cases h <;> exact ⟨_, _, rfl⟩
     obtain ⟨ao, cap, rfl⟩ := hl
     exact ⟨_, hrun a w _ (by rw [hav]; exact run_len_slice hte), .d _ _ (.int _ _)⟩
   · trivial
 · rename_i k ver off len hxv
   split
   · rename_i e key v cont hte hg
     refine ResOk.pure ?_
     rintro rfl φ G a w hr
     have h1 := hr.opd x hx
     rw [hxv] at h1
     obtain ⟨hm, hk, L, hL, hver, hcr⟩ := hr.mem.get hg
     simp only at hver
     generalize hav : a.eval x = av at h1
     cases h1 with
     | vec _ _ _ _ _ L' hL' _ hh' _ =>
      rw [hL] at hL'; cases hL'
      obtain ⟨ao, cap, rfl, hlc, hpl⟩ := hh' hver.symm
      exact ⟨_, hrun a w _ (by rw [hav]; exact run_len_slice hte), .d _ _ (.int _ _)⟩
   · trivial
 · rename_i hxv
   split
   · rename_i e hte
     refine ResOk.pure fun _ φ G a w hr => ?_
     have h1 := hr.opd x hx
     rw [hxv] at h1
     generalize hav : a.eval x = av at h1
     cases h1
     exact ⟨_, hrun a w _ (by rw [hav]; exact run_len_slice hte), .d _ _ (.int _ _)⟩
   · trivial
 · rename_i hxv
   split
   · rename_i e hte
     refine ResOk.pure fun _ φ G a w hr => ?_
     have h1 := hr.opd x hx
     rw [hxv] at h1
     generalize hav : a.eval x = av at h1
     cases h1
     exact ⟨_, hrun a w _ (by rw [hav]; exact run_len_slice hte), .d _ _ (.int _ _)⟩
   · trivial
 · split
   · rename_i n e hte
     refine ResOk.pure fun _ φ G a w hr => ?_
     refine ⟨.int .i64 n, hrun a w _ ?_, .d _ _ (.int _ _)⟩
     simp [Builtin.len_, run_underlying (tk_arr hte), goInt]
   · trivial
def foldMax (isMax : Bool) : AV → List AV → Option D
 | .d (.int k a), [] => some (.int k a)
 | .d (.int k a), y :: r => match y with
  | .d (.int _ b) => foldMax isMax (.d (.int k (if isMax then (if b > a then b else a) else (if b < a then b else a)))) r
  | _ => none
 | _, _ => none
def maxR (isMax : Bool) (xs : List AV) : Res :=
 match xs with
 | x :: r => match foldMax isMax x r with
  | some d => .val True (.d d)
  | none => .no
 | [] => .no
theorem foldMax_run {P : Program} {φ w F} (isMax : Bool) : ∀ (xs : List AV) (x : AV) (vs : List Value) (v : Value) (d : D), foldMax isMax x xs = some d → AVRel φ w F x v → xs.length = vs.length →
 (∀ (i : Nat) c u, xs[i]? = some c → vs[i]? = some u → AVRel φ w F c u) →
 ∃ u, (vs.foldlM (if isMax then Builtin.max2 else Builtin.min2) v).run P w = .ok u w ∧ DRel w F d u := by
 intro xs
 induction xs with
 | nil =>
  intro x vs v d h hx hl hc
  have : vs = [] := List.eq_nil_of_length_eq_zero (by simpa using hl.symm)
  subst this
  unfold foldMax at h
  split at h <;> simp_all
  subst h
  rw [int_of hx]
  exact .int _ _
 | cons y ys ih =>
  intro x vs v d h hx hl hc
  cases vs with
  | nil => simp at hl
  | cons u us =>
   unfold foldMax at h
   split at h
   · simp_all
   · rename_i k a y' r heq
     simp at heq
     obtain ⟨rfl, rfl⟩ := heq
     split at h
     · rename_i k2 b
       have e1 := int_of hx
       have e2 := int_of (hc 0 (.d (.int k2 b)) u (by simp) (by simp))
       subst e1; subst e2
       have hc' : ∀ (i : Nat) c u, ys[i]? = some c → us[i]? = some u → AVRel φ w F c u := fun i c u h1 h2 => hc (i + 1) c u (by simpa using h1) (by simpa using h2)
       cases isMax
       · obtain ⟨u', h1, h2⟩ := ih _ us (.int k (if b < a then b else a)) d h (.d _ _ (.int _ _)) (by simpa using hl) hc'
         refine ⟨u', ?_, h2⟩
         simp only [Bool.false_eq_true, if_false] at h1 ⊢
         simp only [List.foldlM_cons, Builtin.min2, pure_bind]
         exact h1
       · obtain ⟨u', h1, h2⟩ := ih _ us (.int k (if b > a then b else a)) d h (.d _ _ (.int _ _)) (by simpa using hl) hc'
         refine ⟨u', ?_, h2⟩
         simp only [if_true] at h1 ⊢
         simp only [List.foldlM_cons, Builtin.max2, pure_bind]
         exact h1
     · cases h
   · cases h
theorem max_ok (P : Program) (S : St) (o : Oper) (isMax : Bool) (args : Array Operand) (ts : Array TypeId) (ho : o.op = .call { callee := .builtin (if isMax then .max else .min), args, argTypes := ts }) (hx : ∀ x ∈ args.toList, (S.opd x).1 = true) : ResOk P S o (maxR isMax (args.toList.map fun x => (S.opd x).2)) := by
 unfold maxR
 split
 · rename_i x r heq
   split
   · rename_i d hd
     refine ResOk.pure fun _ φ G a w hr => ?_
     obtain ⟨l, hl⟩ : ∃ l, args.toList = l := ⟨_, rfl⟩
     rw [hl] at heq hx
     cases l with
     | nil => simp at heq
     | cons y ys =>
      simp at heq
      obtain ⟨rfl, rfl⟩ := heq
      obtain ⟨u, h1, h2⟩ := foldMax_run (P := P) (φ := φ) (w := w) (F := Fo G φ S.mem) isMax _ _ (ys.map a.eval) (a.eval y) d hd (hr.opd y (hx y (by simp))) (by simp) (fun i c u h1 h2 => by
       simp only [List.getElem?_map, Option.map_eq_some_iff] at h1 h2
       obtain ⟨p, hp, rfl⟩ := h1
       obtain ⟨q, hq, rfl⟩ := h2
       rw [hp] at hq; cases hq
       exact hr.opd p (hx p (by simp [List.mem_of_getElem? hp])))
      refine ⟨u, ?_, .d _ _ h2⟩
      have hal : (args.map a.eval).toList = a.eval y :: ys.map a.eval := by simp [hl]
      cases isMax
      · simp only [Bool.false_eq_true, if_false] at h1 ho
        simp [execOp, ho, resolve, invoke, builtin, Builtin.min_, hl, h1]
      · simp only [if_true] at h1 ho
        simp [execOp, ho, resolve, invoke, builtin, Builtin.max_, hl, h1]
   · trivial
 · trivial
theorem foldl_set (off : Nat) : ∀ (l : List Value) (k : Nat) (cs : Array Value), off + k + l.length ≤ cs.size →
 ((l.zipIdx k).foldl (fun cs x => cs.setIfInBounds (off + x.2) x.1) cs).toList = cs.toList.take (off + k) ++ l ++ cs.toList.drop (off + k + l.length)
 | [], k, cs, _ => by simp
 | v :: l, k, cs, h => by
  simp only [List.zipIdx_cons, List.foldl_cons, List.length_cons] at h ⊢
  rw [foldl_set off l (k + 1) _ (by simp; omega), Array.toList_setIfInBounds]
  have := list_seg_step cs.toList (off + k) v l (by simp; omega)
  rw [show off + (k + 1) = off + k + 1 by omega, show off + k + (l.length + 1) = off + k + 1 + l.length by omega]
  simpa [List.length_cons, Nat.add_assoc, Nat.add_comm 1] using this
theorem fill_one (cs v : Array Value) (off : Nat) (h : off + v.size ≤ cs.size) :
 (v.zipIdx.foldl (fun cs (x : Value × Nat) => cs.setIfInBounds (off + x.2) x.1) cs).toList = putCells cs.toList off v.toList := by
 rw [← Array.foldl_toList, Array.toList_zipIdx, foldl_set off v.toList 0 cs (by simpa using h), putCells_eq _ _ _ (by simpa using h)]
 simp
def fillA (place : Nat → Option (Nat × Nat)) : List (Nat × AV) → Bool → List AV → Option (Bool × List AV)
 | [], c, cs => some (c, cs)
 | (i, x) :: r, c, cs => match place i with
  | some (off, n) => fillA place r (c ∧ x.solid = true ∧ x.cells.length = n ∧ off + n ≤ cs.length) (putCells cs off x.cells)
  | none => none
theorem fillA_run {φ w F} (place : Nat → Option (Nat × Nat)) : ∀ (ps : List (Nat × AV)) (c0 c : Bool) (cs cs' : List AV) (vs : List (Nat × Value)) (va : Array Value),
 fillA place ps c0 cs = some (c, cs') → c = true → cs.length = va.size → (∀ v ∈ va, cell1 v = true) → (∀ (i : Nat) x v, cs[i]? = some x → va[i]? = some v → AVRel φ w F x v) →
 ps.length = vs.length → (∀ (i : Nat) p v, ps[i]? = some p → vs[i]? = some v → p.1 = v.1 ∧ AVRel φ w F p.2 v.2) →
 ∃ va', Instr.fill place va vs = some va' ∧ c0 = true ∧ cs'.length = va'.size ∧ (∀ v ∈ va', cell1 v = true) ∧ ∀ (i : Nat) x v, cs'[i]? = some x → va'[i]? = some v → AVRel φ w F x v
 | [], c0, c, cs, cs', vs, va, h, hc, hl, h1, hr, hpl, hp => by
  have : vs = [] := List.eq_nil_of_length_eq_zero (by simpa using hpl.symm)
  subst this
  simp only [fillA, Option.some.injEq, Prod.mk.injEq] at h
  obtain ⟨rfl, rfl⟩ := h
  exact ⟨va, rfl, hc, hl, h1, hr⟩
 | (i, x) :: ps, c0, c, cs, cs', vs, va, h, hc, hl, h1, hr, hpl, hp => by
  cases vs with
  | nil => simp at hpl
  | cons v vs =>
   obtain ⟨j, v⟩ := v
   obtain ⟨hij, hxv⟩ := hp 0 (i, x) (j, v) (by simp) (by simp)
   simp only at hij hxv
   subst hij
   simp only [fillA] at h
   split at h
   · rename_i off n hpl0
     -- the condition of the rest holds the condition of this part
     obtain ⟨q, hq⟩ : ∃ q : Bool, q = decide (c0 = true ∧ x.solid = true ∧ x.cells.length = n ∧ off + n ≤ cs.length) := ⟨_, rfl⟩
     have hc0 : c = true → q = true := by
      rw [← hq] at h
      clear hq
      revert h
      generalize putCells cs off x.cells = cs2
      clear hp hpl hr h1 hl hxv hc
      induction ps generalizing q cs2 with
      | nil => intro h; simp only [fillA, Option.some.injEq, Prod.mk.injEq] at h; obtain ⟨rfl, _⟩ := h; exact id
      | cons p ps ih =>
       intro h hcc
       simp only [fillA] at h
       split at h
       · exact (of_decide_eq_true (ih _ _ h hcc)).1
       · cases h
     have hcq := hc0 hc
     rw [hq] at hcq
     replace hcq := of_decide_eq_true hcq
     obtain ⟨hc00, hsol, hlen, hle⟩ := hcq
     obtain ⟨hs1, hs2⟩ := hxv.solid hsol
     have hfit : off + v.cells.size ≤ va.size := by omega
     have hset := fill_one va v.cells off hfit
     obtain ⟨va1, hva1⟩ : ∃ va1, va1 = v.cells.zipIdx.foldl (fun cs (x : Value × Nat) => cs.setIfInBounds (off + x.2) x.1) va := ⟨_, rfl⟩
     rw [← hva1] at hset
     have hfl : off + v.cells.toList.length ≤ va.toList.length := by simpa using hfit
     obtain ⟨va', hf, hcc, r1, r2, r3⟩ := fillA_run (φ := φ) (w := w) (F := F) place ps _ c _ cs' vs va1 h hc
      (by rw [putCells_length _ _ _ (by omega), ← Array.length_toList, hset, putCells_length _ _ _ hfl]; simpa using hl)
      (fun u hu => by
       rw [← Array.mem_toList_iff, hset] at hu
       rcases mem_putCells hfl hu with hu | hu
       · exact h1 u (by simpa using hu)
       · exact hs2 u (by simpa using hu))
      (fun i y u hy hu => by
       rw [← Array.getElem?_toList, hset] at hu
       exact putCells_rel (R := fun x v => AVRel φ w F x v) (by simpa using hl) (by simpa using hs1.symm) (by omega) (fun i c v h h' => hr i c v h (by simpa using h')) (fun i c v h h' => hxv.cells hs2 hs1 i c v h (by simpa using h')) i y u hy hu)
      (by simpa using hpl) (fun i p v h h' => hp (i + 1) p v (by simpa using h) (by simpa using h'))
     refine ⟨va', ?_, hc00, r1, r2, r3⟩
     simp only [Instr.fill, hpl0]
     rw [if_neg (by simp; omega)]
     rw [← hf, hva1]
   · cases h
def fplace (P : Program) (t : TypeId) : Option (List (Nat × Nat)) :=
 match P.underlying t with
 | some (.struct fs) => fs.toList.mapM fun f => (P.info? f.type).map fun i => (f.offset, i.size)
 | _ => none
theorem mapM_places {P : Program} {w : World} : ∀ (fs : List Field) (l : List (Nat × Nat)), (fs.mapM fun f => (P.info? f.type).map fun i => (f.offset, i.size)) = some l →
 (fs.mapM fun f => (do pure (f.offset, ← sizeOf f.type) : Sem (Nat × Nat))).run P w = .ok l w
 | [], l, h => by simp at h; subst h; simp
 | f :: fs, l, h => by
  simp only [List.mapM_cons] at h ⊢
  cases hi : P.info? f.type with
  | none => simp [hi] at h
  | some i =>
   simp only [hi, Option.map_some, Option.pure_def, Option.bind_eq_bind, Option.bind_some] at h
   cases hm : (fs.mapM fun f => (P.info? f.type).map fun i => (f.offset, i.size)) with
   | none => simp [hm] at h
   | some l' =>
    simp [hm] at h
    subst h
    have hs : (sizeOf f.type).run P w = .ok i.size w := run_sizeOf (by simp [tsz, hi])
    have ih := mapM_places (P := P) (w := w) fs l' hm
    simp only [Sem.run_bind, hs, Result.andThen_ok, Sem.run_pure, ih]
def buildR (P : Program) (t : TypeId) (ps : List (Nat × AV)) : Res :=
 match tzero P t with
 | some zs => match fplace P t with
  | some l => match fillA (fun i => l[i]?) ps true zs with
   | some (c, cs) => .val c (mkAgg cs)
   | none => .no
  | none => match tk P t with
   | .arr _ e => match tsz P e with
    | some sz => match fillA (fun i => some (i * sz, sz)) ps true zs with
     | some (c, cs) => .val c (mkAgg cs)
     | none => .no
    | none => .no
   | _ => .no
 | none => .no
theorem build_ok (P : Program) (S : St) (o : Oper) (t : TypeId) (ps : Array (Nat × Operand)) (ho : o.op = .build t ps) (hx : ∀ x ∈ ps.toList, (S.opd x.2).1 = true) :
 ResOk P S o (buildR P t (ps.toList.map fun x => (x.1, (S.opd x.2).2))) := by
 have parts : ∀ {φ G a w}, Rel φ G S a w → ∀ (i : Nat) (p : Nat × AV) (v : Nat × Value), (ps.toList.map fun x => (x.1, (S.opd x.2).2))[i]? = some p → (ps.toList.map fun x => (x.1, a.eval x.2))[i]? = some v → p.1 = v.1 ∧ AVRel φ w (Fo G φ S.mem) p.2 v.2 := by
  intro φ G a w hr i p v h1 h2
  simp only [List.getElem?_map, Option.map_eq_some_iff] at h1 h2
  obtain ⟨x, hx1, rfl⟩ := h1
  obtain ⟨y, hy1, rfl⟩ := h2
  rw [hx1] at hy1; cases hy1
  exact ⟨rfl, hr.opd _ (hx x (List.mem_of_getElem? hx1))⟩
 unfold buildR
 split
 · rename_i zs hz
   split
   · rename_i l hl
     split
     · rename_i c cs hf
       refine ResOk.pureB fun hc φ G a w hr => ?_
       obtain ⟨z, hrun, hsz, h1, hrel⟩ := tzero_rel hz w
       obtain ⟨va', h2, _, h3, h4, h5⟩ := fillA_run (φ := φ) (w := w) (F := Fo G φ S.mem) _ _ _ _ _ _ (ps.toList.map fun x => (x.1, a.eval x.2)) z.cells hf hc hsz.symm h1 (fun i x v h h' => hrel _ _ _ i x v h h') (by simp) (parts hr)
       unfold fplace at hl
       split at hl
       · rename_i fs hu
         have hm := mapM_places (P := P) (w := w) fs.toList l hl
         refine ⟨.agg va', ?_, ?_⟩
         · have hmA : (fs.mapM fun f => (do pure (f.offset, ← sizeOf f.type) : Sem (Nat × Nat))).run P w = .ok l.toArray w := by
            rw [Array.mapM_eq_mapM_toList]
            simp only [Sem.run_map, hm, Result.andThen_ok]
           simp only [execOp, ho, Instr.build, Sem.run_bind, hrun, Result.andThen_ok, run_underlying hu, hmA]
           have e : (fun (i : Nat) => l.toArray[i]?) = fun (i : Nat) => l[i]? := by funext i; simp
           have e2 : (Array.map (fun x => (x.1, a.eval x.2)) ps).toList = ps.toList.map fun x => (x.1, a.eval x.2) := by simp
           rw [e, e2, h2]
           rfl
         · have := mkAgg_rel (φ := φ) (w := w) (F := Fo G φ S.mem) (cs := cs) (vs := va'.toList) (by simpa using h3) (fun v hv => h4 v (by simpa using hv)) (fun i c v h h' => h5 i c v h (by simpa using h'))
           simpa using this
       · cases hl
     · trivial
   · split
     · rename_i n e hte
       split
       · rename_i sz hs
         split
         · rename_i c cs hf
           refine ResOk.pureB fun hc φ G a w hr => ?_
           obtain ⟨z, hrun, hsz, h1, hrel⟩ := tzero_rel hz w
           obtain ⟨va', h2, _, h3, h4, h5⟩ := fillA_run (φ := φ) (w := w) (F := Fo G φ S.mem) _ _ _ _ _ _ (ps.toList.map fun x => (x.1, a.eval x.2)) z.cells hf hc hsz.symm h1 (fun i x v h h' => hrel _ _ _ i x v h h') (by simp) (parts hr)
           refine ⟨.agg va', ?_, ?_⟩
           · simp only [execOp, ho, Instr.build, Sem.run_bind, hrun, Result.andThen_ok, run_underlying (tk_arr hte), run_sizeOf hs]
             have e2 : (Array.map (fun x => (x.1, a.eval x.2)) ps).toList = ps.toList.map fun x => (x.1, a.eval x.2) := by simp
             rw [e2, h2]
             rfl
           · have := mkAgg_rel (φ := φ) (w := w) (F := Fo G φ S.mem) (cs := cs) (vs := va'.toList) (by simpa using h3) (fun v hv => h4 v (by simpa using hv)) (fun i c v h h' => h5 i c v h (by simpa using h'))
             simpa using this
         · trivial
       · trivial
     · trivial
 · trivial
theorem fill_all (sz : Nat) : ∀ (vs : List (Nat × Value)) (k : Nat) (cells : Array Value), vs.map (·.1) = List.range' k vs.length → (∀ v ∈ vs, v.2.cells.size = sz) → (k + vs.length) * sz = cells.size →
 ∃ out, Instr.fill (fun i => some (i * sz, sz)) cells vs = some out ∧ out.toList = cells.toList.take (k * sz) ++ vs.flatMap (fun v => v.2.cells.toList)
 | [], k, cells, _, _, hl => by
  refine ⟨cells, rfl, ?_⟩
  simp only [List.length_nil, Nat.add_zero] at hl
  simp only [hl, List.flatMap_nil, List.append_nil]
  rw [← Array.length_toList, List.take_length]
 | (i, v) :: vs, k, cells, hi, hs, hl => by
  simp only [List.map_cons, List.length_cons, List.range'_succ, List.cons.injEq] at hi
  obtain ⟨rfl, hi⟩ := hi
  have hv := hs (i, v) (by simp)
  simp only at hv
  simp only [List.length_cons] at hl
  have hlt : i * sz + v.cells.size ≤ cells.size := by
   rw [hv, ← hl, ← Nat.succ_mul]; exact Nat.mul_le_mul_right _ (by omega)
  have h1 := fill_one cells v.cells (i * sz) hlt
  obtain ⟨c1, hc1⟩ : ∃ c1, c1 = v.cells.zipIdx.foldl (fun cs (x : Value × Nat) => cs.setIfInBounds (i * sz + x.2) x.1) cells := ⟨_, rfl⟩
  rw [← hc1] at h1
  have hfl : i * sz + v.cells.toList.length ≤ cells.toList.length := by simpa using hlt
  have hsz : c1.size = cells.size := by rw [← Array.length_toList, h1, putCells_length _ _ _ hfl]; simp
  obtain ⟨out, h2, h3⟩ := fill_all sz vs (i + 1) c1 hi (fun x hx => hs x (by simp [hx])) (by rw [hsz, ← hl]; congr 1; omega)
  refine ⟨out, ?_, ?_⟩
  · simp only [Instr.fill]
    rw [if_neg (by simp; omega), ← h2, hc1]
  · rw [h3, h1, putCells_eq _ _ _ hfl]
    have hvl : v.cells.toList.length = sz := by simpa using hv
    rw [Nat.succ_mul, List.take_append_of_le_length (by simp; omega), List.take_of_length_le (by simp; omega)]
    simp
theorem rows_parts {φ w F} {sz : Nat} : ∀ (ds : List D) (vs : List Value), ds.length = vs.length → (∀ d ∈ ds, d.size = sz) → (∀ (i : Nat) d v, ds[i]? = some d → vs[i]? = some v → AVRel φ w F (.d d) v) →
 RowsAt w F sz ds (vs.flatMap fun v => v.cells.toList)
 | [], vs, hl, _, _ => by
  have : vs = [] := List.eq_nil_of_length_eq_zero (by simpa using hl.symm)
  subst this; exact RowsAt.nil ..
 | d :: ds, vs, hl, hs, hr => by
  cases vs with
  | nil => simp at hl
  | cons v vs =>
   have ih := rows_parts (φ := φ) (w := w) (F := F) ds vs (by simpa using hl) (fun x hx => hs x (by simp [hx])) (fun i d v h h' => hr (i + 1) d v (by simpa using h) (by simpa using h'))
   have h0 := hr 0 d v (by simp) (by simp)
   cases h0 with | d _ _ h0 =>
   have hds := hs d (by simp)
   have hvs : v.cells.size = sz := by rw [h0.size, hds]
   have one : RowsAt w F sz [d] v.cells.toList := by
    refine ⟨by simp [hvs], fun u hu => h0.cells.2.1 u (by simpa using hu), fun x hx => by simp at hx; subst hx; exact hds, fun i x hx => ?_⟩
    cases i with
    | zero => simp at hx; subst hx; exact ⟨v, h0, fun j c hj => by simpa using hj⟩
    | succ i => simp at hx
   simpa using one.append ih
theorem list_new {w : World} {F F' : Nat → Prop} {sz : Nat} {ds : List D} {cs rest : List Value} {elem : TypeId} {fr} {w1 : World} {arr : Array Value} (hr : RowsAt w F sz ds cs) (hh : w1.heap[w.heap.size]? = some (.cells arr elem fr)) (harr : arr.toList = cs ++ rest)
 (hm : ∀ x v, DRel w F x v → DRel w1 F' x v) (hF : ¬ F' w.heap.size) (cap : Nat) (hcap : ds.length ≤ cap) : DRel w1 F' (.list ds) (.slice (some ⟨w.heap.size, 0, none⟩) ds.length cap) := by
 obtain ⟨a1, a2, a3, a4⟩ := hr
 have hch : ∀ i, ∃ v, ∀ d, ds[i]? = some d → DRel w F d v ∧ ∀ (j : Nat) c, v.cells[j]? = some c → cs[i * sz + j]? = some c := by
  intro i
  cases hd : ds[i]? with
  | none => exact ⟨undef, fun d h => by cases h⟩
  | some d => obtain ⟨v, h1, h2⟩ := a4 i d hd; exact ⟨v, fun d' h => by cases h; exact ⟨h1, h2⟩⟩
 obtain ⟨vs, hvs⟩ := Classical.axiomOfChoice hch
 refine .list ds w.heap.size 0 cap sz vs hcap ?_ hF a3 (fun i d hd => hm _ _ (hvs i d hd).1) (fun i j c hi hj => ?_)
 · exact (Array.getElem?_eq_some_iff.1 hh).1
 · obtain ⟨h1, h2⟩ := hvs i ds[i] (by simp [hi])
   have h3 := h2 j c hj
   rw [cell?_row hh, ← Array.getElem?_toList, harr, Nat.zero_add, List.getElem?_append_left (List.getElem?_eq_some_iff.1 h3).1]
   exact h3
theorem grow_rel {φ : Phi} {G : Fr} {m : Mem} {w w1 : World} (hold : ∀ b, b < w.heap.size → w1.heap[b]? = w.heap[b]?) (hs : w.heap.size ≤ w1.heap.size) (x v) (hx : DRel w (Fo G φ m) x v) : DRel w1 (Fo G φ m) x v :=
 hx.mono (fun b hb _ => hold b hb) hs (fun _ _ h => h)
def partDs : List (Nat × AV) → Option (List D)
 | [] => some []
 | (_, x) :: r => match x.norm, partDs r with
  | .d d, some ds => some (d :: ds)
  | _, _ => none
theorem partDs_rel {φ w F} : ∀ (ps : List (Nat × AV)) (ds : List D) (vs : List Value), partDs ps = some ds → ps.length = vs.length → (∀ (i : Nat) p v, ps[i]? = some p → vs[i]? = some v → AVRel φ w F p.2 v) →
 ds.length = vs.length ∧ ∀ (i : Nat) d v, ds[i]? = some d → vs[i]? = some v → AVRel φ w F (.d d) v
 | [], ds, vs, h, hl, _ => by
  simp [partDs] at h; subst h
  exact ⟨by simpa using hl, fun i d v h' => by simp at h'⟩
 | (i, x) :: ps, ds, vs, h, hl, hr => by
  simp only [partDs] at h
  split at h <;> simp at h
  rename_i d ds' hx hds
  subst h
  cases vs with
  | nil => simp at hl
  | cons v vs =>
   have ih := partDs_rel (φ := φ) (w := w) (F := F) ps ds' vs hds (by simpa using hl) (fun i p v h h' => hr (i + 1) p v (by simpa using h) (by simpa using h'))
   refine ⟨by simp [ih.1], fun j d' v' h h' => ?_⟩
   cases j with
   | zero =>
    simp at h h'; subst h; subst h'
    have := (hr 0 (i, x) v (by simp) (by simp)).norm
    simp only [hx] at this; exact this
   | succ j => exact ih.2 j d' v' (by simpa using h) (by simpa using h')
def buildNil (P : Program) (t : TypeId) (k0 : Nat) (len : Nat) : List (Nat × AV) → Option Ent → Option Res
 | [(0, .lit (.slice none 0 0))], some ⟨_, v, _⟩ => match tk P t with
  | .slice e => match tsz P e, tzeroD P e with
   | some sz, some _ => some (.upd (sz = 1 ∧ len = 1) (.vec k0 (v + 1) 0 1) ⟨k0, v + 1, .box [.lit (.slice none 0 0)]⟩)
   | _, _ => none
  | _ => none
 | _, _ => none
def buildSlice0 (P : Program) (m : Mem) (k0 : Nat) (t : TypeId) (len : Nat) (ps : List (Nat × AV)) : Res :=
 match tk P t with
 | .slice e => match tsz P e, tzeroD P e, partDs ps with
  | some sz, some zd, some ds => match Mem.get m k0 with
   | some ⟨_, v, _⟩ => .upd (zd.size = sz ∧ len * sz ≤ 2 ^ 24 ∧ ps.map (·.1) = List.range' 0 len ∧ (∀ d ∈ ds, d.size = sz)) (.vec k0 (v + 1) 0 len) ⟨k0, v + 1, .vec sz ds⟩
   | none => .val (zd.size = sz ∧ len * sz ≤ 2 ^ 24 ∧ ps.map (·.1) = List.range' 0 len ∧ (∀ d ∈ ds, d.size = sz)) (.d (.list ds))
  | _, _, _ => .no
 | _ => .no
def buildSliceR (P : Program) (m : Mem) (k0 : Nat) (t : TypeId) (len : Nat) (ps : List (Nat × AV)) : Res :=
 match buildNil P t k0 len ps (Mem.get m k0) with
 | some r => r
 | none => buildSlice0 P m k0 t len ps
theorem run_buildSlice {P : Program} {w : World} {t e : TypeId} {sz len : Nat} {zd : D} (ht : tk P t = .slice e) (hs : tsz P e = some sz) (hz : tzeroD P e = some zd) (hb : len * sz ≤ 2 ^ 24)
 {vs : List (Nat × Value)} (hi : vs.map (·.1) = List.range' 0 len) (hv : ∀ v ∈ vs, v.2.cells.size = sz) :
 ∃ arr : Array Value, arr.toList = vs.flatMap (fun v => v.2.cells.toList) ∧ (Instr.buildSlice t len vs.toArray).run P w = .ok (.slice (some ⟨w.heap.size, 0, none⟩) len len) (w.alloc (.cells arr e)) := by
 obtain ⟨z, hrun, hzsz, hz1, _⟩ := tzeroD_rel hz w
 have hlen : vs.length = len := by
  have := congrArg List.length hi
  simpa using this
 have hb' : ¬ (len * sz > 2 ^ 24) := by omega
 by_cases h0 : len * sz = 0
 · obtain ⟨out, h1, h2⟩ := fill_all sz vs 0 #[] (by rw [hlen]; exact hi) hv (by rw [hlen]; simp [h0])
   refine ⟨out, by simpa using h2, ?_⟩
   simp only [Instr.buildSlice, Sem.run_bind, run_underlying (tk_slice ht), Result.andThen_ok, run_sizeOf hs, h0, if_true, show Array.range 0 = #[] from rfl, Array.map_empty, h1, show ¬ (0 > 2 ^ 24) by decide, if_false, Sem.run_bind, Sem.run_pure, run_newRow]
 · obtain ⟨out, h1, h2⟩ := fill_all sz vs 0 ((Array.range (len * sz)).map (z.cells[· % z.cells.size]!)) (by rw [hlen]; exact hi) hv (by rw [hlen]; simp)
   refine ⟨out, by simpa using h2, ?_⟩
   simp only [Instr.buildSlice, Sem.run_bind, run_underlying (tk_slice ht), Result.andThen_ok, run_sizeOf hs, hb', if_false, h0, hrun, Sem.run_pure, h1, run_newRow]
theorem buildSlice_ok (P : Program) (S : St) (o : Oper) (t : TypeId) (len : Nat) (ps : Array (Nat × Operand)) (ho : o.op = .buildSlice t len ps) (hx : ∀ x ∈ ps.toList, (S.opd x.2).1 = true) :
 ResOk P S o (buildSliceR P S.mem (keyOf o) t len (ps.toList.map fun x => (x.1, (S.opd x.2).2))) := by
 have parts : ∀ {φ G a w}, Rel φ G S a w → ∀ (i : Nat) (p : Nat × AV) (v : Value), (ps.toList.map fun x => (x.1, (S.opd x.2).2))[i]? = some p → (ps.toList.map fun x => a.eval x.2)[i]? = some v → AVRel φ w (Fo G φ S.mem) p.2 v := by
  intro φ G a w hr i p v h1 h2
  simp only [List.getElem?_map, Option.map_eq_some_iff] at h1 h2
  obtain ⟨x, hx1, rfl⟩ := h1
  obtain ⟨y, hy1, rfl⟩ := h2
  rw [hx1] at hy1; cases hy1
  exact hr.opd _ (hx x (List.mem_of_getElem? hx1))
 have main : ∀ {e sz zd ds}, tk P t = .slice e → tsz P e = some sz → tzeroD P e = some zd → partDs (ps.toList.map fun x => (x.1, (S.opd x.2).2)) = some ds → zd.size = sz → len * sz ≤ 2 ^ 24 →
  (ps.toList.map fun x => (x.1, (S.opd x.2).2)).map (·.1) = List.range' 0 len → (∀ d ∈ ds, d.size = sz) → ∀ {φ G a w}, Rel φ G S a w →
  ds.length = len ∧ ∃ arr : Array Value, RowsAt w (Fo G φ S.mem) sz ds arr.toList ∧ (execOp a.eval o).run P w = .ok (.value (.slice (some ⟨w.heap.size, 0, none⟩) len len)) (w.alloc (.cells arr e)) := by
  intro e sz zd ds ht hs hz hds hzs hb hi hsz φ G a w hr
  obtain ⟨h1, h2⟩ := partDs_rel (φ := φ) (w := w) (F := Fo G φ S.mem) _ ds (ps.toList.map fun x => a.eval x.2) hds (by simp) (parts hr)
  have hrows := rows_parts ds _ h1 hsz h2
  have hi' : (ps.toList.map fun x => (x.1, a.eval x.2)).map (·.1) = List.range' 0 len := by rw [← hi]; simp
  have hv : ∀ v ∈ (ps.toList.map fun x => (x.1, a.eval x.2)), v.2.cells.size = sz := by
   intro v hv
   simp only [List.mem_map] at hv
   obtain ⟨x, hxm, rfl⟩ := hv
   obtain ⟨i, hi1, hi2⟩ := List.mem_iff_getElem.1 hxm
   have hid : i < ds.length := by rw [h1]; simpa using hi1
   have := h2 i ds[i] (a.eval x.2) (by simp [hid]) (by simp [List.getElem?_eq_getElem hi1, hi2])
   cases this with | d _ _ h => rw [h.size]; exact hsz _ (List.getElem_mem hid)
  obtain ⟨arr, ha, hrun⟩ := run_buildSlice (P := P) (w := w) ht hs hz hb hi' hv
  refine ⟨?_, arr, ?_, ?_⟩
  · have := congrArg List.length hi
    simp at this
    rw [h1]; simp; exact this
  · rw [ha]
    have e : (ps.toList.map fun x => (x.1, a.eval x.2)).flatMap (fun v => v.2.cells.toList) = (ps.toList.map fun x => a.eval x.2).flatMap (fun v => v.cells.toList) := by simp [List.flatMap_map]
    rw [e]; exact hrows
  · have e2 : (ps.map fun x => (x.1, a.eval x.2)) = (ps.toList.map fun x => (x.1, a.eval x.2)).toArray := by apply Array.ext'; simp
    simp only [execOp, ho, Sem.run_bind]
    have e3 : (ps.map fun (i, x) => (i, a.eval x)) = (ps.toList.map fun x => (x.1, a.eval x.2)).toArray := e2
    rw [e3, hrun]
    rfl
 have nil : ∀ r, buildNil P t (keyOf o) len (ps.toList.map fun x => (x.1, (S.opd x.2).2)) (Mem.get S.mem (keyOf o)) = some r → ResOk P S o r := by
  intro r hbn
  unfold buildNil at hbn
  split at hbn
  · rename_i key v cont hps hg
    split at hbn
    · rename_i e hte
      split at hbn
      · rename_i sz zd hs hz
        cases hbn
        refine ResOk.updI ?_
        rintro ⟨rfl, rfl⟩ φ G a w hr
        have hpl : ps.toList.length = 1 := by have := congrArg List.length hps; simpa using this
        obtain ⟨q, hq⟩ : ∃ q, ps.toList = [q] := by
         match hql : ps.toList, hpl with
         | [q], _ => exact ⟨q, rfl⟩
        have hpq := parts hr 0 (0, .lit (.slice none 0 0)) (a.eval q.2) (by rw [hps]; rfl) (by rw [hq]; rfl)
        simp only at hpq
        have hev : a.eval q.2 = .slice none 0 0 := by
         generalize a.eval q.2 = u at hpq
         cases hpq; rfl
        have hq0 : q.1 = 0 := by
         rw [hq] at hps
         simp only [List.map_cons, List.map_nil, List.cons.injEq, Prod.mk.injEq] at hps
         exact hps.1.1
        obtain ⟨arr, ha, hrun⟩ := run_buildSlice (P := P) (w := w) (len := 1) hte hs hz (by decide) (vs := [(0, .slice none 0 0)]) rfl (by simp [Value.cells])
        have harr : arr = #[.slice none 0 0] := by apply Array.ext'; rw [ha]; simp [Value.cells]
        subst harr
        obtain ⟨hm, hk, L, hL, hver, _⟩ := hr.mem.get hg
        simp only at hk hver
        subst hk
        obtain ⟨φ', hm', hk', hφk, hφo⟩ := hr.mem.fresh (e := ⟨keyOf o, v, cont⟩) hm hL hver w rfl rfl rfl rfl #[.slice none 0 0] e 1 1 (.box [.lit (.slice none 0 0)]) (fun _ hb => hb) (fun φ' hle hav hdr hnew => by
         refine ⟨⟨rfl, rfl, rfl⟩, #[.slice none 0 0], e, .new hnew, rfl, by simp [cell1], fun n c u hc hu => ?_⟩
         cases n with
         | zero => simp at hc hu; subst hc; subst hu; exact .lit _ rfl
         | succ n => simp at hc)
        refine ⟨.slice (some ⟨w.heap.size, 0, none⟩) 1 1, _, φ', .inl ?_, .vec _ (v + 1) 0 _ _ _ hφk (Nat.le_refl _) (fun _ => ⟨_, _, rfl, Nat.le_refl _, fun _ => ⟨by simp, by simp⟩⟩) rfl, hm', hk', hφo⟩
        have e3 : (ps.map fun (i, x) => (i, a.eval x)) = #[(0, .slice none 0 0)] := by
         apply Array.ext'
         simp [hq, hq0, hev]
        simp only [execOp, ho, Sem.run_bind]
        rw [e3]
        have h9 : (Instr.buildSlice t 1 #[(0, Value.slice none 0 0)]).run P w = _ := hrun
        rw [h9]
        rfl
      · cases hbn
    · cases hbn
  · cases hbn
 unfold buildSliceR
 split
 · rename_i r hbn
   exact nil r hbn
 rename_i hbn
 clear hbn nil
 unfold buildSlice0
 split
 · rename_i e hte
   split
   · rename_i sz zd ds hs hz hds
     split
     · rename_i key v cont hg
       refine ResOk.updI ?_
       rintro ⟨hzs, hb, hi, hsz⟩ φ G a w hr
       obtain ⟨hlen, arr, hrows, hrun⟩ := main hte hs hz hds hzs hb hi hsz hr
       obtain ⟨hm, hk, L, hL, hver, _⟩ := hr.mem.get hg
       simp only at hk hver
       subst hk
       obtain ⟨φ', hm', hk', hφk, hφo⟩ := hr.mem.fresh (e := ⟨keyOf o, v, cont⟩) hm hL hver w rfl rfl rfl rfl arr e sz len (.vec sz ds) (fun _ hb => hb.2) (fun φ' hle hav hdr hnew => by
        refine vec_of_rows (cs := arr.toList) (rest := []) (elem := e) rfl rfl (hrows.mono hdr) (by simp) (by simpa using Nat.le_of_eq hlen) (by rw [List.append_nil, hrows.1, hlen]) (fun _ => ?_)
        refine RowAt.new ?_
        rw [hnew, List.append_nil, Array.toArray_toList])
       exact ⟨_, _, φ', .inl hrun, .vec _ (v + 1) 0 _ _ _ hφk (Nat.le_refl _) (fun _ => ⟨_, _, rfl, Nat.le_refl _, fun _ => ⟨by simp, by simp⟩⟩) rfl, hm', hk', hφo⟩
     · refine ResOk.valI ?_
       rintro ⟨hzs, hb, hi, hsz⟩ φ G a w hr
       obtain ⟨hlen, arr, hrows, hrun⟩ := main hte hs hz hds hzs hb hi hsz hr
       have hold : ∀ b, b < w.heap.size → (w.alloc (.cells arr e)).heap[b]? = w.heap[b]? := fun b hb => RowKit.Below.heap_alloc w _ b hb
       have hnew := heap_alloc_new w (.cells arr e)
       refine ⟨_, _, .inl hrun, .d _ _ ?_, hold, by simp, rfl, rfl, rfl⟩
       have := list_new (cap := len) hrows hnew (rest := []) (by simp) (fun x v h => grow_rel hold (by simp) x v h) (fun h => absurd (fo_bound hr.mem _ h) (Nat.lt_irrefl _)) (Nat.le_of_eq hlen)
       rw [hlen] at this
       exact this
   · trivial
 · trivial
def bytesD (s : List UInt8) : List D := s.map fun b => .int .u8 b.toNat
def byteOf : D → UInt8
 | .int _ n => UInt8.ofNat n.toNat
 | _ => 0
def D.isByte : D → Bool
 | .int .u8 _ => true
 | _ => false
theorem D.isByte_eq {d : D} (h : d.isByte = true) : ∃ n, d = .int .u8 n := by
 unfold D.isByte at h; split at h <;> simp_all
def convR (P : Program) (m : Mem) (k0 : Nat) (src dst : TypeId) (x : AV) : Res :=
 match tk P dst, x with
 | .int k, .d (.int _ n) => .val (tk P src ≠ .other) (.d (.int k (k.wrap n)))
 | .str, .d (.int _ n) => .val (tk P src ≠ .other) (.d (.str (Utf8.encode n).data.toList))
 | .str, .d (.str s) => .val (tk P src = .str) (.d (.str s))
 | .str, x => match tk P src with
  | .slice e => match srcRows m 1 x with
   | some (c, ys) => .val (c ∧ tk P e = .int .u8 ∧ tsz P e = some 1 ∧ ∀ d ∈ ys, d.isByte = true) (.d (.str (ys.map byteOf)))
   | none => .no
  | _ => .no
 | .slice e, .d (.str s) => match tk P src, tk P e, Mem.get m k0 with
  | .str, .int .u8, none => .val True (.d (.list (bytesD s)))
  | _, _, _ => .no
 | _, _ => .no
theorem bytes_loop {P : Program} {w : World} : ∀ (cs : List Value) (s0 : ByteArray) (ns : List Int), cs = ns.map (Value.int .u8) →
 (forIn cs s0 (fun c s => (match c with | .int .u8 n => pure (ForInStep.yield (s.push (UInt8.ofNat n.toNat))) | _ => (do stuck "bytesToString: byte expected"; pure (ForInStep.yield s)) : Sem (ForInStep ByteArray)))).run P w = .ok ⟨(s0.data.toList ++ ns.map fun n => UInt8.ofNat n.toNat).toArray⟩ w
 | [], s0, ns, h => by
  have : ns = [] := by simpa using h.symm
  subst this
  simp
 | c :: cs, s0, ns, h => by
  cases ns with
  | nil => simp at h
  | cons n ns =>
   simp at h
   obtain ⟨rfl, rfl⟩ := h
   simp only [List.forIn_cons, Sem.run_bind, Sem.run_pure, Result.andThen_ok]
   rw [bytes_loop (ns.map (Value.int .u8)) (s0.push (UInt8.ofNat n.toNat)) ns rfl]
   simp
theorem run_toBytes {P : Program} {w : World} {e : TypeId} {b : ByteArray} : ∃ (arr : Array Value) (fr : Nat × Nat) (w' : World) (cap : Nat) (rest : List Value), b.size ≤ cap ∧ (Conv.stringToBytes e b).run P w = .ok (.slice (some ⟨w.heap.size, 0, none⟩) b.size cap) w' ∧
 arr.toList = (b.data.toList.map fun x => Value.int .u8 x.toNat) ++ rest ∧ w'.heap[w.heap.size]? = some (.cells arr e fr) ∧ (∀ k, k < w.heap.size → w'.heap[k]? = w.heap[k]?) ∧ w.heap.size ≤ w'.heap.size ∧ w'.os = w.os ∧ w'.tape = w.tape ∧ w'.output = w.output := by
 obtain ⟨cap, hcap⟩ : ∃ cap, cap = (Question.appendCap b.size 0 e).cut (w.tape w.drawn (.appendCap b.size 0 e)) := ⟨_, rfl⟩
 obtain ⟨arr, harr⟩ : ∃ arr : Array Value, arr = (b.data.map fun x => Value.int .u8 x.toNat) ++ Array.replicate (cap - b.size) (.int .u8 0) := ⟨_, rfl⟩
 obtain ⟨w1, hw1⟩ : ∃ w1, w1 = w.drew.alloc (.cells arr e) := ⟨_, rfl⟩
 have hnew : w1.heap[w.heap.size]? = some (.cells arr e (0, 0)) := by
  have := heap_alloc_new w.drew (.cells arr e)
  rw [← hw1] at this; exact this
 have hlt : w.heap.size < w1.heap.size := (Array.getElem?_eq_some_iff.1 hnew).1
 have hsh : w1.shape? w.heap.size = some (e, arr.size) := by simp [World.shape?, hnew]
 refine ⟨arr, (arr.size, arr.size + 1), w1.freeze ⟨w.heap.size, arr.size, none⟩ 1, cap, List.replicate (cap - b.size) (.int .u8 0), ?_, ?_, ?_, ?_, ?_, ?_, ?_, ?_, ?_⟩
 · rw [hcap]; simp [Question.cut]
 · have hch : (choose (.appendCap b.size 0 e)).run P w = .ok cap w.drew := by
    rw [hcap]; rfl
   have hnr : (newRow e arr).run P w.drew = .ok ⟨w.heap.size, 0, none⟩ w1 := by rw [hw1]; rfl
   have hmk : (markStringish ⟨w.heap.size, 0, none⟩).run P w1 = .ok () (w1.freeze ⟨w.heap.size, arr.size, none⟩ 1) := by
    simp only [markStringish, shape, Sem.run_bind, Sem.run, hsh, Result.andThen_ok, freeze]
   simp only [Conv.stringToBytes, Sem.run_bind, hch, Result.andThen_ok, ← harr, hnr, hmk, Sem.run_pure]
 · rw [harr]; simp
 · simp [World.freeze, Array.getElem?_modify, hnew]
 · intro k hk
   have h1 : (w1.freeze ⟨w.heap.size, arr.size, none⟩ 1).heap[k]? = w1.heap[k]? := by
    simp only [World.freeze, Nat.one_ne_zero, if_false, Array.getElem?_modify]
    rw [if_neg (by omega)]
   rw [h1, hw1]
   exact RowKit.Below.heap_alloc w.drew _ k hk
 · simp [World.freeze]; omega
 · simp [World.freeze, hw1]; rfl
 · simp [World.freeze, hw1]
 · simp [World.freeze, hw1]; rfl
theorem byteOf_int (n : Int) : byteOf (.int .u8 n) = UInt8.ofNat n.toNat := rfl
theorem conv_ok (P : Program) (S : St) (o : Oper) (src dst : TypeId) (x : Operand) (ho : o.op = .convert src dst x) (hx : (S.opd x).1 = true) : ResOk P S o (convR P S.mem (keyOf o) src dst (S.opd x).2) := by
 have hrun : ∀ (a : Act) (w w' : World) (v : Value), (convert src dst (a.eval x)).run P w = .ok v w' → (execOp a.eval o).run P w = .ok (.value v) w' := by
  intro a w w' v h
  simp [execOp, ho, h]
 unfold convR
 split
 · rename_i k k' n hd hxv
   refine ResOk.pure fun hc φ G a w hr => ?_
   have h1 := hr.opd x hx
   rw [hxv] at h1
   obtain ⟨td, hu⟩ := tk_known hc
   refine ⟨.int k (k.wrap n), hrun a w w _ ?_, .d _ _ (.int _ _)⟩
   rw [int_of h1]
   simp [convert, run_underlying hu, run_underlying (tk_int hd), Conv.intToInt]
 · rename_i k n hd hxv
   refine ResOk.pure fun hc φ G a w hr => ?_
   have h1 := hr.opd x hx
   rw [hxv] at h1
   obtain ⟨td, hu⟩ := tk_known hc
   refine ⟨.string (Utf8.encode n), hrun a w w _ ?_, .d _ _ (.str _ _ rfl)⟩
   rw [int_of h1]
   simp [convert, run_underlying hu, run_underlying (tk_str hd), Conv.intToString]
 · rename_i s hd hxv
   refine ResOk.pure fun hc φ G a w hr => ?_
   have h1 := hr.opd x hx
   rw [hxv] at h1
   obtain ⟨b, e1, rfl⟩ := str_of h1
   refine ⟨.string b, hrun a w w _ ?_, .d _ _ (.str _ _ rfl)⟩
   rw [e1]
   simp [convert, run_underlying (tk_str hc), run_underlying (tk_str hd)]
 · rename_i hd _ _
   split
   · rename_i e hsr
     split
     · rename_i c ys hsrc
       refine ResOk.pure ?_
       rintro ⟨hc, htk, hts, hall⟩ φ G a w hr
       replace hall := fun d hd => D.isByte_eq (hall d hd)
       have hxv := hr.opd x hx
       obtain ⟨news, hsa⟩ := src_ok (P := P) hr.mem hxv hsrc hc (fun d hd => by obtain ⟨n, rfl⟩ := hall d hd; rfl)
       have hlen := hsa.len w
       have hfst := hsa.first w (fun _ _ => rfl)
       obtain ⟨r1, r2, r3, r4⟩ := hsa.rows
       -- the cells as numbers
       have hns : ∃ ns : List Int, news = ns.map (Value.int .u8) ∧ ys = ns.map (D.int .u8) := by
        refine ⟨ys.map fun d => (match d with | .int _ n => n | _ => 0), ?_, ?_⟩
        · apply List.ext_getElem?
          intro i
          by_cases hi : i < ys.length
          · obtain ⟨v, hv, hvc⟩ := r4 i ys[i] (by simp [hi])
            obtain ⟨n, hn⟩ := hall ys[i] (List.getElem_mem hi)
            rw [hn] at hv
            cases hv
            have := hvc 0 (.int .u8 n) rfl
            simp only [Nat.mul_one, Nat.add_zero] at this
            rw [this]
            simp [hi, hn]
          · rw [List.getElem?_eq_none (by rw [r1]; omega), List.getElem?_eq_none (by simp; omega)]
        · apply List.ext_getElem?
          intro i
          by_cases hi : i < ys.length
          · obtain ⟨n, hn⟩ := hall ys[i] (List.getElem_mem hi)
            simp [hi, hn]
          · rw [List.getElem?_eq_none (by omega), List.getElem?_eq_none (by simp; omega)]
       obtain ⟨ns, rfl, rfl⟩ := hns
       generalize hev : a.eval x = xv at hlen hfst hxv
       have hv : (∃ ao m cap, xv = .slice ao m cap) ∨ (∃ b, xv = .string b) := by
        cases xv <;> first | exact .inl ⟨_, _, _, rfl⟩ | exact .inr ⟨_, rfl⟩ | (simp [Builtin.lenOf, stuck] at hlen)
       refine ⟨.string ⟨(ns.map fun n => UInt8.ofNat n.toNat).toArray⟩, hrun a w w _ ?_, .d _ _ (.str _ _ ?_)⟩
       · rw [hev]
         rcases hv with ⟨ao, m, cap, rfl⟩ | ⟨b, rfl⟩
         · simp only [Builtin.lenOf, Sem.run_pure, Result.ok.injEq, and_true] at hlen
           subst hlen
           cases ao with
           | none =>
            have hn0 : ns = [] := by
             simp only [Builtin.firstCells, Sem.run_pure, Result.ok.injEq, and_true] at hfst
             have := congrArg Array.size hfst
             simp at this
             exact List.eq_nil_of_length_eq_zero this.symm
            subst hn0
            simp [convert, run_underlying (tk_slice hsr), run_underlying (tk_str hd), run_underlying (tk_int htk), Conv.bytesToString]
            rfl
           | some ad =>
            simp only [Builtin.firstCells, Nat.mul_one] at hfst
            have hb := bytes_loop (P := P) (w := w) (ns.map (Value.int .u8)) ByteArray.empty ns rfl
            simp only [convert, run_underlying (tk_slice hsr), run_underlying (tk_str hd), run_underlying (tk_int htk), Sem.run_bind, Result.andThen_ok, Conv.bytesToString, hfst]
            rw [← Array.forIn_toList]
            simp only [Sem.run_pure]
            refine Eq.trans (congrArg (fun r => Result.andThen r fun a w' => Result.ok (Value.string a) w') hb) ?_
            rfl
         · exfalso
           have hns : ∀ s, (S.opd x).2 = .d (.str s) → False := by assumption
           generalize (S.opd x).2 = y at hsrc hxv hns
           unfold srcRows at hsrc
           split at hsrc
           · cases hxv with | d _ _ h => cases h
           · exact hns _ rfl
           · cases hxv
           · cases hxv
           · split at hsrc
             · rename_i key v' sz' rows hg
               simp only [Option.some.injEq, Prod.mk.injEq] at hsrc
               obtain ⟨rfl, _⟩ := hsrc
               obtain ⟨_, _, L, hL, hver, _⟩ := hr.mem.get hg
               cases hxv with
               | vec _ _ _ _ _ L' hL' _ h _ =>
                rw [hL] at hL'; cases hL'
                obtain ⟨_, _, h2, _⟩ := h (by rw [← (of_decide_eq_true hc).1]; exact hver.symm)
                cases h2
             · cases hsrc
           · cases hsrc
       · simp [byteOf_int, Function.comp_def]
     · trivial
   · trivial
 · rename_i e s hd hxv
   split
   · rename_i hsr htk hg
     intro _ φ G a w hr
     have h1 := hr.opd x hx
     rw [hxv] at h1
     obtain ⟨b, e1, rfl⟩ := str_of h1
     have hbs : b.size = b.data.toList.length := by rw [Array.length_toList]; rfl
     obtain ⟨arr, fr, w', cap, rest, hcap, hrn, harr, hh, hold, hsz, hos, htp, hout⟩ := run_toBytes (P := P) (w := w) (e := e) (b := b)
     have hrows : RowsAt w (Fo G φ S.mem) 1 (bytesD b.data.toList) (b.data.toList.map fun x => Value.int .u8 x.toNat) := by
      refine ⟨by simp [bytesD], ?_, ?_, ?_⟩
      · intro v hv; simp only [List.mem_map] at hv; obtain ⟨y, _, rfl⟩ := hv; rfl
      · intro d hd; simp only [bytesD, List.mem_map] at hd; obtain ⟨y, _, rfl⟩ := hd; rfl
      · intro i d hd
        simp only [bytesD, List.getElem?_map, Option.map_eq_some_iff] at hd
        obtain ⟨y, hy, rfl⟩ := hd
        refine ⟨.int .u8 y.toNat, .int _ _, fun j c hj => ?_⟩
        cases j with
        | zero => simp only [Value.cells] at hj; simp at hj; subst hj; simp only [List.getElem?_map, Nat.mul_one, Nat.add_zero, hy]; rfl
        | succ j => simp [Value.cells] at hj
     have hl := list_new (cap := cap) hrows hh harr (fun x v h => grow_rel hold hsz x v h) (fun h => absurd (fo_bound hr.mem _ h) (Nat.lt_irrefl _)) (by simp [bytesD]; exact hcap)
     refine ⟨_, w', .inl (hrun a w w' _ ?_), .d _ _ hl, hold, hsz, hos, htp, hout⟩
     have hlen : (bytesD b.data.toList).length = b.size := by rw [hbs]; simp [bytesD]
     rw [e1, hlen]
     simp only [convert, run_underlying (tk_str hsr), run_underlying (tk_slice hd), run_underlying (tk_int htk), Sem.run_bind, Result.andThen_ok]
     exact hrn
   · trivial
 · trivial
def okAll (S : St) : List Operand → Bool
 | [] => true
 | x :: r => (S.opd x).1 && okAll S r
theorem okAll_mem {S : St} : ∀ {l : List Operand}, okAll S l = true → ∀ x ∈ l, (S.opd x).1 = true
 | [], _, x, hx => by simp at hx
 | y :: r, h, x, hx => by
  simp only [okAll, Bool.and_eq_true] at h
  rcases List.mem_cons.1 hx with rfl | hx
  · exact h.1
  · exact okAll_mem h.2 x hx
def opOk (S : St) (o : Oper) : Bool :=
 match o.op with
 | .pick _ _ _ => true
 | op => okAll S op.operands.toList
def moveR (P : Program) (m : Mem) (k0 : Nat) (t : TypeId) (x : AV) : Res :=
 match x with
 | .lit (.slice none 0 0) => match Mem.get m k0 with
  | some ⟨_, v, _⟩ => match tk P t with
   | .slice e => match tsz P e with
    | some sz => .upd true (.vec k0 (v + 1) 0 0) ⟨k0, v + 1, .vec sz []⟩
    | none => .val true x
   | _ => .val true x
  | none => .val true x
 | x => .val true x
theorem moveR_ok (P : Program) (S : St) (o : Oper) (x : Operand) (ho : o.op = .move x ∨ o.op = .assign x) (hx : (S.opd x).1 = true) : ResOk P S o (moveR P S.mem (keyOf o) o.type (S.opd x).2) := by
 have plain : ResOk P S o (.val true (S.opd x).2) := by
  have := move_ok P S o x ho hx
  simpa using this
 unfold moveR
 split
 · rename_i hxv
   split
   · rename_i key v cont hg
     split
     · split
       · rename_i sz hs
         intro _ φ G a w hr
         obtain ⟨hm, hk, L, hL, hver, hcr⟩ := hr.mem.get hg
         simp only at hk hver
         subst hk
         have hv := hr.opd x hx
         rw [hxv] at hv
         generalize hev : a.eval x = u at hv
         cases hv
         obtain ⟨φ', hm', hk', hφk, hφo⟩ := hr.mem.upd (e' := ⟨keyOf o, v + 1, .vec sz []⟩) hm hL rfl (L' := ⟨v + 1, 0, sz, 0, 0, []⟩) (by simp only; omega) (fun hh => by simp only at hh; omega) rfl
          (w' := w) (fun _ _ _ => rfl) (Nat.le_refl _) (fun _ ho => absurd ho.1 (by simp)) rfl rfl rfl (fun φ' hφ' hle' =>
           ⟨rfl, by simp, by simp, fun hc => by simp at hc⟩)
         refine ⟨.slice none 0 0, w, φ', .inl ?_, ?_, hm', hk', hφo⟩
         · rcases ho with ho | ho <;> simp [execOp, ho, hev]
         · exact .vec _ (v + 1) 0 _ _ _ hφk (Nat.le_refl _) (fun _ => ⟨_, _, rfl, by simp, fun h => by omega⟩) rfl
       · exact plain
     · exact plain
   · exact plain
 · exact plain
def isNilV : Value → Bool
 | .slice none 0 0 => true
 | .pointer none => true
 | .nilIface => true
 | _ => false
def binOpR (P : Program) (S : St) (op : BinOp) (t : TypeId) (x y : Operand) : Res :=
 match y with
 | .const v => match isNilV v, op with
  | true, .eql => nilR P S.mem false t (S.opd x).2 v
  | true, .neq => nilR P S.mem true t (S.opd x).2 v
  | _, _ => binR P op t (S.opd x).2 (S.opd (.const v)).2
 | y => binR P op t (S.opd x).2 (S.opd y).2
theorem binOpR_ok (P : Program) (S : St) (o : Oper) (bop : BinOp) (t t' : TypeId) (x y : Operand) (ho : o.op = .binOp bop t x y t') (hx : (S.opd x).1 = true) (hy : (S.opd y).1 = true) : ResOk P S o (binOpR P S bop t x y) := by
 unfold binOpR
 split
 · split
   · exact nilR_ok P S o false t t' x _ (by simpa using ho) hx
   · exact nilR_ok P S o true t t' x _ (by simpa using ho) hx
   · exact binR_ok P S o _ t t' x _ ho hx hy
 · exact binR_ok P S o bop t t' x y ho hx hy
theorem list_of_rows {w : World} {F F' : Nat → Prop} {sz : Nat} {ds : List D} {cs : List Value} {b off cap : Nat} (hr : RowsAt w F sz ds cs) (hc : ∀ (j : Nat) v, cs[j]? = some v → w.cell? ⟨b, off + j, none⟩ = some v)
 (hb : b < w.heap.size) (hF : ∀ b, F' b → F b) (hFb : ¬ F' b) (hcap : ds.length ≤ cap) : DRel w F' (.list ds) (.slice (some ⟨b, off, none⟩) ds.length cap) := by
 obtain ⟨h1, h2, h3, h4⟩ := hr
 refine .list ds b off cap sz (fun i => if h : i < ds.length then Classical.choose (h4 i ds[i] (by simp [h])) else undef) hcap hb hFb h3 (fun i d hd => ?_) (fun i j c hi hj => ?_)
 · have hi := (List.getElem?_eq_some_iff.1 hd).1
   have := Classical.choose_spec (h4 i ds[i] (by simp [hi]))
   simp only [hi, dif_pos]
   have e : ds[i] = d := (List.getElem?_eq_some_iff.1 hd).2
   rw [← e]
   exact this.1.mono (fun _ _ _ => rfl) (Nat.le_refl _) (fun b _ => hF b)
 · have := Classical.choose_spec (h4 i ds[i] (by simp [hi]))
   simp only [hi, dif_pos] at hj
   have h5 := hc _ _ (this.2 j c hj)
   rw [← Nat.add_assoc] at h5
   exact h5
theorem vec_list {φ w F F'} {k ver off len sz : Nat} {rows : List D} {L : Loc} {v : Value} (hv : AVRel φ w F (.vec k ver off len) v) (hL : φ k = some L) (hver : L.ver = ver) (hc : ContRel φ w F L (.vec sz rows)) (hle : off + len ≤ rows.length)
 (hF : ∀ b, F' b → F b) (hFb : 0 < L.cap → ¬ F' L.blk) : DRel w F' (.list ((rows.drop off).take len)) v := by
 have hlen : ((rows.drop off).take len).length = len := by simp; omega
 cases hv with
 | vec _ _ _ _ _ L' hL' _ h _ =>
  rw [hL] at hL'; cases hL'
  obtain ⟨ao, cap, rfl, hlc, hpl⟩ := h hver.symm
  clear h
  by_cases hl0 : len = 0
  · subst hl0
    simp only [List.take_zero]
    exact .nil _ _ (fun hn => by
     subst hn
     rcases Nat.eq_zero_or_pos cap with h0 | h0
     · exact h0
     · obtain ⟨h1, _⟩ := hpl h0; cases h1)
  · obtain ⟨rfl, hcapeq⟩ := hpl (by omega)
    obtain ⟨arr, elem, hh, hasz, ha1, hr⟩ := rows_of_vec hc (by omega)
    have hr2 := (hr.drop off).take len (by simp; omega)
    have := list_of_rows (F' := F') (b := L.blk) (off := L.base + off * L.sz) (cap := cap) hr2 (fun j u hj => by
     rw [cell?_rowA hh, hc.1]
     rw [List.getElem?_take] at hj
     split at hj
     · rw [List.getElem?_drop, List.getElem?_take] at hj
       split at hj
       · rw [List.getElem?_drop] at hj
         rw [Nat.add_assoc]
         simpa using hj
       · cases hj
     · cases hj) hh.lt hF (hFb (by omega)) (by omega)
    rw [hlen] at this
    exact this
theorem Mem.set_set {e e' : Ent} (hk : e'.key = e.key) : ∀ m : Mem, Mem.set (Mem.set m e) e' = Mem.set m e'
 | [] => rfl
 | x :: r => by
  simp only [Mem.set]
  by_cases h : x.key = e.key
  · rw [if_pos h, if_pos (by rw [hk]; exact h)]
    simp only [Mem.set]
    rw [if_pos hk.symm]
  · rw [if_neg h, if_neg (by rw [hk]; exact h)]
    simp only [Mem.set]
    rw [if_neg (by rw [hk]; exact h), Mem.set_set hk r]
theorem fz_mem {φ : Phi} {G m w} (h : MemRel φ G m w) {k v sz n : Nat} {rows : List D} (hg : Mem.get m k = some ⟨k, v, .vec sz rows⟩) {x : Value} (hx : AVRel φ w (Fo G φ m) (.vec k v 0 n) x) (hn : n ≤ rows.length) :
 ∃ φ', MemRel φ' G (Mem.set m ⟨k, v + 1, .dead⟩) w ∧ Keeps φ m w φ' (Mem.set m ⟨k, v + 1, .dead⟩) w ∧ (∀ j, j ≠ k → φ' j = φ j) ∧ DRel w (Fo G φ' (Mem.set m ⟨k, v + 1, .dead⟩)) (.list (rows.take n)) x := by
 obtain ⟨hm, _, L, hL, hver, hcr⟩ := h.get hg
 obtain ⟨φ', hm', hk', hφk, hφo⟩ := h.upd (e := ⟨k, v, .vec sz rows⟩) (e' := ⟨k, v + 1, .dead⟩) hm hL rfl (L' := { L with ver := v + 1 }) (by simp only at hver ⊢; omega) (fun hh => by simp only at hver hh; omega) rfl
  (w' := w) (fun _ _ _ => rfl) (Nat.le_refl _) (fun _ ho => ho.elim) rfl rfl rfl (fun _ _ _ => trivial)
 refine ⟨φ', hm', hk', hφo, ?_⟩
 have hown : ∀ b, Own φ' (Mem.set m ⟨k, v + 1, .dead⟩) b → Own φ m b ∧ ∀ (_ : 0 < L.cap), b ≠ L.blk := by
  rintro b ⟨y, hy, Ly, hLy, hoy⟩
  rcases (Mem.mem_set h.nodup).1 hy with ⟨rfl, _⟩ | ⟨hym, hne⟩
  · exact hoy.elim
  · simp only at hne
    rw [hφo _ hne] at hLy
    refine ⟨⟨y, hym, Ly, hLy, hoy⟩, fun hc heq => hne (h.apart y hym _ hm Ly L hLy hL ⟨b, hoy, hc, heq.symm⟩)⟩
 have := vec_list hx hL hver hcr (by omega) (F' := Fo G φ' (Mem.set m ⟨k, v + 1, .dead⟩)) (fun b => Or.imp id (fun hb => (hown b hb).1)) (fun hc => by
  rintro (hG | ho)
  · exact h.notG _ ⟨_, hm, L, hL, hc, rfl⟩ hG
  · exact (hown _ ho).2 hc rfl)
 simpa using this
def fzRes (m : Mem) (b : Bool) (k0 : Nat) : Res → Res
 | .upd c (.vec k v 0 n) ⟨k', v', .vec sz rows⟩ => if b = true ∧ k ≠ k0 ∧ k' = k ∧ v' = v ∧ n ≤ rows.length ∧ (Mem.get m k).isSome = true then .upd c (.d (.list (rows.take n))) ⟨k, v + 1, .dead⟩ else .upd c (.vec k v 0 n) ⟨k', v', .vec sz rows⟩
 | r => r
theorem fzRes_ok {P : Program} {S : St} {o : Oper} {b : Bool} {k0 : Nat} {r : Res} (h : ResOk P S o r) : ResOk P S o (fzRes S.mem b k0 r) := by
 unfold fzRes
 split
 · rename_i c k v n k' v' sz rows
   split
   · rename_i hh
     obtain ⟨_, _, rfl, rfl, hn, hs⟩ := hh
     intro hc φ G a w hr
     obtain ⟨x, w', φ', h1, h2, h3, h4, h5⟩ := h hc φ G a w hr
     have hin : k' ∈ S.mem.map (·.key) := by
      cases hg : Mem.get S.mem k' with
      | none => rw [hg] at hs; cases hs
      | some e =>
       obtain ⟨h6, h7⟩ := Mem.get_mem hg
       rw [← h7]; exact List.mem_map_of_mem h6
     obtain ⟨φ2, q1, q2, q3, q4⟩ := fz_mem h3 (Mem.get_set_same (x := ⟨k', v', .vec sz rows⟩) hin) h2 hn
     rw [Mem.set_set (e := ⟨k', v', .vec sz rows⟩) (e' := ⟨k', v' + 1, .dead⟩) rfl] at q1 q2 q4
     exact ⟨x, w', φ2, h1, .d _ _ q4, q1, h4.trans q2, fun j hj => by rw [q3 j hj]; exact h5 j hj⟩
   · exact h
 · exact h
def capR (P : Program) (t : TypeId) : AV → Res
 | .lit (.slice none 0 0) => match tk P t with
  | .slice _ => .val True (.d (.int .i64 0))
  | _ => .no
 | _ => .no
theorem cap_ok (P : Program) (S : St) (o : Oper) (x : Operand) (t : TypeId) (ho : o.op = .call { callee := .builtin .cap, args := #[x], argTypes := #[t] }) (hx : (S.opd x).1 = true) : ResOk P S o (capR P t (S.opd x).2) := by
 have hrun : ∀ (a : Act) (w : World) (v : Value), (Builtin.cap_ #[t] o.type #[a.eval x]).run P w = .ok v w → (execOp a.eval o).run P w = .ok (.value v) w := by
  intro a w v h
  simp [execOp, ho, resolve, invoke, builtin, h]
 unfold capR
 split
 · rename_i hxv
   split
   · rename_i e hte
     refine ResOk.pure fun _ φ G a w hr => ?_
     have h1 := hr.opd x hx
     rw [hxv] at h1
     generalize hav : a.eval x = av at h1
     cases h1 with | lit _ h =>
     refine ⟨_, hrun a w (.int .i64 0) ?_, .d _ _ (.int _ _)⟩
     rw [hav]
     simp [Builtin.cap_, run_underlying (tk_slice hte), goInt]
   · trivial
 · trivial
def builtinR (P : Program) (S : St) (o : Oper) (b : Builtin) (args : List Operand) (ts : List TypeId) : Res :=
 match b, args, ts with
 | .len, [x], [t] => lenRm P S.mem t (S.opd x).2
 | .append, [s, x], [t, u] => fzRes S.mem (Mem.get S.mem (keyOf o)).isSome (keyOf o) (appR P S.mem (keyOf o) t u (S.opd s).2 (S.opd x).2)
 | .copy, [s, x], [t, _] => copyR P S.mem t (S.opd s).2 (S.opd x).2
 | .max, args, _ => maxR true (args.map fun x => (S.opd x).2)
 | .min, args, _ => maxR false (args.map fun x => (S.opd x).2)
 | .cap, [x], [t] => capR P t (S.opd x).2
 | _, _, _ => .no
def zeroOf : TK → Option D
 | .int k => some (.int k 0)
 | .bool => some (.bool false)
 | _ => none
theorem zeroOf_flat {t : TK} {z : D} (h : zeroOf t = some z) : z.size = 1 ∧ ∀ (w : World) (F : Nat → Prop), ∃ v, DRel w F z v ∧ v.cells = #[v] ∧ ∀ u, DRel w F z u → u = v := by
 cases t with
 | int k => cases h; exact ⟨rfl, fun w F => ⟨_, .int k 0, rfl, fun u hu => by cases hu; rfl⟩⟩
 | bool => cases h; exact ⟨rfl, fun w F => ⟨_, .bool false, rfl, fun u hu => by cases hu; rfl⟩⟩
 | _ => cases h
def isZ : D → AV → Bool
 | .int k n, .d (.int k' n') => k == k' && n == n'
 | .bool b, .d (.bool b') => b == b'
 | _, _ => false
theorem isZ_eq {z : D} {c : AV} (h : isZ z c = true) : c = .d z := by
 unfold isZ at h
 split at h <;> simp_all
def arrR (m : Mem) (k n : Nat) (z : D) (zs : List AV) : Res :=
 match Mem.get m k with
 | some ⟨_, v, _⟩ => .upd (zs.length = n ∧ zs.all (isZ z) = true) (.eptr k (v + 1) 0 0) ⟨k, v + 1, .vec 1 (List.replicate n z)⟩
 | none => .no
def allocR (P : Program) (m : Mem) (k : Nat) (t : TypeId) : Res :=
 match tzero P t with
 | some zs => match tk P t with
  | .arr n e => match zeroOf (tk P e) with
   | some z => arrR m k n z zs
   | none => boxR m k true zs
  | _ => boxR m k true zs
 | none => .no
theorem arr_ok (P : Program) (S : St) (o : Oper) (t : TypeId) (ho : o.op = .alloc t) (n : Nat) (zd : D) (tz : TK) (htz : zeroOf tz = some zd) (zs : List AV) (hz : tzero P t = some zs) : ResOk P S o (arrR S.mem (keyOf o) n zd zs) := by
 obtain ⟨hzs1, hzd⟩ := zeroOf_flat htz
 unfold arrR
 split
 · rename_i key v cont hg
   refine ResOk.updI ?_
   rintro ⟨hn, hall⟩ φ G a w hr
   obtain ⟨z, hrun, hsz, h1, hrel⟩ := tzero_rel hz w
   obtain ⟨hm, hk, L, hL, hver, hcr⟩ := hr.mem.get hg
   simp only at hk hver
   subst hk
   have hzv : ∀ (w : World) (F : Nat → Prop) (i : Nat) u, z.cells[i]? = some u → DRel w F zd u := by
    intro w' F i u hu
    have hi : i < zs.length := by
     have := (Array.getElem?_eq_some_iff.1 hu).1
     omega
    have h3 := hrel φ w (fun _ => False) i zs[i] u (by simp [hi]) hu
    rw [isZ_eq (List.all_eq_true.1 hall _ (List.getElem_mem hi))] at h3
    cases h3 with
    | d _ _ h4 =>
     obtain ⟨v1, q1, _, q2⟩ := hzd w (fun _ => False)
     obtain ⟨v2, q3, _, q4⟩ := hzd w' F
     cases tz with
     | int k => cases htz; cases h4; exact .int k 0
     | bool => cases htz; cases h4; exact .bool false
     | _ => cases htz
   obtain ⟨φ', hm', hk', hφk, hφo⟩ := hr.mem.fresh (e := ⟨keyOf o, v, cont⟩) hm hL hver w rfl rfl rfl rfl z.cells t 1 n (.vec 1 (List.replicate n zd)) (fun _ hb => hb.2) (fun φ' hle hav hdr hnew => by
    refine ⟨rfl, by simp, fun d hd => by rw [(List.mem_replicate.1 hd).2]; exact hzs1, fun _ => ⟨z.cells, t, RowAt.new hnew, by simp [hsz, hn], h1, fun i d hd => ?_⟩⟩
    obtain ⟨hi, rfl⟩ := List.getElem?_eq_some_iff.1 hd
    simp at hi
    have hi2 : i < z.cells.size := by omega
    have h5 := fun w F => hzv w F i z.cells[i] (by simp [hi2])
    have h6 := (h5 w (fun _ => False)).size
    rw [hzs1] at h6
    refine ⟨z.cells[i], by simp; exact h5 _ _, fun j c hj => ?_⟩
    have hj0 : j = 0 := by
     have := (Array.getElem?_eq_some_iff.1 hj).1
     omega
    subst hj0
    rw [cells_of_cell1 (h1 _ (by simp))] at hj
    simp at hj
    subst hj
    simp [hi2])
   refine ⟨.pointer (some ⟨w.heap.size, 0, none⟩), _, φ', .inl ?_, ?_, hm', hk', hφo⟩
   · simp [execOp, ho, Instr.alloc, newVar, run_newRow, hrun]
   · exact .eptr _ (v + 1) 0 0 _ _ hφk (Nat.le_refl _) (fun _ => by simp) rfl
 · trivial
theorem allocR_ok (P : Program) (S : St) (o : Oper) (t : TypeId) (ho : o.op = .alloc t) : ResOk P S o (allocR P S.mem (keyOf o) t) := by
 unfold allocR
 split
 · rename_i zs hz
   split
   · split
     · rename_i hzd; exact arr_ok P S o t ho _ _ _ hzd zs hz
     · exact alloc_ok P S o t ho zs hz
   · exact alloc_ok P S o t ho zs hz
 · trivial
def convM (P : Program) (m : Mem) (k0 : Nat) (src dst : TypeId) (x : AV) : Res :=
 match x with
 | .vec k ver off len => match tk P dst with
  | .slice e => match decide (src = dst), tk P e, Mem.get m k with
   | true, .int .u8, some ⟨_, v, .vec sz rows⟩ => .upd (decide (v = ver ∧ 0 < len)) (.vec k ver off len) ⟨k, ver, .vec sz rows⟩
   | _, _, _ => .no
  | _ => convR P m k0 src dst (.vec k ver off len)
 | x => convR P m k0 src dst x
theorem convM_ok (P : Program) (S : St) (o : Oper) (src dst : TypeId) (x : Operand) (ho : o.op = .convert src dst x) (hx : (S.opd x).1 = true) : ResOk P S o (convM P S.mem (keyOf o) src dst (S.opd x).2) := by
 unfold convM
 split
 · rename_i k ver off len hxv
   split
   · rename_i e hd
     split
     · rename_i key v sz rows hsd htk hg
       refine ResOk.updI ?_
       rintro ⟨rfl, hlen⟩ φ G a w hr
       have hsd : src = dst := of_decide_eq_true hsd
       subst hsd
       obtain ⟨hm, hk, L, hL, hver, hcr⟩ := hr.mem.get hg
       simp only at hk hver
       subst hk
       have hv := hr.opd x hx
       rw [hxv] at hv
       have hv0 := hv
       generalize hev : a.eval x = xv at hv hv0
       cases hv with
       | vec _ _ _ _ _ L' hL' _ h h1c =>
        rw [hL] at hL'; cases hL'
        obtain ⟨ao, cap, rfl, hlc, hpl⟩ := h hver.symm
        obtain ⟨rfl, hcap⟩ := hpl (by omega)
        have hc0 : 0 < L.cap := by omega
        obtain ⟨hLs, hcl, hrs, hrow⟩ := hcr
        obtain ⟨arr, elem, ⟨fr, hh, hfr⟩, hasz, ha1, hrel⟩ := hrow hc0
        obtain ⟨w', hw'⟩ : ∃ w', w' = w.freeze ⟨L.blk, arr.size, none⟩ 1 := ⟨_, rfl⟩
        have hnew : RowAt w' L.blk arr elem := by
         obtain ⟨lo, hi⟩ := fr
         rw [hw']
         by_cases he : lo = hi
         · refine ⟨(arr.size, arr.size + 1), ?_, .inr (Nat.le_refl _)⟩
           simp [World.freeze, Array.getElem?_modify, hh, he]
         · refine ⟨(min lo arr.size, max hi (arr.size + 1)), ?_, ?_⟩
           · simp [World.freeze, Array.getElem?_modify, hh, he]
           · right
             rcases hfr with h | h
             · cases h; exact absurd rfl he
             · simp only at h ⊢; omega
        have hold : ∀ b, b ≠ L.blk → w'.heap[b]? = w.heap[b]? := by
         intro b hb
         rw [hw']
         simp only [World.freeze, Nat.one_ne_zero, if_false, Array.getElem?_modify]
         rw [if_neg (fun e => hb e.symm)]
        have hsz' : w'.heap.size = w.heap.size := by rw [hw']; simp [World.freeze]
        have hos : w'.os = w.os := by rw [hw']; simp [World.freeze]
        have htp : w'.tape = w.tape := by rw [hw']; simp [World.freeze]
        have hou : w'.output = w.output := by rw [hw']; simp [World.freeze]
        have hin : Fo G φ S.mem L.blk := .inr ⟨_, hm, L, hL, hc0, rfl⟩
        obtain ⟨φ', hm', hk', hφk, hφo⟩ := hr.mem.upd (e := ⟨key, v, .vec sz rows⟩) (e' := ⟨key, v, .vec sz rows⟩) hm hL rfl (L' := L) (Nat.le_refl _) (fun _ => rfl) hver
         (w' := w') (fun b _ hn => hold b (fun he => hn ⟨hc0, he.symm⟩)) (by omega) (fun _ ho => .inl ho) hos htp hou (fun φ' hφ' hle' => by
          have hF : ∀ b, Fo G φ' (Mem.set S.mem ⟨key, v, .vec sz rows⟩) b → Fo G φ S.mem b := by
           rintro b (hG | ⟨y, hy, Ly, hLy, hoy⟩)
           · exact .inl hG
           · right
             rcases (Mem.mem_set hr.mem.nodup).1 hy with ⟨rfl, _⟩ | ⟨hym, hne⟩
             · rw [hφ'] at hLy; simp at hLy; subst hLy; exact ⟨_, hm, L, hL, hoy⟩
             · simp only at hne
               rw [hφ'] at hLy; simp [hne] at hLy
               exact ⟨y, hym, Ly, hLy, hoy⟩
          exact ⟨hLs, hcl, hrs, fun _ => ⟨arr, elem, hnew, hasz, ha1, fun i d hd => let ⟨u, hu, hj⟩ := hrel i d hd
           ⟨u, hu.mono (fun b _ hn => hold b (fun he => hn (he ▸ hin))) (by omega) (fun b _ => hF b), hj⟩⟩⟩)
        refine ⟨.slice (some ⟨L.blk, L.base + off * L.sz, none⟩) len cap, w', φ', .inl ?_, .vec key v off len _ L hφk (Nat.le_of_eq hver.symm) (fun _ => ⟨_, _, rfl, hlc, hpl⟩) h1c, hm', hk', hφo⟩
        have hsh : w.shape? L.blk = some (elem, arr.size) := by simp [World.shape?, hh]
        have hmk : (markStringish ⟨L.blk, L.base + off * L.sz, none⟩).run P w = .ok () w' := by
         simp only [markStringish, shape, Sem.run_bind, Sem.run, hsh, Result.andThen_ok, freeze, hw']
        simp [execOp, ho, hev, convert, run_underlying (tk_slice hd), run_underlying (tk_int htk), Sem.run_bind, hmk]
     · trivial
   · rw [← hxv]; exact conv_ok P S o src dst x ho hx
 · exact conv_ok P S o src dst x ho hx
def ftyp (P : Program) (s : TypeId) (f : Nat) : Option TypeId :=
 match P.underlying s with
 | some (.struct fs) => match fs[f]? with
  | some fl => some fl.type
  | none => none
 | _ => none
def fieldVR (P : Program) (s : TypeId) (x : AV) (f : Nat) : Res :=
 match x with
 | .d (.agg cs) => match foff P s f, ftyp P s f with
  | some off, some e => match (tk P e).agg, tsz P e with
   | false, some 1 => .val (off < cs.length ∧ tk P e ≠ .other) (.d (D.at cs off))
   | true, some sz => .val (off + sz ≤ cs.length) (.d (.agg ((cs.drop off).take sz)))
   | _, _ => .no
  | _, _ => .no
 | .agg cs => match foff P s f, ftyp P s f with
  | some off, some e => match (tk P e).agg, tsz P e, cs[off]? with
   | false, some 1, some c => .val (tk P e ≠ .other) c
   | _, _, _ => .no
  | _, _ => .no
 | _ => .no
theorem foff_spec {P : Program} {s : TypeId} {f off : Nat} {e : TypeId} (h : foff P s f = some off) (he : ftyp P s f = some e) : ∃ fs fl, P.underlying s = some (.struct fs) ∧ fs[f]? = some fl ∧ fl.offset = off ∧ fl.type = e := by
 unfold foff at h
 unfold ftyp at he
 split at h
 · rename_i fs hfs
   rw [hfs] at he
   simp only at he
   split at h
   · rename_i fl hfl
     rw [hfl] at he
     cases he
     split at h
     · split at h
       · cases h
       · cases h; exact ⟨fs, fl, hfs, hfl, rfl, rfl⟩
     · cases h
   · cases h
 · cases h
theorem fieldV_ok (P : Program) (S : St) (o : Oper) (s : TypeId) (x : Operand) (f : Nat) (ho : o.op = .field s x f) (hx : (S.opd x).1 = true) : ResOk P S o (fieldVR P s (S.opd x).2 f) := by
 unfold fieldVR
 split
 · rename_i cs hxv
   split
   · rename_i off e hoff hty
     obtain ⟨fs, fl, hfs, hfl, rfl, rfl⟩ := foff_spec hoff hty
     split
     · rename_i hag hs
       refine ResOk.pure ?_
       rintro ⟨hl, hne⟩ φ G a w hr
       have h1 := hr.opd x hx
       rw [hxv] at h1
       generalize hav : a.eval x = av at h1
       cases h1 with | d _ _ h1 =>
       cases h1 with | agg _ xa hlx hfx hcx =>
       have hxn : fl.offset < xa.size := by omega
       refine ⟨xa[fl.offset], ?_, .d _ _ (hcx fl.offset _ _ (getD_at (by omega)) (by simp [hxn]))⟩
       have hp := part_run (P := P) (w := w) (t := fl.type) (cs := xa) (off := fl.offset) hag hne (v := xa[fl.offset]) (by simp [hxn])
       simp [execOp, ho, hav, Instr.field, run_underlying hfs, hfl, asAgg, hp]
     · rename_i sz hag hs
       refine ResOk.pure ?_
       rintro hle φ G a w hr
       have h1 := hr.opd x hx
       rw [hxv] at h1
       generalize hav : a.eval x = av at h1
       cases h1 with | d _ _ h1 =>
       have h1' := h1
       cases h1 with | agg _ xa hlx hfx hcx =>
       refine ⟨_, ?_, .d _ _ (take_drop_rel h1' fl.offset sz hle)⟩
       have hp := partN_run (P := P) (w := w) (t := fl.type) (cs := xa) (off := fl.offset) hag hs
       simp [execOp, ho, hav, Instr.field, run_underlying hfs, hfl, asAgg, hp]
     · trivial
   · trivial
 · rename_i cs hxv
   split
   · rename_i off e hoff hty
     obtain ⟨fs, fl, hfs, hfl, rfl, rfl⟩ := foff_spec hoff hty
     split
     · rename_i c hag hs hc
       refine ResOk.pure ?_
       rintro hne φ G a w hr
       have h1 := hr.opd x hx
       rw [hxv] at h1
       generalize hav : a.eval x = av at h1
       cases h1 with | agg _ xa hlx h1x hcx =>
       have hxn : fl.offset < xa.size := by have := (List.getElem?_eq_some_iff.1 hc).1; omega
       refine ⟨xa[fl.offset], ?_, hcx fl.offset c _ hc (by simp [hxn])⟩
       have hp := part_run (P := P) (w := w) (t := fl.type) (cs := xa) (off := fl.offset) hag hne (v := xa[fl.offset]) (by simp [hxn])
       simp [execOp, ho, hav, Instr.field, run_underlying hfs, hfl, asAgg, hp]
     · trivial
   · trivial
 · trivial
def assertR (P : Program) (x : AV) (asserted : TypeId) (ok : Bool) : Res :=
 match x with
 | .ifc t d => match decide (t = asserted), ok with
  | true, true => .val (tk P asserted ≠ .other ∧ tk P asserted ≠ .iface) (.tup [.d d, .d (.bool true)])
  | true, false => .val (tk P asserted ≠ .other ∧ tk P asserted ≠ .iface) (.d d)
  | _, _ => .no
 | _ => .no
theorem tk_und {P : Program} {t : TypeId} (h : tk P t ≠ .other) (h2 : tk P t ≠ .iface) : ∃ d, P.underlying t = some d ∧ ∀ ms, d ≠ .interface ms := by
 unfold tk at h h2
 cases hu : P.underlying t with
 | none => rw [hu] at h; exact absurd rfl h
 | some d =>
  refine ⟨d, rfl, fun ms hd => ?_⟩
  subst hd
  rw [hu] at h2
  exact h2 rfl
theorem run_assert {P : Program} {w : World} {t xType asserted : TypeId} {v : Value} {ok : Bool} (h : tk P asserted ≠ .other) (h2 : tk P asserted ≠ .iface) (ht : t = asserted) :
 (Instr.typeAssert (.iface t v) xType asserted ok).run P w = .ok (if ok then .tuple #[v, .bool true] else v) w := by
 obtain ⟨d, hd, hn⟩ := tk_und h h2
 subst ht
 simp only [Instr.typeAssert, Sem.run_bind, run_underlying hd, Result.andThen_ok]
 cases d with
 | interface ms => exact absurd rfl (hn ms)
 | _ => simp
theorem assert_ok (P : Program) (S : St) (o : Oper) (x : Operand) (xt asserted : TypeId) (ok : Bool) (ho : o.op = .typeAssert x xt asserted ok) (hx : (S.opd x).1 = true) : ResOk P S o (assertR P (S.opd x).2 asserted ok) := by
 unfold assertR
 split
 · rename_i t d hxv
   split
   · rename_i ht
     have ht : t = asserted := by simpa using ht
     refine ResOk.pure ?_
     rintro ⟨h1, h2⟩ φ G a w hr
     have hr1 := hr.opd x hx
     rw [hxv] at hr1
     generalize hav : a.eval x = av at hr1
     cases hr1 with | ifc _ _ v hd =>
     refine ⟨.tuple #[v, .bool true], by simp [execOp, ho, hav, run_assert h1 h2 ht], .tup _ _ rfl fun i c u hc hu => ?_⟩
     match i, hc, hu with
     | 0, hc, hu => simp at hc hu; subst hc hu; exact .d _ _ hd
     | 1, hc, hu => simp at hc hu; subst hc hu; exact .d _ _ (.bool _)
     | i + 2, hc, hu => simp at hc
   · rename_i ht
     have ht : t = asserted := by simpa using ht
     refine ResOk.pure ?_
     rintro ⟨h1, h2⟩ φ G a w hr
     have hr1 := hr.opd x hx
     rw [hxv] at hr1
     generalize hav : a.eval x = av at hr1
     cases hr1 with | ifc _ _ v hd =>
     exact ⟨v, by simp [execOp, ho, hav, run_assert h1 h2 ht], .d _ _ hd⟩
   · trivial
 · trivial
def stepv (P : Program) (S : St) (o : Oper) : Res :=
 match o.op with
 | .move x => moveR P S.mem (keyOf o) o.type (S.opd x).2
 | .assign x => moveR P S.mem (keyOf o) o.type (S.opd x).2
 | .pick c a b => pickR (S.opd c) (S.opd a) (S.opd b)
 | .alloc t => allocR P S.mem (keyOf o) t
 | .box _ x => boxR S.mem (keyOf o) (S.opd x).2.solid (S.opd x).2.cells
 | .load t x => loadR P S.mem t (S.opd x).2
 | .store t p x => storeR P S.mem t (S.opd p).2 (S.opd x).2
 | .fieldAddr s x f => fieldRm P S.mem s f (S.opd x).2
 | .nilCheck x => nilCheckR S.mem (S.opd x).2
 | .indexAddr t x i => indexR P S.mem t (S.opd x).2 (S.opd i).2
 | .index t x i => indexVR P t (S.opd x).2 (S.opd i).2
 | .slice t x lo hi none => sliceR P S.mem t (S.opd x).2 (lo.map fun y => (S.opd y).2) (hi.map fun y => (S.opd y).2)
 | .binOp op t x y _ => binOpR P S op t x y
 | .unOp op _ x => unR op (S.opd x).2
 | .convert s d x => convM P S.mem (keyOf o) s d (S.opd x).2
 | .makeInterface t x => makeIfaceR P t (S.opd x).2
 | .makeFunc f first cap => makeFuncR f (first.toList.map fun x => (S.opd x).2) (cap.toList.map fun x => (S.opd x).2)
 | .makeSlice t l c => makeR P S.mem (keyOf o) t (S.opd l).2 (S.opd c).2
 | .build t ps => buildR P t (ps.toList.map fun x => (x.1, (S.opd x.2).2))
 | .buildSlice t len ps => buildSliceR P S.mem (keyOf o) t len (ps.toList.map fun x => (x.1, (S.opd x.2).2))
 | .extract x i => extractR i (S.opd x).2
 | .field s x f => fieldVR P s (S.opd x).2 f
 | .typeAssert x _ t ok => assertR P (S.opd x).2 t ok
 | .call { callee := .builtin b, args, argTypes } => builtinR P S o b args.toList argTypes.toList
 | _ => .no
theorem stepv_ok (P : Program) (S : St) (o : Oper) (h : opOk S o = true) : ResOk P S o (stepv P S o) := by
 unfold opOk at h
 unfold stepv
 have one : ∀ {l : List Operand}, okAll S l = true → ∀ x ∈ l, (S.opd x).1 = true := okAll_mem
 split
 · rename_i x ho; simp only [ho] at h; exact moveR_ok P S o x (.inl ho) (one h x (by simp [Op.operands]))
 · rename_i x ho; simp only [ho] at h; exact moveR_ok P S o x (.inr ho) (one h x (by simp [Op.operands]))
 · rename_i c a b ho; exact pick_ok P S o c a b ho
 · rename_i t ho; exact allocR_ok P S o t ho
 · rename_i t x ho; simp only [ho] at h; exact box_ok P S o t x ho (one h x (by simp [Op.operands]))
 · rename_i t x ho; simp only [ho] at h; exact (load_ok P S o t x ho (one h x (by simp [Op.operands]))).res
 · rename_i t p x ho; simp only [ho] at h; exact store_ok P S o t p x ho (one h p (by simp [Op.operands])) (one h x (by simp [Op.operands]))
 · rename_i s x f ho; simp only [ho] at h; exact field_ok P S o s x f ho (one h x (by simp [Op.operands]))
 · rename_i x ho; simp only [ho] at h; exact nilCheck_ok P S o x ho (one h x (by simp [Op.operands]))
 · rename_i t x i ho; simp only [ho] at h; exact index_ok P S o t x i ho (one h x (by simp [Op.operands])) (one h i (by simp [Op.operands]))
 · rename_i t x i ho; simp only [ho] at h; exact indexV_ok P S o t x i ho (one h x (by simp [Op.operands])) (one h i (by simp [Op.operands]))
 · rename_i t x lo hi ho; simp only [ho] at h
   exact slice_ok P S o t x lo hi ho (one h x (by simp [Op.operands])) (fun y hy => one h y (by simp [Op.operands, hy])) (fun y hy => one h y (by simp [Op.operands, hy]))
 · rename_i op t x y t' ho; simp only [ho] at h; exact binOpR_ok P S o op t t' x y ho (one h x (by simp [Op.operands])) (one h y (by simp [Op.operands]))
 · rename_i op t x ho; simp only [ho] at h; exact un_ok P S o op t x ho (one h x (by simp [Op.operands]))
 · rename_i s d x ho; simp only [ho] at h; exact convM_ok P S o s d x ho (one h x (by simp [Op.operands]))
 · rename_i t x ho; simp only [ho] at h; exact makeIface_ok P S o t x ho (one h x (by simp [Op.operands]))
 · rename_i f first cap ho; simp only [ho] at h; exact makeFunc_ok P S o f first cap ho (fun x hx => one h x (by simp [Op.operands]; left; simpa using hx)) (fun x hx => one h x (by simp [Op.operands]; right; simpa using hx))
 · rename_i t l c ho; simp only [ho] at h; exact make_ok P S o t l c ho (one h l (by simp [Op.operands])) (one h c (by simp [Op.operands]))
 · rename_i t ps ho; simp only [ho] at h; exact build_ok P S o t ps ho (fun x hx => one h x.2 (by simp only [Op.operands, List.toList_toArray, List.mem_map]; exact ⟨x, hx, rfl⟩))
 · rename_i t len ps ho; simp only [ho] at h; exact buildSlice_ok P S o t len ps ho (fun x hx => one h x.2 (by simp only [Op.operands, List.toList_toArray, List.mem_map]; exact ⟨x, hx, rfl⟩))
 · rename_i x i ho; simp only [ho] at h; exact extract_ok P S o x i ho (one h x (by simp [Op.operands]))
 · rename_i s x f ho; simp only [ho] at h; exact fieldV_ok P S o s x f ho (one h x (by simp [Op.operands]))
 · rename_i x xt t ok ho; simp only [ho] at h; exact assert_ok P S o x xt t ok ho (one h x (by simp [Op.operands]))
 · rename_i b args ts ho
   simp only [ho] at h
   have ha : ∀ x ∈ args.toList, (S.opd x).1 = true := fun x hx => one h x (by simp [Op.operands, Call.operands]; simpa using hx)
   have hargs : ∀ {l : List Operand}, args.toList = l → args = l.toArray := fun h => by rw [← h]
   have hts : ∀ {l : List TypeId}, ts.toList = l → ts = l.toArray := fun h => by rw [← h]
   unfold builtinR
   split
   · rename_i x t h1 h2; rw [hargs h1, hts h2] at ho; exact len_ok P S o x t ho (ha x (by simp [h1]))
   · rename_i s x t u h1 h2; rw [hargs h1, hts h2] at ho; exact fzRes_ok <| app_ok P S o s x t u ho (ha s (by simp [h1])) (ha x (by simp [h1]))
   · rename_i s x t u h1 h2; rw [hargs h1, hts h2] at ho; exact copy_ok P S o s x t u ho (ha s (by simp [h1])) (ha x (by simp [h1]))
   · exact max_ok P S o true args ts (by simpa using ho) ha
   · exact max_ok P S o false args ts (by simpa using ho) ha
   · rename_i x t h1 h2; rw [hargs h1, hts h2] at ho; exact cap_ok P S o x t ho (ha x (by simp [h1]))
   · trivial
 · trivial
inductive XE where
 | normal
 | exit (id : Nat)
 | ret
 | panic (t : TypeId) (x : D)
def Post (n : Nat) (φ : Phi) (G : Fr) (m : Mem) (w : World) (Q : XE → St → Prop) : Exit → Act → World → Prop
 | .normal, a', w' => ∃ φ' S', S'.n = n ∧ Q .normal S' ∧ Rel φ' G S' a' w' ∧ Keeps φ m w φ' S'.mem w'
 | .exit id, a', w' => ∃ φ' S', S'.n = n ∧ Q (.exit id) S' ∧ Rel φ' G S' a' w' ∧ Keeps φ m w φ' S'.mem w'
 | .ret, a', w' => ∃ φ' S', S'.n = n ∧ Q .ret S' ∧ Rel φ' G S' a' w' ∧ Keeps φ m w φ' S'.mem w'
 | .panic chain, a', w' => ∃ φ' S' t x v, chain = [{ v := .iface t v, recovered := false }] ∧ DRel w' (Fo G φ' S'.mem) x v ∧ S'.n = n ∧ Q (.panic t x) S' ∧ Rel φ' G S' a' w' ∧ Keeps φ m w φ' S'.mem w'
 | _, _, _ => False
theorem Post.weaken {n φ G m w Q φ1 m1 w1 e a' w'} (hk : Keeps φ m w φ1 m1 w1) (h : Post n φ1 G m1 w1 Q e a' w') : Post n φ G m w Q e a' w' := by
 cases e with
 | normal => obtain ⟨φ', S', h0, h1, h2, h3⟩ := h; exact ⟨φ', S', h0, h1, h2, hk.trans h3⟩
 | exit id => obtain ⟨φ', S', h0, h1, h2, h3⟩ := h; exact ⟨φ', S', h0, h1, h2, hk.trans h3⟩
 | ret => obtain ⟨φ', S', h0, h1, h2, h3⟩ := h; exact ⟨φ', S', h0, h1, h2, hk.trans h3⟩
 | panic chain => obtain ⟨φ', S', t, x, v, hc, hd, h0, h1, h2, h3⟩ := h; exact ⟨φ', S', t, x, v, hc, hd, h0, h1, h2, hk.trans h3⟩
 | _ => exact h.elim
theorem Post.mono {n φ G m w Q Q' e a' w'} (hq : ∀ e S, Q e S → Q' e S) (h : Post n φ G m w Q e a' w') : Post n φ G m w Q' e a' w' := by
 cases e with
 | normal => obtain ⟨φ', S', h0, h1, h2⟩ := h; exact ⟨φ', S', h0, hq _ _ h1, h2⟩
 | exit id => obtain ⟨φ', S', h0, h1, h2⟩ := h; exact ⟨φ', S', h0, hq _ _ h1, h2⟩
 | ret => obtain ⟨φ', S', h0, h1, h2⟩ := h; exact ⟨φ', S', h0, hq _ _ h1, h2⟩
 | panic chain => obtain ⟨φ', S', t, x, v, hc, hd, h0, h1, h2⟩ := h; exact ⟨φ', S', t, x, v, hc, hd, h0, hq _ _ h1, h2⟩
 | _ => exact h.elim
def Tri (P : Program) (c : Code) (S : St) (Q : XE → St → Prop) : Prop :=
 ∀ φ G a w, Rel φ G S a w → c.wp P (Post S.n φ G S.mem w Q) a w
def grd (all : List Oper) (S : St) (j : Nat) : Option (Bool × AV) :=
 match all[j]? with
 | some o => match o.dst with
  | some t => Env.lk S.env t
  | none => none
 | none => none
def dstsOk (n : Nat) (ops : List Oper) : Bool := ops.all fun o => match o.dst with | some t => decide (t < n) | none => true
theorem put_n (S : St) (d g x) : (S.put d g x).n = S.n := by cases d <;> rfl
theorem put_mem (S : St) (d g x) : (S.put d g x).mem = S.mem := by cases d <;> rfl
theorem Ran.step {P : Program} {o : Oper} {a : Act} {w w' : World} {v : Value} {next R} (h : Ran P o a w v w') (hn : next (a.put o.dst v) w') : o.wp P a w next R := by
 unfold Oper.wp
 rcases h with h | ⟨h, rfl⟩ <;> rw [h] <;> exact hn
theorem Rel.grow {φ G S a w w'} (h : Rel φ G S a w) (hold : ∀ b, b < w.heap.size → w'.heap[b]? = w.heap[b]?) (hs : w.heap.size ≤ w'.heap.size) : Rel φ G S a w' :=
 ⟨h.size, h.defers, fun t x hx => (h.env t x hx).mono (Phi.le_refl _) (fun b hb _ => hold b hb) hs (fun _ _ h => h), h.mem.grow hold hs, h.glob.mono (fun b hb _ => hold b hb) hs (fun _ _ h => h)⟩
theorem val_step {P : Program} {S : St} {o : Oper} {c : Bool} {x : AV} {gb : Bool} (hr : ResOk P S o (.val c x)) (hc : c = true) {φ G a w} (h : Rel φ G S a w) (hd : ∀ t, o.dst = some t → t < S.n) {next : Act → World → Prop} {R}
 (hn : ∀ a' w', Rel φ G (S.put o.dst gb x) a' w' → Keeps φ S.mem w φ S.mem w' → next a' w') : o.wp P a w next R := by
 obtain ⟨v, w', hran, hav, hold, hs, hos, ht, hout⟩ := hr hc φ G a w h
 exact hran.step (hn _ _ ((h.grow hold hs).put o.dst hd gb x v (fun _ => hav)) (Keeps.grow hold hs hos ht hout))
theorem upd_step {P : Program} {S : St} {o : Oper} {c : Bool} {x : AV} {e : Ent} (hr : ResOk P S o (.upd c x e)) (hc : c = true) {φ G a w} (h : Rel φ G S a w) (hd : ∀ t, o.dst = some t → t < S.n) {next : Act → World → Prop} {R}
 (hn : ∀ φ' a' w', Rel φ' G (({ S with mem := Mem.set S.mem e } : St).put o.dst true x) a' w' → Keeps φ S.mem w φ' (Mem.set S.mem e) w' → next a' w') : o.wp P a w next R := by
 obtain ⟨v, w', φ', hran, hav, hm, hk, _⟩ := hr hc φ G a w h
 exact hran.step (hn φ' _ _ ((h.turn hm hk).put o.dst hd true x v (fun _ => hav)) hk)
theorem grd_yield {all : List Oper} {S : St} {j : Nat} {b : Bool} {φ G a w} (h : Rel φ G S a w) (hg : grd all S j = some (true, .d (.bool b))) : yielded all.toArray a.tmps j = some b := by
 unfold grd at hg
 split at hg
 · rename_i o ho
   split at hg
   · rename_i t ht
     have := bool_of (h.env t _ hg)
     unfold yielded
     simp only [List.getElem?_toArray, ho, Option.bind_some, ht]
     rw [Array.getD_eq_getD_getElem?] at this
     cases hq : a.tmps[t]? with
     | none => simp [hq, undef] at this
     | some v => simp [hq] at this; simp [this]
   · cases hg
 · cases hg
section
variable {P : Program} {S : St} {Q : XE → St → Prop}
theorem Tri.mono {c : Code} {Q' : XE → St → Prop} (h : Tri P c S Q) (hq : ∀ e S, Q e S → Q' e S) : Tri P c S Q' :=
 fun φ G a w hr => wp_mono (h φ G a w hr) fun _ _ _ hp => hp.mono hq
def St.prune (S : St) (keep : List Nat) : St := { S with env := keep.filterMap fun t => (Env.lk S.env t).map fun x => (t, x) }
theorem lk_filterMap (env : Env) : ∀ (keep : List Nat) (t : Nat) (x : Bool × AV), Env.lk (keep.filterMap fun t => (Env.lk env t).map fun x => (t, x)) t = some x → Env.lk env t = some x
 | [], t, x, h => by simp [Env.lk] at h
 | k :: r, t, x, h => by
  simp only [List.filterMap_cons] at h
  cases hk : Env.lk env k with
  | none => simp [hk] at h; exact lk_filterMap env r t x h
  | some y =>
   simp only [hk, Option.map_some, Env.lk] at h
   by_cases hkt : k = t
   · subst hkt; simp at h; subst h; exact hk
   · simp [hkt] at h; exact lk_filterMap env r t x h
theorem Rel.prune {φ G a w} (h : Rel φ G S a w) (keep : List Nat) : Rel φ G (S.prune keep) a w :=
 ⟨h.size, h.defers, fun t x hx => h.env t x (lk_filterMap _ _ _ _ hx), h.mem, h.glob⟩
theorem tri_seq {x y : Code} (h : Tri P x S fun e S' => match e with | .normal => Tri P y S' Q | e => Q e S') : Tri P (.seq x y) S Q := by
 intro φ G a w hr
 refine wp_seq (wp_mono (h φ G a w hr) fun e a' w' hp => ?_)
 cases e with
 | normal =>
  obtain ⟨φ', S', hn, h1, h2, h3⟩ := hp
  exact wp_mono (h1 φ' G a' w' h2) fun e a2 w2 hp2 => by rw [hn] at hp2; exact hp2.weaken h3
 | _ => exact hp
theorem tri_cond {c : Operand} {x y : Code} {b : Bool} (hc : S.opd c = (true, .d (.bool b))) (ht : b = true → Tri P x S Q) (hf : b = false → Tri P y S Q) : Tri P (.cond c x y) S Q := by
 intro φ G a w hr
 have hv := hr.opd c (by rw [hc])
 rw [hc] at hv
 have e := bool_of hv
 cases b
 · exact wp_cond_false e (hf rfl φ G a w hr)
 · exact wp_cond_true e (ht rfl φ G a w hr)
theorem tri_skip (h : Q .normal S) : Tri P .skip S Q := fun φ _ _ _ hr => wp_skip ⟨φ, S, rfl, h, hr, Keeps.refl ..⟩
theorem tri_ret (h : Q .ret S) : Tri P .ret S Q := fun φ _ _ _ hr => wp_ret ⟨φ, S, rfl, h, hr, Keeps.refl ..⟩
theorem tri_exit {id : Nat} (h : Q (.exit id) S) : Tri P (.exit id) S Q := fun φ _ _ _ hr => wp_exit ⟨φ, S, rfl, h, hr, Keeps.refl ..⟩
theorem tri_block {id : Nat} {c : Code} (h : Tri P c S fun e S' => match e with | .exit id' => if id' = id then Q .normal S' else Q (.exit id') S' | e => Q e S') : Tri P (.block id c) S Q := by
 intro φ G a w hr
 refine wp_block (wp_mono (h φ G a w hr) fun e a' w' hp => ?_)
 cases e with
 | exit id' =>
  obtain ⟨φ', S', hn, h1, h2, h3⟩ := hp
  simp only [Exit.inBlock]
  by_cases hid : id' = id
  · simp only [hid, if_true] at h1 ⊢
    exact ⟨φ', S', hn, h1, h2, h3⟩
  · simp only [hid, if_false] at h1 ⊢
    exact ⟨φ', S', hn, h1, h2, h3⟩
 | _ => exact hp
theorem tri_loop {c : Code} {α : Type} (I : α → St) (J : α → Prop) (μ : α → Nat) (x0 : α) (hS : S = I x0) (h0 : J x0)
 (round : ∀ x, J x → Tri P c (I x) fun e S' => match e with | .normal => ∃ x', S' = I x' ∧ J x' ∧ μ x' < μ x | e => Q e S') : Tri P (.loop c) S Q := by
 intro φ G a w hr
 subst hS
 intro b k cs
 have key : ∀ n x φ1 a1 w1, μ x = n → J x → (I x).n = (I x0).n → Rel φ1 G (I x) a1 w1 → Keeps φ (I x0).mem w φ1 (I x).mem w1 →
  ∃ e a' w', Post (I x0).n φ G (I x0).mem w Q e a' w' ∧ Arrives P (lone (b.at a1 (.code c :: .inLoop c :: k)) cs w1) b k cs e a' w' := by
  intro n
  induction n using Nat.strongRecOn with
  | _ n ih =>
   intro x φ1 a1 w1 hn hJ hnn hr1 hk1
   obtain ⟨e, a2, w2, hp, harr⟩ := round x hJ φ1 G a1 w1 hr1 b (.inLoop c :: k) cs
   cases e with
   | normal =>
    obtain ⟨φ2, S2, hn2, ⟨x', rfl, hJ', hlt⟩, hr2, hk2⟩ := hp
    obtain ⟨e3, a3, w3, hp3, harr3⟩ := ih (μ x') (by omega) x' φ2 a2 w2 rfl hJ' (hn2.trans hnn) hr2 (hk1.trans hk2)
    exact ⟨e3, a3, w3, hp3, .of_steps (Steps.trans harr (.one step_inLoop)) harr3⟩
   | exit id => exact ⟨.exit id, a2, w2, by rw [hnn] at hp; exact Post.weaken (e := .exit id) hk1 hp, .pass (x := .inLoop c) rfl (fun _ _ => .inl (by simp)) harr⟩
   | goto l => exact hp.elim
   | ret => exact ⟨.ret, a2, w2, by rw [hnn] at hp; exact Post.weaken (e := .ret) hk1 hp, .pass (x := .inLoop c) rfl (fun _ _ => .inl (by simp)) harr⟩
   | panic ch => exact ⟨.panic ch, a2, w2, by rw [hnn] at hp; exact Post.weaken (e := .panic ch) hk1 hp, .pass (x := .inLoop c) rfl (fun _ _ => .inl (by simp)) harr⟩
   | outgrown => exact hp.elim
 obtain ⟨e, a', w', hq, harr⟩ := key _ x0 φ a w rfl h0 rfl hr (Keeps.refl ..)
 exact ⟨e, a', w', hq, .of_steps (.one step_loop) harr⟩
end
inductive Out where
 | ret (x : AV)
 | panic (t : TypeId) (x : D)
def OutRel (φ : Phi) (w : World) (F : Nat → Prop) : Out → Ending → Prop
 | .ret x, .returned v => AVRel φ w F x v
 | .panic t x, .panicked chain => ∃ v, chain = [{ v := .iface t v, recovered := false }] ∧ DRel w F x v
 | _, _ => False
def Ev (P : Program) (gl : List (Nat × D)) (f : FuncId) (args : List AV) (m : Mem) (K : Out → Mem → Prop) : Prop :=
 ∀ φ G w (vs : Array Value), MemRel φ G m w → GlobRel w (Fo G φ m) gl → args.length = vs.size → (∀ (i : Nat) x v, args[i]? = some x → vs[i]? = some v → AVRel φ w (Fo G φ m) x v) →
  Calls P f vs w fun e w' => ∃ φ' m' out, K out m' ∧ MemRel φ' G m' w' ∧ Keeps φ m w φ' m' w' ∧ OutRel φ' w' (Fo G φ' m') out e
theorem Ev.mono {P gl f args m K K'} (h : Ev P gl f args m K) (hk : ∀ o m, K o m → K' o m) : Ev P gl f args m K' :=
 fun φ G w vs hm hg hl ha => (h φ G w vs hm hg hl ha).mono fun _ _ ⟨φ', m', out, h1, h2⟩ => ⟨φ', m', out, hk _ _ h1, h2⟩
def findK : List Nat → Nat → Nat → Option Nat
 | [], _, _ => none
 | a :: r, k, i => if a = k then some i else findK r k (i + 1)
theorem findK_some : ∀ {ρ : List Nat} {k j i : Nat}, findK ρ k j = some i → j ≤ i ∧ ρ[i - j]? = some k
 | [], k, j, i, h => by simp [findK] at h
 | a :: r, k, j, i, h => by
  simp only [findK] at h
  split at h
  · rename_i hk; cases h; subst hk; simp
  · obtain ⟨h1, h2⟩ := findK_some h
    refine ⟨by omega, ?_⟩
    rw [show i - j = (i - (j + 1)) + 1 by omega]
    simpa using h2
theorem findK_none : ∀ {ρ : List Nat} {k j : Nat}, findK ρ k j = none ↔ k ∉ ρ
 | [], k, j => by simp [findK]
 | a :: r, k, j => by
  simp only [findK, List.mem_cons, not_or]
  split
  · rename_i hk; subst hk; simp
  · rename_i hk
    rw [findK_none]
    constructor
    · exact fun h => ⟨fun h' => hk h'.symm, h⟩
    · exact fun h => h.2
theorem findK_get {ρ : List Nat} (hn : ρ.Nodup) {i k : Nat} (h : ρ[i]? = some k) : findK ρ k 0 = some i := by
 cases hf : findK ρ k 0 with
 | none => exact absurd (List.mem_of_getElem? h) (findK_none.1 hf)
 | some j =>
  obtain ⟨_, h2⟩ := findK_some hf
  simp only [Nat.sub_zero] at h2
  obtain ⟨hi, h3⟩ := List.getElem?_eq_some_iff.1 h
  obtain ⟨hj, h4⟩ := List.getElem?_eq_some_iff.1 h2
  have := (List.getElem_inj hn).1 (h3.trans h4.symm)
  rw [this]
def flats : List AV → Option (List D)
 | [] => some []
 | .d x :: r => match x.flat, flats r with
  | true, some ys => some (x :: ys)
  | _, _ => none
 | _ :: _ => none
theorem flats_get : ∀ {l : List AV} {ds : List D}, flats l = some ds → l = ds.map .d ∧ ∀ d ∈ ds, d.flat = true
 | [], ds, h => by simp [flats] at h; subst h; simp
 | x :: r, ds, h => by
  unfold flats at h
  split at h
  · rename_i heq; cases heq
  · rename_i y r' heq
    cases heq
    split at h
    · rename_i ys hf hys
      cases h
      obtain ⟨h1, h2⟩ := flats_get hys
      refine ⟨by rw [h1]; rfl, fun d hd => ?_⟩
      rcases List.mem_cons.1 hd with rfl | hd
      · exact hf
      · exact h2 d hd
    · cases h
  · cases h
def boxD : Option (List D) → AV
 | some ds => .d (.list ds)
 | none => .junk
mutual
def vw (m : Mem) (ρ : List Nat) (bor : Nat → Bool) (nv : Nat → Nat → Nat) : AV → AV
 | .ptr k ver off => match Mem.get m k, findK ρ k 0 with
  | some e, some i => if e.ver = ver then .ptr i (nv i ver) off else .junk
  | _, _ => .junk
 | .vec k ver off len => match Mem.get m k, findK ρ k 0 with
  | some e, some i => if e.ver = ver then .vec i (nv i ver) off len else .junk
  | some ⟨_, v, .vec _ rows⟩, none => if bor k = true ∧ v = ver ∧ off + len ≤ rows.length then .d (.list ((rows.drop off).take len)) else .junk
  | some ⟨_, v, .box cs⟩, none => if bor k = true ∧ v = ver ∧ off + len ≤ cs.length then boxD (flats ((cs.drop off).take len)) else .junk
  | _, _ => .junk
 | .eptr k ver i j => match Mem.get m k, findK ρ k 0 with
  | some e, some n => if e.ver = ver then .eptr n (nv n ver) i j else .junk
  | _, _ => .junk
 | .agg cs => .agg (vws m ρ bor nv cs)
 | .fn f cap => .fn f (vws m ρ bor nv cap)
 | .tup vs => .tup (vws m ρ bor nv vs)
 | .junk => .junk
 | .d x => .d x
 | .rptr x j => .rptr x j
 | .ifc t x => .ifc t x
 | .lit v => .lit v
 | .nn => .nn
 | .err => .err
def vws (m : Mem) (ρ : List Nat) (bor : Nat → Bool) (nv : Nat → Nat → Nat) : List AV → List AV
 | [] => []
 | x :: r => vw m ρ bor nv x :: vws m ρ bor nv r
end
theorem vws_get (m ρ bor nv) : ∀ (l : List AV) (i : Nat), (vws m ρ bor nv l)[i]? = (l[i]?).map (vw m ρ bor nv)
 | [], i => by simp [vws]
 | x :: r, i => by cases i with | zero => simp [vws] | succ i => simp [vws, vws_get m ρ bor nv r i]
theorem vws_length (m ρ bor nv) : ∀ (l : List AV), (vws m ρ bor nv l).length = l.length
 | [] => rfl
 | x :: r => by simp [vws, vws_length m ρ bor nv r]
def Phi.sel (φ : Phi) (ρ : List Nat) (nv : Nat → Nat → Nat) : Phi := fun i =>
 match ρ[i]? with
 | some k => (φ k).map fun L => { L with ver := nv i L.ver }
 | none => none
def OwnK (φ : Phi) (m : Mem) (ρ : List Nat) (b : Nat) : Prop := ∃ k ∈ ρ, ∃ e L, Mem.get m k = some e ∧ φ k = some L ∧ e.cont.owns L b
theorem OwnK.own {φ m ρ b} (h : OwnK φ m ρ b) : Own φ m b := by
 obtain ⟨k, _, e, L, hg, hL, ho⟩ := h
 obtain ⟨hm, rfl⟩ := Mem.get_mem hg
 exact ⟨e, hm, L, hL, ho⟩
theorem ownK_apart {φ G m w} (h : MemRel φ G m w) {ρ : List Nat} {k : Nat} {e : Ent} {L : Loc} {b : Nat} (hg : Mem.get m k = some e) (hL : φ k = some L) (ho : e.cont.owns L b) (hk : k ∉ ρ) : ¬ OwnK φ m ρ b := by
 rintro ⟨k', hk', e', L', hg', hL', ho'⟩
 obtain ⟨hm, rfl⟩ := Mem.get_mem hg
 obtain ⟨hm', rfl⟩ := Mem.get_mem hg'
 have := h.apart e' hm' e hm L' L hL' hL ⟨b, ho', ho⟩
 exact hk (this ▸ hk')
section
variable {φ : Phi} {G : Fr} {m : Mem} {w : World} {ρ : List Nat} {bor : Nat → Bool} {nv : Nat → Nat → Nat} {F1 : Nat → Prop}
theorem sel_key {k i : Nat} {L : Loc} (hi : findK ρ k 0 = some i) (hL : φ k = some L) : φ.sel ρ nv i = some { L with ver := nv i L.ver } := by
 obtain ⟨_, h2⟩ := findK_some hi
 simp only [Nat.sub_zero] at h2
 simp [Phi.sel, h2, hL]
theorem vw_rel (hm : MemRel φ G m w) (hF : ∀ b, F1 b → Fo G φ m b)
 (hbor : ∀ k e L b, Mem.get m k = some e → k ∉ ρ → bor k = true → φ k = some L → e.cont.owns L b → ¬ F1 b) {y v} (h : AVRel φ w (Fo G φ m) y v) : AVRel (φ.sel ρ nv) w F1 (vw m ρ bor nv y) v := by
 induction h with
 | junk v => exact .junk v
 | d x v h => exact .d x v (h.mono (fun _ _ _ => rfl) (Nat.le_refl _) (fun b _ => hF b))
 | agg cs a hl h1 _ ih =>
  refine .agg _ a (by rw [vws_length]; exact hl) h1 (fun i c v hc hv => ?_)
  rw [vws_get] at hc
  obtain ⟨y, hy, rfl⟩ := Option.map_eq_some_iff.1 hc
  exact ih i y v hy hv
 | ptr k ver off v L hL hv h h1 =>
  unfold vw
  split
  · rename_i e i hg hi
    split
    · rename_i he
      obtain ⟨_, _, L', hL', hver, _⟩ := hm.get hg
      rw [hL] at hL'; cases hL'
      have e1 : L.ver = ver := by rw [hver]; exact he
      refine .ptr i _ off v _ (sel_key hi hL) (by simp [e1]) (fun _ => h e1.symm) h1
    · exact .junk _
  · exact .junk _
 | vec k ver off len v L hL hv h h1 =>
  unfold vw
  split
  · rename_i e i hg hi
    split
    · rename_i he
      obtain ⟨_, _, L', hL', hver, _⟩ := hm.get hg
      rw [hL] at hL'; cases hL'
      have e1 : L.ver = ver := by rw [hver]; exact he
      refine .vec i _ off len v _ (sel_key hi hL) (by simp [e1]) (fun _ => h e1.symm) h1
    · exact .junk _
  · rename_i key v' sz rows hg hi
    split
    · rename_i hc
      obtain ⟨hb, rfl, hle⟩ := hc
      obtain ⟨_, _, L', hL', hver, hcr⟩ := hm.get hg
      rw [hL] at hL'; cases hL'
      refine .d _ _ (vec_list (.vec k v' off len v L hL hv h h1) hL hver hcr hle hF (fun ho => ?_))
      exact hbor k _ L _ hg (findK_none.1 hi) hb hL ⟨ho, rfl⟩
    · exact .junk _
  · rename_i key v' cs hg hi
    split
    · rename_i hc
      obtain ⟨hb, rfl, hle⟩ := hc
      obtain ⟨_, _, L', hL', hver, hcr⟩ := hm.get hg
      rw [hL] at hL'; cases hL'
      obtain ⟨⟨z1, z2, z3⟩, arr, elem, hrow, hasz, ha1, hrel⟩ := hcr
      cases hfl : flats ((cs.drop off).take len) with
      | none => exact .junk _
      | some ds =>
       obtain ⟨hds, hflat⟩ := flats_get hfl
       obtain ⟨ao, cap, rfl, hlc, hpl⟩ := h hver.symm
       have hdl : ds.length = len := by
        have := congrArg List.length hds
        simp at this; omega
       refine .d _ _ ?_
       by_cases h0 : len = 0
       · have : ds = [] := List.eq_nil_of_length_eq_zero (by omega)
         subst this
         subst h0
         refine .nil _ _ (fun hn => ?_)
         cases cap with
         | zero => rfl
         | succ c => have := (hpl (by omega)).1; rw [hn] at this; cases this
       · obtain ⟨rfl, _⟩ := hpl (by omega)
         rw [← hdl]
         have hcell : ∀ (i : Nat) d, ds[i]? = some d → ∃ u, arr[off + i]? = some u ∧ DRel w F1 d u ∧ cell1 u = true := by
          intro i d hd
          have hi : i < ds.length := (List.getElem?_eq_some_iff.1 hd).1
          have hc1 : cs[off + i]? = some (.d d) := by
           have := congrArg (·[i]?) hds
           simp only [List.getElem?_take, List.getElem?_drop, List.getElem?_map, hd] at this
           rw [if_pos (by omega)] at this
           simpa using this
          have hlt : off + i < arr.size := by omega
          have hr := hrel (off + i) _ arr[off + i] hc1 (by simp [hlt])
          cases hr with
          | d _ _ hr => exact ⟨_, by simp [hlt], hr.mono (fun _ _ _ => rfl) (Nat.le_refl _) (fun b _ => hF b), ha1 _ (by simp)⟩
         have hblt : L.blk < w.heap.size := hrow.lt
         refine .list ds _ _ cap 1 (fun i => (arr[off + i]?).getD undef) (by omega) hblt (hbor k _ L _ hg (findK_none.1 hi) hb hL rfl) (fun d hd => ?_) (fun i d hd => ?_) (fun i j c hi' hj => ?_)
         · have := hflat d hd
           cases d <;> simp_all [D.flat, D.size]
         · obtain ⟨u, h1, h2, _⟩ := hcell i d hd
           simp only [h1, Option.getD_some]; exact h2
         · obtain ⟨u, h1, h2, h3⟩ := hcell i ds[i] (by simp [hi'])
           simp only [h1, Option.getD_some, cells_of_cell1 h3] at hj
           have hj0 : j = 0 := by
            have := (Array.getElem?_eq_some_iff.1 hj).1
            simpa using this
           subst hj0
           simp at hj
           subst hj
           rw [cell?_rowA hrow, z1, z2]
           simpa using h1
    · exact .junk _
  · exact .junk _
 | eptr k ver i j v L hL hv h h1 =>
  unfold vw
  split
  · rename_i e n hg hi
    split
    · rename_i he
      obtain ⟨_, _, L', hL', hver, _⟩ := hm.get hg
      rw [hL] at hL'; cases hL'
      have e1 : L.ver = ver := by rw [hver]; exact he
      refine .eptr n _ i j v _ (sel_key hi hL) (by simp [e1]) (fun _ => h e1.symm) h1
    · exact .junk _
  · exact .junk _
 | rptr x j b off x' hb hFb hx hc =>
  exact .rptr x j b off x' hb (fun h => hFb (hF b h)) (hx.mono (fun _ _ _ => rfl) (Nat.le_refl _) (fun b _ => hF b)) hc
 | fn f cap a hf hl _ ih =>
  refine .fn f _ a hf (by rw [vws_length]; exact hl) (fun i c v hc hv => ?_)
  rw [vws_get] at hc
  obtain ⟨y, hy, rfl⟩ := Option.map_eq_some_iff.1 hc
  exact ih i y v hy hv
 | bnd f cap a hl _ ih =>
  refine .bnd f _ a (by rw [vws_length]; exact hl) (fun i c v hc hv => ?_)
  rw [vws_get] at hc
  obtain ⟨y, hy, rfl⟩ := Option.map_eq_some_iff.1 hc
  exact ih i y v hy hv
 | tup vs a hl _ ih =>
  refine .tup _ a (by rw [vws_length]; exact hl) (fun i c v hc hv => ?_)
  rw [vws_get] at hc
  obtain ⟨y, hy, rfl⟩ := Option.map_eq_some_iff.1 hc
  exact ih i y v hy hv
 | ifc t x v h => exact .ifc t x v (h.mono (fun _ _ _ => rfl) (Nat.le_refl _) (fun b _ => hF b))
 | lit v h => exact .lit v h
 | nn a cap => exact .nn a cap
 | err t v => exact .err t v
end
def mkM : Nat → List (Nat × Cont) → Mem
 | _, [] => []
 | i, (v, c) :: r => ⟨i, v, c⟩ :: mkM (i + 1) r
theorem mkM_keys : ∀ (l : List (Nat × Cont)) (i : Nat), (mkM i l).map (·.key) = List.range' i l.length
 | [], i => rfl
 | (v, c) :: r, i => by simp [mkM, mkM_keys r, List.range'_succ]
theorem mkM_mem : ∀ {l : List (Nat × Cont)} {i : Nat} {e : Ent}, e ∈ mkM i l ↔ ∃ j v c, l[j]? = some (v, c) ∧ e = ⟨i + j, v, c⟩
 | [], i, e => by simp [mkM]
 | (v, c) :: r, i, e => by
  simp only [mkM, List.mem_cons, mkM_mem (l := r)]
  constructor
  · rintro (rfl | ⟨j, v', c', h, rfl⟩)
    · exact ⟨0, v, c, by simp, by simp⟩
    · exact ⟨j + 1, v', c', by simpa using h, by simp; omega⟩
  · rintro ⟨j, v', c', h, rfl⟩
    cases j with
    | zero => simp at h; obtain ⟨rfl, rfl⟩ := h; left; simp
    | succ j => right; exact ⟨j, v', c', by simpa using h, by simp; omega⟩
def selC (m : Mem) (ρ : List Nat) (bor : Nat → Bool) (nv : Nat → Nat → Nat) : Cont → Cont
 | .dead => .dead
 | .box cs => .box (vws m ρ bor nv cs)
 | .vec sz rows => .vec sz rows
 | .vv rows y => .vv rows (y.map (vw m ρ bor nv))
def selE (m : Mem) (ρ : List Nat) (bor : Nat → Bool) (nv : Nat → Nat → Nat) (i : Nat) : Option Ent → Nat × Cont
 | some e => (nv i e.ver, selC m ρ bor nv e.cont)
 | none => (0, .dead)
def selL (m : Mem) (ρ : List Nat) (bor : Nat → Bool) (nv : Nat → Nat → Nat) : Nat → List Nat → List (Nat × Cont)
 | _, [] => []
 | i, k :: r => selE m ρ bor nv i (Mem.get m k) :: selL m ρ bor nv (i + 1) r
theorem selL_get (m ρ bor nv) : ∀ (l : List Nat) (i j : Nat), (selL m ρ bor nv i l)[j]? = (l[j]?).map fun k => selE m ρ bor nv (i + j) (Mem.get m k)
 | [], i, j => by simp [selL]
 | k :: r, i, j => by
  cases j with
  | zero => simp [selL]
  | succ j => simp [selL, selL_get m ρ bor nv r (i + 1) j, Nat.add_assoc, Nat.add_comm 1 j]
theorem selL_length (m ρ bor nv) : ∀ (l : List Nat) (i : Nat), (selL m ρ bor nv i l).length = l.length
 | [], i => rfl
 | k :: r, i => by simp [selL, selL_length m ρ bor nv r]
theorem selC_owns {m ρ bor nv L c b} : (selC m ρ bor nv c).owns L b ↔ c.owns L b := by cases c <;> exact Iff.rfl
theorem owns_ver {L : Loc} {c : Cont} {v b : Nat} : c.owns { L with ver := v } b ↔ c.owns L b := by cases c <;> exact Iff.rfl
section
variable {φ : Phi} {G G1 : Fr} {m : Mem} {w : World} {ρ : List Nat} {bor : Nat → Bool} {nv : Nat → Nat → Nat}
theorem sel_own (hall : ∀ k ∈ ρ, (Mem.get m k).isSome = true) (b : Nat) : Own (φ.sel ρ nv) (mkM 0 (selL m ρ bor nv 0 ρ)) b ↔ OwnK φ m ρ b := by
 constructor
 · rintro ⟨e, he, L, hL, ho⟩
   obtain ⟨j, v, c, hj, rfl⟩ := mkM_mem.1 he
   rw [selL_get] at hj
   obtain ⟨k, hk, hkk⟩ := Option.map_eq_some_iff.1 hj
   simp only [Nat.zero_add, Phi.sel, hk, Option.map_eq_some_iff] at hL
   obtain ⟨L0, hL0, rfl⟩ := hL
   have hmem := List.mem_of_getElem? hk
   have := hall k hmem
   obtain ⟨e0, he0⟩ := Option.isSome_iff_exists.1 this
   rw [he0] at hkk
   simp only [selE, Prod.mk.injEq] at hkk
   obtain ⟨rfl, rfl⟩ := hkk
   exact ⟨k, hmem, e0, L0, he0, hL0, owns_ver.1 (selC_owns.1 ho)⟩
 · rintro ⟨k, hk, e, L, hg, hL, ho⟩
   obtain ⟨j, hj, rfl⟩ := List.mem_iff_getElem.1 hk
   refine ⟨⟨0 + j, nv j e.ver, selC m ρ bor nv e.cont⟩, mkM_mem.2 ⟨j, _, _, ?_, rfl⟩, { L with ver := nv j L.ver }, ?_, selC_owns.2 (owns_ver.2 ho)⟩
   · rw [selL_get]; simp [hj, hg, selE]
   · simp [Phi.sel, hj, hL]
theorem sel_mem (hm : MemRel φ G m w) (hn : ρ.Nodup) (hall : ∀ k ∈ ρ, (Mem.get m k).isSome = true) (hG : ∀ b, G1 b → Fo G φ m b) (hG1 : ∀ b, OwnK φ m ρ b → ¬ G1 b)
 (hbor : ∀ k e L b, Mem.get m k = some e → k ∉ ρ → bor k = true → φ k = some L → e.cont.owns L b → ¬ G1 b) :
 MemRel (φ.sel ρ nv) G1 (mkM 0 (selL m ρ bor nv 0 ρ)) w ∧ (∀ y v, AVRel φ w (Fo G φ m) y v → AVRel (φ.sel ρ nv) w (Fo G1 (φ.sel ρ nv) (mkM 0 (selL m ρ bor nv 0 ρ))) (vw m ρ bor nv y) v) ∧
  (∀ b, Fo G1 (φ.sel ρ nv) (mkM 0 (selL m ρ bor nv 0 ρ)) b → Fo G φ m b) := by
 have hown := sel_own (φ := φ) (nv := nv) (bor := bor) hall
 have hF : ∀ b, Fo G1 (φ.sel ρ nv) (mkM 0 (selL m ρ bor nv 0 ρ)) b → Fo G φ m b := by
  rintro b (h | h)
  · exact hG b h
  · exact .inr ((hown b).1 h).own
 have hb : ∀ k e L b, Mem.get m k = some e → k ∉ ρ → bor k = true → φ k = some L → e.cont.owns L b → ¬ Fo G1 (φ.sel ρ nv) (mkM 0 (selL m ρ bor nv 0 ρ)) b := by
  rintro k e L b hg hk hbk hL ho (h | h)
  · exact hbor k e L b hg hk hbk hL ho h
  · exact ownK_apart hm hg hL ho hk ((hown _).1 h)
 have hav : ∀ y v, AVRel φ w (Fo G φ m) y v → AVRel (φ.sel ρ nv) w (Fo G1 (φ.sel ρ nv) (mkM 0 (selL m ρ bor nv 0 ρ))) (vw m ρ bor nv y) v := fun y v h => vw_rel hm hF hb h
 have hd : ∀ x v, DRel w (Fo G φ m) x v → DRel w (Fo G1 (φ.sel ρ nv) (mkM 0 (selL m ρ bor nv 0 ρ))) x v := fun x v h => h.mono (fun _ _ _ => rfl) (Nat.le_refl _) (fun b _ => hF b)
 have part : ∀ {e : Ent}, e ∈ mkM 0 (selL m ρ bor nv 0 ρ) → ∃ j k e0 L0, ρ[j]? = some k ∧ Mem.get m k = some e0 ∧ φ k = some L0 ∧ L0.ver = e0.ver ∧ ContRel φ w (Fo G φ m) L0 e0.cont ∧ e = ⟨j, nv j e0.ver, selC m ρ bor nv e0.cont⟩ := by
  intro e he
  obtain ⟨j, v, c, hj, rfl⟩ := mkM_mem.1 he
  rw [selL_get] at hj
  obtain ⟨k, hk, hkk⟩ := Option.map_eq_some_iff.1 hj
  obtain ⟨e0, he0⟩ := Option.isSome_iff_exists.1 (hall k (List.mem_of_getElem? hk))
  rw [he0] at hkk
  simp only [selE, Prod.mk.injEq, Nat.zero_add] at hkk
  obtain ⟨rfl, rfl⟩ := hkk
  obtain ⟨_, _, L0, hL0, hver, hcr⟩ := hm.get he0
  exact ⟨j, k, e0, L0, hk, he0, hL0, hver, hcr, by simp⟩
 refine ⟨⟨?_, ?_, ?_, ?_, ?_, ?_⟩, hav, hF⟩
 · rw [mkM_keys]; exact List.nodup_range'
 · intro i L hL
   rw [mkM_keys, selL_length]
   simp only [Phi.sel] at hL
   split at hL
   · rename_i k hk
     have := (List.getElem?_eq_some_iff.1 hk).1
     simp [List.mem_range']; omega
   · cases hL
 · intro e he
   obtain ⟨j, k, e0, L0, hk, he0, hL0, hver, hcr, rfl⟩ := part he
   refine ⟨{ L0 with ver := nv j L0.ver }, by simp [Phi.sel, hk, hL0], by simp [hver], ?_⟩
   cases hc : e0.cont with
   | dead => trivial
   | box cs =>
    rw [hc] at hcr
    obtain ⟨g0, arr, elem, g1, g2, g3, g4⟩ := hcr
    refine ⟨by simpa [vws_length] using g0, arr, elem, g1, by simp [vws_length, g2], g3, fun i c v hci hv => ?_⟩
    rw [vws_get] at hci
    obtain ⟨y, hy, rfl⟩ := Option.map_eq_some_iff.1 hci
    exact hav y v (g4 i y v hy hv)
   | vec sz rows =>
    rw [hc] at hcr
    obtain ⟨g1, g2, g3, g4⟩ := hcr
    refine ⟨g1, g2, g3, fun h0 => ?_⟩
    obtain ⟨arr, elem, f1, f2, f3, f4⟩ := g4 h0
    exact ⟨arr, elem, f1, f2, f3, fun i d hd' => let ⟨v, hv, hj⟩ := f4 i d hd'; ⟨v, hd _ _ hv, hj⟩⟩
   | vv rows y =>
    rw [hc] at hcr
    exact (VRel.mono (vw m ρ bor nv) hcr (fun _ _ _ _ u hu => hd _ u hu) (fun x _ v hx => hav x v hx) (fun _ _ => rfl)).ver _
 · intro e he e' he' L L' hL hL' hbl
   obtain ⟨j, k, e0, L0, hk, he0, hL0, hver, hcr, rfl⟩ := part he
   obtain ⟨j', k', e0', L0', hk', he0', hL0', hver', hcr', rfl⟩ := part he'
   simp only [Phi.sel, hk, hL0, hk', hL0', Option.map_some, Option.some.injEq] at hL hL'
   subst hL; subst hL'
   obtain ⟨hm1, hk1⟩ := Mem.get_mem he0
   obtain ⟨hm2, hk2⟩ := Mem.get_mem he0'
   have := hm.apart e0 hm1 e0' hm2 L0 L0' (by rw [hk1]; exact hL0) (by rw [hk2]; exact hL0') (hbl.imp fun b h => ⟨owns_ver.1 (selC_owns.1 h.1), owns_ver.1 (selC_owns.1 h.2)⟩)
   rw [hk1, hk2] at this
   obtain ⟨hi, h3⟩ := List.getElem?_eq_some_iff.1 hk
   obtain ⟨hj, h4⟩ := List.getElem?_eq_some_iff.1 hk'
   exact (List.getElem_inj hn).1 (h3.trans (this.trans h4.symm))
 · exact fun b hb' => hG1 b ((hown b).1 hb')
 · exact fun b hb' => fo_bound hm b (hG b hb')
end
mutual
def plainD : D → Bool
 | .list (_ :: _) => false
 | .list [] => true
 | .agg cs => plainDs cs
 | .int _ _ => true
 | .bool _ => true
 | .str _ => true
 | .opq => true
def plainDs : List D → Bool
 | [] => true
 | x :: r => plainD x && plainDs r
end
theorem plainDs_mem : ∀ {l : List D}, plainDs l = true → ∀ x ∈ l, plainD x = true
 | [], _, x, hx => by simp at hx
 | y :: r, h, x, hx => by
  simp only [plainDs, Bool.and_eq_true] at h
  rcases List.mem_cons.1 hx with rfl | hx
  · exact h.1
  · exact plainDs_mem h.2 x hx
theorem DRel.plain {w w' : World} {F F' : Nat → Prop} {d v} (h : DRel w F d v) (hp : plainD d = true) : DRel w' F' d v := by
 induction h with
 | int k n => exact .int k n
 | bool b => exact .bool b
 | opq v h => exact .opq v h
 | str b s h => exact .str b s h
 | agg cs a hl hf _ ih =>
  refine .agg cs a hl hf (fun i d v hd hv => ih i d v hd hv (plainDs_mem (by simpa only [plainD] using hp) d (List.mem_of_getElem? hd)))
 | nil a cap hn => exact .nil a cap hn
 | list xs b off cap sz vs hcap hb hF hsz hv hc _ =>
  cases xs with
  | nil => exact .nil _ _ (by simp)
  | cons => simp [plainD] at hp
mutual
def plainAV : AV → Bool
 | .d x => plainD x
 | .rptr _ _ => false
 | .agg cs => plainAVs cs
 | .fn _ cap => plainAVs cap
 | .tup vs => plainAVs vs
 | .ifc _ x => plainD x
 | .junk => true
 | .ptr _ _ _ => true
 | .vec _ _ _ _ => true
 | .eptr _ _ _ _ => true
 | .lit _ => true
 | .nn => true
 | .err => true
def plainAVs : List AV → Bool
 | [] => true
 | x :: r => plainAV x && plainAVs r
end
theorem plainAVs_mem : ∀ {l : List AV}, plainAVs l = true → ∀ x ∈ l, plainAV x = true
 | [], _, x, hx => by simp at hx
 | y :: r, h, x, hx => by
  simp only [plainAVs, Bool.and_eq_true] at h
  rcases List.mem_cons.1 hx with rfl | hx
  · exact h.1
  · exact plainAVs_mem h.2 x hx
def plainC : Cont → Bool
 | .dead => true
 | .box cs => plainAVs cs
 | .vec _ rows => plainDs rows
 | .vv rows y => rows.all plainDs && (match y with | none => true | some x => plainAV x)
mutual
def up (ρ bs : List Nat) : AV → AV
 | .ptr k ver off => .ptr (ρ.getD k 0) (bs.getD k 0 + ver) off
 | .vec k ver off len => .vec (ρ.getD k 0) (bs.getD k 0 + ver) off len
 | .eptr k ver i j => .eptr (ρ.getD k 0) (bs.getD k 0 + ver) i j
 | .agg cs => .agg (ups ρ bs cs)
 | .fn f cap => .fn f (ups ρ bs cap)
 | .tup vs => .tup (ups ρ bs vs)
 | .junk => .junk
 | .d x => .d x
 | .rptr x j => .rptr x j
 | .ifc t x => .ifc t x
 | .lit v => .lit v
 | .nn => .nn
 | .err => .err
def ups (ρ bs : List Nat) : List AV → List AV
 | [] => []
 | x :: r => up ρ bs x :: ups ρ bs r
end
theorem ups_get (ρ bs) : ∀ (l : List AV) (i : Nat), (ups ρ bs l)[i]? = (l[i]?).map (up ρ bs)
 | [], i => by simp [ups]
 | x :: r, i => by cases i with | zero => simp [ups] | succ i => simp [ups, ups_get ρ bs r i]
theorem ups_length (ρ bs) : ∀ (l : List AV), (ups ρ bs l).length = l.length
 | [] => rfl
 | x :: r => by simp [ups, ups_length ρ bs r]
def upC (ρ bs : List Nat) : Cont → Cont
 | .dead => .dead
 | .box cs => .box (ups ρ bs cs)
 | .vec sz rows => .vec sz rows
 | .vv rows y => .vv rows (y.map (up ρ bs))
def backL (ρ bs : List Nat) : Nat → List (Nat × Cont) → List Ent
 | _, [] => []
 | i, (v, c) :: r => ⟨ρ.getD i 0, bs.getD i 0 + v, upC ρ bs c⟩ :: backL ρ bs (i + 1) r
theorem backL_mem {ρ bs : List Nat} : ∀ {l : List (Nat × Cont)} {i : Nat} {e : Ent}, e ∈ backL ρ bs i l ↔ ∃ j v c, l[j]? = some (v, c) ∧ e = ⟨ρ.getD (i + j) 0, bs.getD (i + j) 0 + v, upC ρ bs c⟩
 | [], i, e => by simp [backL]
 | (v, c) :: r, i, e => by
  simp only [backL, List.mem_cons, backL_mem (l := r)]
  constructor
  · rintro (rfl | ⟨j, v', c', h, rfl⟩)
    · exact ⟨0, v, c, by simp, by simp⟩
    · exact ⟨j + 1, v', c', by simpa using h, by rw [show i + (j + 1) = i + 1 + j by omega]⟩
  · rintro ⟨j, v', c', h, rfl⟩
    cases j with
    | zero => simp at h; obtain ⟨rfl, rfl⟩ := h; left; simp
    | succ j => right; exact ⟨j, v', c', by simpa using h, by rw [show i + (j + 1) = i + 1 + j by omega]⟩
theorem backL_keys {ρ bs : List Nat} : ∀ (l : List (Nat × Cont)) (i : Nat), (backL ρ bs i l).map (·.key) = (List.range' i l.length).map fun j => ρ.getD j 0
 | [], i => rfl
 | (v, c) :: r, i => by simp [backL, backL_keys r, List.range'_succ]
def putAll (m : Mem) : List Ent → Mem
 | [] => m
 | e :: r => putAll (Mem.set m e) r
theorem putAll_keys : ∀ (es : List Ent) (m : Mem), (putAll m es).map (·.key) = m.map (·.key)
 | [], m => rfl
 | e :: r, m => by rw [putAll, putAll_keys r, Mem.set_keys]
theorem mem_putAll : ∀ (es : List Ent) (m : Mem), (m.map (·.key)).Nodup → (es.map (·.key)).Nodup → (∀ e ∈ es, e.key ∈ m.map (·.key)) → ∀ e, e ∈ putAll m es ↔ e ∈ es ∨ (e ∈ m ∧ e.key ∉ es.map (·.key))
 | [], m, _, _, _, e => by simp [putAll]
 | x :: r, m, hm, hn, hk, e => by
  simp only [List.map_cons, List.nodup_cons] at hn
  rw [putAll, mem_putAll r (Mem.set m x) (by rw [Mem.set_keys]; exact hm) hn.2 (fun e he => by rw [Mem.set_keys]; exact hk e (by simp [he])), Mem.mem_set hm]
  have hx := hk x (by simp)
  constructor
  · rintro (h | ⟨⟨rfl, _⟩ | ⟨h, hne⟩, hnr⟩)
    · left; simp [h]
    · left; simp
    · right; exact ⟨h, by simp only [List.map_cons, List.mem_cons, not_or]; exact ⟨hne, hnr⟩⟩
  · rintro (h | ⟨h, hnr⟩)
    · rcases List.mem_cons.1 h with rfl | h
      · right; exact ⟨.inl ⟨rfl, hx⟩, hn.1⟩
      · left; exact h
    · simp only [List.map_cons, List.mem_cons, not_or] at hnr
      right; exact ⟨.inr ⟨h, hnr.1⟩, hnr.2⟩
def base (m : Mem) (d : Nat) : List Nat → List Nat
 | [] => []
 | k :: r => (match Mem.get m k with | some e => e.ver + d | none => 0) :: base m d r
theorem base_get (m : Mem) (d : Nat) : ∀ (l : List Nat) (i : Nat), (base m d l)[i]? = (l[i]?).map fun k => match Mem.get m k with | some e => e.ver + d | none => 0
 | [], i => by simp [base]
 | k :: r, i => by cases i with | zero => simp [base] | succ i => simp [base, base_get m d r i]
theorem base_length (m : Mem) (d : Nat) : ∀ (l : List Nat), (base m d l).length = l.length
 | [] => rfl
 | k :: r => by simp [base, base_length m d r]
def nv0 : Nat → Nat → Nat := fun _ _ => 0
def GCall (φ : Phi) (G : Fr) (m : Mem) (ρ B : List Nat) : Fr := ⟨fun b => Fo G φ m b ∧ ¬ OwnK φ m ρ b ∧ ¬ OwnK φ m B b, []⟩
section
variable {φ : Phi} {G : Fr} {m : Mem} {w : World} {ρ B : List Nat}
theorem call_view (hm : MemRel φ G m w) (hn : ρ.Nodup) (hall : ∀ k ∈ ρ, (Mem.get m k).isSome = true) :
 MemRel (φ.sel ρ nv0) (GCall φ G m ρ B) (mkM 0 (selL m ρ (fun k => B.contains k) nv0 0 ρ)) w ∧
  (∀ y v, AVRel φ w (Fo G φ m) y v → AVRel (φ.sel ρ nv0) w (Fo (GCall φ G m ρ B) (φ.sel ρ nv0) (mkM 0 (selL m ρ (fun k => B.contains k) nv0 0 ρ))) (vw m ρ (fun k => B.contains k) nv0 y) v) ∧
  (∀ b, Fo (GCall φ G m ρ B) (φ.sel ρ nv0) (mkM 0 (selL m ρ (fun k => B.contains k) nv0 0 ρ)) b → Fo G φ m b) :=
 sel_mem hm hn hall (fun b h => h.1) (fun b h h' => h'.2.1 h) (fun k e L b hg _ hb hL ho h' => h'.2.2 ⟨k, by simpa using hb, e, L, hg, hL, ho⟩)
theorem AVRel.upR {φ φ' : Phi} {ρ bs : List Nat} {w F F' x v} (h : AVRel φ w F x v) (hφ : ∀ i L, φ i = some L → φ' (ρ.getD i 0) = some { L with ver := bs.getD i 0 + L.ver })
 (hd : (∀ b, F' b → F b) ∨ plainAV x = true) : AVRel φ' w F' (up ρ bs x) v := by
 have dd : ∀ {d v}, DRel w F d v → ((∀ b, F' b → F b) ∨ plainD d = true) → DRel w F' d v := fun h hd => by
  rcases hd with hd | hd
  · exact h.mono (fun _ _ _ => rfl) (Nat.le_refl _) (fun b _ => hd b)
  · exact h.plain hd
 induction h with
 | junk v => exact .junk v
 | d x v h => exact .d x v (dd h (hd.imp id (by simp [plainAV])))
 | agg cs a hl h1 _ ih =>
  refine .agg _ a (by rw [ups_length]; exact hl) h1 (fun i c v hc hv => ?_)
  rw [ups_get] at hc
  obtain ⟨y, hy, rfl⟩ := Option.map_eq_some_iff.1 hc
  exact ih i y v hy hv (hd.imp id fun hp => plainAVs_mem (by simpa only [plainAV] using hp) y (List.mem_of_getElem? hy))
 | ptr k ver off v L hL hv h h1 => exact .ptr _ _ off v _ (hφ k L hL) (by simp only; omega) (fun he => h (by simp only at he; omega)) h1
 | vec k ver off len v L hL hv h h1 => exact .vec _ _ off len v _ (hφ k L hL) (by simp only; omega) (fun he => h (by simp only at he; omega)) h1
 | eptr k ver i j v L hL hv h h1 => exact .eptr _ _ i j v _ (hφ k L hL) (by simp only; omega) (fun he => h (by simp only at he; omega)) h1
 | rptr x j b off x' hb hFb hx hc =>
  rcases hd with hd | hd
  · exact .rptr x j b off x' hb (fun h => hFb (hd b h)) (hx.mono (fun _ _ _ => rfl) (Nat.le_refl _) (fun b _ => hd b)) hc
  · simp [plainAV] at hd
 | fn f cap a hf hl _ ih =>
  refine .fn f _ a hf (by rw [ups_length]; exact hl) (fun i c v hc hv => ?_)
  rw [ups_get] at hc
  obtain ⟨y, hy, rfl⟩ := Option.map_eq_some_iff.1 hc
  exact ih i y v hy hv (hd.imp id fun hp => plainAVs_mem (by simpa only [plainAV] using hp) y (List.mem_of_getElem? hy))
 | bnd f cap a hl _ ih =>
  refine .bnd f _ a (by rw [ups_length]; exact hl) (fun i c v hc hv => ?_)
  rw [ups_get] at hc
  obtain ⟨y, hy, rfl⟩ := Option.map_eq_some_iff.1 hc
  exact ih i y v hy hv (hd.imp id fun hp => plainAVs_mem (by simpa only [plainAV] using hp) y (List.mem_of_getElem? hy))
 | tup vs a hl _ ih =>
  refine .tup _ a (by rw [ups_length]; exact hl) (fun i c v hc hv => ?_)
  rw [ups_get] at hc
  obtain ⟨y, hy, rfl⟩ := Option.map_eq_some_iff.1 hc
  exact ih i y v hy hv (hd.imp id fun hp => plainAVs_mem (by simpa only [plainAV] using hp) y (List.mem_of_getElem? hy))
 | ifc t x v h => exact .ifc t x v (dd h (hd.imp id (by simp [plainAV])))
 | lit v h => exact .lit v h
 | nn a cap => exact .nn a cap
 | err t v => exact .err t v
theorem upC_owns {ρ bs L c b} : (upC ρ bs c).owns L b ↔ c.owns L b := by cases c <;> exact Iff.rfl
theorem call_back (h : MemRel φ G m w) (hn : ρ.Nodup) (hall : ∀ k ∈ ρ, (Mem.get m k).isSome = true) {fr : List Nat} (hfn : fr.Nodup) (hfr : ∀ k ∈ fr, (Mem.get m k).isSome = true ∧ k ∉ ρ)
 {φ2 : Phi} {l2 : List (Nat × Cont)} {w2 : World} (h2 : MemRel φ2 (GCall φ G m ρ B) (mkM 0 l2) w2)
 (hk : Keeps (φ.sel ρ nv0) (mkM 0 (selL m ρ (fun k => B.contains k) nv0 0 ρ)) w φ2 (mkM 0 l2) w2) (hlen : l2.length = ρ.length + fr.length)
 (hpl : B = [] ∨ ∀ e ∈ l2, plainC e.2 = true) :
 ∃ φ' : Phi, MemRel φ' G (putAll m (backL (ρ ++ fr) (base m 0 ρ ++ base m 1 fr) 0 l2)) w2 ∧ Keeps φ m w φ' (putAll m (backL (ρ ++ fr) (base m 0 ρ ++ base m 1 fr) 0 l2)) w2 ∧
  ∀ x v, (B = [] ∨ plainAV x = true) → AVRel φ2 w2 (Fo (GCall φ G m ρ B) φ2 (mkM 0 l2)) x v →
   AVRel φ' w2 (Fo G φ' (putAll m (backL (ρ ++ fr) (base m 0 ρ ++ base m 1 fr) 0 l2))) (up (ρ ++ fr) (base m 0 ρ ++ base m 1 fr) x) v := by
 obtain ⟨ρ', hρ'⟩ : ∃ ρ', ρ' = ρ ++ fr := ⟨_, rfl⟩
 obtain ⟨bs, hbs⟩ : ∃ bs, bs = base m 0 ρ ++ base m 1 fr := ⟨_, rfl⟩
 rw [← hρ', ← hbs]
 have hn' : ρ'.Nodup := by
  rw [hρ', List.nodup_append]
  exact ⟨hn, hfn, fun a ha b hb hab => (hfr b hb).2 (hab ▸ ha)⟩
 have hlen' : l2.length = ρ'.length := by rw [hρ', List.length_append]; exact hlen
 have hsome' : ∀ k ∈ ρ', (Mem.get m k).isSome = true := fun k hk' => by
  rw [hρ'] at hk'
  rcases List.mem_append.1 hk' with h1 | h1
  · exact hall k h1
  · exact (hfr k h1).1
 have hkin : ∀ k ∈ ρ', k ∈ m.map (·.key) := fun k hk' => by
  obtain ⟨e, he⟩ := Option.isSome_iff_exists.1 (hsome' k hk')
  obtain ⟨hm, rfl⟩ := Mem.get_mem he
  exact List.mem_map_of_mem hm
 obtain ⟨φ', hφ'⟩ : ∃ φ' : Phi, φ' = fun k => match findK ρ' k 0 with | some i => (φ2 i).map (fun L => { L with ver := bs.getD i 0 + L.ver }) | none => φ k := ⟨_, rfl⟩
 have hget : ∀ {i}, i < ρ'.length → ρ'[i]? = some (ρ'.getD i 0) := fun hi => by simp [hi]
 have hφin : ∀ {i}, i < ρ'.length → φ' (ρ'.getD i 0) = (φ2 i).map (fun L => { L with ver := bs.getD i 0 + L.ver }) := fun hi => by
  simp only [hφ', findK_get hn' (hget hi)]
 have hφout : ∀ {k}, k ∉ ρ' → φ' k = φ k := fun hk' => by simp only [hφ', findK_none.2 hk']
 have hlt2 : ∀ {i L}, φ2 i = some L → i < ρ'.length := fun hL => by
  have := h2.dom _ _ hL
  rw [mkM_keys] at this
  simp [List.mem_range'] at this
  omega
 have hup : ∀ i L, φ2 i = some L → φ' (ρ'.getD i 0) = some { L with ver := bs.getD i 0 + L.ver } := fun i L hL => by
  rw [hφin (hlt2 hL), hL]; rfl
 -- the entries behind
 have hmem := mem_putAll (backL ρ' bs 0 l2) m h.nodup
 have hbk : (backL ρ' bs 0 l2).map (·.key) = ρ' := by
  rw [backL_keys, hlen']
  apply List.ext_getElem?
  intro i
  by_cases hi : i < ρ'.length
  · simp [hi]
  · rw [List.getElem?_eq_none (by simp; omega), List.getElem?_eq_none (by omega)]
 rw [hbk] at hmem
 replace hmem := hmem hn' (fun e he => hkin e.key (by rw [← hbk]; exact List.mem_map_of_mem he))
 have hbe : ∀ {e}, e ∈ backL ρ' bs 0 l2 → ∃ j v c L, j < ρ'.length ∧ l2[j]? = some (v, c) ∧ e = ⟨ρ'.getD j 0, bs.getD j 0 + v, upC ρ' bs c⟩ ∧ φ2 j = some L ∧ L.ver = v ∧ ContRel φ2 w2 (Fo (GCall φ G m ρ B) φ2 (mkM 0 l2)) L c := by
  intro e he
  obtain ⟨j, v, c, hj, rfl⟩ := backL_mem.1 he
  have hjl := (List.getElem?_eq_some_iff.1 hj).1
  obtain ⟨L, hL, hver, hc⟩ := h2.ents ⟨0 + j, v, c⟩ (mkM_mem.2 ⟨j, v, c, hj, rfl⟩)
  simp only [Nat.zero_add] at hL ⊢
  exact ⟨j, v, c, L, by omega, hj, rfl, hL, hver, hc⟩
 have hown1 := sel_own (φ := φ) (nv := nv0) (bor := fun k => B.contains k) hall
 have hown2 : ∀ b, Own φ' (putAll m (backL ρ' bs 0 l2)) b ↔ Own φ2 (mkM 0 l2) b ∨ ∃ e ∈ m, e.key ∉ ρ' ∧ ∃ L, φ e.key = some L ∧ e.cont.owns L b := by
  intro b
  constructor
  · rintro ⟨e, he, L, hL, ho⟩
    rcases (hmem e).1 he with he | ⟨he, hne⟩
    · obtain ⟨j, v, c, L2, hjl, hj, rfl, hL2, hver, hc⟩ := hbe he
      left
      simp only [hup j L2 hL2, Option.some.injEq] at hL
      subst hL
      exact ⟨⟨0 + j, v, c⟩, mkM_mem.2 ⟨j, v, c, hj, rfl⟩, L2, by simpa using hL2, owns_ver.1 (upC_owns.1 ho)⟩
    · right; exact ⟨e, he, hne, L, by rw [← hφout hne]; exact hL, ho⟩
  · rintro (⟨e2, he2, L, hL, ho⟩ | ⟨e, he, hne, L, hL, ho⟩)
    · obtain ⟨j, v, c, hj, rfl⟩ := mkM_mem.1 he2
      simp only [Nat.zero_add] at hL
      exact ⟨⟨ρ'.getD j 0, bs.getD j 0 + v, upC ρ' bs c⟩, (hmem _).2 (.inl (backL_mem.2 ⟨j, v, c, hj, by simp⟩)), _, hup j L hL, upC_owns.2 (owns_ver.2 ho)⟩
    · exact ⟨e, (hmem _).2 (.inr ⟨he, hne⟩), L, by rw [hφout hne]; exact hL, ho⟩
 have hnρ : ∀ {k}, k ∉ ρ' → k ∉ ρ := fun hk' h1 => hk' (by rw [hρ']; exact List.mem_append_left _ h1)
 -- an entry beside shares no block with the callee's
 have hbeside : ∀ e ∈ m, e.key ∉ ρ → ∀ L b, φ e.key = some L → e.cont.owns L b → ¬ OwnK φ m ρ b := fun e he hne L b hL ho =>
  ownK_apart h (Mem.get_of_mem h.nodup he) hL ho hne
 have hle : φ.le φ' := by
  intro k L hL
  by_cases hk' : k ∈ ρ'
  · obtain ⟨i, hi, rfl⟩ := List.mem_iff_getElem.1 hk'
    have hgd : ρ'.getD i 0 = ρ'[i] := by simp [hi]
    obtain ⟨e, he⟩ := Option.isSome_iff_exists.1 (hsome' _ hk')
    obtain ⟨_, _, L0, hL0, hver, _⟩ := h.get he
    rw [hL] at hL0; cases hL0
    by_cases hir : i < ρ.length
    · have hgr : ρ[i]? = some ρ'[i] := by simp only [hρ']; rw [List.getElem_append_left hir]; simp
      have hbi : bs.getD i 0 = L.ver := by
       rw [hbs, List.getD_eq_getElem?_getD, List.getElem?_append_left (by rw [base_length]; exact hir), base_get, hgr]
       simp [he, hver]
      obtain ⟨L', h3, h4, h5⟩ := hk.le i { L with ver := 0 } (by simp [Phi.sel, hgr, hL, nv0])
      refine ⟨{ L' with ver := bs.getD i 0 + L'.ver }, by rw [← hgd]; exact hup i L' h3, by simp only; omega, fun he2 => ?_⟩
      simp only at he2
      have h6 := h5 (by simp only; omega)
      have g1 := congrArg Loc.ver h6
      have g2 := congrArg Loc.blk h6
      have g3 := congrArg Loc.sz h6
      have g4 := congrArg Loc.cap h6
      have g5 := congrArg Loc.base h6
      simp only at g1 g2 g3 g4 g5 ⊢
      rw [g1, g2, g3, g4, g5, hbi, Nat.add_zero]
    · have hil : i < l2.length := by omega
      obtain ⟨L', hL', _, _⟩ := h2.ents ⟨0 + i, l2[i].1, l2[i].2⟩ (mkM_mem.2 ⟨i, _, _, by simp [hil], rfl⟩)
      simp only [Nat.zero_add] at hL'
      have hgr : fr[i - ρ.length]? = some ρ'[i] := by
       simp only [hρ'] at hi ⊢
       rw [List.getElem_append_right (by omega)]
       simp
      have hbi : bs.getD i 0 = L.ver + 1 := by
       rw [hbs, List.getD_eq_getElem?_getD, List.getElem?_append_right (by rw [base_length]; omega), base_length, base_get, hgr]
       simp [he, hver]
      refine ⟨{ L' with ver := bs.getD i 0 + L'.ver }, by rw [← hgd]; exact hup i L' hL', by simp only; omega, fun he2 => ?_⟩
      simp only at he2
      omega
  · exact ⟨L, by rw [hφout hk']; exact hL, Nat.le_refl _, fun _ => rfl⟩
 have hkown : ∀ b, b < w.heap.size → Own φ' (putAll m (backL ρ' bs 0 l2)) b → Own φ m b := by
  intro b hb hob
  rcases (hown2 b).1 hob with h3 | ⟨e, he, _, L, hL, ho⟩
  · exact ((hown1 b).1 (hk.own b hb h3)).own
  · exact ⟨e, he, L, hL, ho⟩
 have hold : ∀ b, b < w.heap.size → ¬ Own φ m b → w2.heap[b]? = w.heap[b]? := fun b hb hno => hk.old b hb (fun ho => hno ((hown1 b).1 ho).own)
 have hFF : B = [] → ∀ b, Fo G φ' (putAll m (backL ρ' bs 0 l2)) b → Fo (GCall φ G m ρ B) φ2 (mkM 0 l2) b := by
  rintro rfl b (hG | ho)
  · refine .inl ⟨.inl hG, fun ho => h.notG b ho.own hG, ?_⟩
    rintro ⟨k, hk', _⟩; simp at hk'
  · rcases (hown2 b).1 ho with h3 | ⟨e, he, hne, L, hL, ho5⟩
    · exact .inr h3
    · refine .inl ⟨.inr ⟨e, he, L, hL, ho5⟩, hbeside e he (hnρ hne) L b hL ho5, ?_⟩
      rintro ⟨k, hk', _⟩; simp at hk'
 have hav : ∀ x v, (B = [] ∨ plainAV x = true) → AVRel φ2 w2 (Fo (GCall φ G m ρ B) φ2 (mkM 0 l2)) x v → AVRel φ' w2 (Fo G φ' (putAll m (backL ρ' bs 0 l2))) (up ρ' bs x) v :=
  fun x v hx hr => hr.upR hup (hx.imp hFF id)
 have hdv : ∀ d v, (B = [] ∨ plainD d = true) → DRel w2 (Fo (GCall φ G m ρ B) φ2 (mkM 0 l2)) d v → DRel w2 (Fo G φ' (putAll m (backL ρ' bs 0 l2))) d v := fun d v hx hr => by
  rcases hx with hx | hx
  · exact hr.mono (fun _ _ _ => rfl) (Nat.le_refl _) (fun b _ => hFF hx b)
  · exact hr.plain hx
 refine ⟨φ', ⟨?_, ?_, ?_, ?_, ?_, ?_⟩, ⟨hle, hold, hkown, hk.size, hk.os, hk.tape, hk.output⟩, hav⟩
 · rw [putAll_keys]; exact h.nodup
 · intro k L hL
   rw [putAll_keys]
   by_cases hk' : k ∈ ρ'
   · exact hkin k hk'
   · rw [hφout hk'] at hL; exact h.dom k L hL
 · intro e he
   rcases (hmem e).1 he with he | ⟨he, hne⟩
   · obtain ⟨j, v, c, L2, hjl, hj, rfl, hL2, hver, hc⟩ := hbe he
     refine ⟨_, hup j L2 hL2, by simp [hver], ?_⟩
     have hpc : B = [] ∨ plainC c = true := hpl.imp id fun hp => hp (v, c) (List.mem_of_getElem? hj)
     cases c with
     | dead => trivial
     | box cs =>
      obtain ⟨g0, arr, elem, g1, g2, g3, g4⟩ := hc
      refine ⟨by simpa [ups_length] using g0, arr, elem, g1, by simp [ups_length, g2], g3, fun i c v hci hv => ?_⟩
      rw [ups_get] at hci
      obtain ⟨y, hy, rfl⟩ := Option.map_eq_some_iff.1 hci
      exact hav y v (hpc.imp id fun hp => plainAVs_mem (by simpa only [plainC] using hp) y (List.mem_of_getElem? hy)) (g4 i y v hy hv)
     | vec sz rows =>
      obtain ⟨g1, g2, g3, g4⟩ := hc
      refine ⟨g1, g2, g3, fun h0 => ?_⟩
      obtain ⟨arr, elem, f1, f2, f3, f4⟩ := g4 h0
      exact ⟨arr, elem, f1, f2, f3, fun i d hd' => let ⟨v, hv, hj⟩ := f4 i d hd'; ⟨v, hdv d v (hpc.imp id fun hp => plainDs_mem (by simpa only [plainC] using hp) d (List.mem_of_getElem? hd')) hv, hj⟩⟩
     | vv rows y =>
      refine (VRel.mono (up ρ' bs) hc (fun xs hxs d hd u hu => hdv d u (hpc.imp id fun hp => ?_) hu) (fun x hx v hv => hav x v (hpc.imp id fun hp => ?_) hv) (fun _ _ => rfl)).ver _
      · simp only [plainC, Bool.and_eq_true, List.all_eq_true] at hp
        exact plainDs_mem (hp.1 xs hxs) d hd
      · simp only [plainC, Bool.and_eq_true, hx] at hp
        exact hp.2
   · obtain ⟨L, hL, hver, hc⟩ := h.ents e he
     refine ⟨L, by rw [hφout hne]; exact hL, hver, hc.mono hle (fun b hb hno => hold b hb (fun ho => hno (.inr ho))) hk.size (fun b hb => Or.imp id (hkown b hb)) (fun b ho => ?_)⟩
     exact hk.old _ (hc.lt ho) (fun h1 => hbeside e he (hnρ hne) L b hL ho ((hown1 _).1 h1))
 · rintro e he e' he' L L' hL hL' ⟨b, ho, ho'⟩
   have cross : ∀ {j v c L2 e'' L''}, l2[j]? = some (v, c) → φ2 j = some L2 → c.owns L2 b → e'' ∈ m → e''.key ∉ ρ' → φ e''.key = some L'' → e''.cont.owns L'' b → False := by
    intro j v c L2 e'' L'' hj hL2 hc he'' hne hL'' ho''
    have hlt : b < w.heap.size := h.own_lt ⟨e'', he'', L'', hL'', ho''⟩
    have h3 : Own φ2 (mkM 0 l2) b := ⟨⟨0 + j, v, c⟩, mkM_mem.2 ⟨j, v, c, hj, rfl⟩, L2, by simpa using hL2, hc⟩
    exact hbeside e'' he'' (hnρ hne) L'' b hL'' ho'' ((hown1 _).1 (hk.own _ hlt h3))
   rcases (hmem e).1 he with he | ⟨he, hne⟩ <;> rcases (hmem e').1 he' with he' | ⟨he', hne'⟩
   · obtain ⟨j, v, c, L2, hjl, hj, rfl, hL2, _, _⟩ := hbe he
     obtain ⟨j', v', c', L2', hjl', hj', rfl, hL2', _, _⟩ := hbe he'
     simp only [hup j L2 hL2, hup j' L2' hL2', Option.some.injEq] at hL hL'
     subst hL; subst hL'
     have := h2.apart ⟨0 + j, v, c⟩ (mkM_mem.2 ⟨j, v, c, hj, rfl⟩) ⟨0 + j', v', c'⟩ (mkM_mem.2 ⟨j', v', c', hj', rfl⟩) L2 L2' (by simpa using hL2) (by simpa using hL2') ⟨b, owns_ver.1 (upC_owns.1 ho), owns_ver.1 (upC_owns.1 ho')⟩
     simp only [Nat.zero_add] at this
     rw [this]
   · obtain ⟨j, v, c, L2, hjl, hj, rfl, hL2, _, _⟩ := hbe he
     simp only [hup j L2 hL2, Option.some.injEq] at hL
     subst hL
     exact (cross hj hL2 (owns_ver.1 (upC_owns.1 ho)) he' hne' (by rw [← hφout hne']; exact hL') ho').elim
   · obtain ⟨j, v, c, L2, hjl, hj, rfl, hL2, _, _⟩ := hbe he'
     simp only [hup j L2 hL2, Option.some.injEq] at hL'
     subst hL'
     exact (cross hj hL2 (owns_ver.1 (upC_owns.1 ho')) he hne (by rw [← hφout hne]; exact hL) ho).elim
   · exact h.apart e he e' he' L L' (by rw [← hφout hne]; exact hL) (by rw [← hφout hne']; exact hL') ⟨b, ho, ho'⟩
 · intro b hob hG
   rcases (hown2 b).1 hob with h3 | ⟨e, he, _, L, hL, ho⟩
   · exact h.notG b ((hown1 b).1 (hk.own b (h.bound b hG) h3)).own hG
   · exact h.notG _ ⟨e, he, L, hL, ho⟩ hG
 · exact fun b hG => Nat.lt_of_lt_of_le (h.bound b hG) hk.size
end
def Turn (S S' : St) : Prop := S'.n = S.n ∧ S'.gl = S.gl ∧ ∀ φ G a w, Rel φ G S a w → ∃ φ', Rel φ' G S' a w ∧ Keeps φ S.mem w φ' S'.mem w
theorem Turn.refl (S : St) : Turn S S := ⟨rfl, rfl, fun φ _ _ _ h => ⟨φ, h, Keeps.refl ..⟩⟩
theorem Turn.trans {S S' S'' : St} (h : Turn S S') (k : Turn S' S'') : Turn S S'' :=
 ⟨k.1.trans h.1, k.2.1.trans h.2.1, fun φ G a w hr => by
  obtain ⟨φ1, h1, h2⟩ := h.2.2 φ G a w hr
  obtain ⟨φ2, h3, h4⟩ := k.2.2 φ1 G a w h1
  exact ⟨φ2, h3, h2.trans h4⟩⟩
theorem turn_prune (S : St) (keep : List Nat) : Turn S (S.prune keep) := ⟨rfl, rfl, fun φ _ _ _ h => ⟨φ, h.prune keep, Keeps.refl ..⟩⟩
theorem own_same {w : World} {φ φ' : Phi} {m m' : Mem} (h : ∀ b, Own φ' m' b → Own φ m b) (hle : φ.le φ') : Keeps φ m w φ' m' w :=
 ⟨hle, fun _ _ _ => rfl, fun b _ ho => h b ho, Nat.le_refl _, rfl, rfl, rfl⟩
def mapC (τ : AV → AV) : Cont → Cont
 | .box cs => .box (cs.map τ)
 | .dead => .dead
 | .vec sz rows => .vec sz rows
 | .vv rows y => .vv rows (y.map τ)
def mapM (τ : AV → AV) (e' : Ent) : Mem → Mem
 | [] => []
 | e :: r => (if e.key = e'.key then e' else ⟨e.key, e.ver, mapC τ e.cont⟩) :: mapM τ e' r
def mapEnv (τ : AV → AV) : Env → Env
 | [] => []
 | (t, g, x) :: r => (t, g, τ x) :: mapEnv τ r
theorem lk_mapEnv (τ : AV → AV) : ∀ (env : Env) (t : Nat) (g : Bool) (y : AV), Env.lk (mapEnv τ env) t = some (g, y) → ∃ x, Env.lk env t = some (g, x) ∧ y = τ x
 | [], t, g, y, h => by simp [mapEnv, Env.lk] at h
 | (t', g', x') :: r, t, g, y, h => by
  simp only [mapEnv, Env.lk] at h ⊢
  by_cases ht : t' = t
  · subst ht; simp at h ⊢; obtain ⟨rfl, rfl⟩ := h; simp
  · simp only [ht, if_false] at h ⊢
    exact lk_mapEnv τ r t g y h
theorem mapM_keys (τ : AV → AV) (e' : Ent) : ∀ m : Mem, (mapM τ e' m).map (·.key) = m.map (·.key)
 | [] => rfl
 | e :: r => by
  simp only [mapM, List.map_cons, mapM_keys τ e' r]
  congr 1
  split
  · rename_i h; exact h.symm
  · rfl
theorem mapM_mem {τ : AV → AV} {e' : Ent} : ∀ {m : Mem} {x : Ent}, x ∈ mapM τ e' m ↔ ∃ e ∈ m, x = if e.key = e'.key then e' else ⟨e.key, e.ver, mapC τ e.cont⟩
 | [], x => by simp [mapM]
 | e :: r, x => by simp [mapM, mapM_mem (m := r)]
theorem mapC_owns {τ L c b} : (mapC τ c).owns L b ↔ c.owns L b := by cases c <;> exact Iff.rfl
def St.mapAll (S : St) (τ : AV → AV) (e' : Ent) : St := { S with env := mapEnv τ S.env, mem := mapM τ e' S.mem }
theorem turn_map {φ : Phi} {G S a w} (h : Rel φ G S a w) (τ : AV → AV) {e e' : Ent} (he : e ∈ S.mem) {L L' : Loc} (hL : φ e.key = some L) (hkey : e'.key = e.key)
 (hv : L.ver < L'.ver) (hv' : L'.ver = e'.ver) (hown : ∀ b, e'.cont.owns L' b → e.cont.owns L b)
 (hτ : ∀ (φ' : Phi) (F' : Nat → Prop), φ' e.key = some L' → (∀ k, k ≠ e.key → φ' k = φ k) → (∀ b, F' b → Fo G φ S.mem b) → (∀ b, ¬ e'.cont.owns L' b → e.cont.owns L b → ¬ F' b) → ∀ x v, AVRel φ w (Fo G φ S.mem) x v → AVRel φ' w F' (τ x) v)
 (hc : ∀ (φ' : Phi) (F' : Nat → Prop), (∀ b, F' b → Fo G φ S.mem b) → ContRel φ' w F' L' e'.cont) :
 ∃ φ', Rel φ' G (S.mapAll τ e') a w ∧ Keeps φ S.mem w φ' (S.mapAll τ e').mem w := by
 have hm := h.mem
 obtain ⟨φ', hφ'⟩ : ∃ φ' : Phi, φ' = fun k => if k = e.key then some L' else φ k := ⟨_, rfl⟩
 have hφk : φ' e.key = some L' := by simp [hφ']
 have hφo : ∀ k, k ≠ e.key → φ' k = φ k := fun k hk => by simp [hφ', hk]
 have hle : φ.le φ' := by
  intro k L0 h0
  by_cases hk : k = e.key
  · subst hk; rw [hL] at h0; cases h0
    exact ⟨L', hφk, by omega, fun hh => by omega⟩
  · exact ⟨L0, by rw [hφo k hk]; exact h0, Nat.le_refl _, fun _ => rfl⟩
 have hown' : ∀ b, Own φ' (mapM τ e' S.mem) b → Own φ S.mem b := by
  rintro b ⟨x, hx, Lx, hLx, hox⟩
  obtain ⟨y, hy, rfl⟩ := mapM_mem.1 hx
  by_cases hk : y.key = e'.key
  · simp only [hk, if_true] at hLx hox
    rw [hkey, hφk] at hLx; cases hLx
    exact ⟨e, he, L, hL, hown b hox⟩
  · simp only [hk, if_false] at hLx hox
    rw [hkey] at hk
    rw [hφo _ hk] at hLx
    exact ⟨y, hy, Lx, hLx, mapC_owns.1 hox⟩
 have hF : ∀ b, Fo G φ' (mapM τ e' S.mem) b → Fo G φ S.mem b := fun b => Or.imp id (hown' b)
 have hlost : ∀ b, ¬ e'.cont.owns L' b → e.cont.owns L b → ¬ Fo G φ' (mapM τ e' S.mem) b := by
  rintro b hno ho (hG | ⟨x, hx, Lx, hLx, hox⟩)
  · exact hm.notG _ ⟨e, he, L, hL, ho⟩ hG
  · obtain ⟨y, hy, rfl⟩ := mapM_mem.1 hx
    by_cases hk : y.key = e'.key
    · simp only [hk, if_true] at hLx hox
      rw [hkey, hφk] at hLx; cases hLx
      exact hno hox
    · simp only [hk, if_false] at hLx hox
      rw [hkey] at hk
      rw [hφo _ hk] at hLx
      exact hk (hm.apart y hy e he Lx L hLx hL ⟨b, mapC_owns.1 hox, ho⟩)
 have hav := hτ φ' (Fo G φ' (mapM τ e' S.mem)) hφk hφo hF hlost
 refine ⟨φ', ⟨h.size, h.defers, ?_, ⟨?_, ?_, ?_, ?_, ?_, ?_⟩, h.glob.mono (fun _ _ _ => rfl) (Nat.le_refl _) (fun b _ => hF b)⟩, own_same hown' hle⟩
 · intro t x hx
   obtain ⟨y, hy, rfl⟩ := lk_mapEnv τ S.env t true x hx
   exact hav _ _ (h.env t y hy)
 · show ((mapM τ e' S.mem).map (·.key)).Nodup
   rw [mapM_keys]; exact hm.nodup
 · intro k L0 h0
   show k ∈ (mapM τ e' S.mem).map (·.key)
   rw [mapM_keys]
   by_cases hk : k = e.key
   · subst hk; exact List.mem_map_of_mem he
   · rw [hφo k hk] at h0; exact hm.dom k L0 h0
 · intro x hx
   obtain ⟨y, hy, rfl⟩ := mapM_mem.1 hx
   by_cases hk : y.key = e'.key
   · simp only [hk, if_true]
     exact ⟨L', by rw [hkey]; exact hφk, hv', hc _ _ hF⟩
   · simp only [hk, if_false]
     obtain ⟨Ly, hLy, hvy, hcy⟩ := hm.ents y hy
     refine ⟨Ly, by rw [hφo _ (by rw [← hkey]; exact hk)]; exact hLy, hvy, ?_⟩
     cases hyc : y.cont with
     | dead => trivial
     | box cs =>
      rw [hyc] at hcy
      obtain ⟨g0, arr, elem, g1, g2, g3, g4⟩ := hcy
      refine ⟨by simpa using g0, arr, elem, g1, by simp [g2], g3, fun i c v hci hv => ?_⟩
      rw [List.getElem?_map] at hci
      obtain ⟨z, hz, rfl⟩ := Option.map_eq_some_iff.1 hci
      exact hav z v (g4 i z v hz hv)
     | vec sz rows =>
      rw [hyc] at hcy
      obtain ⟨g1, g2, g3, g4⟩ := hcy
      refine ⟨g1, g2, g3, fun h0 => ?_⟩
      obtain ⟨arr, elem, f1, f2, f3, f4⟩ := g4 h0
      exact ⟨arr, elem, f1, f2, f3, fun i d hd' => let ⟨v, hv, hj⟩ := f4 i d hd'; ⟨v, hv.mono (fun _ _ _ => rfl) (Nat.le_refl _) (fun b _ => hF b), hj⟩⟩
     | vv rows y =>
      rw [hyc] at hcy
      exact VRel.mono τ hcy (fun _ _ _ _ u hu => hu.mono (fun _ _ _ => rfl) (Nat.le_refl _) (fun b _ => hF b)) (fun x _ v hx => hav x v hx) (fun _ _ => rfl)
 · rintro x hx x' hx' Lx Lx' hLx hLx' ⟨b, ho, ho'⟩
   obtain ⟨y, hy, rfl⟩ := mapM_mem.1 hx
   obtain ⟨y', hy', rfl⟩ := mapM_mem.1 hx'
   have pull : ∀ {z : Ent} {Lz : Loc}, z ∈ S.mem → φ' (if z.key = e'.key then e' else ⟨z.key, z.ver, mapC τ z.cont⟩ : Ent).key = some Lz → (if z.key = e'.key then e' else ⟨z.key, z.ver, mapC τ z.cont⟩ : Ent).cont.owns Lz b →
    ∃ z0 ∈ S.mem, ∃ L0, φ z0.key = some L0 ∧ z0.cont.owns L0 b ∧ (if z.key = e'.key then e' else ⟨z.key, z.ver, mapC τ z.cont⟩ : Ent).key = z0.key := by
    intro z Lz hz hLz hoz
    by_cases hk : z.key = e'.key
    · simp only [hk, if_true] at hLz hoz ⊢
      rw [hkey, hφk] at hLz; cases hLz
      exact ⟨e, he, L, hL, hown b hoz, hkey⟩
    · simp only [hk, if_false] at hLz hoz ⊢
      rw [hkey] at hk
      rw [hφo _ hk] at hLz
      exact ⟨z, hz, Lz, hLz, mapC_owns.1 hoz, rfl⟩
   obtain ⟨z, hz, Lz, hLz, hoz, hkz⟩ := pull hy hLx ho
   obtain ⟨z', hz', Lz', hLz', hoz', hkz'⟩ := pull hy' hLx' ho'
   rw [hkz, hkz']
   exact hm.apart z hz z' hz' Lz Lz' hLz hLz' ⟨b, hoz, hoz'⟩
 · exact fun b hb => hm.notG b (hown' b hb)
 · exact hm.bound
mutual
def trAV (k v off len : Nat) : AV → AV
 | .vec k' v' o l => if k' = k ∧ v' = v ∧ off ≤ o ∧ o + l ≤ off + len then .vec k (v + 1) (o - off) l else .vec k' v' o l
 | .eptr k' v' i j => if k' = k ∧ v' = v ∧ off ≤ i then .eptr k (v + 1) (i - off) j else .eptr k' v' i j
 | .agg cs => .agg (trAVs k v off len cs)
 | .fn f cap => .fn f (trAVs k v off len cap)
 | .tup vs => .tup (trAVs k v off len vs)
 | .junk => .junk
 | .d x => .d x
 | .ptr a b c => .ptr a b c
 | .rptr x j => .rptr x j
 | .ifc t x => .ifc t x
 | .lit v => .lit v
 | .nn => .nn
 | .err => .err
def trAVs (k v off len : Nat) : List AV → List AV
 | [] => []
 | x :: r => trAV k v off len x :: trAVs k v off len r
end
theorem trAVs_get (k v off len) : ∀ (l : List AV) (i : Nat), (trAVs k v off len l)[i]? = (l[i]?).map (trAV k v off len)
 | [], i => by simp [trAVs]
 | x :: r, i => by cases i with | zero => simp [trAVs] | succ i => simp [trAVs, trAVs_get k v off len r i]
theorem trAVs_length (k v off len) : ∀ (l : List AV), (trAVs k v off len l).length = l.length
 | [] => rfl
 | x :: r => by simp [trAVs, trAVs_length k v off len r]
def St.trim (S : St) (k off len : Nat) : St :=
 match Mem.get S.mem k with
 | some ⟨_, v, .vec sz rows⟩ => if off + len ≤ rows.length then S.mapAll (trAV k v off len) ⟨k, v + 1, .vec sz ((rows.drop off).take len)⟩ else S
 | _ => S
theorem turn_trim (S : St) (k off len : Nat) : Turn S (S.trim k off len) := by
 unfold St.trim
 split
 · rename_i key v sz rows hg
   split
   · rename_i hle
     refine ⟨rfl, rfl, fun φ G a w hr => ?_⟩
     obtain ⟨hm, hk, L, hL, hver, hcr⟩ := hr.mem.get hg
     simp only at hk hver hcr
     subst hk
     obtain ⟨g1, g2, g3, g4⟩ := hcr
     refine turn_map hr (trAV key v off len) (e := ⟨key, v, .vec sz rows⟩) (e' := ⟨key, v + 1, .vec sz ((rows.drop off).take len)⟩) hm hL rfl (L' := ⟨v + 1, L.blk, L.sz, L.cap - off, L.base + off * L.sz, []⟩)
      (by simp only; omega) rfl (fun b ho => ⟨by have := ho.1; simp only at this; omega, ho.2⟩) ?_ ?_
     · intro φ' F' hφk hφo hF _ x u hx
       induction hx with
       | junk v => exact .junk v
       | d x v h => exact .d x v (h.mono (fun _ _ _ => rfl) (Nat.le_refl _) (fun b _ => hF b))
       | agg cs a hl h1 _ ih =>
        refine .agg _ a (by rw [trAVs_length]; exact hl) h1 (fun i c v hc hv => ?_)
        rw [trAVs_get] at hc
        obtain ⟨y, hy, rfl⟩ := Option.map_eq_some_iff.1 hc
        exact ih i y v hy hv
       | ptr k2 ver o v2 L2 hL2 hv2 h h1 =>
        unfold trAV
        by_cases hk2 : k2 = key
        · subst hk2
          rw [hL] at hL2; cases hL2
          exact .ptr _ ver o v2 _ hφk (by simp only; omega) (fun he => by simp only at he; omega) h1
        · exact .ptr k2 ver o v2 L2 (by rw [hφo _ hk2]; exact hL2) hv2 h h1
       | vec k2 ver o l v2 L2 hL2 hv2 h h1 =>
        unfold trAV
        split
        · rename_i hc
          obtain ⟨rfl, rfl, ho, hol⟩ := hc
          rw [hL] at hL2; cases hL2
          refine .vec _ _ _ l v2 _ hφk (Nat.le_refl _) (fun _ => ?_) h1
          obtain ⟨a0, cap, rfl, hlc, hpl⟩ := h hver.symm
          refine ⟨a0, cap, rfl, hlc, fun hc0 => ?_⟩
          obtain ⟨rfl, hcap⟩ := hpl hc0
          refine ⟨?_, by simp only; omega⟩
          congr 2
          show L.base + o * L.sz = L.base + off * L.sz + (o - off) * L.sz
          rw [Nat.add_assoc, ← Nat.add_mul]
          congr 2; omega
        · by_cases hk2 : k2 = key
          · subst hk2
            rw [hL] at hL2; cases hL2
            exact .vec _ ver o l v2 _ hφk (by simp only; omega) (fun he => by simp only at he; omega) h1
          · exact .vec k2 ver o l v2 L2 (by rw [hφo _ hk2]; exact hL2) hv2 h h1
       | eptr k2 ver i j v2 L2 hL2 hv2 h h1 =>
        unfold trAV
        split
        · rename_i hc
          obtain ⟨rfl, rfl, ho⟩ := hc
          rw [hL] at hL2; cases hL2
          refine .eptr _ _ _ j v2 _ hφk (Nat.le_refl _) (fun _ => ?_) h1
          rw [h hver.symm]
          congr 3
          show L.base + i * L.sz + j = L.base + off * L.sz + (i - off) * L.sz + j
          rw [Nat.add_assoc L.base (off * L.sz), ← Nat.add_mul]
          congr 3; omega
        · by_cases hk2 : k2 = key
          · subst hk2
            rw [hL] at hL2; cases hL2
            exact .eptr _ ver i j v2 _ hφk (by simp only; omega) (fun he => by simp only at he; omega) h1
          · exact .eptr k2 ver i j v2 L2 (by rw [hφo _ hk2]; exact hL2) hv2 h h1
       | rptr x j b o x' hb hFb hx hc => exact .rptr x j b o x' hb (fun h => hFb (hF b h)) (hx.mono (fun _ _ _ => rfl) (Nat.le_refl _) (fun b _ => hF b)) hc
       | fn f cap a hf hl _ ih =>
        refine .fn f _ a hf (by rw [trAVs_length]; exact hl) (fun i c v hc hv => ?_)
        rw [trAVs_get] at hc
        obtain ⟨y, hy, rfl⟩ := Option.map_eq_some_iff.1 hc
        exact ih i y v hy hv
       | bnd f cap a hl _ ih =>
        refine .bnd f _ a (by rw [trAVs_length]; exact hl) (fun i c v hc hv => ?_)
        rw [trAVs_get] at hc
        obtain ⟨y, hy, rfl⟩ := Option.map_eq_some_iff.1 hc
        exact ih i y v hy hv
       | tup vs a hl _ ih =>
        refine .tup _ a (by rw [trAVs_length]; exact hl) (fun i c v hc hv => ?_)
        rw [trAVs_get] at hc
        obtain ⟨y, hy, rfl⟩ := Option.map_eq_some_iff.1 hc
        exact ih i y v hy hv
       | ifc t x v h => exact .ifc t x v (h.mono (fun _ _ _ => rfl) (Nat.le_refl _) (fun b _ => hF b))
       | lit v h => exact .lit v h
       | nn a cap => exact .nn a cap
       | err t v => exact .err t v
     · intro φ' F' hF
       refine ⟨g1, by simp only [List.length_take, List.length_drop]; omega, fun d hd => g3 d (List.mem_of_mem_drop (List.mem_of_mem_take hd)), fun h0 => ?_⟩
       simp only at h0
       obtain ⟨arr, elem, f1, f2, f3, f4⟩ := g4 (by omega)
       refine ⟨arr, elem, f1, ?_, f3, fun i d hd => ?_⟩
       · rw [f2]
         show L.base + L.cap * L.sz = L.base + off * L.sz + (L.cap - off) * L.sz
         rw [Nat.add_assoc, ← Nat.add_mul]
         congr 2; omega
       · rw [List.getElem?_take] at hd
         split at hd
         · rw [List.getElem?_drop] at hd
           obtain ⟨v, hv, hj⟩ := f4 _ d hd
           refine ⟨v, hv.mono (fun _ _ _ => rfl) (Nat.le_refl _) (fun b _ => hF b), fun j c hjc => ?_⟩
           have := hj j c hjc
           rw [Nat.add_mul] at this
           rw [← Nat.add_assoc L.base] at this
           exact this
         · cases hd
   · exact Turn.refl S
 · exact Turn.refl S
mutual
def fzAV (k v : Nat) (rows : List D) : AV → AV
 | .vec k' v' o l => if k' = k ∧ v' = v ∧ o + l ≤ rows.length then .d (.list ((rows.drop o).take l)) else .vec k' v' o l
 | .agg cs => .agg (fzAVs k v rows cs)
 | .fn f cap => .fn f (fzAVs k v rows cap)
 | .tup vs => .tup (fzAVs k v rows vs)
 | .eptr a b c d => .eptr a b c d
 | .junk => .junk
 | .d x => .d x
 | .ptr a b c => .ptr a b c
 | .rptr x j => .rptr x j
 | .ifc t x => .ifc t x
 | .lit v => .lit v
 | .nn => .nn
 | .err => .err
def fzAVs (k v : Nat) (rows : List D) : List AV → List AV
 | [] => []
 | x :: r => fzAV k v rows x :: fzAVs k v rows r
end
theorem fzAVs_get (k v rows) : ∀ (l : List AV) (i : Nat), (fzAVs k v rows l)[i]? = (l[i]?).map (fzAV k v rows)
 | [], i => by simp [fzAVs]
 | x :: r, i => by cases i with | zero => simp [fzAVs] | succ i => simp [fzAVs, fzAVs_get k v rows r i]
theorem fzAVs_length (k v rows) : ∀ (l : List AV), (fzAVs k v rows l).length = l.length
 | [] => rfl
 | x :: r => by simp [fzAVs, fzAVs_length k v rows r]
def St.freeze (S : St) (k : Nat) : St :=
 match Mem.get S.mem k with
 | some ⟨_, v, .vec _ rows⟩ => S.mapAll (fzAV k v rows) ⟨k, v + 1, .dead⟩
 | _ => S
theorem turn_freeze (S : St) (k : Nat) : Turn S (S.freeze k) := by
 unfold St.freeze
 split
 · rename_i key v sz rows hg
   refine ⟨rfl, rfl, fun φ G a w hr => ?_⟩
   obtain ⟨hm, hk, L, hL, hver, hcr⟩ := hr.mem.get hg
   simp only at hk hver hcr
   subst hk
   refine turn_map hr (fzAV key v rows) (e := ⟨key, v, .vec sz rows⟩) (e' := ⟨key, v + 1, .dead⟩) hm hL rfl (L' := { L with ver := v + 1 })
    (by simp only; omega) rfl (fun _ ho => ho.elim) ?_ (fun _ _ _ => trivial)
   intro φ' F' hφk hφo hF hlost x u hx
   induction hx with
   | junk v => exact .junk v
   | d x v h => exact .d x v (h.mono (fun _ _ _ => rfl) (Nat.le_refl _) (fun b _ => hF b))
   | agg cs a hl h1 _ ih =>
    refine .agg _ a (by rw [fzAVs_length]; exact hl) h1 (fun i c v hc hv => ?_)
    rw [fzAVs_get] at hc
    obtain ⟨y, hy, rfl⟩ := Option.map_eq_some_iff.1 hc
    exact ih i y v hy hv
   | ptr k2 ver o v2 L2 hL2 hv2 h h1 =>
    unfold fzAV
    by_cases hk2 : k2 = key
    · subst hk2
      rw [hL] at hL2; cases hL2
      exact .ptr _ ver o v2 _ hφk (by simp only; omega) (fun he => by simp only at he; omega) h1
    · exact .ptr k2 ver o v2 L2 (by rw [hφo _ hk2]; exact hL2) hv2 h h1
   | vec k2 ver o l v2 L2 hL2 hv2 h h1 =>
    unfold fzAV
    split
    · rename_i hc
      obtain ⟨rfl, rfl, hol⟩ := hc
      rw [hL] at hL2; cases hL2
      exact .d _ _ (vec_list (.vec _ _ o l v2 L hL hv2 h h1) hL hver hcr hol hF (fun ho => hlost _ (fun hh => hh) ⟨ho, rfl⟩))
    · by_cases hk2 : k2 = key
      · subst hk2
        rw [hL] at hL2; cases hL2
        exact .vec _ ver o l v2 _ hφk (by simp only; omega) (fun he => by simp only at he; omega) h1
      · exact .vec k2 ver o l v2 L2 (by rw [hφo _ hk2]; exact hL2) hv2 h h1
   | eptr k2 ver i j v2 L2 hL2 hv2 h h1 =>
    unfold fzAV
    by_cases hk2 : k2 = key
    · subst hk2
      rw [hL] at hL2; cases hL2
      exact .eptr _ ver i j v2 _ hφk (by simp only; omega) (fun he => by simp only at he; omega) h1
    · exact .eptr k2 ver i j v2 L2 (by rw [hφo _ hk2]; exact hL2) hv2 h h1
   | rptr x j b o x' hb hFb hx hc => exact .rptr x j b o x' hb (fun h => hFb (hF b h)) (hx.mono (fun _ _ _ => rfl) (Nat.le_refl _) (fun b _ => hF b)) hc
   | fn f cap a hf hl _ ih =>
    refine .fn f _ a hf (by rw [fzAVs_length]; exact hl) (fun i c v hc hv => ?_)
    rw [fzAVs_get] at hc
    obtain ⟨y, hy, rfl⟩ := Option.map_eq_some_iff.1 hc
    exact ih i y v hy hv
   | bnd f cap a hl _ ih =>
    refine .bnd f _ a (by rw [fzAVs_length]; exact hl) (fun i c v hc hv => ?_)
    rw [fzAVs_get] at hc
    obtain ⟨y, hy, rfl⟩ := Option.map_eq_some_iff.1 hc
    exact ih i y v hy hv
   | tup vs a hl _ ih =>
    refine .tup _ a (by rw [fzAVs_length]; exact hl) (fun i c v hc hv => ?_)
    rw [fzAVs_get] at hc
    obtain ⟨y, hy, rfl⟩ := Option.map_eq_some_iff.1 hc
    exact ih i y v hy hv
   | ifc t x v h => exact .ifc t x v (h.mono (fun _ _ _ => rfl) (Nat.le_refl _) (fun b _ => hF b))
   | lit v h => exact .lit v h
   | nn a cap => exact .nn a cap
   | err t v => exact .err t v
 · exact Turn.refl S
def resOne (P : Program) (S : St) : ResultVar → Res
 | .tmp t => .val (S.opd (.tmp t)).1 (S.opd (.tmp t)).2
 | .cell p t => match loadR P S.mem t (S.opd (.tmp p)).2 with
  | .val c x => .val ((S.opd (.tmp p)).1 && c) x
  | _ => .no
def resAll (P : Program) (S : St) : List ResultVar → Option (Bool × List AV)
 | [] => some (true, [])
 | r :: rs => match resOne P S r with
  | .val c x => match resAll P S rs with
   | some (c', xs) => some (c && c', x :: xs)
   | none => none
  | _ => none
def oneOf : List AV → AV
 | [x] => x
 | xs => .tup xs
def resSem (tmps : Array Value) : ResultVar → Sem Value
 | .tmp t => pure (tmps.getD t undef)
 | .cell a t => do loadVar t (← asAddr (tmps.getD a undef))
theorem resOne_run {P : Program} {S : St} {r : ResultVar} {c : Bool} {x : AV} (h : resOne P S r = .val c x) (hc : c = true) {φ G a w} (hr : Rel φ G S a w) :
 ∃ v, (resSem a.tmps r).run P w = .ok v w ∧ AVRel φ w (Fo G φ S.mem) x v := by
 unfold resOne at h
 split at h
 · rename_i t
   simp only [Res.val.injEq] at h
   obtain ⟨rfl, rfl⟩ := h
   exact ⟨_, rfl, hr.opd (.tmp t) hc⟩
 · rename_i p t
   split at h
   · rename_i c' x' hl
     simp only [Res.val.injEq] at h
     obtain ⟨rfl, rfl⟩ := h
     simp only [Bool.and_eq_true] at hc
     have := load_ok P S { dst := none, op := .load t (.tmp p), type := 0, pos := "", after := #[], guard := none } t (.tmp p) rfl hc.1
     rw [hl] at this
     obtain ⟨v, hran, hav⟩ := this hc.2 φ G a w hr
     have hev : a.eval (.tmp p) = a.tmps.getD p undef := rfl
     simp only [execOp, Instr.loadAt, hev] at hran
     cases hpv : a.tmps.getD p undef with
     | pointer ad =>
      rw [hpv] at hran
      cases ad with
      | none => simp [Instr.sureAddr, stuck] at hran
      | some ad =>
       simp only [Instr.sureAddr, Sem.run_bind, Sem.run_pure, Result.andThen_ok] at hran
       generalize hq : (loadVar t ad).run P w = q at hran
       cases q with
       | halt _ _ => simp at hran
       | ok v2 w2 =>
        simp at hran
        obtain ⟨rfl, rfl⟩ := hran
        refine ⟨v2, ?_, hav⟩
        simp only [resSem, hpv, asAddr, Sem.run_bind, Sem.run_pure, Result.andThen_ok, hq]
     | _ => rw [hpv] at hran; simp [Instr.sureAddr, stuck] at hran
   · cases h
theorem resAll_run {P : Program} {S : St} {φ G a w} (hr : Rel φ G S a w) : ∀ (rs : List ResultVar) (c : Bool) (xs : List AV), resAll P S rs = some (c, xs) → c = true →
 ∃ vs : List Value, (rs.mapM (resSem a.tmps)).run P w = .ok vs w ∧ xs.length = vs.length ∧
  ∀ (i : Nat) x v, xs[i]? = some x → vs[i]? = some v → AVRel φ w (Fo G φ S.mem) x v
 | [], c, xs, h, _ => by
  simp only [resAll, Option.some.injEq, Prod.mk.injEq] at h
  obtain ⟨_, rfl⟩ := h
  exact ⟨[], by simp, rfl, by simp⟩
 | r :: rs, c, xs, h, hc => by
  simp only [resAll] at h
  split at h
  · rename_i c1 x hx
    split at h
    · rename_i c2 xs' hxs
      simp only [Option.some.injEq, Prod.mk.injEq] at h
      obtain ⟨rfl, rfl⟩ := h
      simp only [Bool.and_eq_true] at hc
      obtain ⟨v, h1, h2⟩ := resOne_run hx hc.1 hr
      obtain ⟨vs, h3, h4, h5⟩ := resAll_run (P := P) hr rs c2 xs' hxs hc.2
      refine ⟨v :: vs, ?_, by simp [h4], fun i x v h h' => ?_⟩
      · rw [List.mapM_cons]
        simp only [Sem.run_bind, h1, Result.andThen_ok, h3, Sem.run_pure]
      · cases i with
        | zero => simp at h h'; subst h; subst h'; exact h2
        | succ i => exact h5 i x v (by simpa using h) (by simpa using h')
    · cases h
  · cases h
mutual
def refAV (k v : Nat) : AV → Option (Nat × Nat)
 | .vec k' v' o l => if k' = k ∧ v' = v then some (o, l) else none
 | .agg cs => refAVs k v cs
 | .fn _ cap => refAVs k v cap
 | .tup vs => refAVs k v vs
 | .eptr _ _ _ _ => none
 | .junk => none
 | .d _ => none
 | .ptr _ _ _ => none
 | .rptr _ _ => none
 | .ifc _ _ => none
 | .lit _ => none
 | .nn => none
 | .err => none
def refAVs (k v : Nat) : List AV → Option (Nat × Nat)
 | [] => none
 | x :: r => match refAV k v x with
  | some p => some p
  | none => refAVs k v r
end
def refMem (k v : Nat) : Mem → Option (Nat × Nat)
 | [] => none
 | ⟨_, _, .box cs⟩ :: r => match refAVs k v cs with
  | some p => some p
  | none => refMem k v r
 | _ :: r => refMem k v r
def refEnv (k v : Nat) : Env → Option (Nat × Nat)
 | [] => none
 | (_, _, x) :: r => match refAV k v x with
  | some p => some p
  | none => refEnv k v r
def St.trim1 (S : St) (k : Nat) : St :=
 match Mem.get S.mem k with
 | some ⟨_, v, .vec _ _⟩ => match refMem k v S.mem with
  | some (o, l) => S.trim k o l
  | none => match refEnv k v S.env with
   | some (o, l) => S.trim k o l
   | none => S
 | _ => S
theorem turn_trim1 (S : St) (k : Nat) : Turn S (S.trim1 k) := by
 unfold St.trim1
 split
 · split
   · exact turn_trim ..
   · split
     · exact turn_trim ..
     · exact Turn.refl S
 · exact Turn.refl S
def St.trims (S : St) : List Nat → St
 | [] => S
 | k :: r => (S.trim1 k).trims r
theorem turn_trims : ∀ (l : List Nat) (S : St), Turn S (S.trims l)
 | [], S => Turn.refl S
 | k :: r, S => (turn_trim1 S k).trans (turn_trims r _)
mutual
def avKeys : AV → List Nat
 | .ptr k _ _ => [k]
 | .vec k _ _ _ => [k]
 | .eptr k _ _ _ => [k]
 | .agg cs => avsKeys cs
 | .fn _ cap => avsKeys cap
 | .tup vs => avsKeys vs
 | .junk => []
 | .d _ => []
 | .rptr _ _ => []
 | .ifc _ _ => []
 | .lit _ => []
 | .nn => []
 | .err => []
def avsKeys : List AV → List Nat
 | [] => []
 | x :: r => avKeys x ++ avsKeys r
end
def contKeys : Option Ent → List Nat
 | some ⟨_, _, .box cs⟩ => avsKeys cs
 | some ⟨_, _, .vv _ (some x)⟩ => avKeys x
 | _ => []
def collect (m : Mem) : Nat → List Nat → List Nat → List Nat
 | 0, _, acc => acc
 | _ + 1, [], acc => acc
 | n + 1, k :: todo, acc => match acc.contains k || (Mem.get m k).isNone with
  | true => collect m n todo acc
  | false => collect m n (todo ++ contKeys (Mem.get m k)) (acc ++ [k])
theorem collect_ok (m : Mem) : ∀ (n : Nat) (todo acc : List Nat), acc.Nodup → (∀ k ∈ acc, (Mem.get m k).isSome = true) → (collect m n todo acc).Nodup ∧ ∀ k ∈ collect m n todo acc, (Mem.get m k).isSome = true
 | 0, todo, acc, h, hs => ⟨h, hs⟩
 | n + 1, [], acc, h, hs => ⟨h, hs⟩
 | n + 1, k :: todo, acc, h, hs => by
  simp only [collect]
  split
  · exact collect_ok m n todo acc h hs
  · rename_i hc
    simp only [Bool.or_eq_false_iff, List.contains_eq_mem, decide_eq_false_iff_not, Option.isNone_eq_false_iff] at hc
    refine collect_ok m n _ _ ?_ ?_
    · rw [List.nodup_append]
      exact ⟨h, by simp, fun a ha b hb hab => by simp at hb; subst hb; subst hab; exact hc.1 ha⟩
    · intro x hx
      rcases List.mem_append.1 hx with hx | hx
      · exact hs x hx
      · simp at hx; subst hx; exact hc.2
def dead (k : Nat) : Ent := ⟨k, 0, .dead⟩
def Phi.add (φ : Phi) (ks : List Nat) : Phi := fun k => if k ∈ ks then some ⟨0, 0, 0, 0, 0, []⟩ else φ k
theorem own_add {φ : Phi} {m : Mem} {ks : List Nat} (hd : ∀ k ∈ ks, k ∉ m.map (·.key)) (b : Nat) : Own (φ.add ks) (m ++ ks.map dead) b ↔ Own φ m b := by
 constructor
 · rintro ⟨e, he, L, hL, ho⟩
   rcases List.mem_append.1 he with he | he
   · have : e.key ∉ ks := fun h => hd _ h (List.mem_map_of_mem he)
     simp only [Phi.add, this, if_false] at hL
     exact ⟨e, he, L, hL, ho⟩
   · simp only [List.mem_map] at he
     obtain ⟨k, _, rfl⟩ := he
     exact ho.elim
 · rintro ⟨e, he, L, hL, ho⟩
   have : e.key ∉ ks := fun h => hd _ h (List.mem_map_of_mem he)
   exact ⟨e, List.mem_append_left _ he, L, by simp [Phi.add, this, hL], ho⟩
theorem fo_add {φ : Phi} {G} {m : Mem} {ks : List Nat} (hd : ∀ k ∈ ks, k ∉ m.map (·.key)) : Fo G (φ.add ks) (m ++ ks.map dead) = Fo G φ m := by
 funext b; simp only [Fo, own_add hd b]
theorem le_add {φ : Phi} {G m w} (h : MemRel φ G m w) {ks : List Nat} (hd : ∀ k ∈ ks, k ∉ m.map (·.key)) : φ.le (φ.add ks) := by
 intro k L hL
 have : k ∉ ks := fun hk => hd k hk (h.dom k L hL)
 exact ⟨L, by simp [Phi.add, this, hL], Nat.le_refl _, fun _ => rfl⟩
theorem MemRel.add {φ G m w} (h : MemRel φ G m w) {ks : List Nat} (hn : ks.Nodup) (hd : ∀ k ∈ ks, k ∉ m.map (·.key)) : MemRel (φ.add ks) G (m ++ ks.map dead) w := by
 have hle := le_add h hd
 have hF := fo_add (φ := φ) (G := G) hd
 refine ⟨?_, ?_, ?_, ?_, ?_, h.bound⟩
 · rw [List.map_append, List.nodup_append]
   have e : (ks.map dead).map (·.key) = ks := by simp [Function.comp_def, dead]
   rw [e]
   exact ⟨h.nodup, hn, fun a ha b hb hab => hd b hb (hab ▸ ha)⟩
 · intro k L hL
   simp only [Phi.add] at hL
   split at hL
   · rename_i hk; rw [List.map_append]; refine List.mem_append_right _ ?_; rw [List.map_map]; exact List.mem_map.2 ⟨k, hk, rfl⟩
   · rw [List.map_append]; exact List.mem_append_left _ (h.dom k L hL)
 · intro e he
   rw [hF]
   rcases List.mem_append.1 he with he | he
   · obtain ⟨L, hL, hv, hc⟩ := h.ents e he
     have : e.key ∉ ks := fun h => hd _ h (List.mem_map_of_mem he)
     exact ⟨L, by simp [Phi.add, this, hL], hv, hc.mono hle (fun _ _ _ => rfl) (Nat.le_refl _) (fun _ _ h => h) (fun _ _ => rfl)⟩
   · simp only [List.mem_map] at he
     obtain ⟨k, hk, rfl⟩ := he
     exact ⟨⟨0, 0, 0, 0, 0, []⟩, by simp [Phi.add, dead, hk], rfl, trivial⟩
 · rintro e he e' he' L L' hL hL' ⟨b, ho, ho'⟩
   rcases List.mem_append.1 he with he | he
   · rcases List.mem_append.1 he' with he' | he'
     · have h1 : e.key ∉ ks := fun h => hd _ h (List.mem_map_of_mem he)
       have h2 : e'.key ∉ ks := fun h => hd _ h (List.mem_map_of_mem he')
       simp only [Phi.add, h1, h2, if_false] at hL hL'
       exact h.apart e he e' he' L L' hL hL' ⟨b, ho, ho'⟩
     · simp only [List.mem_map] at he'
       obtain ⟨k, _, rfl⟩ := he'
       exact ho'.elim
   · simp only [List.mem_map] at he
     obtain ⟨k, _, rfl⟩ := he
     exact ho.elim
 · intro b hb hG; exact h.notG b ((own_add hd b).1 hb) hG
def entryEnv : Nat → List AV → Env
 | _, [] => []
 | i, x :: r => (i, true, x) :: entryEnv (i + 1) r
theorem lk_entry : ∀ (i : Nat) (xs : List AV) (t : Nat) (y : Bool × AV), Env.lk (entryEnv i xs) t = some y → ∃ j, t = i + j ∧ xs[j]? = some y.2
 | i, [], t, y, h => by simp [entryEnv, Env.lk] at h
 | i, x :: r, t, y, h => by
  simp only [entryEnv, Env.lk] at h
  by_cases ht : i = t
  · subst ht; simp at h; subst h; exact ⟨0, rfl, rfl⟩
  · simp only [ht, if_false] at h
    obtain ⟨j, rfl, hj⟩ := lk_entry (i + 1) r t y h
    exact ⟨j + 1, by omega, by simpa using hj⟩
def inM : Nat → List Cont → Mem
 | _, [] => []
 | i, c :: r => ⟨i, 0, c⟩ :: inM (i + 1) r
theorem inM_mk : ∀ (cs : List Cont) (i : Nat), inM i cs = mkM i (cs.map fun c => (0, c))
 | [], i => rfl
 | c :: r, i => by simp [inM, mkM, inM_mk r]
def entry (n : Nat) (gl : List (Nat × D)) (args : List AV) (cs : List Cont) (sites : List Nat) : St := { n, gl, env := entryEnv 0 args, mem := inM 0 cs ++ sites.map dead }
def nvX (n0 : Nat) (i v : Nat) : Nat := if i < n0 then (if v = 0 then 0 else 1) else 0
structure FPol where
 inpl : List Nat
 exp : Bool
 sites : List Nat
 mut_ : List Nat
 split : Bool
def finKeys (p : FPol) (n0 : Nat) (m : Mem) (xs : List AV) : List Nat :=
 match p.exp with
 | true => List.range n0 ++ (collect m 64 (avsKeys xs ++ List.range n0) []).filter (fun k => !decide (k < n0))
 | false => List.range n0
def envVals : Env → List AV
 | [] => []
 | (_, _, x) :: r => x :: envVals r
def nrm : Bool → AV → AV
 | true, x => x
 | false, x => x.norm
theorem AVRel.nrm {b : Bool} {φ w F x v} (h : AVRel φ w F x v) : AVRel φ w F (nrm b x) v := by
 cases b
 · exact h.norm
 · exact h
def finOut (b : Bool) (K : List Nat) (n0 : Nat) (S : St) (one : List AV → Out) : Option (Out × List (Nat × Cont)) :=
 if K.all (fun k => (Mem.get S.mem k).isSome) then some (one ((envVals S.env).map fun x => nrm b (vw S.mem K (fun _ => true) (nvX n0) x)), selL S.mem K (fun _ => true) (nvX n0) 0 K) else none
def finTrim (p : FPol) (K : List Nat) (S : St) : St := S.trims (K.filter fun k => !p.inpl.contains k)
def finVals (p : FPol) (n0 : Nat) (S : St) (xs : List AV) (one : List AV → Out) : Option (Out × List (Nat × Cont)) :=
 let K := finKeys p n0 S.mem xs
 finOut (p.mut_.contains 1000) K n0 (finTrim p K { S with n := xs.length, env := entryEnv 0 xs }) one
def finish (P : Program) (p : FPol) (n0 : Nat) (rs : List ResultVar) (S : St) : Option (Out × List (Nat × Cont)) :=
 match resAll P S rs with
 | some (c, xs) => if c = true then finVals p n0 S xs (fun ys => .ret (oneOf ys)) else none
 | none => none
def finPanic (p : FPol) (n0 : Nat) (t : TypeId) (x : D) (S : St) : Option (Out × List (Nat × Cont)) := finVals p n0 S [] (fun _ => .panic t x)
def envTags : Env → List (Nat × Bool)
 | [] => []
 | (t, g, _) :: r => (t, g) :: envTags r
theorem mapEnv_tags (τ : AV → AV) : ∀ env : Env, envTags (mapEnv τ env) = envTags env
 | [] => rfl
 | (t, g, x) :: r => by simp [mapEnv, envTags, mapEnv_tags τ r]
theorem trim_tags (S : St) (k o l : Nat) : envTags (S.trim k o l).env = envTags S.env := by
 unfold St.trim
 split
 · split
   · exact mapEnv_tags _ _
   · rfl
 · rfl
theorem trim1_tags (S : St) (k : Nat) : envTags (S.trim1 k).env = envTags S.env := by
 unfold St.trim1
 split
 · split
   · exact trim_tags ..
   · split
     · exact trim_tags ..
     · rfl
 · rfl
theorem trims_tags : ∀ (l : List Nat) (S : St), envTags (S.trims l).env = envTags S.env
 | [], S => rfl
 | k :: r, S => by rw [St.trims, trims_tags r, trim1_tags]
theorem entry_tags : ∀ (i : Nat) (xs : List AV), envTags (entryEnv i xs) = (List.range' i xs.length).map fun j => (j, true)
 | i, [] => rfl
 | i, x :: r => by simp [entryEnv, envTags, entry_tags (i + 1) r, List.range'_succ]
theorem tags_lk : ∀ (env : Env) (i n j : Nat), envTags env = (List.range' i n).map (fun j => (j, true)) → ∀ x, (envVals env)[j]? = some x → Env.lk env (i + j) = some (true, x)
 | [], i, n, j, _, x, hx => by simp [envVals] at hx
 | (t, g, y) :: r, i, n, j, h, x, hx => by
  cases n with
  | zero => simp [envTags] at h
  | succ n =>
   simp only [envTags, List.range'_succ, List.map_cons, List.cons.injEq, Prod.mk.injEq] at h
   obtain ⟨⟨rfl, rfl⟩, h⟩ := h
   cases j with
   | zero => simp [envVals] at hx; subst hx; simp [Env.lk]
   | succ j =>
    have := tags_lk r (t + 1) n j h x (by simpa [envVals] using hx)
    simp only [Env.lk]
    rw [if_neg (by omega), show t + (j + 1) = t + 1 + j by omega]
    exact this
theorem envVals_length : ∀ env : Env, (envVals env).length = (envTags env).length
 | [] => rfl
 | (_, _, _) :: r => by simp [envVals, envTags, envVals_length r]
theorem finKeys_nodup (p : FPol) (n0 : Nat) (m : Mem) (xs : List AV) : (finKeys p n0 m xs).Nodup := by
 unfold finKeys
 split
 · rw [List.nodup_append]
   refine ⟨List.nodup_range, ((collect_ok m 64 _ [] List.nodup_nil (by simp)).1).filter _, fun a ha b hb hab => ?_⟩
   simp only [List.mem_range] at ha
   simp only [List.mem_filter, Bool.not_eq_true', decide_eq_false_iff_not] at hb
   omega
 · exact List.nodup_range
theorem finKeys_low (p : FPol) (n0 : Nat) (m : Mem) (xs : List AV) {k : Nat} (hk : k < n0) : (finKeys p n0 m xs)[k]? = some k := by
 unfold finKeys
 split
 · rw [List.getElem?_append_left (by simpa using hk)]; simp [hk]
 · simp [hk]
theorem finVals_ok {p : FPol} {n0 : Nat} {S : St} {xs : List AV} {one : List AV → Out} {out : Out} {l : List (Nat × Cont)} (h : finVals p n0 S xs one = some (out, l))
 {φ : Phi} {G : Fr} {w : World} (hm : MemRel φ G S.mem w) (hg : GlobRel w (Fo G φ S.mem) S.gl) {vs : List Value} (hl : xs.length = vs.length)
 (hx : ∀ (i : Nat) x v, xs[i]? = some x → vs[i]? = some v → AVRel φ w (Fo G φ S.mem) x v) {φ0 : Phi} {m0 : Mem} {w0 : World} (hk : Keeps φ0 m0 w0 φ S.mem w) (hdom : ∀ k L, φ0 k = some L → k < n0 ∧ L.ver = 0) :
 ∃ φ' ys, out = one ys ∧ MemRel φ' G (mkM 0 l) w ∧ Keeps φ0 m0 w0 φ' (mkM 0 l) w ∧ ys.length = vs.length ∧ (∀ (i : Nat) y v, ys[i]? = some y → vs[i]? = some v → AVRel φ' w (Fo G φ' (mkM 0 l)) y v) ∧
  ∀ b, Fo G φ' (mkM 0 l) b → Fo G φ S.mem b := by
 unfold finVals at h
 obtain ⟨K, hK⟩ : ∃ K, K = finKeys p n0 S.mem xs := ⟨_, rfl⟩
 have hKn : K.Nodup := by rw [hK]; exact finKeys_nodup ..
 have hKl : ∀ k, k < n0 → K[k]? = some k := fun k h => by rw [hK]; exact finKeys_low _ _ _ _ h
 simp only [← hK] at h
 clear hK
 have hr1 : Rel φ G { S with n := xs.length, env := entryEnv 0 xs } { tmps := vs.toArray, defers := G.dv } w := by
  refine ⟨by simp [hl], rfl, fun t x ht => ?_, hm, hg⟩
  obtain ⟨j, rfl, hj⟩ := lk_entry 0 xs t _ ht
  have hjl : j < vs.length := by rw [← hl]; exact (List.getElem?_eq_some_iff.1 hj).1
  have e : vs.toArray.getD (0 + j) undef = vs[j] := by simp [hjl]
  simp only [e]
  exact hx j x _ hj (by simp [hjl])
 obtain ⟨S2, hS2⟩ : ∃ S2, S2 = finTrim p K { S with n := xs.length, env := entryEnv 0 xs } := ⟨_, rfl⟩
 have ht : Turn { S with n := xs.length, env := entryEnv 0 xs } S2 := by rw [hS2]; exact turn_trims ..
 have htags : envTags S2.env = (List.range' 0 xs.length).map fun j => (j, true) := by
  rw [hS2, finTrim, trims_tags]; exact entry_tags 0 xs
 rw [← hS2] at h
 clear hS2
 obtain ⟨φ2, hr2, hk2⟩ := ht.2.2 φ G _ w hr1
 unfold finOut at h
 split at h
 · rename_i hall
   simp only [Option.some.injEq, Prod.mk.injEq] at h
   obtain ⟨rfl, rfl⟩ := h
   have hm2 := hr2.mem
   have hall' : ∀ k ∈ K, (Mem.get S2.mem k).isSome = true := by simpa using hall
   obtain ⟨s1, s2, s3⟩ := sel_mem (G1 := G) (ρ := K) (bor := fun _ => true) (nv := nvX n0) hm2 hKn hall' (fun b h => .inl h) (fun b h => hm2.notG b h.own)
    (fun k e L b hg _ _ hL ho => hm2.notG _ ⟨e, (Mem.get_mem hg).1, L, by rw [(Mem.get_mem hg).2]; exact hL, ho⟩)
   have hk02 := hk.trans hk2
   refine ⟨φ2.sel K (nvX n0), _, rfl, s1, ⟨?_, hk02.old, ?_, hk02.size, hk02.os, hk02.tape, hk02.output⟩, ?_, ?_, ?_⟩
   · intro k L hL
     obtain ⟨hkn, hver⟩ := hdom k L hL
     obtain ⟨L2, h1, h2, h3⟩ := hk02.le k L hL
     refine ⟨{ L2 with ver := nvX n0 k L2.ver }, by simp [Phi.sel, hKl k hkn, h1], by simp [hver], fun he => ?_⟩
     simp only [nvX, hkn, if_true, hver] at he
     split at he
     · rename_i h0
       have h4 := h3 (by rw [hver]; exact h0)
       have g1 := congrArg Loc.ver h4
       have g2 := congrArg Loc.blk h4
       have g3 := congrArg Loc.sz h4
       have g4 := congrArg Loc.cap h4
       have g5 := congrArg Loc.base h4
       simp only at g1 g2 g3 g4 g5 ⊢
       rw [g1, g2, g3, g4, g5]
       simp only [nvX, hkn, if_true, hver]
     · simp at he
   · intro b hb ho
     exact hk02.own b hb ((sel_own (φ := φ2) (nv := nvX n0) (bor := fun _ => true) hall' b).1 ho).own
   · rw [List.length_map, envVals_length, htags]; simp [hl]
   · intro i y v hy hv
     rw [List.getElem?_map] at hy
     obtain ⟨x, hx2, rfl⟩ := Option.map_eq_some_iff.1 hy
     have h5 := tags_lk S2.env 0 xs.length i htags x hx2
     rw [Nat.zero_add] at h5
     have h6 := hr2.env i x h5
     have e : vs.toArray.getD i undef = v := by simp [hv]
     simp only [e] at h6
     exact (s2 x v h6).nrm
   · intro b hb
     have h7 := s3 b hb
     rcases h7 with h7 | h7
     · exact .inl h7
     · rcases Nat.lt_or_ge b w.heap.size with h8 | h8
       · exact .inr (hk2.own b h8 h7)
       · exact absurd (hm2.own_lt h7) (by omega)
 · cases h
def keyTop : AV → List Nat
 | .ptr k _ _ => [k]
 | .vec k _ _ _ => [k]
 | .eptr k _ _ _ => [k]
 | _ => []
def keysTop (S : St) : List Operand → List Nat
 | [] => []
 | x :: r => keyTop (S.opd x).2 ++ keysTop S r
def topsOf (S : St) : Op → List Nat
 | .move _ => []
 | .assign _ => []
 | op => keysTop S op.operands.toList
def touch (S : St) (o : Oper) : List Nat := keyOf o :: topsOf S o.op
theorem keysTop_mem {S : St} : ∀ {l : List Operand} {x : Operand}, x ∈ l → ∀ k ∈ keyTop (S.opd x).2, k ∈ keysTop S l
 | [], x, h, _, _ => by simp at h
 | y :: r, x, h, k, hk => by
  simp only [keysTop, List.mem_append]
  rcases List.mem_cons.1 h with rfl | h
  · exact .inl hk
  · exact .inr (keysTop_mem h k hk)
section
variable {P : Program} {m m' : Mem}
theorem loadR_loc {t p} (h : ∀ k ∈ keyTop p, Mem.get m' k = Mem.get m k) : loadR P m' t p = loadR P m t p := by
 cases p <;> simp_all [loadR, keyTop]
theorem srcRows_loc {sz x} (h : ∀ k ∈ keyTop x, Mem.get m' k = Mem.get m k) : srcRows m' sz x = srcRows m sz x := by
 cases x with
 | vec k ver off len => simp only [srcRows, h k (by simp [keyTop])]
 | d x => cases x <;> rfl
 | lit v => unfold srcRows; split <;> simp_all
 | _ => rfl
theorem storeR_loc {t p x} (h : ∀ k ∈ keyTop p, Mem.get m' k = Mem.get m k) : storeR P m' t p x = storeR P m t p x := by
 cases p <;> simp_all [storeR, keyTop]
theorem fieldR_loc {s f p} (h : ∀ k ∈ keyTop p, Mem.get m' k = Mem.get m k) : fieldRm P m' s f p = fieldRm P m s f p := by
 cases p <;> simp_all [fieldRm, keyTop]
theorem nilCheckR_loc {p} (h : ∀ k ∈ keyTop p, Mem.get m' k = Mem.get m k) : nilCheckR m' p = nilCheckR m p := by
 cases p <;> simp_all [nilCheckR, keyTop]
theorem indexR_loc {t p i} (h : ∀ k ∈ keyTop p, Mem.get m' k = Mem.get m k) : indexR P m' t p i = indexR P m t p i := by
 cases p with
 | vec k ver off len => simp only [indexR, h k (by simp [keyTop])]
 | ptr k ver off => simp only [indexR, h k (by simp [keyTop])]
 | eptr k ver i j => simp only [indexR, h k (by simp [keyTop])]
 | d x => cases x <;> rfl
 | _ => rfl
theorem sliceR_loc {t p lo hi} (h : ∀ k ∈ keyTop p, Mem.get m' k = Mem.get m k) : sliceR P m' t p lo hi = sliceR P m t p lo hi := by
 cases p with
 | eptr k ver i j => simp only [sliceR, h k (by simp [keyTop])]
 | vec k ver off len => simp only [sliceR, h k (by simp [keyTop])]
 | ptr k ver off => simp only [sliceR, h k (by simp [keyTop])]
 | d x => cases x <;> rfl
 | _ => rfl
theorem boxR_loc {k c cs} (h : Mem.get m' k = Mem.get m k) : boxR m' k c cs = boxR m k c cs := by simp only [boxR, h]
theorem allocR_loc {k t} (h : Mem.get m' k = Mem.get m k) : allocR P m' k t = allocR P m k t := by simp only [allocR, arrR, boxR, h]
theorem convR_loc {k s d x} (h : Mem.get m' k = Mem.get m k) (hx : ∀ k ∈ keyTop x, Mem.get m' k = Mem.get m k) : convR P m' k s d x = convR P m k s d x := by
 have e := srcRows_loc (m := m) (m' := m') (sz := 1) hx
 cases htd : tk P d <;> cases x with
 | d x => cases x <;> simp only [convR, htd, e, h]
 | _ => simp only [convR, htd, e]
theorem convM_loc {k s d x} (h : Mem.get m' k = Mem.get m k) (hx : ∀ k ∈ keyTop x, Mem.get m' k = Mem.get m k) : convM P m' k s d x = convM P m k s d x := by
 have e := convR_loc (P := P) (s := s) (d := d) h hx
 cases x with
 | vec k1 ver off len => simp only [convM, e, hx k1 (by simp [keyTop])]
 | _ => simp only [convM, e]
theorem makeR_loc {k t l c} (h : Mem.get m' k = Mem.get m k) : makeR P m' k t l c = makeR P m k t l c := by simp only [makeR, h]
theorem buildSliceR_loc {k t n ps} (h : Mem.get m' k = Mem.get m k) : buildSliceR P m' k t n ps = buildSliceR P m k t n ps := by simp only [buildSliceR, buildSlice0, h]
theorem lenR_loc {t x} (h : ∀ k ∈ keyTop x, Mem.get m' k = Mem.get m k) : lenRm P m' t x = lenRm P m t x := by
 cases x with
 | vec k ver off len => simp only [lenRm, h k (by simp [keyTop])]
 | d x => cases x <;> rfl
 | lit v => unfold lenRm; split <;> simp_all
 | _ => rfl
theorem appV_loc {u sz by_ zd s x} (hs : ∀ k ∈ keyTop s, Mem.get m' k = Mem.get m k) (hx : ∀ k ∈ keyTop x, Mem.get m' k = Mem.get m k) : appV P m' u sz by_ zd s x = appV P m u sz by_ zd s x := by
 cases s with
 | vec k ver off len =>
  cases x with
  | vec kx vx ox lx =>
   match ox, lx with
   | 0, 1 => simp only [appV, hs k (by simp [keyTop]), hx kx (by simp [keyTop])]
   | 0, 0 => rfl
   | 0, _ + 2 => rfl
   | _ + 1, _ => rfl
  | _ => rfl
 | _ => rfl
theorem appV_key {P : Program} {m : Mem} {u : TypeId} {sz by_ : Nat} {zd : D} {s x : AV} {c : Bool} {k v off n : Nat} {e : Ent} (h : appV P m u sz by_ zd s x = .upd c (.vec k v off n) e) : k ∈ keyTop s := by
 unfold appV at h
 split at h
 · split at h
   · cases h; simp [keyTop]
   · cases h
 · cases h
theorem appR_loc {k t u s x} (h : Mem.get m' k = Mem.get m k) (hs : ∀ k ∈ keyTop s, Mem.get m' k = Mem.get m k) (hx : ∀ k ∈ keyTop x, Mem.get m' k = Mem.get m k) : appR P m' k t u s x = appR P m k t u s x := by
 unfold appR appSrc
 simp only [srcRows_loc hx, h, appV_loc hs hx]
 cases s with
 | vec k ver off len => simp only [hs k (by simp [keyTop])]
 | lit v =>
  cases v with
  | slice ao n c => cases ao <;> cases n <;> cases c <;> simp only
  | _ => rfl
 | _ => rfl
theorem appR_key {P : Program} {m : Mem} {k0 : Nat} {t u : TypeId} {s x : AV} {c : Bool} {k v off n : Nat} {e : Ent} (h : appR P m k0 t u s x = .upd c (.vec k v off n) e) : k = k0 ∨ k ∈ keyTop s := by
 unfold appR at h
 split at h
 · split at h
   · split at h
     · split at h
       · split at h
         · cases h; right; simp [keyTop]
         · cases h
       · split at h
         · cases h; left; rfl
         · cases h
       · cases h
     · exact .inr (appV_key h)
   · cases h
 · cases h
theorem fzApp_loc {P : Program} {m m' : Mem} {k t u s x} (h : Mem.get m' k = Mem.get m k) (hs : ∀ k ∈ keyTop s, Mem.get m' k = Mem.get m k) (hx : ∀ k ∈ keyTop x, Mem.get m' k = Mem.get m k) :
 fzRes m' (Mem.get m' k).isSome k (appR P m' k t u s x) = fzRes m (Mem.get m k).isSome k (appR P m k t u s x) := by
 rw [appR_loc h hs hx, h]
 unfold fzRes
 generalize hr : appR P m k t u s x = r
 split
 · rename_i c k1 v n k' v' sz rows
   have hk : Mem.get m' k1 = Mem.get m k1 := by
    rcases appR_key hr with rfl | hk
    · exact h
    · exact hs _ hk
   rw [hk]
 · rfl
theorem moveR_loc {k t x} (h : Mem.get m' k = Mem.get m k) : moveR P m' k t x = moveR P m k t x := by
 unfold moveR; simp only [h]
theorem nilR_loc {neg t x v} (h : ∀ k ∈ keyTop x, Mem.get m' k = Mem.get m k) : nilR P m' neg t x v = nilR P m neg t x v := by
 cases x with
 | vec k ver off len => unfold nilR; simp only [h k (by simp [keyTop])]
 | ptr k ver off => unfold nilR; simp only [h k (by simp [keyTop])]
 | d x => unfold nilR; cases x with
  | list xs => cases xs <;> rfl
  | _ => rfl
 | lit u => unfold nilR; cases u with
  | slice ao n c => cases ao <;> cases n <;> cases c <;> rfl
  | pointer a => cases a <;> rfl
  | _ => rfl
 | _ => rfl
theorem copyR_loc {t s x} (hs : ∀ k ∈ keyTop s, Mem.get m' k = Mem.get m k) (hx : ∀ k ∈ keyTop x, Mem.get m' k = Mem.get m k) : copyR P m' t s x = copyR P m t s x := by
 unfold copyR
 simp only [srcRows_loc hx]
 cases s with
 | vec k ver off len => simp only [hs k (by simp [keyTop])]
 | _ => rfl
end
theorem stepv_loc {P : Program} {S S' : St} {o : Oper} (hx : ∀ x ∈ o.op.operands.toList, S'.opd x = S.opd x) (hk : ∀ k ∈ touch S o, Mem.get S'.mem k = Mem.get S.mem k) : stepv P S' o = stepv P S o := by
 have hk0 : Mem.get S'.mem (keyOf o) = Mem.get S.mem (keyOf o) := hk _ (by simp [touch])
 have hkx : match o.op with
  | .move _ => True
  | .assign _ => True
  | op => ∀ x ∈ op.operands.toList, ∀ k ∈ keyTop (S.opd x).2, Mem.get S'.mem k = Mem.get S.mem k := by
  unfold touch at hk
  generalize o.op = op at hk
  cases op <;> first | trivial | exact fun x hxm k hkk => hk k (List.mem_cons_of_mem _ (keysTop_mem hxm k hkk))
 have mapE : ∀ (l : List Operand), (∀ x ∈ l, S'.opd x = S.opd x) → l.map (fun x => (S'.opd x).2) = l.map (fun x => (S.opd x).2) := fun l hl => List.map_congr_left (fun x hxm => by rw [hl x hxm])
 have mapE2 : ∀ (l : List (Nat × Operand)), (∀ x ∈ l, S'.opd x.2 = S.opd x.2) → l.map (fun x => (x.1, (S'.opd x.2).2)) = l.map (fun x => (x.1, (S.opd x.2).2)) := fun l hl => List.map_congr_left (fun x hxm => by rw [hl x hxm])
 unfold stepv
 generalize hop : o.op = op at hx hkx
 cases op with
 | move x => simp only [hx x (by simp [Op.operands]), moveR_loc hk0]
 | assign x => simp only [hx x (by simp [Op.operands]), moveR_loc hk0]
 | pick c a b => simp only [hx c (by simp [Op.operands]), hx a (by simp [Op.operands]), hx b (by simp [Op.operands])]
 | alloc t => simp only [allocR_loc hk0]
 | box t x => simp only [hx x (by simp [Op.operands]), boxR_loc hk0]
 | load t x => simp only [hx x (by simp [Op.operands]), loadR_loc (hkx x (by simp [Op.operands]))]
 | store t p x => simp only [hx x (by simp [Op.operands]), hx p (by simp [Op.operands]), storeR_loc (hkx p (by simp [Op.operands]))]
 | fieldAddr s x f => simp only [hx x (by simp [Op.operands]), fieldR_loc (hkx x (by simp [Op.operands]))]
 | nilCheck x => simp only [hx x (by simp [Op.operands]), nilCheckR_loc (hkx x (by simp [Op.operands]))]
 | indexAddr t x i => simp only [hx x (by simp [Op.operands]), hx i (by simp [Op.operands]), indexR_loc (hkx x (by simp [Op.operands]))]
 | index t x i => simp only [hx x (by simp [Op.operands]), hx i (by simp [Op.operands])]
 | slice t x lo hi mx =>
  cases mx with
  | none =>
   have hlo : lo.map (fun y => (S'.opd y).2) = lo.map (fun y => (S.opd y).2) := by cases lo with | none => rfl | some y => simp [hx y (by simp [Op.operands])]
   have hhi : hi.map (fun y => (S'.opd y).2) = hi.map (fun y => (S.opd y).2) := by cases hi with | none => rfl | some y => simp [hx y (by simp [Op.operands])]
   simp only [hx x (by simp [Op.operands]), hlo, hhi, sliceR_loc (hkx x (by simp [Op.operands]))]
  | some _ => rfl
 | binOp op t x y t' =>
  have e1 := hx x (by simp [Op.operands])
  have e2 := hx y (by simp [Op.operands])
  have hkk := hkx x (by simp [Op.operands])
  simp only
  unfold binOpR
  cases y with
  | const v => simp only [e1, nilR_loc hkk]; rfl
  | _ => simp only [e1, e2]
 | unOp op t x => simp only [hx x (by simp [Op.operands])]
 | convert s d x => simp only [hx x (by simp [Op.operands]), convM_loc hk0 (hkx x (by simp [Op.operands]))]
 | makeInterface t x => simp only [hx x (by simp [Op.operands])]
 | makeFunc f first cap => simp only [mapE cap.toList (fun x hxm => hx x (by simp [Op.operands]; right; simpa using hxm)), mapE first.toList (fun x hxm => hx x (by simp [Op.operands]; left; simpa using hxm))]
 | makeSlice t l c => simp only [hx l (by simp [Op.operands]), hx c (by simp [Op.operands]), makeR_loc hk0]
 | build t ps => simp only [mapE2 ps.toList (fun x hxm => hx x.2 (by simp only [Op.operands, List.toList_toArray, List.mem_map]; exact ⟨x, hxm, rfl⟩))]
 | buildSlice t n ps => simp only [mapE2 ps.toList (fun x hxm => hx x.2 (by simp only [Op.operands, List.toList_toArray, List.mem_map]; exact ⟨x, hxm, rfl⟩)), buildSliceR_loc hk0]
 | extract x i => simp only [hx x (by simp [Op.operands])]
 | field s x f => simp only [hx x (by simp [Op.operands])]
 | typeAssert x xt t ok => simp only [hx x (by simp [Op.operands])]
 | call c =>
  obtain ⟨callee, args, tys⟩ := c
  cases callee with
  | builtin b =>
   have ha : ∀ x ∈ args.toList, S'.opd x = S.opd x := fun x hxm => hx x (by simp [Op.operands, Call.operands]; simpa using hxm)
   have hka : ∀ x ∈ args.toList, ∀ k ∈ keyTop (S.opd x).2, Mem.get S'.mem k = Mem.get S.mem k := fun x hxm => hkx x (by simp [Op.operands, Call.operands]; simpa using hxm)
   simp only
   unfold builtinR
   have em := mapE args.toList ha
   generalize args.toList = al at ha hka em
   generalize tys.toList = tl
   split
   · rename_i x t; simp only [ha x (by simp), lenR_loc (hka x (by simp))]
   · rename_i s x t u; simp only [ha x (by simp), ha s (by simp), fzApp_loc hk0 (hka s (by simp)) (hka x (by simp))]
   · rename_i s x t u; simp only [ha x (by simp), ha s (by simp), copyR_loc (hka s (by simp)) (hka x (by simp))]
   · simp only [em]
   · simp only [em]
   · rename_i x t; simp only [ha x (by simp)]
   · rfl
  | _ => rfl
 | _ => rfl
end Go.Am
end

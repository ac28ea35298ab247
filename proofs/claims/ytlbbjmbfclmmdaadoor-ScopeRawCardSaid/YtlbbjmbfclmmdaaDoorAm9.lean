/-
  The abstract machine, part 9: operations on values.
-/
import Derived.Test.YtlbbjmbfclmmdaaDoorAm8
namespace Go.Am
open Go

/- Addresses of parts. -/
theorem run_fieldAt {P : Program} {s : TypeId} {f n b o : Nat} {w : World} (h : foff P s f = some n) : (Instr.fieldAt s (.pointer (some ⟨b, o, none⟩)) f).run P w = .ok (.pointer (some ⟨b, o + n, none⟩)) w := by
  unfold foff at h
  split at h
  · rename_i fs hu
    split at h
    · rename_i fl hf
      split at h
      · rename_i i hi
        split at h
        · cases h
        · rename_i hz
          simp at h
          subst h
          have hs : (sizeOf fl.type).run P w = .ok i.size w := run_sizeOf (by simp [tsz, hi])
          simp [Instr.fieldAt, run_underlying hu, hf, Instr.sureAddr, fieldPlace, hs, hz, add_none]
      · cases h
    · cases h
  · cases h

def fieldRm (P : Program) (m : Mem) (s : TypeId) (f : Nat) (p : AV) : Res :=
  match foff P s f with
  | some n => match p with
    | .ptr k ver off => match Mem.get m k with
      | some ⟨_, v, _⟩ => .val (v = ver) (.ptr k ver (off + n))
      | none => .no
    | .eptr k ver i j => match Mem.get m k with
      | some ⟨_, v, _⟩ => .val (v = ver) (.eptr k ver i (j + n))
      | none => .no
    | .rptr x j => .val True (.rptr x (j + n))
    | _ => .no
  | none => .no

theorem field_ok (P : Program) (S : St) (o : Oper) (s : TypeId) (x : Operand) (f : Nat) (ho : o.op = .fieldAddr s x f) (hx : (S.opd x).1 = true) : ResOk P S o (fieldRm P S.mem s f (S.opd x).2) := by
  unfold fieldRm
  split
  · rename_i n hn
    split
    · rename_i k ver off hp
      split
      · rename_i key v cont hg
        refine ResOk.pure ?_
        rintro rfl φ G a w hr
        have hv := hr.opd x hx
        rw [hp] at hv
        obtain ⟨hm, hk, L, hL, hver, _⟩ := hr.mem.get hg
        simp only at hver
        have e := hv.ptr_eq hL hver
        refine ⟨.pointer (some ⟨L.blk, off + n, none⟩), by simp [execOp, ho, e, run_fieldAt hn], .ptr k v _ _ L hL (by omega) (fun _ => rfl) rfl⟩
      · trivial
    · rename_i k ver i j hp
      split
      · rename_i key v cont hg
        refine ResOk.pure ?_
        rintro rfl φ G a w hr
        have hv := hr.opd x hx
        rw [hp] at hv
        obtain ⟨hm, hk, L, hL, hver, _⟩ := hr.mem.get hg
        simp only at hver
        have e := hv.eptr_eq hL hver
        refine ⟨.pointer (some ⟨L.blk, L.base + i * L.sz + j + n, none⟩), by simp [execOp, ho, e, run_fieldAt hn], .eptr k v _ _ _ L hL (by omega) (fun _ => by rw [Nat.add_assoc]) rfl⟩
      · trivial
    · rename_i d j hp
      refine ResOk.pure ?_
      rintro _ φ G a w hr
      have hv := hr.opd x hx
      rw [hp] at hv
      generalize hav : a.eval x = av at hv
      cases hv with
      | rptr _ _ b off x' hb hF hxr hc =>
        refine ⟨.pointer (some ⟨b, off + (j + n), none⟩), by simp [execOp, ho, hav, run_fieldAt hn, Nat.add_assoc], .rptr d (j + n) b off x' hb hF hxr hc⟩
    · trivial
  · trivial

def D.isInt : D → Option (IntKind × Int)
  | .int k n => some (k, n)
  | _ => none

theorem int_of {φ w F k n v} (h : AVRel φ w F (.d (.int k n)) v) : v = .int k n := by cases h with | d _ _ h => cases h; rfl
theorem bool_of {φ w F b v} (h : AVRel φ w F (.d (.bool b)) v) : v = .bool b := by cases h with | d _ _ h => cases h; rfl
theorem str_of {φ w F s v} (h : AVRel φ w F (.d (.str s)) v) : ∃ b : ByteArray, v = .string b ∧ b.data.toList = s := by cases h with | d _ _ h => cases h with | str b _ h => exact ⟨b, rfl, h⟩

theorem tk_arr {P : Program} {t : TypeId} {n e} (h : tk P t = .arr n e) : P.underlying t = some (.array n e) := by
  unfold tk at h
  split at h <;> simp_all
theorem tk_str {P : Program} {t : TypeId} (h : tk P t = .str) : P.underlying t = some .string := by
  unfold tk at h
  split at h <;> simp_all
theorem tk_bool {P : Program} {t : TypeId} (h : tk P t = .bool) : P.underlying t = some .bool := by
  unfold tk at h
  split at h <;> simp_all
theorem tk_int {P : Program} {t : TypeId} {k} (h : tk P t = .int k) : P.underlying t = some (.int k) := by
  unfold tk at h
  split at h <;> simp_all

/- x[i], its address. -/
def indexR (P : Program) (m : Mem) (t : TypeId) (p i : AV) : Res :=
  match i with
  | .d (.int _ n) => match tk P t with
    | .slice e => match tsz P e with
      | some sz => match p with
        | .d (.list xs) => .val (0 ≤ n ∧ n.toNat < xs.length ∧ (D.at xs n.toNat).size = sz) (.rptr (D.at xs n.toNat) 0)
        | .vec k ver off len => match Mem.get m k with
          | some ⟨_, v, .vec sz' _⟩ => .val (v = ver ∧ 0 ≤ n ∧ n.toNat < len ∧ sz' = sz) (.eptr k ver (off + n.toNat) 0)
          | _ => .no
        | _ => .no
      | none => .no
    | .arr len e => match tsz P e with
      | some sz => match p with
        | .ptr k ver off => match Mem.get m k with
          | some ⟨_, v, _⟩ => .val (v = ver ∧ 0 ≤ n ∧ n.toNat < len) (.ptr k ver (off + n.toNat * sz))
          | none => .no
        | .eptr k ver i j => match Mem.get m k with
          | some ⟨_, v, _⟩ => .val (v = ver ∧ 0 ≤ n ∧ n.toNat < len) (.eptr k ver i (j + n.toNat * sz))
          | none => .no
        | .rptr x j => .val (0 ≤ n ∧ n.toNat < len) (.rptr x (j + n.toNat * sz))
        | _ => .no
      | none => .no
    | _ => .no
  | _ => .no

theorem run_indexSlice {P : Program} {t e : TypeId} {sz b o len cap : Nat} {k : IntKind} {n : Int} {w : World} (ht : P.underlying t = some (.slice e)) (hs : tsz P e = some sz) (h0 : 0 ≤ n) (hl : n.toNat < len) :
    (Instr.indexAt t (.slice (some ⟨b, o, none⟩) len cap) (.int k n)).run P w = .ok (.pointer (some ⟨b, o + n.toNat * sz, none⟩)) w := by
  have hn : n < (len : Int) := by omega
  simp [Instr.indexAt, asIntOf, run_underlying ht, run_sizeOf hs, h0, hn, add_none]
theorem run_indexArr {P : Program} {t e : TypeId} {sz b o len : Nat} {k : IntKind} {n : Int} {w : World} (ht : P.underlying t = some (.array len e)) (hs : tsz P e = some sz) (h0 : 0 ≤ n) (hl : n.toNat < len) :
    (Instr.indexAt t (.pointer (some ⟨b, o, none⟩)) (.int k n)).run P w = .ok (.pointer (some ⟨b, o + n.toNat * sz, none⟩)) w := by
  have hn : n < (len : Int) := by omega
  simp [Instr.indexAt, Instr.sureAddr, asIntOf, run_underlying ht, run_sizeOf hs, h0, hn, add_none]

theorem list_at {w F xs b off cap len} (h : DRel w F (.list xs) (.slice (some ⟨b, off, none⟩) len cap)) {i sz : Nat} (hi : i < xs.length) (hs : (D.at xs i).size = sz) :
    len = xs.length ∧ b < w.heap.size ∧ ¬ F b ∧ ∃ v, DRel w F (D.at xs i) v ∧ ∀ (j : Nat) c, v.cells[j]? = some c → w.cell? ⟨b, off + i * sz + j, none⟩ = some c := by
  generalize hx : D.list xs = x at h
  generalize hv : Value.slice (some ⟨b, off, none⟩) len cap = v at h
  cases h with
  | nil a c => simp at hx; subst hx; simp at hi
  | list ys b' off' cap' sz' vs hcap hb hF hsz hvr hc =>
    simp at hx hv
    obtain ⟨⟨rfl, rfl⟩, rfl, rfl⟩ := hv
    subst hx
    have : sz' = sz := by rw [← hs, hsz _ (List.mem_of_getElem? (getD_at hi))]
    subst this
    exact ⟨rfl, hb, hF, vs i, hvr i _ (getD_at hi), fun j c hj => hc i j c hi hj⟩
  | _ => simp at hx

theorem list_addr {w F xs v} (h : DRel w F (.list xs) v) (hne : xs ≠ []) : ∃ b off cap, v = .slice (some ⟨b, off, none⟩) xs.length cap := by
  cases h with
  | nil a c => exact absurd rfl hne
  | list b off cap sz vs => exact ⟨_, _, _, rfl⟩

theorem index_ok (P : Program) (S : St) (o : Oper) (t : TypeId) (x i : Operand) (ho : o.op = .indexAddr t x i) (hx : (S.opd x).1 = true) (hi : (S.opd i).1 = true) : ResOk P S o (indexR P S.mem t (S.opd x).2 (S.opd i).2) := by
  unfold indexR
  split
  · rename_i kk n hiv
    have hie : ∀ {φ G a w}, Rel φ G S a w → a.eval i = .int kk n := fun hr => by
      have := hr.opd i hi
      rw [hiv] at this
      exact int_of this
    split
    · rename_i e hte
      have ht := tk_slice hte
      split
      · rename_i sz hs
        split
        · rename_i xs hp
          refine ResOk.pure ?_
          rintro ⟨h0, hl, hsz⟩ φ G a w hr
          have hv := hr.opd x hx
          rw [hp] at hv
          generalize hav : a.eval x = av at hv
          cases hv with
          | d _ _ h =>
            obtain ⟨b, off, cap, rfl⟩ := list_addr h (by intro hh; subst hh; simp at hl)
            obtain ⟨_, hb, hF, v, hv, hc⟩ := list_at h hl hsz
            refine ⟨_, by simp only [execOp, ho, hav, hie hr, Sem.run_bind, run_indexSlice ht hs h0 hl]; rfl, ?_⟩
            exact .rptr (D.at xs n.toNat) 0 b (off + n.toNat * sz) v hb hF hv hc
        · rename_i k ver off len hp
          split
          · rename_i key v sz' rows hg
            refine ResOk.pure ?_
            rintro ⟨rfl, h0, hl, rfl⟩ φ G a w hr
            have hv := hr.opd x hx
            rw [hp] at hv
            obtain ⟨hm, hk, L, hL, hver, hcr⟩ := hr.mem.get hg
            simp only at hver
            generalize hav : a.eval x = av at hv
            cases hv with
            | vec _ _ _ _ _ L' hL' _ h _ =>
              rw [hL] at hL'; cases hL'
              obtain ⟨ao, cap, rfl, hlc, hpl⟩ := h hver.symm
              clear h
              obtain ⟨rfl, hcapeq⟩ := hpl (by omega)
              refine ⟨_, by simp only [execOp, ho, hav, hie hr, Sem.run_bind, run_indexSlice ht hs h0 hl]; rfl, ?_⟩
              exact .eptr k v _ 0 _ L hL (by omega) (fun _ => by rw [hcr.1, Nat.add_mul, Nat.add_zero, Nat.add_assoc]) rfl
          · trivial
        · trivial
      · trivial
    · rename_i len e hte
      have ht := tk_arr hte
      split
      · rename_i sz hs
        split
        · rename_i k ver off hp
          split
          · rename_i key v cont hg
            refine ResOk.pure ?_
            rintro ⟨rfl, h0, hl⟩ φ G a w hr
            have hv := hr.opd x hx
            rw [hp] at hv
            obtain ⟨hm, hk, L, hL, hver, _⟩ := hr.mem.get hg
            simp only at hver
            have e := hv.ptr_eq hL hver
            refine ⟨_, by simp only [execOp, ho, e, hie hr, Sem.run_bind, run_indexArr ht hs h0 hl]; rfl, .ptr k v _ _ L hL (by omega) (fun _ => rfl) rfl⟩
          · trivial
        · rename_i k ver i' j hp
          split
          · rename_i key v cont hg
            refine ResOk.pure ?_
            rintro ⟨rfl, h0, hl⟩ φ G a w hr
            have hv := hr.opd x hx
            rw [hp] at hv
            obtain ⟨hm, hk, L, hL, hver, _⟩ := hr.mem.get hg
            simp only at hver
            have e := hv.eptr_eq hL hver
            refine ⟨_, by simp only [execOp, ho, e, hie hr, Sem.run_bind, run_indexArr ht hs h0 hl]; rfl, .eptr k v _ _ _ L hL (by omega) (fun _ => by rw [Nat.add_assoc]) rfl⟩
          · trivial
        · rename_i d j hp
          refine ResOk.pure ?_
          rintro ⟨h0, hl⟩ φ G a w hr
          have hv := hr.opd x hx
          rw [hp] at hv
          generalize hav : a.eval x = av at hv
          cases hv with
          | rptr _ _ b off x' hb hF hxr hc =>
            refine ⟨.pointer (some ⟨b, off + (j + n.toNat * sz), none⟩), by simp [execOp, ho, hav, hie hr, run_indexArr ht hs h0 hl, Nat.add_assoc], .rptr d _ b off x' hb hF hxr hc⟩
        · trivial
      · trivial
    · trivial
  · trivial
end Go.Am

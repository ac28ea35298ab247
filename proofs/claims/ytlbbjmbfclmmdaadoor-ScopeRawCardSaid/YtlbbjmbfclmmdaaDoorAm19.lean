/-
  The abstract machine, part 19: regions that draw their order.
-/
import Derived.Test.YtlbbjmbfclmmdaaDoorBm18
import Derived.Orders
namespace Go.Am
open Go

def keyTop : AV → List Nat
  | .ptr k _ _ => [k]
  | .vec k _ _ _ => [k]
  | .eptr k _ _ _ => [k]
  | _ => []
def keysTop (S : St) : List Operand → List Nat
  | [] => []
  | x :: r => keyTop (S.opd x).2 ++ keysTop S r
def touch (S : St) (o : Oper) : List Nat := keyOf o :: keysTop S o.op.operands.toList

theorem keysTop_mem {S : St} : ∀ {l : List Operand} {x : Operand}, x ∈ l → ∀ k ∈ keyTop (S.opd x).2, k ∈ keysTop S l
  | [], x, h, _, _ => by simp at h
  | y :: r, x, h, k, hk => by
    simp only [keysTop, List.mem_append]
    rcases List.mem_cons.1 h with rfl | h
    · exact .inl hk
    · exact .inr (keysTop_mem h k hk)

section
variable {P : Program} {m m' : Mem}
theorem loadR_loc {t p} (h : ∀ k ∈ keyTop p, Mem.get m' k = Mem.get m k) : loadR P m' t p = loadR P m t p := by
  cases p <;> simp_all [loadR, keyTop]
theorem srcRows_loc {sz x} (h : ∀ k ∈ keyTop x, Mem.get m' k = Mem.get m k) : srcRows m' sz x = srcRows m sz x := by
  cases x with
  | vec k ver off len => simp only [srcRows, h k (by simp [keyTop])]
  | d x => cases x <;> rfl
  | lit v => unfold srcRows; split <;> simp_all
  | _ => rfl
theorem storeR_loc {t p x} (h : ∀ k ∈ keyTop p, Mem.get m' k = Mem.get m k) : storeR P m' t p x = storeR P m t p x := by
  cases p <;> simp_all [storeR, keyTop]
theorem fieldR_loc {s f p} (h : ∀ k ∈ keyTop p, Mem.get m' k = Mem.get m k) : fieldRm P m' s f p = fieldRm P m s f p := by
  cases p <;> simp_all [fieldRm, keyTop]
theorem indexR_loc {t p i} (h : ∀ k ∈ keyTop p, Mem.get m' k = Mem.get m k) : indexR P m' t p i = indexR P m t p i := by
  cases p with
  | vec k ver off len => simp only [indexR, h k (by simp [keyTop])]
  | ptr k ver off => simp only [indexR, h k (by simp [keyTop])]
  | eptr k ver i j => simp only [indexR, h k (by simp [keyTop])]
  | d x => cases x <;> rfl
  | _ => rfl
theorem sliceR_loc {t p lo hi} (h : ∀ k ∈ keyTop p, Mem.get m' k = Mem.get m k) : sliceR P m' t p lo hi = sliceR P m t p lo hi := by
  cases p with
  | vec k ver off len => simp only [sliceR, h k (by simp [keyTop])]
  | d x => cases x <;> rfl
  | _ => rfl
theorem boxR_loc {k c cs} (h : Mem.get m' k = Mem.get m k) : boxR m' k c cs = boxR m k c cs := by simp only [boxR, h]
theorem convR_loc {k s d x} (h : Mem.get m' k = Mem.get m k) (hx : ∀ k ∈ keyTop x, Mem.get m' k = Mem.get m k) : convR P m' k s d x = convR P m k s d x := by
  have e := srcRows_loc (m := m) (m' := m') (sz := 1) hx
  cases htd : tk P d <;> cases x with
  | d x => cases x <;> simp only [convR, htd, e, h]
  | _ => simp only [convR, htd, e]
theorem makeR_loc {k t l c} (h : Mem.get m' k = Mem.get m k) : makeR P m' k t l c = makeR P m k t l c := by simp only [makeR, h]
theorem buildSliceR_loc {k t n ps} (h : Mem.get m' k = Mem.get m k) : buildSliceR P m' k t n ps = buildSliceR P m k t n ps := by simp only [buildSliceR, h]
theorem lenR_loc {t x} (h : ∀ k ∈ keyTop x, Mem.get m' k = Mem.get m k) : lenRm P m' t x = lenRm P m t x := by
  cases x with
  | vec k ver off len => simp only [lenRm, h k (by simp [keyTop])]
  | d x => cases x <;> rfl
  | lit v => unfold lenRm; split <;> simp_all
  | _ => rfl
theorem appR_loc {k t u s x} (h : Mem.get m' k = Mem.get m k) (hs : ∀ k ∈ keyTop s, Mem.get m' k = Mem.get m k) (hx : ∀ k ∈ keyTop x, Mem.get m' k = Mem.get m k) : appR P m' k t u s x = appR P m k t u s x := by
  unfold appR
  simp only [srcRows_loc hx, h]
  cases s with
  | vec k ver off len => simp only [hs k (by simp [keyTop])]
  | lit v =>
    cases v with
    | slice ao n c => cases ao <;> cases n <;> cases c <;> simp only
    | _ => rfl
  | _ => rfl
theorem moveR_loc {k t x} (h : Mem.get m' k = Mem.get m k) : moveR P m' k t x = moveR P m k t x := by
  unfold moveR; simp only [h]
theorem nilR_loc {neg t x v} (h : ∀ k ∈ keyTop x, Mem.get m' k = Mem.get m k) : nilR P m' neg t x v = nilR P m neg t x v := by
  cases x with
  | vec k ver off len => unfold nilR; simp only [h k (by simp [keyTop])]
  | ptr k ver off => unfold nilR; simp only [h k (by simp [keyTop])]
  | d x => unfold nilR; cases x with
    | list xs => cases xs <;> rfl
    | _ => rfl
  | lit u => unfold nilR; cases u with
    | slice ao n c => cases ao <;> cases n <;> cases c <;> rfl
    | pointer a => cases a <;> rfl
    | _ => rfl
  | _ => rfl
theorem copyR_loc {t s x} (hs : ∀ k ∈ keyTop s, Mem.get m' k = Mem.get m k) (hx : ∀ k ∈ keyTop x, Mem.get m' k = Mem.get m k) : copyR P m' t s x = copyR P m t s x := by
  unfold copyR
  simp only [srcRows_loc hx]
  cases s with
  | vec k ver off len => simp only [hs k (by simp [keyTop])]
  | _ => rfl
end

theorem stepv_loc {P : Program} {S S' : St} {o : Oper} (hx : ∀ x ∈ o.op.operands.toList, S'.opd x = S.opd x) (hk : ∀ k ∈ touch S o, Mem.get S'.mem k = Mem.get S.mem k) : stepv P S' o = stepv P S o := by
  have hk0 : Mem.get S'.mem (keyOf o) = Mem.get S.mem (keyOf o) := hk _ (by simp [touch])
  have hkx : ∀ x ∈ o.op.operands.toList, ∀ k ∈ keyTop (S.opd x).2, Mem.get S'.mem k = Mem.get S.mem k := fun x hxm k hkk => hk k (by simp only [touch, List.mem_cons]; exact .inr (keysTop_mem hxm k hkk))
  have mapE : ∀ (l : List Operand), (∀ x ∈ l, S'.opd x = S.opd x) → l.map (fun x => (S'.opd x).2) = l.map (fun x => (S.opd x).2) := fun l hl => List.map_congr_left (fun x hxm => by rw [hl x hxm])
  have mapE2 : ∀ (l : List (Nat × Operand)), (∀ x ∈ l, S'.opd x.2 = S.opd x.2) → l.map (fun x => (x.1, (S'.opd x.2).2)) = l.map (fun x => (x.1, (S.opd x.2).2)) := fun l hl => List.map_congr_left (fun x hxm => by rw [hl x hxm])
  unfold stepv
  generalize hop : o.op = op at hx hkx
  cases op with
  | move x => simp only [hx x (by simp [Op.operands]), moveR_loc hk0]
  | assign x => simp only [hx x (by simp [Op.operands]), moveR_loc hk0]
  | pick c a b => simp only [hx c (by simp [Op.operands]), hx a (by simp [Op.operands]), hx b (by simp [Op.operands])]
  | alloc t => simp only [boxR_loc hk0]
  | box t x => simp only [hx x (by simp [Op.operands]), boxR_loc hk0]
  | load t x => simp only [hx x (by simp [Op.operands]), loadR_loc (hkx x (by simp [Op.operands]))]
  | store t p x => simp only [hx x (by simp [Op.operands]), hx p (by simp [Op.operands]), storeR_loc (hkx p (by simp [Op.operands]))]
  | fieldAddr s x f => simp only [hx x (by simp [Op.operands]), fieldR_loc (hkx x (by simp [Op.operands]))]
  | indexAddr t x i => simp only [hx x (by simp [Op.operands]), hx i (by simp [Op.operands]), indexR_loc (hkx x (by simp [Op.operands]))]
  | index t x i => simp only [hx x (by simp [Op.operands]), hx i (by simp [Op.operands])]
  | slice t x lo hi mx =>
    cases mx with
    | none =>
      have hlo : lo.map (fun y => (S'.opd y).2) = lo.map (fun y => (S.opd y).2) := by cases lo with | none => rfl | some y => simp [hx y (by simp [Op.operands])]
      have hhi : hi.map (fun y => (S'.opd y).2) = hi.map (fun y => (S.opd y).2) := by cases hi with | none => rfl | some y => simp [hx y (by simp [Op.operands])]
      simp only [hx x (by simp [Op.operands]), hlo, hhi, sliceR_loc (hkx x (by simp [Op.operands]))]
    | some _ => rfl
  | binOp op t x y t' =>
    have e1 := hx x (by simp [Op.operands])
    have e2 := hx y (by simp [Op.operands])
    have hkk := hkx x (by simp [Op.operands])
    simp only
    unfold binOpR
    cases y with
    | const v => simp only [e1, nilR_loc hkk]; rfl
    | _ => simp only [e1, e2]
  | unOp op t x => simp only [hx x (by simp [Op.operands])]
  | convert s d x => simp only [hx x (by simp [Op.operands]), convR_loc hk0 (hkx x (by simp [Op.operands]))]
  | makeInterface t x => simp only [hx x (by simp [Op.operands])]
  | makeFunc f first cap => simp only [mapE cap.toList (fun x hxm => hx x (by simp [Op.operands]; right; simpa using hxm))]
  | makeSlice t l c => simp only [hx l (by simp [Op.operands]), hx c (by simp [Op.operands]), makeR_loc hk0]
  | build t ps => simp only [mapE2 ps.toList (fun x hxm => hx x.2 (by simp only [Op.operands, List.toList_toArray, List.mem_map]; exact ⟨x, hxm, rfl⟩))]
  | buildSlice t n ps => simp only [mapE2 ps.toList (fun x hxm => hx x.2 (by simp only [Op.operands, List.toList_toArray, List.mem_map]; exact ⟨x, hxm, rfl⟩)), buildSliceR_loc hk0]
  | extract x i => simp only [hx x (by simp [Op.operands])]
  | call c =>
    obtain ⟨callee, args, tys⟩ := c
    cases callee with
    | builtin b =>
      have ha : ∀ x ∈ args.toList, S'.opd x = S.opd x := fun x hxm => hx x (by simp [Op.operands, Call.operands]; simpa using hxm)
      have hka : ∀ x ∈ args.toList, ∀ k ∈ keyTop (S.opd x).2, Mem.get S'.mem k = Mem.get S.mem k := fun x hxm => hkx x (by simp [Op.operands, Call.operands]; simpa using hxm)
      simp only
      unfold builtinR
      have em := mapE args.toList ha
      generalize args.toList = al at ha hka em
      generalize tys.toList = tl
      split
      · rename_i x t; simp only [ha x (by simp), lenR_loc (hka x (by simp))]
      · rename_i s x t u; simp only [ha x (by simp), ha s (by simp), appR_loc hk0 (hka s (by simp)) (hka x (by simp))]
      · rename_i s x t u; simp only [ha x (by simp), ha s (by simp), copyR_loc (hka s (by simp)) (hka x (by simp))]
      · simp only [em]
      · simp only [em]
      · rfl
    | _ => rfl
  | _ => rfl
end Go.Am

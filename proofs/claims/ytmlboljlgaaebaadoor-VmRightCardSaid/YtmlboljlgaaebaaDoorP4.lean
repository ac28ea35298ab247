/-
  Texts of one proof, one behind the other.
-/
import Derived.Test.YtmlboljlgaaebaaDoorP3
import Derived.Test.YtmlboljlgaaebaaDoorProg
import Derived.KernelRfl
import Derived.Lib.Bytealg
import Derived.Lib.Index
import Derived.Lib.Strings
set_option linter.all false
section
namespace Go.Am
open Go

abbrev Ans := Option (Out × List (Nat × Cont))
abbrev Kt := XE → St → Ans

noncomputable def denK (X : Ctx) (f : FuncId) (c : Code) (S : St) (k : Kt) : Ans := (denT X f c S).bind fun p => k p.1 p.2
noncomputable def runK (X : Ctx) (md : Bool) (all ops : List Oper) (S : St) (k : Kt) : Ans := (runOps X (callT X) md all ops S).bind fun p => k p.1 p.2
noncomputable def drwK (X : Ctx) (md : Bool) (nd : List (List Nat)) (all ops : List Oper) (S : St) (acc : List Stp) (k : Kt) : Ans := (drwOps X (callT X) md nd all ops S acc).bind fun p => k p.1 p.2

noncomputable def seqK (X : Ctx) (f : FuncId) (b : Code) (k : Kt) : Kt
  | .normal, S => denK X f b S k
  | e, S => k e S
def blkK (id : Nat) (k : Kt) : Kt
  | .exit id', S => if id' = id then k .normal S else k (.exit id') S
  | e, S => k e S
noncomputable def loopK (X : Ctx) (f : FuncId) (c : Code) (k : Kt) : Kt
  | .normal, S => denK X f (.loop c) S k
  | e, S => k e S
def leaveK (X : Ctx) (f : FuncId) (id : Nat) (k : Kt) : Kt
  | .normal, S => k .normal (S.leave X f id)
  | e, S => k e S
def finK (P : Program) (p : FPol) (n0 : Nat) (rs : List ResultVar) : Kt
  | .normal, S => finish P p n0 rs S
  | .ret, S => finish P p n0 rs S
  | .panic t x, S => finPanic p n0 t x S
  | .exit _, _ => none

def isB : Bool × AV → Bool
  | (true, .d (.bool _)) => true
  | _ => false
def boolOf : Bool × AV → Bool
  | (_, .d (.bool b)) => b
  | _ => false

/-- What is known of a slot's truth, in its place. -/
def Env.kn : Env → Nat → Bool → Env
  | [], _, _ => []
  | (t, x) :: r, c, b => if t = c then (t, true, .d (.bool b)) :: r else (t, x) :: Env.kn r c b
def St.kn (S : St) (c : Nat) (b : Bool) : St := { S with env := Env.kn S.env c b }

section
variable {X : Ctx} {f : FuncId} {S : St} {k : Kt}

theorem andThen_bind (r : Option (XE × St)) (g : St → Option (XE × St)) : (andThen r g).bind (fun p => k p.1 p.2) = r.bind fun p => match p with
    | (.normal, S) => (g S).bind fun p => k p.1 p.2
    | (e, S) => k e S := by
  rcases r with _ | ⟨e, S⟩
  · rfl
  · cases e <;> rfl

theorem denK_skip : denK X f .skip S k = k .normal S := by simp only [denK, denT_skip, Option.bind_some]
theorem denK_exit {id : Nat} : denK X f (.exit id) S k = k (.exit id) S := by simp only [denK, denT_exit, Option.bind_some]
theorem denK_ret : denK X f .ret S k = k .ret S := by simp only [denK, denT_ret, Option.bind_some]
theorem denK_seq {a b : Code} : denK X f (.seq a b) S k = denK X f a S (seqK X f b k) := by
  simp only [denK, denT_seq, andThen_bind]
  congr 1
  funext p
  obtain ⟨e, S⟩ := p
  cases e <;> rfl
theorem denK_loop {c : Code} : denK X f (.loop c) S k = denK X f c S (loopK X f c k) := by
  rw [denK, denT_loop, andThen_bind, denK]
  congr 1
  funext p
  obtain ⟨e, S⟩ := p
  cases e <;> rfl
theorem denK_block {id : Nat} {c : Code} : denK X f (.block id c) S k = denK X f c S (blkK id k) := by
  simp only [denK, denT_block]
  rcases denT X f c S with _ | ⟨e, S⟩
  · rfl
  · cases e with
    | exit id' =>
      simp only [inBlk, Option.bind_some, blkK]
      split <;> rfl
    | _ => rfl
theorem denK_cond {c : Operand} {a b : Code} : denK X f (.cond c a b) S k = if isB (S.opd c) = true then (if boolOf (S.opd c) = true then denK X f a S k else denK X f b S k) else none := by
  simp only [denK, denT_cond]
  generalize S.opd c = v
  obtain ⟨g, x⟩ := v
  cases g with
  | false => rfl
  | true =>
    cases x with
    | d x =>
      cases x with
      | bool t => cases t <;> rfl
      | _ => rfl
    | _ => rfl
theorem kn_eq {b : Bool} : ∀ {env : Env} {c : Nat}, Env.lk env c = some (true, .d (.bool b)) → Env.kn env c b = env
  | [], c, h => by cases h
  | (t, x) :: r, c, h => by
    simp only [Env.lk] at h
    simp only [Env.kn]
    split
    · rename_i ht
      rw [if_pos ht] at h
      cases h; rfl
    · rename_i ht
      rw [if_neg ht] at h
      rw [kn_eq h]
theorem opd_lk {c : Tmp} {b : Bool} (h : S.opd (.tmp c) = (true, .d (.bool b))) : Env.lk S.env c = some (true, .d (.bool b)) := by
  simp only [St.opd] at h
  cases hl : Env.lk S.env c with
  | none => rw [hl] at h; simp at h
  | some x => rw [hl] at h; simp only [Option.getD_some] at h; rw [h]
theorem denK_condT {c : Tmp} {a b : Code} : denK X f (.cond (.tmp c) a b) S k = if isB (S.opd (.tmp c)) = true then (if boolOf (S.opd (.tmp c)) = true then denK X f a (S.kn c true) k else denK X f b (S.kn c false) k) else none := by
  rw [denK_cond]
  generalize hv : S.opd (.tmp c) = v
  obtain ⟨g, x⟩ := v
  cases g with
  | false => rfl
  | true =>
    cases x with
    | d x =>
      cases x with
      | bool t =>
        have : S.kn c t = S := by
          unfold St.kn
          rw [kn_eq (opd_lk hv)]
        cases t with
        | true => rw [this]; rfl
        | false => rw [this]; rfl
      | _ => rfl
    | _ => rfl
theorem denK_condC {v : Value} {a b : Code} : denK X f (.cond (.const v) a b) S k = if isB (S.opd (.const v)) = true then (if boolOf (S.opd (.const v)) = true then denK X f a S k else denK X f b S k) else none := denK_cond
theorem denK_region {id : Nat} {l : List Oper} : denK X f (.region id ⟨l⟩ false) S k = runK X (X.md f id) l l S (leaveK X f id k) := by
  simp only [denK, denT_region, runK]
  rcases runOps X (callT X) (X.md f id) l l S with _ | ⟨e, S⟩
  · rfl
  · cases e <;> rfl
noncomputable def drwKA (X : Ctx) (md : Bool) (nd : List (List Nat)) (l : List Oper) (S : St) (k : Kt) : List (Nat × Nat) → Ans
  | [] => drwK X md nd l l S [] k
  | q :: r => (drwE X (callT X) md nd l S (ents S.mem (q :: r))).bind fun p => k p.1 p.2
theorem denK_draw {id : Nat} {l : List Oper} : denK X f (.region id ⟨l⟩ true) S k = drwKA X (X.md f id) (X.od f id) l S (leaveK X f id k) (X.fl f id) := by
  simp only [denK, denT_draw]
  cases X.fl f id with
  | nil =>
    simp only [drwA, drwKA, drwK]
    rcases drwOps X (callT X) (X.md f id) (X.od f id) l l S [] with _ | ⟨e, S⟩
    · rfl
    · cases e <;> rfl
  | cons q r =>
    simp only [drwA, drwKA]
    rcases drwE X (callT X) (X.md f id) (X.od f id) l S (ents S.mem (q :: r)) with _ | ⟨e, S⟩
    · rfl
    · cases e <;> rfl
/-- A region of which some cells of boxes stay: step by step. -/
noncomputable def drwKI (X : Ctx) (md : Bool) (nd : List (List Nat)) (LI : List Cl) (all ops : List Oper) (S : St) (acc : List Stp) (k : Kt) : Ans := (drwI X (callT X) md nd LI all ops S acc).bind fun p => k p.1 p.2
noncomputable def drwKT (X : Ctx) (md : Bool) (nd : List (List Nat)) (LI : List Cl) (all r : List Oper) (acc : List Stp) (k : Kt) : Option (St × Stp) → Ans
  | some (S, p) => drwKI X md nd LI all r S (p :: acc) k
  | none => none
theorem drwKA_n {md : Bool} {nd : List (List Nat)} {l : List Oper} : drwKA X md nd l S k [] = drwK X md nd l l S [] k := rfl
noncomputable def drwKE (X : Ctx) (md : Bool) (nd : List (List Nat)) (l : List Oper) (S : St) (k : Kt) : Option (List Cl) → Ans
  | some LI => drwKI X md nd LI l l S [] k
  | none => none
theorem drwKA_c {md : Bool} {nd : List (List Nat)} {l : List Oper} {q : Nat × Nat} {r : List (Nat × Nat)} : drwKA X md nd l S k (q :: r) = drwKE X md nd l S k (ents S.mem (q :: r)) := by
  simp only [drwKA]
  cases ents S.mem (q :: r) <;> rfl
theorem drwKI_cons {md : Bool} {nd : List (List Nat)} {LI : List Cl} {all r : List Oper} {o : Oper} {acc : List Stp} : drwKI X md nd LI all (o :: r) S acc k = drwKT X md nd LI all r acc k (stepI X (callT X) md LI all S o (lookI X.P LI S o)) := by
  simp only [drwKI, drwI]
  rcases stepI X (callT X) md LI all S o (lookI X.P LI S o) with _ | ⟨S1, p⟩ <;> rfl

theorem seqK_n {b : Code} : seqK X f b k .normal S = denK X f b S k := rfl
theorem seqK_x {b : Code} {id : Nat} : seqK X f b k (.exit id) S = k (.exit id) S := rfl
theorem seqK_r {b : Code} : seqK X f b k .ret S = k .ret S := rfl
theorem seqK_p {b : Code} {t : TypeId} {x : D} : seqK X f b k (.panic t x) S = k (.panic t x) S := rfl
theorem blkK_n {id : Nat} : blkK id k .normal S = k .normal S := rfl
theorem blkK_x {id id' : Nat} : blkK id k (.exit id') S = if id' = id then k .normal S else k (.exit id') S := rfl
theorem blkK_r {id : Nat} : blkK id k .ret S = k .ret S := rfl
theorem blkK_p {id : Nat} {t : TypeId} {x : D} : blkK id k (.panic t x) S = k (.panic t x) S := rfl
theorem loopK_n {c : Code} : loopK X f c k .normal S = denK X f (.loop c) S k := rfl
theorem loopK_x {c : Code} {id : Nat} : loopK X f c k (.exit id) S = k (.exit id) S := rfl
theorem loopK_r {c : Code} : loopK X f c k .ret S = k .ret S := rfl
theorem loopK_p {c : Code} {t : TypeId} {x : D} : loopK X f c k (.panic t x) S = k (.panic t x) S := rfl
theorem leaveK_n {id : Nat} : leaveK X f id k .normal S = k .normal (S.leave X f id) := rfl
theorem leaveK_p {id : Nat} {t : TypeId} {x : D} : leaveK X f id k (.panic t x) S = k (.panic t x) S := rfl
theorem finK_n {P : Program} {p : FPol} {n0 : Nat} {rs : List ResultVar} : finK P p n0 rs .normal S = finish P p n0 rs S := rfl
theorem finK_r {P : Program} {p : FPol} {n0 : Nat} {rs : List ResultVar} : finK P p n0 rs .ret S = finish P p n0 rs S := rfl
theorem finK_p {P : Program} {p : FPol} {n0 : Nat} {rs : List ResultVar} {t : TypeId} {x : D} : finK P p n0 rs (.panic t x) S = finPanic p n0 t x S := rfl
end

/- Operations. -/
def gdst (all : List Oper) (o : Oper) : Option Nat :=
  match o.guard with
  | some (j, _) => dstAt all j
  | none => none
noncomputable def callK (X : Ctx) (md : Bool) (S : St) (d : Option Nat) (all r : List Oper) (k : Kt) : Option CRes → Ans
  | some ⟨.ret x, es, _⟩ => runK X md all r (({ S with mem := putAll S.mem es } : St).put d true x) k
  | some ⟨.panic t x, es, _⟩ => k (.panic t x) { S with mem := putAll S.mem es }
  | none => none
def panicK (S : St) (k : Kt) : Bool × AV → Ans
  | (true, .ifc t d) => k (.panic t d) S
  | _ => none
noncomputable def specK (X : Ctx) (md : Bool) (S : St) (o : Oper) (all r : List Oper) (k : Kt) : Op → Ans
  | .call { callee := .value fv, args, .. } => callK X md S o.dst all r k (callVal X (callT X) S o args.toList (S.opd fv))
  | .panic x => panicK S k (S.opd x)
  | _ => none
noncomputable def stepK (X : Ctx) (md : Bool) (S : St) (o : Oper) (all r : List Oper) (k : Kt) : Res → Ans
  | .val c x => if (opOk S o && c) = true then runK X md all r (S.put o.dst true x) k else none
  | .upd c x e => if (opOk S o && c) = true then runK X md all r (({ S with mem := Mem.set S.mem e } : St).put o.dst true x) k else none
  | .no => specK X md S o all r k o.op
noncomputable def guardK (X : Ctx) (md : Bool) (S : St) (o : Oper) (all r : List Oper) (k : Kt) (b : Bool) : Res → Ans
  | .val c x => if b = true → (opOk S o && c) = true then runK X md all r (S.put o.dst b x) k else none
  | .upd c x e => if b = true then stepK X md S o all r k (.upd c x e) else runK X md all r (S.put o.dst true .junk) k
  | .no => if b = true then specK X md S o all r k o.op else runK X md all r (S.put o.dst true .junk) k
noncomputable def forkK (X : Ctx) (S : St) (o : Oper) (all r : List Oper) (k : Kt) (want t : Bool) : Bool → Ans
  | false => guardK X false S o all r k (t == want) (stepv X.P S o)
  | true => if (t == want) = true then stepK X true (S.cz (gdst all o) want) o all r k (stepv X.P (S.cz (gdst all o) want) o) else runK X true all r ((S.cz (gdst all o) (!want)).put o.dst true (.tup [])) k
noncomputable def grdK (X : Ctx) (md : Bool) (S : St) (o : Oper) (all r : List Oper) (k : Kt) (want : Bool) : GV → Ans
  | .tru t => forkK X S o all r k want t md
  | .skip => runK X md all r (S.put o.dst true (.tup [])) k
  | .bad => none

section
variable {X : Ctx} {f : FuncId} {S : St} {k : Kt} {all r : List Oper} {md : Bool}

theorem stepK_eq (o : Oper) (res : Res) : (andThen (stepOp X (callT X) S o res) (runOps X (callT X) md all r)).bind (fun p => k p.1 p.2) = stepK X md S o all r k res := by
  cases res with
  | val c x => simp only [stepOp, stepK]; split <;> rfl
  | upd c x e => simp only [stepOp, stepK]; split <;> rfl
  | no =>
    simp only [stepOp, stepK, specOp]
    split
    · rename_i fv args tys ho
      rw [ho]
      simp only [specK]
      rcases callVal X (callT X) S o args.toList (S.opd fv) with _ | ⟨out, es, ks⟩
      · rfl
      · cases out <;> rfl
    · rename_i x ho
      rw [ho]
      simp only [specK]
      generalize S.opd x = v
      obtain ⟨g, y⟩ := v
      cases g <;> cases y <;> rfl
    · rename_i h1 h2
      unfold specK
      split
      · rename_i heq; exact absurd heq (h1 _ _ _)
      · rename_i heq; exact absurd heq (h2 _)
      · rfl

theorem runK_nil : runK X md all [] S k = k .normal S := rfl
theorem runK_cons {d : Option Tmp} {op : Op} {ty : TypeId} {pos : String} {af : Array Edge} : runK X md all (⟨d, op, ty, pos, af, none⟩ :: r) S k = stepK X md S ⟨d, op, ty, pos, af, none⟩ all r k (stepv X.P S ⟨d, op, ty, pos, af, none⟩) :=
  stepK_eq _ _
theorem runK_guard {d : Option Tmp} {op : Op} {ty : TypeId} {pos : String} {af : Array Edge} {j : Nat} {w : Bool} : runK X md all (⟨d, op, ty, pos, af, some (j, w)⟩ :: r) S k = grdK X md S ⟨d, op, ty, pos, af, some (j, w)⟩ all r k w (gval (grd all S j)) := by
  simp only [runK, runOps, gstep]
  generalize gval (grd all S j) = g
  cases g with
  | skip => rfl
  | bad => rfl
  | tru t =>
    simp only [grdK]
    cases md with
    | true =>
      simp only [forkK, gdst]
      split
      · exact stepK_eq _ _
      · rfl
    | false =>
    simp only [forkK]
    generalize hs : stepv X.P S _ = res
    cases res with
    | val c x => simp only [guardOp, guardK]; split <;> rfl
    | upd c x e =>
      simp only [guardOp, guardK]
      split
      · exact stepK_eq _ (.upd c x e)
      · rfl
    | no =>
      simp only [guardOp, guardK]
      split
      · exact stepK_eq _ .no
      · rfl

theorem callK_ite {d : Option Nat} {c : Prop} [Decidable c] {a b : Option CRes} : callK X md S d all r k (if c then a else b) = if c then callK X md S d all r k a else callK X md S d all r k b := by split <;> rfl
end
theorem callBack_ite {m : Mem} {k0 : Nat} {ρ B : List Nat} {c : Prop} [Decidable c] {a b : Option (Out × List (Nat × Cont))} : callBack m k0 ρ B (if c then a else b) = if c then callBack m k0 ρ B a else callBack m k0 ρ B b := by split <;> rfl

/- Regions that draw their order. -/
noncomputable def dcallK (X : Ctx) (md : Bool) (nd : List (List Nat)) (S : St) (d : Option Nat) (all r : List Oper) (acc : List Stp) (k : Kt) : Option CRes → Ans
  | some ⟨.ret x, es, ks⟩ => drwK X md nd all r (({ S with mem := putAll S.mem es } : St).put d true x) (⟨ks, es, true, x⟩ :: acc) k
  | _ => none
noncomputable def dspecK (X : Ctx) (md : Bool) (nd : List (List Nat)) (S : St) (o : Oper) (all r : List Oper) (acc : List Stp) (k : Kt) : Op → Ans
  | .call { callee := .value fv, args, .. } => dcallK X md nd S o.dst all r acc k (callVal X (callT X) S o args.toList (S.opd fv))
  | _ => none
noncomputable def dstepK (X : Ctx) (md : Bool) (nd : List (List Nat)) (S : St) (o : Oper) (all r : List Oper) (acc : List Stp) (k : Kt) : Res → Ans
  | .val c x => if (opOk S o && c) = true then drwK X md nd all r (S.put o.dst true x) (⟨touch S o, [], true, x⟩ :: acc) k else none
  | .upd c x e => if (opOk S o && c && (touch S o).contains e.key) = true then drwK X md nd all r (({ S with mem := Mem.set S.mem e } : St).put o.dst true x) (⟨touch S o, [e], true, x⟩ :: acc) k else none
  | .no => dspecK X md nd S o all r acc k o.op
noncomputable def dguardK (X : Ctx) (md : Bool) (nd : List (List Nat)) (S : St) (o : Oper) (all r : List Oper) (acc : List Stp) (k : Kt) (b : Bool) : Res → Ans
  | .val c x => if b = true → (opOk S o && c) = true then drwK X md nd all r (S.put o.dst b x) (⟨touch S o, [], b, x⟩ :: acc) k else none
  | .upd c x e => if b = true then dstepK X md nd S o all r acc k (.upd c x e) else drwK X md nd all r (S.put o.dst true .junk) (⟨[], [], true, .junk⟩ :: acc) k
  | .no => if b = true then dspecK X md nd S o all r acc k o.op else drwK X md nd all r (S.put o.dst true .junk) (⟨[], [], true, .junk⟩ :: acc) k
noncomputable def dforkK (X : Ctx) (nd : List (List Nat)) (S : St) (o : Oper) (all r : List Oper) (acc : List Stp) (k : Kt) (want t : Bool) : Bool → Ans
  | false => dguardK X false nd S o all r acc k (t == want) (stepv X.P S o)
  | true => if (t == want) = true then dstepK X true nd (S.cz (gdst all o) want) o all r acc k (stepv X.P (S.cz (gdst all o) want) o) else drwK X true nd all r ((S.cz (gdst all o) (!want)).put o.dst true (.tup [])) (⟨[], [], true, .tup []⟩ :: acc) k
noncomputable def dgrdK (X : Ctx) (md : Bool) (nd : List (List Nat)) (S : St) (o : Oper) (all r : List Oper) (acc : List Stp) (k : Kt) (want : Bool) : GV → Ans
  | .tru t => dforkK X nd S o all r acc k want t md
  | .skip => drwK X md nd all r (S.put o.dst true (.tup [])) (⟨[], [], true, .tup []⟩ :: acc) k
  | .bad => none

section
variable {X : Ctx} {f : FuncId} {S : St} {k : Kt} {all r : List Oper} {md : Bool} {nd : List (List Nat)} {acc : List Stp}

theorem dstepK_eq (o : Oper) (res : Res) : (dThen acc (dstep X (callT X) S o res) (drwOps X (callT X) md nd all r)).bind (fun p => k p.1 p.2) = dstepK X md nd S o all r acc k res := by
  cases res with
  | val c x => simp only [dstep, dstepK]; split <;> rfl
  | upd c x e => simp only [dstep, dstepK]; split <;> rfl
  | no =>
    simp only [dstep, dstepK, dspec]
    split
    · rename_i fv args tys ho
      rw [ho]
      simp only [dspecK]
      rcases callVal X (callT X) S o args.toList (S.opd fv) with _ | ⟨out, es, ks⟩
      · rfl
      · cases out <;> rfl
    · rename_i h1
      unfold dspecK
      split
      · rename_i heq; exact absurd heq (h1 _ _ _)
      · rfl

theorem drwK_nil (h : ordD nd acc.reverse = true) : drwK X md nd all [] S acc k = k .normal S := by
  simp only [drwK, drwOps, h, if_true, Option.bind_some]
def revA : List Stp → List Stp → List Stp
  | [], r => r
  | x :: l, r => revA l (x :: r)
theorem revA_eq : ∀ (l r : List Stp), revA l r = l.reverse ++ r
  | [], _ => rfl
  | x :: l, r => by rw [revA, revA_eq l]; simp
theorem drwKI_end {LI : List Cl} : drwKI X md nd LI all [] S acc k = if ordD nd (revA acc []) = true then k .normal S else none := by
  simp only [drwKI, drwI]
  rw [revA_eq, List.append_nil]
  split <;> rfl
theorem drwK_end : drwK X md nd all [] S acc k = if ordD nd (revA acc []) = true then k .normal S else none := by
  rw [revA_eq, List.append_nil]
  simp only [drwK, drwOps]
  split <;> rfl
theorem drwK_cons {d : Option Tmp} {op : Op} {ty : TypeId} {pos : String} {af : Array Edge} : drwK X md nd all (⟨d, op, ty, pos, af, none⟩ :: r) S acc k = dstepK X md nd S ⟨d, op, ty, pos, af, none⟩ all r acc k (stepv X.P S ⟨d, op, ty, pos, af, none⟩) :=
  dstepK_eq _ _
theorem drwK_guard {d : Option Tmp} {op : Op} {ty : TypeId} {pos : String} {af : Array Edge} {j : Nat} {w : Bool} : drwK X md nd all (⟨d, op, ty, pos, af, some (j, w)⟩ :: r) S acc k = dgrdK X md nd S ⟨d, op, ty, pos, af, some (j, w)⟩ all r acc k w (gval (grd all S j)) := by
  simp only [drwK, drwOps, dgstep]
  generalize gval (grd all S j) = g
  cases g with
  | skip => rfl
  | bad => rfl
  | tru t =>
    simp only [dgrdK]
    cases md with
    | true =>
      simp only [dforkK, gdst]
      split
      · exact dstepK_eq _ _
      · rfl
    | false =>
    simp only [dforkK]
    generalize hs : stepv X.P S _ = res
    cases res with
    | val c x => simp only [dguard, dguardK]; split <;> rfl
    | upd c x e =>
      simp only [dguard, dguardK]
      split
      · exact dstepK_eq _ (.upd c x e)
      · rfl
    | no =>
      simp only [dguard, dguardK]
      split
      · exact dstepK_eq _ .no
      · rfl

theorem dcallK_ite {d : Option Nat} {c : Prop} [Decidable c] {a b : Option CRes} : dcallK X md nd S d all r acc k (if c then a else b) = if c then dcallK X md nd S d all r acc k a else dcallK X md nd S d all r acc k b := by split <;> rfl
end

/- Functions. -/
def callOk (n : Nat) (p : FPol) (args : List AV) (cs : List Cont) : Bool :=
  decide (args.length ≤ n) && decide (cs.length ≤ 100) && p.sites.all (fun k => decide (100 ≤ k)) && decide p.sites.Nodup
theorem call_run {X : Ctx} {f : FuncId} {fn : Func} {c : Code} {args : List AV} {cs : List Cont} {n : Nat} {rs : List ResultVar} {p : FPol} (hor : X.orc f = none) (hf : X.P.funcs[f]? = some fn) (hb : fn.body = some c) (hn : fn.ntmps = n) (hrs : fn.results.toList = rs)
    (hp : X.fp f = p) (hs : p.split = false) (hok : callOk n p args cs = true) : callT X f args cs = denK X f c (entry n X.gl args cs p.sites) (finK X.P p cs.length rs) := by
  subst hp
  rw [callT_eq hor hf hb, hs]
  simp only [runSplit, runFnT]
  subst hn; subst hrs
  rw [if_pos (by simpa only [callOk] using hok)]
  simp only [denK]
  rcases denT X f c _ with _ | ⟨e, S⟩
  · rfl
  · cases e <;> rfl
theorem call_run_split {X : Ctx} {f : FuncId} {fn : Func} {c : Code} {args : List AV} {cs : List Cont} {n : Nat} {rs : List ResultVar} {p : FPol} (hor : X.orc f = none) (hf : X.P.funcs[f]? = some fn) (hb : fn.body = some c) (hn : fn.ntmps = n) (hrs : fn.results.toList = rs)
    (hp : X.fp f = p) (hs : p.split = true) (hok : callOk n p args cs = true) : callT X f args cs = runSplit (fun args => denK X f c (entry n X.gl args cs p.sites) (finK X.P p cs.length rs)) args true := by
  subst hp
  rw [callT_eq hor hf hb, hs]
  subst hn; subst hrs
  have key : ∀ args' : List AV, args'.length = args.length → runFnT X f fn c cs args' = denK X f c (entry fn.ntmps X.gl args' cs (X.fp f).sites) (finK X.P (X.fp f) cs.length fn.results.toList) := by
    intro args' hl
    simp only [runFnT]
    rw [if_pos (by rw [hl]; simpa only [callOk] using hok)]
    simp only [denK]
    rcases denT X f c _ with _ | ⟨e, S⟩
    · rfl
    · cases e <;> rfl
  simp only [runSplit]
  split
  · rename_i r
    rw [key _ (by simp), key _ (by simp)]
  · exact key _ rfl
end Go.Am
end
section
namespace Go.Am
open Go

attribute [simp] stepv.eq_1
attribute [simp] opOk.eq_1
attribute [simp] okAll.eq_1 okAll.eq_2
attribute [simp] Go.Op.operands.eq_1 Go.Op.operands.eq_2 Go.Op.operands.eq_3 Go.Op.operands.eq_4 Go.Op.operands.eq_5 Go.Op.operands.eq_6 Go.Op.operands.eq_7 Go.Op.operands.eq_8 Go.Op.operands.eq_9 Go.Op.operands.eq_10 Go.Op.operands.eq_11 Go.Op.operands.eq_12 Go.Op.operands.eq_13 Go.Op.operands.eq_14 Go.Op.operands.eq_15 Go.Op.operands.eq_16 Go.Op.operands.eq_17 Go.Op.operands.eq_18 Go.Op.operands.eq_19 Go.Op.operands.eq_20 Go.Op.operands.eq_21 Go.Op.operands.eq_22 Go.Op.operands.eq_23 Go.Op.operands.eq_24 Go.Op.operands.eq_25 Go.Op.operands.eq_26 Go.Op.operands.eq_27 Go.Op.operands.eq_28 Go.Op.operands.eq_29 Go.Op.operands.eq_30 Go.Op.operands.eq_31 Go.Op.operands.eq_32 Go.Op.operands.eq_33 Go.Op.operands.eq_34 Go.Op.operands.eq_35 Go.Op.operands.eq_36 Go.Op.operands.eq_37 Go.Op.operands.eq_38 Go.Op.operands.eq_39 Go.Op.operands.eq_40 Go.Op.operands.eq_41 Go.Op.operands.eq_42 Go.Op.operands.eq_43
attribute [simp] St.opd.eq_1 St.opd.eq_2 St.opd.eq_3 St.opd.eq_4
attribute [simp] Env.lk.eq_1 Env.lk.eq_2
attribute [simp] St.put.eq_1 St.put.eq_2
attribute [simp] Mem.get.eq_1 Mem.get.eq_2
attribute [simp] Mem.set.eq_1 Mem.set.eq_2
attribute [simp] AV.solid.eq_1 AV.solid.eq_2 AV.solid.eq_3
attribute [simp] constAV.eq_1 constAV.eq_2 constAV.eq_3 constAV.eq_4 constAV.eq_5 constAV.eq_6
attribute [simp] AV.cells.eq_1 AV.cells.eq_2 AV.cells.eq_3
attribute [simp] loadR.eq_1 loadR.eq_2 loadR.eq_3 loadR.eq_4 loadR.eq_5
attribute [simp] storeR.eq_1 storeR.eq_2 storeR.eq_3
attribute [simp] fieldRm.eq_1 nilCheckR.eq_1 nilCheckR.eq_2 nilCheckR.eq_3
attribute [simp] indexR.eq_1 indexR.eq_2
attribute [simp] binOpR.eq_1 binOpR.eq_2 binOpR.eq_3 binOpR.eq_4
attribute [simp] isNilV.eq_1 isNilV.eq_2 isNilV.eq_3 isNilV.eq_4
attribute [simp] binR.eq_1 binR.eq_2 binR.eq_3 binR.eq_4 binR.eq_5 binR.eq_6 binR.eq_7 binR.eq_8 binR.eq_9
attribute [simp] intBin.eq_1 intBin.eq_2 intBin.eq_3 intBin.eq_4 intBin.eq_5 intBin.eq_6 intBin.eq_7 intBin.eq_8 intBin.eq_9 intBin.eq_10 intBin.eq_11 intBin.eq_12 intBin.eq_13 intBin.eq_14 intBin.eq_15 intBin.eq_16
attribute [simp] strBin.eq_1 strBin.eq_2 strBin.eq_3 strBin.eq_4 strBin.eq_5 strBin.eq_6 strBin.eq_7 strBin.eq_8
attribute [simp] pickR.eq_1
attribute [simp] pickAV.eq_1 pickAV.eq_2
attribute [simp] pickD.eq_1 pickD.eq_2
attribute [simp] grd.eq_1
attribute [simp] mkAgg.eq_1
def consO {α : Type} (y : α) : Option (List α) → Option (List α)
  | some ys => some (y :: ys)
  | none => none
@[simp] theorem consO_some {α : Type} (y : α) (ys : List α) : consO y (some ys) = some (y :: ys) := rfl
@[simp] theorem consO_none {α : Type} (y : α) : consO y none = none := rfl
@[simp] theorem toDs_nil : toDs [] = some [] := rfl
@[simp] theorem toDs_d (y r) : toDs (.d y :: r) = consO y (toDs r) := by
  cases h : toDs r with
  | none => exact toDs.eq_3 _ _ (fun _ _ _ h2 => by rw [h] at h2; cases h2)
  | some ys => exact toDs.eq_2 _ _ _ h
@[simp] theorem toDs_vec (a b c d r) : toDs (.vec a b c d :: r) = none := by rw [toDs.eq_def]
@[simp] theorem toDs_ptr (a b c r) : toDs (.ptr a b c :: r) = none := by rw [toDs.eq_def]
@[simp] theorem toDs_lit (a r) : toDs (.lit a :: r) = none := by rw [toDs.eq_def]
@[simp] theorem toDs_fn (a b r) : toDs (.fn a b :: r) = none := by rw [toDs.eq_def]
@[simp] theorem toDs_nn (r) : toDs (.nn :: r) = none := by rw [toDs.eq_def]
@[simp] theorem toDs_junk (r) : toDs (.junk :: r) = none := by rw [toDs.eq_def]
attribute [simp] moveR.eq_1 moveR.eq_2
attribute [simp] unR.eq_1 unR.eq_2 unR.eq_3 unR.eq_4
attribute [simp] builtinR.eq_1 builtinR.eq_2 builtinR.eq_3 builtinR.eq_4 builtinR.eq_5 builtinR.eq_6
attribute [simp] lenRm.eq_1 lenRm.eq_2 lenRm.eq_3 lenRm.eq_4 lenRm.eq_5
attribute [simp] appR.eq_1
attribute [simp] appSrc.eq_1 appN.eq_1 appN.eq_2 appS.eq_1 appS.eq_2
attribute [simp] fzRes.eq_1 fzRes.eq_2
attribute [simp] srcRows.eq_1 srcRows.eq_2 srcRows.eq_3 srcRows.eq_4 srcRows.eq_5
attribute [simp] makeR.eq_1
attribute [simp] copyR.eq_1
attribute [simp] maxR.eq_1 maxR.eq_2
attribute [simp] foldMax.eq_1 foldMax.eq_2 foldMax.eq_3 foldMax.eq_4
attribute [simp] buildR.eq_1
attribute [simp] fillA.eq_1 fillA.eq_2
attribute [simp] buildSliceR.eq_1
attribute [simp] partDs.eq_1 partDs.eq_2
attribute [simp] convM.eq_1 convM.eq_2
attribute [simp] convR.eq_1 convR.eq_2 convR.eq_3 convR.eq_4 convR.eq_5 convR.eq_6
attribute [simp] makeIfaceR.eq_1
attribute [simp] makeFuncR.eq_1 makeFuncR.eq_2
attribute [simp] extractR.eq_1 extractR.eq_2
attribute [simp] indexVR.eq_1 indexVR.eq_2 indexVR.eq_3 indexVR.eq_4
attribute [simp] sliceR.eq_1 sliceR.eq_2 sliceR.eq_3 sliceR.eq_4 sliceR.eq_5
attribute [simp] bound.eq_1 bound.eq_2 bound.eq_3
attribute [simp] putCells.eq_1 putCells.eq_2
attribute [simp] nilR.eq_1 nilR.eq_2 nilR.eq_3 nilR.eq_4 nilR.eq_5 nilR.eq_6 nilR.eq_7 nilR.eq_8 nilR.eq_9 nilR.eq_10 nilR.eq_11 nilR.eq_12
attribute [simp] D.cells.eq_1 D.cells.eq_2
attribute [simp] D.size.eq_1 D.size.eq_2
attribute [simp] D.flat.eq_1 D.flat.eq_2
attribute [simp] callVal.eq_1 callVal.eq_2
attribute [simp] argVals.eq_1 argVals.eq_2
attribute [simp] collect.eq_1 collect.eq_2 collect.eq_3
attribute [simp] argKeys.eq_1 argKeys.eq_2
attribute [simp] argBor.eq_1 argBor.eq_2
attribute [simp] avKeys.eq_1 avKeys.eq_2 avKeys.eq_3 avKeys.eq_4 avKeys.eq_5 avKeys.eq_6 avKeys.eq_7 avKeys.eq_8 avKeys.eq_9 avKeys.eq_10 avKeys.eq_11 avKeys.eq_12
attribute [simp] ptrKeys.eq_1 ptrKeys.eq_2 ptrKeys.eq_3 ptrKeys.eq_4 ptrKeys.eq_5 ptrKeys.eq_6 ptrKeys.eq_7
attribute [simp] vecKeys.eq_1 vecKeys.eq_2 vecKeys.eq_3 vecKeys.eq_4
attribute [simp] contKeys.eq_1 contKeys.eq_2
attribute [simp] vwArgs.eq_1 vwArgs.eq_2
attribute [simp] conts.eq_1 conts.eq_2
attribute [simp] selC.eq_1 selC.eq_2 selC.eq_3
attribute [simp] selE.eq_1 selE.eq_2
attribute [simp] findK.eq_1 findK.eq_2
attribute [simp] callBack.eq_1 callBack.eq_2
attribute [simp] frOk.eq_1 frOk.eq_2
attribute [simp] plainO.eq_1 plainO.eq_2
attribute [simp] plainL.eq_1 plainL.eq_2 plainL.eq_1 plainL.eq_2
attribute [simp] plainC.eq_1 plainC.eq_2 plainC.eq_3
attribute [simp] plainAV.eq_1 plainAV.eq_2 plainAV.eq_3 plainAV.eq_4 plainAV.eq_5 plainAV.eq_6 plainAV.eq_7 plainAV.eq_8 plainAV.eq_9 plainAV.eq_10 plainAV.eq_11 plainAV.eq_12
attribute [simp] plainD.eq_1 plainD.eq_2 plainD.eq_3 plainD.eq_4 plainD.eq_5 plainD.eq_6
attribute [simp] upO.eq_1 upO.eq_2
attribute [simp] up.eq_1 up.eq_2 up.eq_3 up.eq_4 up.eq_5 up.eq_6 up.eq_7 up.eq_8 up.eq_9 up.eq_10 up.eq_11 up.eq_12
attribute [simp] upC.eq_1 upC.eq_2 upC.eq_3
attribute [simp] backL.eq_1 backL.eq_2
attribute [simp] base.eq_1 base.eq_2
attribute [simp] putAll.eq_1 putAll.eq_2
attribute [simp] ghs.eq_1 ghs.eq_2
attribute [simp] Gh.go.eq_1 Gh.go.eq_2 Gh.go.eq_3 Gh.go.eq_4
attribute [simp] St.rekey.eq_1 rkAV.eq_1 rkAV.eq_2 mapB.eq_1 mapB.eq_2 boxD.eq_1 boxD.eq_2 flats.eq_1 flats.eq_2
attribute [simp] finish.eq_1
attribute [simp] resAll.eq_1 resAll.eq_2
attribute [simp] resOne.eq_1 resOne.eq_2
attribute [simp] finKeys.eq_1
attribute [simp] St.trim1.eq_1
attribute [simp] refMem.eq_1 refMem.eq_2 refMem.eq_3
attribute [simp] refEnv.eq_1 refEnv.eq_2
attribute [simp] refAV.eq_1 refAV.eq_2 refAV.eq_3 refAV.eq_4 refAV.eq_5 refAV.eq_6 refAV.eq_7 refAV.eq_8 refAV.eq_9 refAV.eq_10 refAV.eq_11 refAV.eq_12
attribute [simp] St.trim.eq_1
attribute [simp] mapEnv.eq_1 mapEnv.eq_2
attribute [simp] mapM.eq_1 mapM.eq_2
attribute [simp] mapC.eq_1 mapC.eq_2 mapC.eq_3
attribute [simp] trAV.eq_1 trAV.eq_2 trAV.eq_3 trAV.eq_4 trAV.eq_5 trAV.eq_6 trAV.eq_7 trAV.eq_8 trAV.eq_9 trAV.eq_10 trAV.eq_11 trAV.eq_12
attribute [simp] envVals.eq_1 envVals.eq_2
attribute [simp] oneOf.eq_1 oneOf.eq_2
attribute [simp] AV.norm.eq_1 AV.norm.eq_2 AV.norm.eq_3 AV.norm.eq_4
attribute [simp] toD1.eq_1 toD1.eq_2 toD1.eq_3 toD1.eq_4
attribute [simp] toDsN.eq_1 toDsN.eq_2
attribute [simp] vw.eq_1 vw.eq_2 vw.eq_3 vw.eq_4 vw.eq_5 vw.eq_6 vw.eq_7 vw.eq_8 vw.eq_9 vw.eq_10 vw.eq_11 vw.eq_12
attribute [simp] selL.eq_1 selL.eq_2
attribute [simp] TK.agg.eq_1 TK.agg.eq_2 TK.agg.eq_3
attribute [simp] stepK.eq_1 stepK.eq_2 stepK.eq_3
attribute [simp] guardK.eq_1 guardK.eq_2 guardK.eq_3
attribute [simp] grdK.eq_1 grdK.eq_2 grdK.eq_3
attribute [simp] specK.eq_1 specK.eq_2 specK.eq_3
attribute [simp] callK.eq_1 callK.eq_2 callK.eq_3
attribute [simp] panicK.eq_1 panicK.eq_2
attribute [simp] isB.eq_1 isB.eq_2
attribute [simp] boolOf.eq_1 boolOf.eq_2
attribute [simp] boxR.eq_1
attribute [simp] allocR.eq_1 arrR.eq_1 isZ.eq_1 isZ.eq_2 zeroOf.eq_1 zeroOf.eq_2 zeroOf.eq_3
attribute [simp] St.trims.eq_1 St.trims.eq_2
attribute [simp] vws.eq_1 vws.eq_2
attribute [simp] plainAVs.eq_1 plainAVs.eq_2
attribute [simp] plainDs.eq_1 plainDs.eq_2
attribute [simp] ups.eq_1 ups.eq_2
attribute [simp] refAVs.eq_1 refAVs.eq_2
attribute [simp] trAVs.eq_1 trAVs.eq_2
attribute [simp] avsKeys.eq_1 avsKeys.eq_2
attribute [simp] ptrsKeys.eq_1 ptrsKeys.eq_2
attribute [simp] vecsKeys.eq_1 vecsKeys.eq_2
attribute [simp] entryEnv.eq_1 entryEnv.eq_2
attribute [simp] inM.eq_1 inM.eq_2
attribute [simp] runSplit.eq_1 runSplit.eq_2 runSplit.eq_3
attribute [simp] emptyVec.eq_1 emptyVec.eq_2
attribute [simp] splitRun.eq_1
attribute [simp] touch.eq_1 topsOf.eq_1 topsOf.eq_2 topsOf.eq_3
attribute [simp] keysTop.eq_1 keysTop.eq_2
attribute [simp] keyTop.eq_1 keyTop.eq_2 keyTop.eq_3 keyTop.eq_4
attribute [simp] dstepK.eq_1 dstepK.eq_2 dstepK.eq_3
attribute [simp] dguardK.eq_1 dguardK.eq_2 dguardK.eq_3
attribute [simp] dgrdK.eq_1 dgrdK.eq_2 dgrdK.eq_3
attribute [simp] dspecK.eq_1 dspecK.eq_2
attribute [simp] dcallK.eq_1 dcallK.eq_2
attribute [simp] fzAV.eq_1 fzAV.eq_2 fzAV.eq_3 fzAV.eq_4 fzAV.eq_5 fzAV.eq_6 fzAV.eq_7 fzAV.eq_8 fzAV.eq_9 fzAV.eq_10 fzAV.eq_11 fzAV.eq_12
attribute [simp] fzAVs.eq_1 fzAVs.eq_2
attribute [simp] St.freeze.eq_1
attribute [simp] St.adopt.eq_1
attribute [simp] Go.Call.operands.eq_1
attribute [simp] D.isByte.eq_1 D.isByte.eq_2
attribute [simp] eqFlat.eq_1 eqFlat.eq_2 eqFlat.eq_3 eqFlat.eq_4
attribute [simp] eqFlats.eq_1 eqFlats.eq_2 eqFlats.eq_3
attribute [simp] glk.eq_1 glk.eq_2
attribute [simp] denK_skip denK_exit denK_ret denK_seq denK_block denK_condT denK_condC denK_region denK_draw drwKA_n seqK_n seqK_x seqK_r seqK_p blkK_n blkK_x blkK_r blkK_p loopK_n loopK_x loopK_r loopK_p leaveK_n leaveK_p finK_n finK_r finK_p runK_nil runK_cons runK_guard callK_ite callBack_ite drwK_cons drwK_guard dcallK_ite
attribute [simp] frzO.eq_1 frzO.eq_2 frzR.eq_1 frzR.eq_2 mkM.eq_1 mkM.eq_2
attribute [simp] forkK.eq_1 forkK.eq_2
attribute [simp] dforkK.eq_1 dforkK.eq_2
attribute [simp] gdst.eq_1
attribute [simp] Env.kn.eq_1 Env.kn.eq_2 St.kn.eq_1
attribute [simp] ordD.eq_1 ordL.eq_1 ordL.eq_2 ordL.eq_3 ordE.eq_1 ordE.eq_2 ordK.eq_1 ordK.eq_2 revA.eq_1 revA.eq_2 disj.eq_1
attribute [simp] orcAns.eq_1 orcAns.eq_2
@[simp] theorem gval_b (t : Bool) : gval (some (true, .d (.bool t))) = .tru t := rfl
@[simp] theorem gval_t : gval (some (true, .tup [])) = .skip := rfl
attribute [simp] dstAt.eq_1
attribute [simp] St.cz St.prune keyOf St.leave finVals finTrim finOut St.mapAll nvX nv0 callOk entry dead callOp callOp2 callOp3 D.at D.cell D.setCells finPanic
/- Cells that are data. -/
@[simp] theorem vws_d (m ρ bor nv) : ∀ ds : List D, vws m ρ bor nv (ds.map .d) = ds.map .d
  | [] => rfl
  | d :: r => by simp [vws_d m ρ bor nv r]
@[simp] theorem ups_d (ρ bs) : ∀ ds : List D, ups ρ bs (ds.map .d) = ds.map .d
  | [] => rfl
  | d :: r => by simp [ups_d ρ bs r]
@[simp] theorem avsKeys_d : ∀ ds : List D, avsKeys (ds.map .d) = []
  | [] => rfl
  | d :: r => by simp [avsKeys_d r]
@[simp] theorem refAVs_d (k v) : ∀ ds : List D, refAVs k v (ds.map .d) = none
  | [] => rfl
  | d :: r => by simp [refAVs_d k v r]
@[simp] theorem trAVs_d (k v o l) : ∀ ds : List D, trAVs k v o l (ds.map .d) = ds.map .d
  | [] => rfl
  | d :: r => by simp [trAVs_d k v o l r]
@[simp] theorem plainAVs_d : ∀ ds : List D, plainAVs (ds.map .d) = plainDs ds
  | [] => rfl
  | d :: r => by simp [plainAVs_d r]
attribute [simp] List.take_of_length_le
/-- A part of code by the way to it. -/
@[simp] def Code.at : Code → List Nat → Code
  | c, [] => c
  | .seq a b, i :: p => if i = 0 then Code.at a p else Code.at b p
  | .cond _ a b, i :: p => if i = 0 then Code.at a p else Code.at b p
  | .block _ c, _ :: p => Code.at c p
  | .loop c, _ :: p => Code.at c p
  | c, _ => c
end Go.Am
end
section
namespace Go.Am
open Go
open Go.Proofs
@[simp] theorem tk_1 : tk Tryd.prog 1 = .func := by kernel_rfl
@[simp] theorem tsz_1 : tsz Tryd.prog 1 = some 1 := by kernel_rfl
@[simp] theorem tk_2 : tk Tryd.prog 2 = .int .i64 := by kernel_rfl
@[simp] theorem tsz_2 : tsz Tryd.prog 2 = some 1 := by kernel_rfl
@[simp] theorem tzero_2 : tzero Tryd.prog 2 = some ([.d (.int .i64 0)]) := by kernel_rfl
@[simp] theorem tbytes_2 : tbytes Tryd.prog 2 = some 8 := by kernel_rfl
@[simp] theorem tzeroD_2 : tzeroD Tryd.prog 2 = some (.int .i64 0) := by kernel_rfl
@[simp] theorem tk_3 : tk Tryd.prog 3 = .int .i64 := by kernel_rfl
@[simp] theorem tsz_3 : tsz Tryd.prog 3 = some 1 := by kernel_rfl
@[simp] theorem tzero_3 : tzero Tryd.prog 3 = some ([.d (.int .i64 0)]) := by kernel_rfl
@[simp] theorem tbytes_3 : tbytes Tryd.prog 3 = some 8 := by kernel_rfl
@[simp] theorem tzeroD_3 : tzeroD Tryd.prog 3 = some (.int .i64 0) := by kernel_rfl
@[simp] theorem tk_4 : tk Tryd.prog 4 = .bool := by kernel_rfl
@[simp] theorem tsz_4 : tsz Tryd.prog 4 = some 1 := by kernel_rfl
@[simp] theorem tzero_4 : tzero Tryd.prog 4 = some ([.d (.bool false)]) := by kernel_rfl
@[simp] theorem tbytes_4 : tbytes Tryd.prog 4 = some 1 := by kernel_rfl
@[simp] theorem tzeroD_4 : tzeroD Tryd.prog 4 = some (.bool false) := by kernel_rfl
@[simp] theorem tk_5 : tk Tryd.prog 5 = .int .u8 := by kernel_rfl
@[simp] theorem tsz_5 : tsz Tryd.prog 5 = some 1 := by kernel_rfl
@[simp] theorem tzero_5 : tzero Tryd.prog 5 = some ([.d (.int .u8 0)]) := by kernel_rfl
@[simp] theorem tbytes_5 : tbytes Tryd.prog 5 = some 1 := by kernel_rfl
@[simp] theorem tzeroD_5 : tzeroD Tryd.prog 5 = some (.int .u8 0) := by kernel_rfl
@[simp] theorem tk_6 : tk Tryd.prog 6 = .int .u8 := by kernel_rfl
@[simp] theorem tsz_6 : tsz Tryd.prog 6 = some 1 := by kernel_rfl
@[simp] theorem tzero_6 : tzero Tryd.prog 6 = some ([.d (.int .u8 0)]) := by kernel_rfl
@[simp] theorem tbytes_6 : tbytes Tryd.prog 6 = some 1 := by kernel_rfl
@[simp] theorem tzeroD_6 : tzeroD Tryd.prog 6 = some (.int .u8 0) := by kernel_rfl
@[simp] theorem tk_7 : tk Tryd.prog 7 = .struct := by kernel_rfl
@[simp] theorem tsz_7 : tsz Tryd.prog 7 = some 4 := by kernel_rfl
@[simp] theorem tzero_7 : tzero Tryd.prog 7 = some ([.d (.int .i64 0), .d (.int .i64 0), .d (.bool false), .d (.int .u8 0)]) := by kernel_rfl
@[simp] theorem tbytes_7 : tbytes Tryd.prog 7 = some 24 := by kernel_rfl
@[simp] theorem tzeroD_7 : tzeroD Tryd.prog 7 = some (.agg ([.int .i64 0, .int .i64 0, .bool false, .int .u8 0])) := by kernel_rfl
@[simp] theorem foff_7_0 : foff Tryd.prog 7 0 = some 0 := by kernel_rfl
@[simp] theorem foff_7_1 : foff Tryd.prog 7 1 = some 1 := by kernel_rfl
@[simp] theorem foff_7_2 : foff Tryd.prog 7 2 = some 2 := by kernel_rfl
@[simp] theorem foff_7_3 : foff Tryd.prog 7 3 = some 3 := by kernel_rfl
@[simp] theorem fplace_7 : fplace Tryd.prog 7 = some [(0, 1), (1, 1), (2, 1), (3, 1)] := by kernel_rfl
@[simp] theorem tk_8 : tk Tryd.prog 8 = .struct := by kernel_rfl
@[simp] theorem tsz_8 : tsz Tryd.prog 8 = some 4 := by kernel_rfl
@[simp] theorem tzero_8 : tzero Tryd.prog 8 = some ([.d (.int .i64 0), .d (.int .i64 0), .d (.bool false), .d (.int .u8 0)]) := by kernel_rfl
@[simp] theorem tbytes_8 : tbytes Tryd.prog 8 = some 24 := by kernel_rfl
@[simp] theorem tzeroD_8 : tzeroD Tryd.prog 8 = some (.agg ([.int .i64 0, .int .i64 0, .bool false, .int .u8 0])) := by kernel_rfl
@[simp] theorem foff_8_0 : foff Tryd.prog 8 0 = some 0 := by kernel_rfl
@[simp] theorem foff_8_1 : foff Tryd.prog 8 1 = some 1 := by kernel_rfl
@[simp] theorem foff_8_2 : foff Tryd.prog 8 2 = some 2 := by kernel_rfl
@[simp] theorem foff_8_3 : foff Tryd.prog 8 3 = some 3 := by kernel_rfl
@[simp] theorem fplace_8 : fplace Tryd.prog 8 = some [(0, 1), (1, 1), (2, 1), (3, 1)] := by kernel_rfl
@[simp] theorem tk_9 : tk Tryd.prog 9 = .str := by kernel_rfl
@[simp] theorem tsz_9 : tsz Tryd.prog 9 = some 1 := by kernel_rfl
@[simp] theorem tzero_9 : tzero Tryd.prog 9 = some ([.d (.str [])]) := by kernel_rfl
@[simp] theorem tbytes_9 : tbytes Tryd.prog 9 = some 16 := by kernel_rfl
@[simp] theorem tzeroD_9 : tzeroD Tryd.prog 9 = some (.str []) := by kernel_rfl
@[simp] theorem srcTy_9 : srcTy Tryd.prog 9 = true := by kernel_rfl
@[simp] theorem tk_10 : tk Tryd.prog 10 = .str := by kernel_rfl
@[simp] theorem tsz_10 : tsz Tryd.prog 10 = some 1 := by kernel_rfl
@[simp] theorem tzero_10 : tzero Tryd.prog 10 = some ([.d (.str [])]) := by kernel_rfl
@[simp] theorem tbytes_10 : tbytes Tryd.prog 10 = some 16 := by kernel_rfl
@[simp] theorem tzeroD_10 : tzeroD Tryd.prog 10 = some (.str []) := by kernel_rfl
@[simp] theorem srcTy_10 : srcTy Tryd.prog 10 = true := by kernel_rfl
@[simp] theorem tk_11 : tk Tryd.prog 11 = .str := by kernel_rfl
@[simp] theorem tsz_11 : tsz Tryd.prog 11 = some 1 := by kernel_rfl
@[simp] theorem tzero_11 : tzero Tryd.prog 11 = some ([.d (.str [])]) := by kernel_rfl
@[simp] theorem tbytes_11 : tbytes Tryd.prog 11 = some 16 := by kernel_rfl
@[simp] theorem tzeroD_11 : tzeroD Tryd.prog 11 = some (.str []) := by kernel_rfl
@[simp] theorem srcTy_11 : srcTy Tryd.prog 11 = true := by kernel_rfl
@[simp] theorem tk_12 : tk Tryd.prog 12 = .int .u64 := by kernel_rfl
@[simp] theorem tsz_12 : tsz Tryd.prog 12 = some 1 := by kernel_rfl
@[simp] theorem tzero_12 : tzero Tryd.prog 12 = some ([.d (.int .u64 0)]) := by kernel_rfl
@[simp] theorem tbytes_12 : tbytes Tryd.prog 12 = some 8 := by kernel_rfl
@[simp] theorem tzeroD_12 : tzeroD Tryd.prog 12 = some (.int .u64 0) := by kernel_rfl
@[simp] theorem tk_13 : tk Tryd.prog 13 = .struct := by kernel_rfl
@[simp] theorem tsz_13 : tsz Tryd.prog 13 = some 2 := by kernel_rfl
@[simp] theorem tzero_13 : tzero Tryd.prog 13 = some ([.d (.str []), .d (.int .u64 0)]) := by kernel_rfl
@[simp] theorem tbytes_13 : tbytes Tryd.prog 13 = some 24 := by kernel_rfl
@[simp] theorem tzeroD_13 : tzeroD Tryd.prog 13 = some (.agg ([.str [], .int .u64 0])) := by kernel_rfl
@[simp] theorem foff_13_0 : foff Tryd.prog 13 0 = some 0 := by kernel_rfl
@[simp] theorem foff_13_1 : foff Tryd.prog 13 1 = some 1 := by kernel_rfl
@[simp] theorem fplace_13 : fplace Tryd.prog 13 = some [(0, 1), (1, 1)] := by kernel_rfl
@[simp] theorem tk_14 : tk Tryd.prog 14 = .struct := by kernel_rfl
@[simp] theorem tsz_14 : tsz Tryd.prog 14 = some 2 := by kernel_rfl
@[simp] theorem tzero_14 : tzero Tryd.prog 14 = some ([.d (.str []), .d (.int .u64 0)]) := by kernel_rfl
@[simp] theorem tbytes_14 : tbytes Tryd.prog 14 = some 24 := by kernel_rfl
@[simp] theorem tzeroD_14 : tzeroD Tryd.prog 14 = some (.agg ([.str [], .int .u64 0])) := by kernel_rfl
@[simp] theorem foff_14_0 : foff Tryd.prog 14 0 = some 0 := by kernel_rfl
@[simp] theorem foff_14_1 : foff Tryd.prog 14 1 = some 1 := by kernel_rfl
@[simp] theorem fplace_14 : fplace Tryd.prog 14 = some [(0, 1), (1, 1)] := by kernel_rfl
@[simp] theorem tk_15 : tk Tryd.prog 15 = .ptr 158 := by kernel_rfl
@[simp] theorem tsz_15 : tsz Tryd.prog 15 = some 1 := by kernel_rfl
@[simp] theorem tk_16 : tk Tryd.prog 16 = .ptr 161 := by kernel_rfl
@[simp] theorem tsz_16 : tsz Tryd.prog 16 = some 1 := by kernel_rfl
@[simp] theorem tk_17 : tk Tryd.prog 17 = .ptr 170 := by kernel_rfl
@[simp] theorem tsz_17 : tsz Tryd.prog 17 = some 1 := by kernel_rfl
@[simp] theorem tk_18 : tk Tryd.prog 18 = .struct := by kernel_rfl
@[simp] theorem tsz_18 : tsz Tryd.prog 18 = some 1 := by kernel_rfl
@[simp] theorem tzero_18 : tzero Tryd.prog 18 = some ([.lit (.pointer none)]) := by kernel_rfl
@[simp] theorem foff_18_0 : foff Tryd.prog 18 0 = some 0 := by kernel_rfl
@[simp] theorem fplace_18 : fplace Tryd.prog 18 = some [(0, 1)] := by kernel_rfl
@[simp] theorem tk_19 : tk Tryd.prog 19 = .struct := by kernel_rfl
@[simp] theorem tsz_19 : tsz Tryd.prog 19 = some 1 := by kernel_rfl
@[simp] theorem tzero_19 : tzero Tryd.prog 19 = some ([.lit (.pointer none)]) := by kernel_rfl
@[simp] theorem foff_19_0 : foff Tryd.prog 19 0 = some 0 := by kernel_rfl
@[simp] theorem fplace_19 : fplace Tryd.prog 19 = some [(0, 1)] := by kernel_rfl
@[simp] theorem tk_20 : tk Tryd.prog 20 = .iface := by kernel_rfl
@[simp] theorem tsz_20 : tsz Tryd.prog 20 = some 1 := by kernel_rfl
@[simp] theorem tk_21 : tk Tryd.prog 21 = .int .i32 := by kernel_rfl
@[simp] theorem tsz_21 : tsz Tryd.prog 21 = some 1 := by kernel_rfl
@[simp] theorem tzero_21 : tzero Tryd.prog 21 = some ([.d (.int .i32 0)]) := by kernel_rfl
@[simp] theorem tbytes_21 : tbytes Tryd.prog 21 = some 4 := by kernel_rfl
@[simp] theorem tzeroD_21 : tzeroD Tryd.prog 21 = some (.int .i32 0) := by kernel_rfl
@[simp] theorem tk_22 : tk Tryd.prog 22 = .slice 31 := by kernel_rfl
@[simp] theorem tsz_22 : tsz Tryd.prog 22 = some 1 := by kernel_rfl
@[simp] theorem tzero_22 : tzero Tryd.prog 22 = some ([.lit (.slice none 0 0)]) := by kernel_rfl
@[simp] theorem tbytes_22 : tbytes Tryd.prog 22 = some 24 := by kernel_rfl
@[simp] theorem tzeroD_22 : tzeroD Tryd.prog 22 = some (.list []) := by kernel_rfl
@[simp] theorem srcTy_22 : srcTy Tryd.prog 22 = true := by kernel_rfl
@[simp] theorem tk_23 : tk Tryd.prog 23 = .struct := by kernel_rfl
@[simp] theorem tsz_23 : tsz Tryd.prog 23 = some 3 := by kernel_rfl
@[simp] theorem tzero_23 : tzero Tryd.prog 23 = some ([.lit (.slice none 0 0), .d (.int .i64 0), .d (.int .i64 0)]) := by kernel_rfl
@[simp] theorem tbytes_23 : tbytes Tryd.prog 23 = some 40 := by kernel_rfl
@[simp] theorem tzeroD_23 : tzeroD Tryd.prog 23 = some (.agg ([.list [], .int .i64 0, .int .i64 0])) := by kernel_rfl
@[simp] theorem foff_23_0 : foff Tryd.prog 23 0 = some 0 := by kernel_rfl
@[simp] theorem foff_23_1 : foff Tryd.prog 23 1 = some 1 := by kernel_rfl
@[simp] theorem foff_23_2 : foff Tryd.prog 23 2 = some 2 := by kernel_rfl
@[simp] theorem fplace_23 : fplace Tryd.prog 23 = some [(0, 1), (1, 1), (2, 1)] := by kernel_rfl
@[simp] theorem tk_24 : tk Tryd.prog 24 = .struct := by kernel_rfl
@[simp] theorem tsz_24 : tsz Tryd.prog 24 = some 3 := by kernel_rfl
@[simp] theorem tzero_24 : tzero Tryd.prog 24 = some ([.lit (.slice none 0 0), .d (.int .i64 0), .d (.int .i64 0)]) := by kernel_rfl
@[simp] theorem tbytes_24 : tbytes Tryd.prog 24 = some 40 := by kernel_rfl
@[simp] theorem tzeroD_24 : tzeroD Tryd.prog 24 = some (.agg ([.list [], .int .i64 0, .int .i64 0])) := by kernel_rfl
@[simp] theorem foff_24_0 : foff Tryd.prog 24 0 = some 0 := by kernel_rfl
@[simp] theorem foff_24_1 : foff Tryd.prog 24 1 = some 1 := by kernel_rfl
@[simp] theorem foff_24_2 : foff Tryd.prog 24 2 = some 2 := by kernel_rfl
@[simp] theorem fplace_24 : fplace Tryd.prog 24 = some [(0, 1), (1, 1), (2, 1)] := by kernel_rfl
@[simp] theorem tk_25 : tk Tryd.prog 25 = .func := by kernel_rfl
@[simp] theorem tsz_25 : tsz Tryd.prog 25 = some 1 := by kernel_rfl
@[simp] theorem tk_26 : tk Tryd.prog 26 = .int .i64 := by kernel_rfl
@[simp] theorem tsz_26 : tsz Tryd.prog 26 = some 1 := by kernel_rfl
@[simp] theorem tzero_26 : tzero Tryd.prog 26 = some ([.d (.int .i64 0)]) := by kernel_rfl
@[simp] theorem tbytes_26 : tbytes Tryd.prog 26 = some 8 := by kernel_rfl
@[simp] theorem tzeroD_26 : tzeroD Tryd.prog 26 = some (.int .i64 0) := by kernel_rfl
@[simp] theorem tk_28 : tk Tryd.prog 28 = .func := by kernel_rfl
@[simp] theorem tsz_28 : tsz Tryd.prog 28 = some 1 := by kernel_rfl
@[simp] theorem tk_29 : tk Tryd.prog 29 = .slice 4 := by kernel_rfl
@[simp] theorem tsz_29 : tsz Tryd.prog 29 = some 1 := by kernel_rfl
@[simp] theorem tzero_29 : tzero Tryd.prog 29 = some ([.lit (.slice none 0 0)]) := by kernel_rfl
@[simp] theorem tbytes_29 : tbytes Tryd.prog 29 = some 24 := by kernel_rfl
@[simp] theorem tzeroD_29 : tzeroD Tryd.prog 29 = some (.list []) := by kernel_rfl
@[simp] theorem srcTy_29 : srcTy Tryd.prog 29 = true := by kernel_rfl
@[simp] theorem tk_30 : tk Tryd.prog 30 = .struct := by kernel_rfl
@[simp] theorem tsz_30 : tsz Tryd.prog 30 = some 5 := by kernel_rfl
@[simp] theorem tzero_30 : tzero Tryd.prog 30 = some ([.d (.int .i64 0), .d (.int .i64 0), .d (.int .i64 0), .d (.int .i64 0), .d (.int .i64 0)]) := by kernel_rfl
@[simp] theorem tbytes_30 : tbytes Tryd.prog 30 = some 40 := by kernel_rfl
@[simp] theorem tzeroD_30 : tzeroD Tryd.prog 30 = some (.agg ([.int .i64 0, .int .i64 0, .int .i64 0, .int .i64 0, .int .i64 0])) := by kernel_rfl
@[simp] theorem foff_30_0 : foff Tryd.prog 30 0 = some 0 := by kernel_rfl
@[simp] theorem foff_30_1 : foff Tryd.prog 30 1 = some 1 := by kernel_rfl
@[simp] theorem foff_30_2 : foff Tryd.prog 30 2 = some 2 := by kernel_rfl
@[simp] theorem foff_30_3 : foff Tryd.prog 30 3 = some 3 := by kernel_rfl
@[simp] theorem foff_30_4 : foff Tryd.prog 30 4 = some 4 := by kernel_rfl
@[simp] theorem fplace_30 : fplace Tryd.prog 30 = some [(0, 1), (1, 1), (2, 1), (3, 1), (4, 1)] := by kernel_rfl
@[simp] theorem flat_30 : flatStruct Tryd.prog 30 = some [.int .i64, .int .i64, .int .i64, .int .i64, .int .i64] := by kernel_rfl
@[simp] theorem tk_31 : tk Tryd.prog 31 = .struct := by kernel_rfl
@[simp] theorem tsz_31 : tsz Tryd.prog 31 = some 5 := by kernel_rfl
@[simp] theorem tzero_31 : tzero Tryd.prog 31 = some ([.d (.int .i64 0), .d (.int .i64 0), .d (.int .i64 0), .d (.int .i64 0), .d (.int .i64 0)]) := by kernel_rfl
@[simp] theorem tbytes_31 : tbytes Tryd.prog 31 = some 40 := by kernel_rfl
@[simp] theorem tzeroD_31 : tzeroD Tryd.prog 31 = some (.agg ([.int .i64 0, .int .i64 0, .int .i64 0, .int .i64 0, .int .i64 0])) := by kernel_rfl
@[simp] theorem foff_31_0 : foff Tryd.prog 31 0 = some 0 := by kernel_rfl
@[simp] theorem foff_31_1 : foff Tryd.prog 31 1 = some 1 := by kernel_rfl
@[simp] theorem foff_31_2 : foff Tryd.prog 31 2 = some 2 := by kernel_rfl
@[simp] theorem foff_31_3 : foff Tryd.prog 31 3 = some 3 := by kernel_rfl
@[simp] theorem foff_31_4 : foff Tryd.prog 31 4 = some 4 := by kernel_rfl
@[simp] theorem fplace_31 : fplace Tryd.prog 31 = some [(0, 1), (1, 1), (2, 1), (3, 1), (4, 1)] := by kernel_rfl
@[simp] theorem flat_31 : flatStruct Tryd.prog 31 = some [.int .i64, .int .i64, .int .i64, .int .i64, .int .i64] := by kernel_rfl
@[simp] theorem tk_32 : tk Tryd.prog 32 = .func := by kernel_rfl
@[simp] theorem tsz_32 : tsz Tryd.prog 32 = some 1 := by kernel_rfl
@[simp] theorem tk_33 : tk Tryd.prog 33 = .func := by kernel_rfl
@[simp] theorem tsz_33 : tsz Tryd.prog 33 = some 1 := by kernel_rfl
@[simp] theorem tk_34 : tk Tryd.prog 34 = .slice 2 := by kernel_rfl
@[simp] theorem tsz_34 : tsz Tryd.prog 34 = some 1 := by kernel_rfl
@[simp] theorem tzero_34 : tzero Tryd.prog 34 = some ([.lit (.slice none 0 0)]) := by kernel_rfl
@[simp] theorem tbytes_34 : tbytes Tryd.prog 34 = some 24 := by kernel_rfl
@[simp] theorem tzeroD_34 : tzeroD Tryd.prog 34 = some (.list []) := by kernel_rfl
@[simp] theorem srcTy_34 : srcTy Tryd.prog 34 = true := by kernel_rfl
@[simp] theorem tk_35 : tk Tryd.prog 35 = .struct := by kernel_rfl
@[simp] theorem tsz_35 : tsz Tryd.prog 35 = some 3 := by kernel_rfl
@[simp] theorem tzero_35 : tzero Tryd.prog 35 = some ([.lit (.slice none 0 0), .d (.int .i64 0), .d (.int .i64 0)]) := by kernel_rfl
@[simp] theorem tbytes_35 : tbytes Tryd.prog 35 = some 40 := by kernel_rfl
@[simp] theorem tzeroD_35 : tzeroD Tryd.prog 35 = some (.agg ([.list [], .int .i64 0, .int .i64 0])) := by kernel_rfl
@[simp] theorem foff_35_0 : foff Tryd.prog 35 0 = some 0 := by kernel_rfl
@[simp] theorem foff_35_1 : foff Tryd.prog 35 1 = some 1 := by kernel_rfl
@[simp] theorem foff_35_2 : foff Tryd.prog 35 2 = some 2 := by kernel_rfl
@[simp] theorem fplace_35 : fplace Tryd.prog 35 = some [(0, 1), (1, 1), (2, 1)] := by kernel_rfl
@[simp] theorem tk_36 : tk Tryd.prog 36 = .struct := by kernel_rfl
@[simp] theorem tsz_36 : tsz Tryd.prog 36 = some 3 := by kernel_rfl
@[simp] theorem tzero_36 : tzero Tryd.prog 36 = some ([.lit (.slice none 0 0), .d (.int .i64 0), .d (.int .i64 0)]) := by kernel_rfl
@[simp] theorem tbytes_36 : tbytes Tryd.prog 36 = some 40 := by kernel_rfl
@[simp] theorem tzeroD_36 : tzeroD Tryd.prog 36 = some (.agg ([.list [], .int .i64 0, .int .i64 0])) := by kernel_rfl
@[simp] theorem foff_36_0 : foff Tryd.prog 36 0 = some 0 := by kernel_rfl
@[simp] theorem foff_36_1 : foff Tryd.prog 36 1 = some 1 := by kernel_rfl
@[simp] theorem foff_36_2 : foff Tryd.prog 36 2 = some 2 := by kernel_rfl
@[simp] theorem fplace_36 : fplace Tryd.prog 36 = some [(0, 1), (1, 1), (2, 1)] := by kernel_rfl
@[simp] theorem tk_37 : tk Tryd.prog 37 = .func := by kernel_rfl
@[simp] theorem tsz_37 : tsz Tryd.prog 37 = some 1 := by kernel_rfl
@[simp] theorem tk_38 : tk Tryd.prog 38 = .func := by kernel_rfl
@[simp] theorem tsz_38 : tsz Tryd.prog 38 = some 1 := by kernel_rfl
@[simp] theorem tk_39 : tk Tryd.prog 39 = .func := by kernel_rfl
@[simp] theorem tsz_39 : tsz Tryd.prog 39 = some 1 := by kernel_rfl
@[simp] theorem tk_40 : tk Tryd.prog 40 = .func := by kernel_rfl
@[simp] theorem tsz_40 : tsz Tryd.prog 40 = some 1 := by kernel_rfl
@[simp] theorem tk_41 : tk Tryd.prog 41 = .func := by kernel_rfl
@[simp] theorem tsz_41 : tsz Tryd.prog 41 = some 1 := by kernel_rfl
@[simp] theorem tk_43 : tk Tryd.prog 43 = .func := by kernel_rfl
@[simp] theorem tsz_43 : tsz Tryd.prog 43 = some 1 := by kernel_rfl
@[simp] theorem tk_44 : tk Tryd.prog 44 = .func := by kernel_rfl
@[simp] theorem tsz_44 : tsz Tryd.prog 44 = some 1 := by kernel_rfl
@[simp] theorem tk_45 : tk Tryd.prog 45 = .ptr 48 := by kernel_rfl
@[simp] theorem tsz_45 : tsz Tryd.prog 45 = some 1 := by kernel_rfl
@[simp] theorem tk_46 : tk Tryd.prog 46 = .arr 64 2 := by kernel_rfl
@[simp] theorem tsz_46 : tsz Tryd.prog 46 = some 64 := by kernel_rfl
@[simp] theorem tzero_46 : tzero Tryd.prog 46 = some (List.replicate 64 (.d (.int .i64 0))) := by kernel_rfl
@[simp] theorem tbytes_46 : tbytes Tryd.prog 46 = some 512 := by kernel_rfl
@[simp] theorem tzeroD_46 : tzeroD Tryd.prog 46 = some (.agg (List.replicate 64 (.int .i64 0))) := by kernel_rfl
@[simp] theorem fplace_46 : fplace Tryd.prog 46 = none := by kernel_rfl
@[simp] theorem tk_47 : tk Tryd.prog 47 = .struct := by kernel_rfl
@[simp] theorem tsz_47 : tsz Tryd.prog 47 = some 72 := by kernel_rfl
@[simp] theorem tzero_47 : tzero Tryd.prog 47 = some ([.lit (.slice none 0 0), .d (.int .i64 0), .d (.int .i64 0), .lit (.slice none 0 0), .d (.int .i64 0), .d (.int .i64 0), .d (.int .i64 0), .d (.int .i64 0), .d (.int .i64 0), .d (.int .i64 0), .d (.int .i64 0), .d (.int .i64 0), .d (.int .i64 0), .d (.int .i64 0), .d (.int .i64 0), .d (.int .i64 0), .d (.int .i64 0), .d (.int .i64 0), .d (.int .i64 0), .d (.int .i64 0), .d (.int .i64 0), .d (.int .i64 0), .d (.int .i64 0), .d (.int .i64 0), .d (.int .i64 0), .d (.int .i64 0), .d (.int .i64 0), .d (.int .i64 0), .d (.int .i64 0), .d (.int .i64 0), .d (.int .i64 0), .d (.int .i64 0), .d (.int .i64 0), .d (.int .i64 0), .d (.int .i64 0), .d (.int .i64 0), .d (.int .i64 0), .d (.int .i64 0), .d (.int .i64 0), .d (.int .i64 0), .d (.int .i64 0), .d (.int .i64 0), .d (.int .i64 0), .d (.int .i64 0), .d (.int .i64 0), .d (.int .i64 0), .d (.int .i64 0), .d (.int .i64 0), .d (.int .i64 0), .d (.int .i64 0), .d (.int .i64 0), .d (.int .i64 0), .d (.int .i64 0), .d (.int .i64 0), .d (.int .i64 0), .d (.int .i64 0), .d (.int .i64 0), .d (.int .i64 0), .d (.int .i64 0), .d (.int .i64 0), .d (.int .i64 0), .d (.int .i64 0), .d (.int .i64 0), .d (.int .i64 0), .d (.int .i64 0), .d (.int .i64 0), .d (.int .i64 0), .d (.int .i64 0), .d (.int .i64 0), .d (.int .i64 0), .d (.int .i64 0), .d (.int .i64 0)]) := by kernel_rfl
@[simp] theorem tbytes_47 : tbytes Tryd.prog 47 = some 608 := by kernel_rfl
@[simp] theorem tzeroD_47 : tzeroD Tryd.prog 47 = some (.agg ([.list [], .int .i64 0, .int .i64 0, .list [], .int .i64 0, .int .i64 0, .int .i64 0, .int .i64 0, .int .i64 0, .int .i64 0, .int .i64 0, .int .i64 0, .int .i64 0, .int .i64 0, .int .i64 0, .int .i64 0, .int .i64 0, .int .i64 0, .int .i64 0, .int .i64 0, .int .i64 0, .int .i64 0, .int .i64 0, .int .i64 0, .int .i64 0, .int .i64 0, .int .i64 0, .int .i64 0, .int .i64 0, .int .i64 0, .int .i64 0, .int .i64 0, .int .i64 0, .int .i64 0, .int .i64 0, .int .i64 0, .int .i64 0, .int .i64 0, .int .i64 0, .int .i64 0, .int .i64 0, .int .i64 0, .int .i64 0, .int .i64 0, .int .i64 0, .int .i64 0, .int .i64 0, .int .i64 0, .int .i64 0, .int .i64 0, .int .i64 0, .int .i64 0, .int .i64 0, .int .i64 0, .int .i64 0, .int .i64 0, .int .i64 0, .int .i64 0, .int .i64 0, .int .i64 0, .int .i64 0, .int .i64 0, .int .i64 0, .int .i64 0, .int .i64 0, .int .i64 0, .int .i64 0, .int .i64 0, .int .i64 0, .int .i64 0, .int .i64 0, .int .i64 0])) := by kernel_rfl
@[simp] theorem foff_47_0 : foff Tryd.prog 47 0 = some 0 := by kernel_rfl
@[simp] theorem foff_47_1 : foff Tryd.prog 47 1 = some 3 := by kernel_rfl
@[simp] theorem foff_47_2 : foff Tryd.prog 47 2 = some 4 := by kernel_rfl
@[simp] theorem foff_47_3 : foff Tryd.prog 47 3 = some 68 := by kernel_rfl
@[simp] theorem foff_47_4 : foff Tryd.prog 47 4 = some 69 := by kernel_rfl
@[simp] theorem foff_47_5 : foff Tryd.prog 47 5 = some 70 := by kernel_rfl
@[simp] theorem foff_47_6 : foff Tryd.prog 47 6 = some 71 := by kernel_rfl
@[simp] theorem fplace_47 : fplace Tryd.prog 47 = some [(0, 3), (3, 1), (4, 64), (68, 1), (69, 1), (70, 1), (71, 1)] := by kernel_rfl
@[simp] theorem tk_48 : tk Tryd.prog 48 = .struct := by kernel_rfl
@[simp] theorem tsz_48 : tsz Tryd.prog 48 = some 72 := by kernel_rfl
@[simp] theorem tzero_48 : tzero Tryd.prog 48 = some ([.lit (.slice none 0 0), .d (.int .i64 0), .d (.int .i64 0), .lit (.slice none 0 0), .d (.int .i64 0), .d (.int .i64 0), .d (.int .i64 0), .d (.int .i64 0), .d (.int .i64 0), .d (.int .i64 0), .d (.int .i64 0), .d (.int .i64 0), .d (.int .i64 0), .d (.int .i64 0), .d (.int .i64 0), .d (.int .i64 0), .d (.int .i64 0), .d (.int .i64 0), .d (.int .i64 0), .d (.int .i64 0), .d (.int .i64 0), .d (.int .i64 0), .d (.int .i64 0), .d (.int .i64 0), .d (.int .i64 0), .d (.int .i64 0), .d (.int .i64 0), .d (.int .i64 0), .d (.int .i64 0), .d (.int .i64 0), .d (.int .i64 0), .d (.int .i64 0), .d (.int .i64 0), .d (.int .i64 0), .d (.int .i64 0), .d (.int .i64 0), .d (.int .i64 0), .d (.int .i64 0), .d (.int .i64 0), .d (.int .i64 0), .d (.int .i64 0), .d (.int .i64 0), .d (.int .i64 0), .d (.int .i64 0), .d (.int .i64 0), .d (.int .i64 0), .d (.int .i64 0), .d (.int .i64 0), .d (.int .i64 0), .d (.int .i64 0), .d (.int .i64 0), .d (.int .i64 0), .d (.int .i64 0), .d (.int .i64 0), .d (.int .i64 0), .d (.int .i64 0), .d (.int .i64 0), .d (.int .i64 0), .d (.int .i64 0), .d (.int .i64 0), .d (.int .i64 0), .d (.int .i64 0), .d (.int .i64 0), .d (.int .i64 0), .d (.int .i64 0), .d (.int .i64 0), .d (.int .i64 0), .d (.int .i64 0), .d (.int .i64 0), .d (.int .i64 0), .d (.int .i64 0), .d (.int .i64 0)]) := by kernel_rfl
@[simp] theorem tbytes_48 : tbytes Tryd.prog 48 = some 608 := by kernel_rfl
@[simp] theorem tzeroD_48 : tzeroD Tryd.prog 48 = some (.agg ([.list [], .int .i64 0, .int .i64 0, .list [], .int .i64 0, .int .i64 0, .int .i64 0, .int .i64 0, .int .i64 0, .int .i64 0, .int .i64 0, .int .i64 0, .int .i64 0, .int .i64 0, .int .i64 0, .int .i64 0, .int .i64 0, .int .i64 0, .int .i64 0, .int .i64 0, .int .i64 0, .int .i64 0, .int .i64 0, .int .i64 0, .int .i64 0, .int .i64 0, .int .i64 0, .int .i64 0, .int .i64 0, .int .i64 0, .int .i64 0, .int .i64 0, .int .i64 0, .int .i64 0, .int .i64 0, .int .i64 0, .int .i64 0, .int .i64 0, .int .i64 0, .int .i64 0, .int .i64 0, .int .i64 0, .int .i64 0, .int .i64 0, .int .i64 0, .int .i64 0, .int .i64 0, .int .i64 0, .int .i64 0, .int .i64 0, .int .i64 0, .int .i64 0, .int .i64 0, .int .i64 0, .int .i64 0, .int .i64 0, .int .i64 0, .int .i64 0, .int .i64 0, .int .i64 0, .int .i64 0, .int .i64 0, .int .i64 0, .int .i64 0, .int .i64 0, .int .i64 0, .int .i64 0, .int .i64 0, .int .i64 0, .int .i64 0, .int .i64 0, .int .i64 0])) := by kernel_rfl
@[simp] theorem foff_48_0 : foff Tryd.prog 48 0 = some 0 := by kernel_rfl
@[simp] theorem foff_48_1 : foff Tryd.prog 48 1 = some 3 := by kernel_rfl
@[simp] theorem foff_48_2 : foff Tryd.prog 48 2 = some 4 := by kernel_rfl
@[simp] theorem foff_48_3 : foff Tryd.prog 48 3 = some 68 := by kernel_rfl
@[simp] theorem foff_48_4 : foff Tryd.prog 48 4 = some 69 := by kernel_rfl
@[simp] theorem foff_48_5 : foff Tryd.prog 48 5 = some 70 := by kernel_rfl
@[simp] theorem foff_48_6 : foff Tryd.prog 48 6 = some 71 := by kernel_rfl
@[simp] theorem fplace_48 : fplace Tryd.prog 48 = some [(0, 3), (3, 1), (4, 64), (68, 1), (69, 1), (70, 1), (71, 1)] := by kernel_rfl
@[simp] theorem tk_49 : tk Tryd.prog 49 = .func := by kernel_rfl
@[simp] theorem tsz_49 : tsz Tryd.prog 49 = some 1 := by kernel_rfl
@[simp] theorem tk_50 : tk Tryd.prog 50 = .func := by kernel_rfl
@[simp] theorem tsz_50 : tsz Tryd.prog 50 = some 1 := by kernel_rfl
@[simp] theorem tk_51 : tk Tryd.prog 51 = .func := by kernel_rfl
@[simp] theorem tsz_51 : tsz Tryd.prog 51 = some 1 := by kernel_rfl
@[simp] theorem tk_52 : tk Tryd.prog 52 = .func := by kernel_rfl
@[simp] theorem tsz_52 : tsz Tryd.prog 52 = some 1 := by kernel_rfl
@[simp] theorem tk_53 : tk Tryd.prog 53 = .arr 70 4 := by kernel_rfl
@[simp] theorem tsz_53 : tsz Tryd.prog 53 = some 70 := by kernel_rfl
@[simp] theorem tzero_53 : tzero Tryd.prog 53 = some (List.replicate 70 (.d (.bool false))) := by kernel_rfl
@[simp] theorem tbytes_53 : tbytes Tryd.prog 53 = some 70 := by kernel_rfl
@[simp] theorem tzeroD_53 : tzeroD Tryd.prog 53 = some (.agg (List.replicate 70 (.bool false))) := by kernel_rfl
@[simp] theorem fplace_53 : fplace Tryd.prog 53 = none := by kernel_rfl
@[simp] theorem tk_55 : tk Tryd.prog 55 = .func := by kernel_rfl
@[simp] theorem tsz_55 : tsz Tryd.prog 55 = some 1 := by kernel_rfl
@[simp] theorem tk_56 : tk Tryd.prog 56 = .ptr 58 := by kernel_rfl
@[simp] theorem tsz_56 : tsz Tryd.prog 56 = some 1 := by kernel_rfl
@[simp] theorem tk_57 : tk Tryd.prog 57 = .struct := by kernel_rfl
@[simp] theorem tsz_57 : tsz Tryd.prog 57 = some 5 := by kernel_rfl
@[simp] theorem tzero_57 : tzero Tryd.prog 57 = some ([.lit (.slice none 0 0), .lit (.slice none 0 0), .d (.int .i64 0), .d (.int .i64 0), .d (.int .i64 0)]) := by kernel_rfl
@[simp] theorem tbytes_57 : tbytes Tryd.prog 57 = some 72 := by kernel_rfl
@[simp] theorem tzeroD_57 : tzeroD Tryd.prog 57 = some (.agg ([.list [], .list [], .int .i64 0, .int .i64 0, .int .i64 0])) := by kernel_rfl
@[simp] theorem foff_57_0 : foff Tryd.prog 57 0 = some 0 := by kernel_rfl
@[simp] theorem foff_57_1 : foff Tryd.prog 57 1 = some 1 := by kernel_rfl
@[simp] theorem foff_57_2 : foff Tryd.prog 57 2 = some 2 := by kernel_rfl
@[simp] theorem foff_57_3 : foff Tryd.prog 57 3 = some 3 := by kernel_rfl
@[simp] theorem foff_57_4 : foff Tryd.prog 57 4 = some 4 := by kernel_rfl
@[simp] theorem fplace_57 : fplace Tryd.prog 57 = some [(0, 1), (1, 1), (2, 1), (3, 1), (4, 1)] := by kernel_rfl
@[simp] theorem tk_58 : tk Tryd.prog 58 = .struct := by kernel_rfl
@[simp] theorem tsz_58 : tsz Tryd.prog 58 = some 5 := by kernel_rfl
@[simp] theorem tzero_58 : tzero Tryd.prog 58 = some ([.lit (.slice none 0 0), .lit (.slice none 0 0), .d (.int .i64 0), .d (.int .i64 0), .d (.int .i64 0)]) := by kernel_rfl
@[simp] theorem tbytes_58 : tbytes Tryd.prog 58 = some 72 := by kernel_rfl
@[simp] theorem tzeroD_58 : tzeroD Tryd.prog 58 = some (.agg ([.list [], .list [], .int .i64 0, .int .i64 0, .int .i64 0])) := by kernel_rfl
@[simp] theorem foff_58_0 : foff Tryd.prog 58 0 = some 0 := by kernel_rfl
@[simp] theorem foff_58_1 : foff Tryd.prog 58 1 = some 1 := by kernel_rfl
@[simp] theorem foff_58_2 : foff Tryd.prog 58 2 = some 2 := by kernel_rfl
@[simp] theorem foff_58_3 : foff Tryd.prog 58 3 = some 3 := by kernel_rfl
@[simp] theorem foff_58_4 : foff Tryd.prog 58 4 = some 4 := by kernel_rfl
@[simp] theorem fplace_58 : fplace Tryd.prog 58 = some [(0, 1), (1, 1), (2, 1), (3, 1), (4, 1)] := by kernel_rfl
@[simp] theorem tk_59 : tk Tryd.prog 59 = .ptr 61 := by kernel_rfl
@[simp] theorem tsz_59 : tsz Tryd.prog 59 = some 1 := by kernel_rfl
@[simp] theorem tk_60 : tk Tryd.prog 60 = .struct := by kernel_rfl
@[simp] theorem tsz_60 : tsz Tryd.prog 60 = some 5 := by kernel_rfl
@[simp] theorem tzero_60 : tzero Tryd.prog 60 = some ([.lit (.slice none 0 0), .d (.int .i64 0), .d (.int .i64 0), .lit (.slice none 0 0), .lit (.slice none 0 0)]) := by kernel_rfl
@[simp] theorem tbytes_60 : tbytes Tryd.prog 60 = some 88 := by kernel_rfl
@[simp] theorem tzeroD_60 : tzeroD Tryd.prog 60 = some (.agg ([.list [], .int .i64 0, .int .i64 0, .list [], .list []])) := by kernel_rfl
@[simp] theorem foff_60_0 : foff Tryd.prog 60 0 = some 0 := by kernel_rfl
@[simp] theorem foff_60_1 : foff Tryd.prog 60 1 = some 3 := by kernel_rfl
@[simp] theorem foff_60_2 : foff Tryd.prog 60 2 = some 4 := by kernel_rfl
@[simp] theorem fplace_60 : fplace Tryd.prog 60 = some [(0, 3), (3, 1), (4, 1)] := by kernel_rfl
@[simp] theorem tk_61 : tk Tryd.prog 61 = .struct := by kernel_rfl
@[simp] theorem tsz_61 : tsz Tryd.prog 61 = some 5 := by kernel_rfl
@[simp] theorem tzero_61 : tzero Tryd.prog 61 = some ([.lit (.slice none 0 0), .d (.int .i64 0), .d (.int .i64 0), .lit (.slice none 0 0), .lit (.slice none 0 0)]) := by kernel_rfl
@[simp] theorem tbytes_61 : tbytes Tryd.prog 61 = some 88 := by kernel_rfl
@[simp] theorem tzeroD_61 : tzeroD Tryd.prog 61 = some (.agg ([.list [], .int .i64 0, .int .i64 0, .list [], .list []])) := by kernel_rfl
@[simp] theorem foff_61_0 : foff Tryd.prog 61 0 = some 0 := by kernel_rfl
@[simp] theorem foff_61_1 : foff Tryd.prog 61 1 = some 3 := by kernel_rfl
@[simp] theorem foff_61_2 : foff Tryd.prog 61 2 = some 4 := by kernel_rfl
@[simp] theorem fplace_61 : fplace Tryd.prog 61 = some [(0, 3), (3, 1), (4, 1)] := by kernel_rfl
@[simp] theorem tk_62 : tk Tryd.prog 62 = .func := by kernel_rfl
@[simp] theorem tsz_62 : tsz Tryd.prog 62 = some 1 := by kernel_rfl
@[simp] theorem tk_63 : tk Tryd.prog 63 = .func := by kernel_rfl
@[simp] theorem tsz_63 : tsz Tryd.prog 63 = some 1 := by kernel_rfl
@[simp] theorem tk_64 : tk Tryd.prog 64 = .func := by kernel_rfl
@[simp] theorem tsz_64 : tsz Tryd.prog 64 = some 1 := by kernel_rfl
@[simp] theorem tk_65 : tk Tryd.prog 65 = .func := by kernel_rfl
@[simp] theorem tsz_65 : tsz Tryd.prog 65 = some 1 := by kernel_rfl
@[simp] theorem tk_66 : tk Tryd.prog 66 = .func := by kernel_rfl
@[simp] theorem tsz_66 : tsz Tryd.prog 66 = some 1 := by kernel_rfl
@[simp] theorem tk_67 : tk Tryd.prog 67 = .func := by kernel_rfl
@[simp] theorem tsz_67 : tsz Tryd.prog 67 = some 1 := by kernel_rfl
@[simp] theorem tk_68 : tk Tryd.prog 68 = .func := by kernel_rfl
@[simp] theorem tsz_68 : tsz Tryd.prog 68 = some 1 := by kernel_rfl
@[simp] theorem tk_70 : tk Tryd.prog 70 = .func := by kernel_rfl
@[simp] theorem tsz_70 : tsz Tryd.prog 70 = some 1 := by kernel_rfl
@[simp] theorem tk_71 : tk Tryd.prog 71 = .func := by kernel_rfl
@[simp] theorem tsz_71 : tsz Tryd.prog 71 = some 1 := by kernel_rfl
@[simp] theorem tk_72 : tk Tryd.prog 72 = .slice 89 := by kernel_rfl
@[simp] theorem tsz_72 : tsz Tryd.prog 72 = some 1 := by kernel_rfl
@[simp] theorem tzero_72 : tzero Tryd.prog 72 = some ([.lit (.slice none 0 0)]) := by kernel_rfl
@[simp] theorem tbytes_72 : tbytes Tryd.prog 72 = some 24 := by kernel_rfl
@[simp] theorem tzeroD_72 : tzeroD Tryd.prog 72 = some (.list []) := by kernel_rfl
@[simp] theorem srcTy_72 : srcTy Tryd.prog 72 = true := by kernel_rfl
@[simp] theorem tk_73 : tk Tryd.prog 73 = .func := by kernel_rfl
@[simp] theorem tsz_73 : tsz Tryd.prog 73 = some 1 := by kernel_rfl
@[simp] theorem tk_74 : tk Tryd.prog 74 = .func := by kernel_rfl
@[simp] theorem tsz_74 : tsz Tryd.prog 74 = some 1 := by kernel_rfl
@[simp] theorem tk_75 : tk Tryd.prog 75 = .func := by kernel_rfl
@[simp] theorem tsz_75 : tsz Tryd.prog 75 = some 1 := by kernel_rfl
@[simp] theorem tk_76 : tk Tryd.prog 76 = .func := by kernel_rfl
@[simp] theorem tsz_76 : tsz Tryd.prog 76 = some 1 := by kernel_rfl
@[simp] theorem tk_78 : tk Tryd.prog 78 = .func := by kernel_rfl
@[simp] theorem tsz_78 : tsz Tryd.prog 78 = some 1 := by kernel_rfl
@[simp] theorem tk_79 : tk Tryd.prog 79 = .func := by kernel_rfl
@[simp] theorem tsz_79 : tsz Tryd.prog 79 = some 1 := by kernel_rfl
@[simp] theorem tk_80 : tk Tryd.prog 80 = .slice 3 := by kernel_rfl
@[simp] theorem tsz_80 : tsz Tryd.prog 80 = some 1 := by kernel_rfl
@[simp] theorem tzero_80 : tzero Tryd.prog 80 = some ([.lit (.slice none 0 0)]) := by kernel_rfl
@[simp] theorem tbytes_80 : tbytes Tryd.prog 80 = some 24 := by kernel_rfl
@[simp] theorem tzeroD_80 : tzeroD Tryd.prog 80 = some (.list []) := by kernel_rfl
@[simp] theorem srcTy_80 : srcTy Tryd.prog 80 = true := by kernel_rfl
@[simp] theorem tk_81 : tk Tryd.prog 81 = .func := by kernel_rfl
@[simp] theorem tsz_81 : tsz Tryd.prog 81 = some 1 := by kernel_rfl
@[simp] theorem tk_82 : tk Tryd.prog 82 = .func := by kernel_rfl
@[simp] theorem tsz_82 : tsz Tryd.prog 82 = some 1 := by kernel_rfl
@[simp] theorem tk_83 : tk Tryd.prog 83 = .struct := by kernel_rfl
@[simp] theorem tsz_83 : tsz Tryd.prog 83 = some 5 := by kernel_rfl
@[simp] theorem tzero_83 : tzero Tryd.prog 83 = some ([.d (.int .i64 0), .d (.str []), .d (.str []), .d (.str []), .d (.int .i64 0)]) := by kernel_rfl
@[simp] theorem tbytes_83 : tbytes Tryd.prog 83 = some 64 := by kernel_rfl
@[simp] theorem tzeroD_83 : tzeroD Tryd.prog 83 = some (.agg ([.int .i64 0, .str [], .str [], .str [], .int .i64 0])) := by kernel_rfl
@[simp] theorem foff_83_0 : foff Tryd.prog 83 0 = some 0 := by kernel_rfl
@[simp] theorem foff_83_1 : foff Tryd.prog 83 1 = some 1 := by kernel_rfl
@[simp] theorem foff_83_2 : foff Tryd.prog 83 2 = some 2 := by kernel_rfl
@[simp] theorem foff_83_3 : foff Tryd.prog 83 3 = some 3 := by kernel_rfl
@[simp] theorem foff_83_4 : foff Tryd.prog 83 4 = some 4 := by kernel_rfl
@[simp] theorem fplace_83 : fplace Tryd.prog 83 = some [(0, 1), (1, 1), (2, 1), (3, 1), (4, 1)] := by kernel_rfl
@[simp] theorem flat_83 : flatStruct Tryd.prog 83 = some [.int .i64, .str, .str, .str, .int .i64] := by kernel_rfl
@[simp] theorem tk_84 : tk Tryd.prog 84 = .struct := by kernel_rfl
@[simp] theorem tsz_84 : tsz Tryd.prog 84 = some 5 := by kernel_rfl
@[simp] theorem tzero_84 : tzero Tryd.prog 84 = some ([.d (.int .i64 0), .d (.str []), .d (.str []), .d (.str []), .d (.int .i64 0)]) := by kernel_rfl
@[simp] theorem tbytes_84 : tbytes Tryd.prog 84 = some 64 := by kernel_rfl
@[simp] theorem tzeroD_84 : tzeroD Tryd.prog 84 = some (.agg ([.int .i64 0, .str [], .str [], .str [], .int .i64 0])) := by kernel_rfl
@[simp] theorem foff_84_0 : foff Tryd.prog 84 0 = some 0 := by kernel_rfl
@[simp] theorem foff_84_1 : foff Tryd.prog 84 1 = some 1 := by kernel_rfl
@[simp] theorem foff_84_2 : foff Tryd.prog 84 2 = some 2 := by kernel_rfl
@[simp] theorem foff_84_3 : foff Tryd.prog 84 3 = some 3 := by kernel_rfl
@[simp] theorem foff_84_4 : foff Tryd.prog 84 4 = some 4 := by kernel_rfl
@[simp] theorem fplace_84 : fplace Tryd.prog 84 = some [(0, 1), (1, 1), (2, 1), (3, 1), (4, 1)] := by kernel_rfl
@[simp] theorem flat_84 : flatStruct Tryd.prog 84 = some [.int .i64, .str, .str, .str, .int .i64] := by kernel_rfl
@[simp] theorem tk_86 : tk Tryd.prog 86 = .func := by kernel_rfl
@[simp] theorem tsz_86 : tsz Tryd.prog 86 = some 1 := by kernel_rfl
@[simp] theorem tk_87 : tk Tryd.prog 87 = .func := by kernel_rfl
@[simp] theorem tsz_87 : tsz Tryd.prog 87 = some 1 := by kernel_rfl
@[simp] theorem tk_88 : tk Tryd.prog 88 = .struct := by kernel_rfl
@[simp] theorem tsz_88 : tsz Tryd.prog 88 = some 3 := by kernel_rfl
@[simp] theorem tzero_88 : tzero Tryd.prog 88 = some ([.d (.str []), .d (.int .i64 0), .d (.bool false)]) := by kernel_rfl
@[simp] theorem tbytes_88 : tbytes Tryd.prog 88 = some 32 := by kernel_rfl
@[simp] theorem tzeroD_88 : tzeroD Tryd.prog 88 = some (.agg ([.str [], .int .i64 0, .bool false])) := by kernel_rfl
@[simp] theorem foff_88_0 : foff Tryd.prog 88 0 = some 0 := by kernel_rfl
@[simp] theorem foff_88_1 : foff Tryd.prog 88 1 = some 1 := by kernel_rfl
@[simp] theorem foff_88_2 : foff Tryd.prog 88 2 = some 2 := by kernel_rfl
@[simp] theorem fplace_88 : fplace Tryd.prog 88 = some [(0, 1), (1, 1), (2, 1)] := by kernel_rfl
@[simp] theorem flat_88 : flatStruct Tryd.prog 88 = some [.str, .int .i64, .bool] := by kernel_rfl
@[simp] theorem tk_89 : tk Tryd.prog 89 = .struct := by kernel_rfl
@[simp] theorem tsz_89 : tsz Tryd.prog 89 = some 3 := by kernel_rfl
@[simp] theorem tzero_89 : tzero Tryd.prog 89 = some ([.d (.str []), .d (.int .i64 0), .d (.bool false)]) := by kernel_rfl
@[simp] theorem tbytes_89 : tbytes Tryd.prog 89 = some 32 := by kernel_rfl
@[simp] theorem tzeroD_89 : tzeroD Tryd.prog 89 = some (.agg ([.str [], .int .i64 0, .bool false])) := by kernel_rfl
@[simp] theorem foff_89_0 : foff Tryd.prog 89 0 = some 0 := by kernel_rfl
@[simp] theorem foff_89_1 : foff Tryd.prog 89 1 = some 1 := by kernel_rfl
@[simp] theorem foff_89_2 : foff Tryd.prog 89 2 = some 2 := by kernel_rfl
@[simp] theorem fplace_89 : fplace Tryd.prog 89 = some [(0, 1), (1, 1), (2, 1)] := by kernel_rfl
@[simp] theorem flat_89 : flatStruct Tryd.prog 89 = some [.str, .int .i64, .bool] := by kernel_rfl
@[simp] theorem tk_90 : tk Tryd.prog 90 = .func := by kernel_rfl
@[simp] theorem tsz_90 : tsz Tryd.prog 90 = some 1 := by kernel_rfl
@[simp] theorem tk_91 : tk Tryd.prog 91 = .slice 95 := by kernel_rfl
@[simp] theorem tsz_91 : tsz Tryd.prog 91 = some 1 := by kernel_rfl
@[simp] theorem tzero_91 : tzero Tryd.prog 91 = some ([.lit (.slice none 0 0)]) := by kernel_rfl
@[simp] theorem tbytes_91 : tbytes Tryd.prog 91 = some 24 := by kernel_rfl
@[simp] theorem tzeroD_91 : tzeroD Tryd.prog 91 = some (.list []) := by kernel_rfl
@[simp] theorem srcTy_91 : srcTy Tryd.prog 91 = true := by kernel_rfl
@[simp] theorem tk_92 : tk Tryd.prog 92 = .func := by kernel_rfl
@[simp] theorem tsz_92 : tsz Tryd.prog 92 = some 1 := by kernel_rfl
@[simp] theorem tk_93 : tk Tryd.prog 93 = .slice 9 := by kernel_rfl
@[simp] theorem tsz_93 : tsz Tryd.prog 93 = some 1 := by kernel_rfl
@[simp] theorem tzero_93 : tzero Tryd.prog 93 = some ([.lit (.slice none 0 0)]) := by kernel_rfl
@[simp] theorem tbytes_93 : tbytes Tryd.prog 93 = some 24 := by kernel_rfl
@[simp] theorem tzeroD_93 : tzeroD Tryd.prog 93 = some (.list []) := by kernel_rfl
@[simp] theorem srcTy_93 : srcTy Tryd.prog 93 = true := by kernel_rfl
@[simp] theorem tk_94 : tk Tryd.prog 94 = .struct := by kernel_rfl
@[simp] theorem tsz_94 : tsz Tryd.prog 94 = some 4 := by kernel_rfl
@[simp] theorem tzero_94 : tzero Tryd.prog 94 = some ([.d (.int .i64 0), .d (.str []), .d (.str []), .lit (.slice none 0 0)]) := by kernel_rfl
@[simp] theorem tbytes_94 : tbytes Tryd.prog 94 = some 64 := by kernel_rfl
@[simp] theorem tzeroD_94 : tzeroD Tryd.prog 94 = some (.agg ([.int .i64 0, .str [], .str [], .list []])) := by kernel_rfl
@[simp] theorem foff_94_0 : foff Tryd.prog 94 0 = some 0 := by kernel_rfl
@[simp] theorem foff_94_1 : foff Tryd.prog 94 1 = some 1 := by kernel_rfl
@[simp] theorem foff_94_2 : foff Tryd.prog 94 2 = some 2 := by kernel_rfl
@[simp] theorem foff_94_3 : foff Tryd.prog 94 3 = some 3 := by kernel_rfl
@[simp] theorem fplace_94 : fplace Tryd.prog 94 = some [(0, 1), (1, 1), (2, 1), (3, 1)] := by kernel_rfl
@[simp] theorem tk_95 : tk Tryd.prog 95 = .struct := by kernel_rfl
@[simp] theorem tsz_95 : tsz Tryd.prog 95 = some 4 := by kernel_rfl
@[simp] theorem tzero_95 : tzero Tryd.prog 95 = some ([.d (.int .i64 0), .d (.str []), .d (.str []), .lit (.slice none 0 0)]) := by kernel_rfl
@[simp] theorem tbytes_95 : tbytes Tryd.prog 95 = some 64 := by kernel_rfl
@[simp] theorem tzeroD_95 : tzeroD Tryd.prog 95 = some (.agg ([.int .i64 0, .str [], .str [], .list []])) := by kernel_rfl
@[simp] theorem foff_95_0 : foff Tryd.prog 95 0 = some 0 := by kernel_rfl
@[simp] theorem foff_95_1 : foff Tryd.prog 95 1 = some 1 := by kernel_rfl
@[simp] theorem foff_95_2 : foff Tryd.prog 95 2 = some 2 := by kernel_rfl
@[simp] theorem foff_95_3 : foff Tryd.prog 95 3 = some 3 := by kernel_rfl
@[simp] theorem fplace_95 : fplace Tryd.prog 95 = some [(0, 1), (1, 1), (2, 1), (3, 1)] := by kernel_rfl
@[simp] theorem tk_97 : tk Tryd.prog 97 = .func := by kernel_rfl
@[simp] theorem tsz_97 : tsz Tryd.prog 97 = some 1 := by kernel_rfl
@[simp] theorem tk_98 : tk Tryd.prog 98 = .arr 6 4 := by kernel_rfl
@[simp] theorem tsz_98 : tsz Tryd.prog 98 = some 6 := by kernel_rfl
@[simp] theorem tzero_98 : tzero Tryd.prog 98 = some ([.d (.bool false), .d (.bool false), .d (.bool false), .d (.bool false), .d (.bool false), .d (.bool false)]) := by kernel_rfl
@[simp] theorem tbytes_98 : tbytes Tryd.prog 98 = some 6 := by kernel_rfl
@[simp] theorem tzeroD_98 : tzeroD Tryd.prog 98 = some (.agg ([.bool false, .bool false, .bool false, .bool false, .bool false, .bool false])) := by kernel_rfl
@[simp] theorem fplace_98 : fplace Tryd.prog 98 = none := by kernel_rfl
@[simp] theorem tk_100 : tk Tryd.prog 100 = .func := by kernel_rfl
@[simp] theorem tsz_100 : tsz Tryd.prog 100 = some 1 := by kernel_rfl
@[simp] theorem tk_101 : tk Tryd.prog 101 = .func := by kernel_rfl
@[simp] theorem tsz_101 : tsz Tryd.prog 101 = some 1 := by kernel_rfl
@[simp] theorem tk_102 : tk Tryd.prog 102 = .func := by kernel_rfl
@[simp] theorem tsz_102 : tsz Tryd.prog 102 = some 1 := by kernel_rfl
@[simp] theorem tk_103 : tk Tryd.prog 103 = .func := by kernel_rfl
@[simp] theorem tsz_103 : tsz Tryd.prog 103 = some 1 := by kernel_rfl
@[simp] theorem tk_104 : tk Tryd.prog 104 = .func := by kernel_rfl
@[simp] theorem tsz_104 : tsz Tryd.prog 104 = some 1 := by kernel_rfl
@[simp] theorem tk_105 : tk Tryd.prog 105 = .func := by kernel_rfl
@[simp] theorem tsz_105 : tsz Tryd.prog 105 = some 1 := by kernel_rfl
@[simp] theorem tk_106 : tk Tryd.prog 106 = .func := by kernel_rfl
@[simp] theorem tsz_106 : tsz Tryd.prog 106 = some 1 := by kernel_rfl
@[simp] theorem tk_107 : tk Tryd.prog 107 = .func := by kernel_rfl
@[simp] theorem tsz_107 : tsz Tryd.prog 107 = some 1 := by kernel_rfl
@[simp] theorem tk_108 : tk Tryd.prog 108 = .slice 84 := by kernel_rfl
@[simp] theorem tsz_108 : tsz Tryd.prog 108 = some 1 := by kernel_rfl
@[simp] theorem tzero_108 : tzero Tryd.prog 108 = some ([.lit (.slice none 0 0)]) := by kernel_rfl
@[simp] theorem tbytes_108 : tbytes Tryd.prog 108 = some 24 := by kernel_rfl
@[simp] theorem tzeroD_108 : tzeroD Tryd.prog 108 = some (.list []) := by kernel_rfl
@[simp] theorem srcTy_108 : srcTy Tryd.prog 108 = true := by kernel_rfl
@[simp] theorem tk_109 : tk Tryd.prog 109 = .func := by kernel_rfl
@[simp] theorem tsz_109 : tsz Tryd.prog 109 = some 1 := by kernel_rfl
@[simp] theorem tk_110 : tk Tryd.prog 110 = .func := by kernel_rfl
@[simp] theorem tsz_110 : tsz Tryd.prog 110 = some 1 := by kernel_rfl
@[simp] theorem tk_111 : tk Tryd.prog 111 = .func := by kernel_rfl
@[simp] theorem tsz_111 : tsz Tryd.prog 111 = some 1 := by kernel_rfl
@[simp] theorem tk_112 : tk Tryd.prog 112 = .func := by kernel_rfl
@[simp] theorem tsz_112 : tsz Tryd.prog 112 = some 1 := by kernel_rfl
@[simp] theorem tk_114 : tk Tryd.prog 114 = .func := by kernel_rfl
@[simp] theorem tsz_114 : tsz Tryd.prog 114 = some 1 := by kernel_rfl
@[simp] theorem tk_115 : tk Tryd.prog 115 = .func := by kernel_rfl
@[simp] theorem tsz_115 : tsz Tryd.prog 115 = some 1 := by kernel_rfl
@[simp] theorem tk_116 : tk Tryd.prog 116 = .int .u64 := by kernel_rfl
@[simp] theorem tsz_116 : tsz Tryd.prog 116 = some 1 := by kernel_rfl
@[simp] theorem tzero_116 : tzero Tryd.prog 116 = some ([.d (.int .u64 0)]) := by kernel_rfl
@[simp] theorem tbytes_116 : tbytes Tryd.prog 116 = some 8 := by kernel_rfl
@[simp] theorem tzeroD_116 : tzeroD Tryd.prog 116 = some (.int .u64 0) := by kernel_rfl
@[simp] theorem tk_117 : tk Tryd.prog 117 = .arr 4 116 := by kernel_rfl
@[simp] theorem tsz_117 : tsz Tryd.prog 117 = some 4 := by kernel_rfl
@[simp] theorem tzero_117 : tzero Tryd.prog 117 = some ([.d (.int .u64 0), .d (.int .u64 0), .d (.int .u64 0), .d (.int .u64 0)]) := by kernel_rfl
@[simp] theorem tbytes_117 : tbytes Tryd.prog 117 = some 32 := by kernel_rfl
@[simp] theorem tzeroD_117 : tzeroD Tryd.prog 117 = some (.agg ([.int .u64 0, .int .u64 0, .int .u64 0, .int .u64 0])) := by kernel_rfl
@[simp] theorem fplace_117 : fplace Tryd.prog 117 = none := by kernel_rfl
@[simp] theorem tk_118 : tk Tryd.prog 118 = .struct := by kernel_rfl
@[simp] theorem tsz_118 : tsz Tryd.prog 118 = some 5 := by kernel_rfl
@[simp] theorem tzero_118 : tzero Tryd.prog 118 = some ([.d (.int .u64 0), .d (.int .u64 0), .d (.int .u64 0), .d (.int .u64 0), .d (.bool false)]) := by kernel_rfl
@[simp] theorem tbytes_118 : tbytes Tryd.prog 118 = some 40 := by kernel_rfl
@[simp] theorem tzeroD_118 : tzeroD Tryd.prog 118 = some (.agg ([.int .u64 0, .int .u64 0, .int .u64 0, .int .u64 0, .bool false])) := by kernel_rfl
@[simp] theorem foff_118_0 : foff Tryd.prog 118 0 = some 0 := by kernel_rfl
@[simp] theorem foff_118_1 : foff Tryd.prog 118 1 = some 4 := by kernel_rfl
@[simp] theorem fplace_118 : fplace Tryd.prog 118 = some [(0, 4), (4, 1)] := by kernel_rfl
@[simp] theorem tk_119 : tk Tryd.prog 119 = .struct := by kernel_rfl
@[simp] theorem tsz_119 : tsz Tryd.prog 119 = some 5 := by kernel_rfl
@[simp] theorem tzero_119 : tzero Tryd.prog 119 = some ([.d (.int .u64 0), .d (.int .u64 0), .d (.int .u64 0), .d (.int .u64 0), .d (.bool false)]) := by kernel_rfl
@[simp] theorem tbytes_119 : tbytes Tryd.prog 119 = some 40 := by kernel_rfl
@[simp] theorem tzeroD_119 : tzeroD Tryd.prog 119 = some (.agg ([.int .u64 0, .int .u64 0, .int .u64 0, .int .u64 0, .bool false])) := by kernel_rfl
@[simp] theorem foff_119_0 : foff Tryd.prog 119 0 = some 0 := by kernel_rfl
@[simp] theorem foff_119_1 : foff Tryd.prog 119 1 = some 4 := by kernel_rfl
@[simp] theorem fplace_119 : fplace Tryd.prog 119 = some [(0, 4), (4, 1)] := by kernel_rfl
@[simp] theorem tk_120 : tk Tryd.prog 120 = .func := by kernel_rfl
@[simp] theorem tsz_120 : tsz Tryd.prog 120 = some 1 := by kernel_rfl
@[simp] theorem tk_121 : tk Tryd.prog 121 = .func := by kernel_rfl
@[simp] theorem tsz_121 : tsz Tryd.prog 121 = some 1 := by kernel_rfl
@[simp] theorem tk_122 : tk Tryd.prog 122 = .func := by kernel_rfl
@[simp] theorem tsz_122 : tsz Tryd.prog 122 = some 1 := by kernel_rfl
@[simp] theorem tk_124 : tk Tryd.prog 124 = .func := by kernel_rfl
@[simp] theorem tsz_124 : tsz Tryd.prog 124 = some 1 := by kernel_rfl
@[simp] theorem tk_126 : tk Tryd.prog 126 = .func := by kernel_rfl
@[simp] theorem tsz_126 : tsz Tryd.prog 126 = some 1 := by kernel_rfl
@[simp] theorem tk_127 : tk Tryd.prog 127 = .arr 256 5 := by kernel_rfl
@[simp] theorem tsz_127 : tsz Tryd.prog 127 = some 256 := by kernel_rfl
@[simp] theorem tzero_127 : tzero Tryd.prog 127 = some (List.replicate 256 (.d (.int .u8 0))) := by kernel_rfl
@[simp] theorem tbytes_127 : tbytes Tryd.prog 127 = some 256 := by kernel_rfl
@[simp] theorem tzeroD_127 : tzeroD Tryd.prog 127 = some (.agg (List.replicate 256 (.int .u8 0))) := by kernel_rfl
@[simp] theorem fplace_127 : fplace Tryd.prog 127 = none := by kernel_rfl
@[simp] theorem tk_128 : tk Tryd.prog 128 = .func := by kernel_rfl
@[simp] theorem tsz_128 : tsz Tryd.prog 128 = some 1 := by kernel_rfl
@[simp] theorem tk_129 : tk Tryd.prog 129 = .func := by kernel_rfl
@[simp] theorem tsz_129 : tsz Tryd.prog 129 = some 1 := by kernel_rfl
@[simp] theorem tk_130 : tk Tryd.prog 130 = .func := by kernel_rfl
@[simp] theorem tsz_130 : tsz Tryd.prog 130 = some 1 := by kernel_rfl
@[simp] theorem tk_131 : tk Tryd.prog 131 = .int .u64 := by kernel_rfl
@[simp] theorem tsz_131 : tsz Tryd.prog 131 = some 1 := by kernel_rfl
@[simp] theorem tzero_131 : tzero Tryd.prog 131 = some ([.d (.int .u64 0)]) := by kernel_rfl
@[simp] theorem tbytes_131 : tbytes Tryd.prog 131 = some 8 := by kernel_rfl
@[simp] theorem tzeroD_131 : tzeroD Tryd.prog 131 = some (.int .u64 0) := by kernel_rfl
@[simp] theorem tk_133 : tk Tryd.prog 133 = .func := by kernel_rfl
@[simp] theorem tsz_133 : tsz Tryd.prog 133 = some 1 := by kernel_rfl
@[simp] theorem tk_134 : tk Tryd.prog 134 = .func := by kernel_rfl
@[simp] theorem tsz_134 : tsz Tryd.prog 134 = some 1 := by kernel_rfl
@[simp] theorem tk_135 : tk Tryd.prog 135 = .func := by kernel_rfl
@[simp] theorem tsz_135 : tsz Tryd.prog 135 = some 1 := by kernel_rfl
@[simp] theorem tk_136 : tk Tryd.prog 136 = .slice 138 := by kernel_rfl
@[simp] theorem tsz_136 : tsz Tryd.prog 136 = some 1 := by kernel_rfl
@[simp] theorem tzero_136 : tzero Tryd.prog 136 = some ([.lit (.slice none 0 0)]) := by kernel_rfl
@[simp] theorem tbytes_136 : tbytes Tryd.prog 136 = some 24 := by kernel_rfl
@[simp] theorem tzeroD_136 : tzeroD Tryd.prog 136 = some (.list []) := by kernel_rfl
@[simp] theorem srcTy_136 : srcTy Tryd.prog 136 = true := by kernel_rfl
@[simp] theorem tk_137 : tk Tryd.prog 137 = .struct := by kernel_rfl
@[simp] theorem tsz_137 : tsz Tryd.prog 137 = some 2 := by kernel_rfl
@[simp] theorem tzero_137 : tzero Tryd.prog 137 = some ([.d (.int .i64 0), .d (.int .i64 0)]) := by kernel_rfl
@[simp] theorem tbytes_137 : tbytes Tryd.prog 137 = some 16 := by kernel_rfl
@[simp] theorem tzeroD_137 : tzeroD Tryd.prog 137 = some (.agg ([.int .i64 0, .int .i64 0])) := by kernel_rfl
@[simp] theorem foff_137_0 : foff Tryd.prog 137 0 = some 0 := by kernel_rfl
@[simp] theorem foff_137_1 : foff Tryd.prog 137 1 = some 1 := by kernel_rfl
@[simp] theorem fplace_137 : fplace Tryd.prog 137 = some [(0, 1), (1, 1)] := by kernel_rfl
@[simp] theorem flat_137 : flatStruct Tryd.prog 137 = some [.int .i64, .int .i64] := by kernel_rfl
@[simp] theorem tk_138 : tk Tryd.prog 138 = .struct := by kernel_rfl
@[simp] theorem tsz_138 : tsz Tryd.prog 138 = some 2 := by kernel_rfl
@[simp] theorem tzero_138 : tzero Tryd.prog 138 = some ([.d (.int .i64 0), .d (.int .i64 0)]) := by kernel_rfl
@[simp] theorem tbytes_138 : tbytes Tryd.prog 138 = some 16 := by kernel_rfl
@[simp] theorem tzeroD_138 : tzeroD Tryd.prog 138 = some (.agg ([.int .i64 0, .int .i64 0])) := by kernel_rfl
@[simp] theorem foff_138_0 : foff Tryd.prog 138 0 = some 0 := by kernel_rfl
@[simp] theorem foff_138_1 : foff Tryd.prog 138 1 = some 1 := by kernel_rfl
@[simp] theorem fplace_138 : fplace Tryd.prog 138 = some [(0, 1), (1, 1)] := by kernel_rfl
@[simp] theorem flat_138 : flatStruct Tryd.prog 138 = some [.int .i64, .int .i64] := by kernel_rfl
@[simp] theorem tk_139 : tk Tryd.prog 139 = .int .u32 := by kernel_rfl
@[simp] theorem tsz_139 : tsz Tryd.prog 139 = some 1 := by kernel_rfl
@[simp] theorem tzero_139 : tzero Tryd.prog 139 = some ([.d (.int .u32 0)]) := by kernel_rfl
@[simp] theorem tbytes_139 : tbytes Tryd.prog 139 = some 4 := by kernel_rfl
@[simp] theorem tzeroD_139 : tzeroD Tryd.prog 139 = some (.int .u32 0) := by kernel_rfl
@[simp] theorem tk_140 : tk Tryd.prog 140 = .func := by kernel_rfl
@[simp] theorem tsz_140 : tsz Tryd.prog 140 = some 1 := by kernel_rfl
@[simp] theorem tk_141 : tk Tryd.prog 141 = .ptr 146 := by kernel_rfl
@[simp] theorem tsz_141 : tsz Tryd.prog 141 = some 1 := by kernel_rfl
@[simp] theorem tk_142 : tk Tryd.prog 142 = .func := by kernel_rfl
@[simp] theorem tsz_142 : tsz Tryd.prog 142 = some 1 := by kernel_rfl
@[simp] theorem tk_143 : tk Tryd.prog 143 = .slice 149 := by kernel_rfl
@[simp] theorem tsz_143 : tsz Tryd.prog 143 = some 1 := by kernel_rfl
@[simp] theorem tzero_143 : tzero Tryd.prog 143 = some ([.lit (.slice none 0 0)]) := by kernel_rfl
@[simp] theorem tbytes_143 : tbytes Tryd.prog 143 = some 24 := by kernel_rfl
@[simp] theorem tzeroD_143 : tzeroD Tryd.prog 143 = some (.list []) := by kernel_rfl
@[simp] theorem srcTy_143 : srcTy Tryd.prog 143 = true := by kernel_rfl
@[simp] theorem tk_144 : tk Tryd.prog 144 = .slice 152 := by kernel_rfl
@[simp] theorem tsz_144 : tsz Tryd.prog 144 = some 1 := by kernel_rfl
@[simp] theorem tzero_144 : tzero Tryd.prog 144 = some ([.lit (.slice none 0 0)]) := by kernel_rfl
@[simp] theorem tbytes_144 : tbytes Tryd.prog 144 = some 24 := by kernel_rfl
@[simp] theorem tzeroD_144 : tzeroD Tryd.prog 144 = some (.list []) := by kernel_rfl
@[simp] theorem srcTy_144 : srcTy Tryd.prog 144 = true := by kernel_rfl
@[simp] theorem tk_145 : tk Tryd.prog 145 = .struct := by kernel_rfl
@[simp] theorem tsz_145 : tsz Tryd.prog 145 = some 3 := by kernel_rfl
@[simp] theorem tzero_145 : tzero Tryd.prog 145 = some ([.lit (.slice none 0 0), .lit (.slice none 0 0), .d (.int .i64 0)]) := by kernel_rfl
@[simp] theorem tbytes_145 : tbytes Tryd.prog 145 = some 56 := by kernel_rfl
@[simp] theorem tzeroD_145 : tzeroD Tryd.prog 145 = some (.agg ([.list [], .list [], .int .i64 0])) := by kernel_rfl
@[simp] theorem foff_145_0 : foff Tryd.prog 145 0 = some 0 := by kernel_rfl
@[simp] theorem foff_145_1 : foff Tryd.prog 145 1 = some 1 := by kernel_rfl
@[simp] theorem foff_145_2 : foff Tryd.prog 145 2 = some 2 := by kernel_rfl
@[simp] theorem fplace_145 : fplace Tryd.prog 145 = some [(0, 1), (1, 1), (2, 1)] := by kernel_rfl
@[simp] theorem tk_146 : tk Tryd.prog 146 = .struct := by kernel_rfl
@[simp] theorem tsz_146 : tsz Tryd.prog 146 = some 3 := by kernel_rfl
@[simp] theorem tzero_146 : tzero Tryd.prog 146 = some ([.lit (.slice none 0 0), .lit (.slice none 0 0), .d (.int .i64 0)]) := by kernel_rfl
@[simp] theorem tbytes_146 : tbytes Tryd.prog 146 = some 56 := by kernel_rfl
@[simp] theorem tzeroD_146 : tzeroD Tryd.prog 146 = some (.agg ([.list [], .list [], .int .i64 0])) := by kernel_rfl
@[simp] theorem foff_146_0 : foff Tryd.prog 146 0 = some 0 := by kernel_rfl
@[simp] theorem foff_146_1 : foff Tryd.prog 146 1 = some 1 := by kernel_rfl
@[simp] theorem foff_146_2 : foff Tryd.prog 146 2 = some 2 := by kernel_rfl
@[simp] theorem fplace_146 : fplace Tryd.prog 146 = some [(0, 1), (1, 1), (2, 1)] := by kernel_rfl
@[simp] theorem tk_147 : tk Tryd.prog 147 = .int .u16 := by kernel_rfl
@[simp] theorem tsz_147 : tsz Tryd.prog 147 = some 1 := by kernel_rfl
@[simp] theorem tzero_147 : tzero Tryd.prog 147 = some ([.d (.int .u16 0)]) := by kernel_rfl
@[simp] theorem tbytes_147 : tbytes Tryd.prog 147 = some 2 := by kernel_rfl
@[simp] theorem tzeroD_147 : tzeroD Tryd.prog 147 = some (.int .u16 0) := by kernel_rfl
@[simp] theorem tk_148 : tk Tryd.prog 148 = .struct := by kernel_rfl
@[simp] theorem tsz_148 : tsz Tryd.prog 148 = some 3 := by kernel_rfl
@[simp] theorem tzero_148 : tzero Tryd.prog 148 = some ([.d (.int .u16 0), .d (.int .u16 0), .d (.int .u16 0)]) := by kernel_rfl
@[simp] theorem tbytes_148 : tbytes Tryd.prog 148 = some 6 := by kernel_rfl
@[simp] theorem tzeroD_148 : tzeroD Tryd.prog 148 = some (.agg ([.int .u16 0, .int .u16 0, .int .u16 0])) := by kernel_rfl
@[simp] theorem foff_148_0 : foff Tryd.prog 148 0 = some 0 := by kernel_rfl
@[simp] theorem foff_148_1 : foff Tryd.prog 148 1 = some 1 := by kernel_rfl
@[simp] theorem foff_148_2 : foff Tryd.prog 148 2 = some 2 := by kernel_rfl
@[simp] theorem fplace_148 : fplace Tryd.prog 148 = some [(0, 1), (1, 1), (2, 1)] := by kernel_rfl
@[simp] theorem flat_148 : flatStruct Tryd.prog 148 = some [.int .u16, .int .u16, .int .u16] := by kernel_rfl
@[simp] theorem tk_149 : tk Tryd.prog 149 = .struct := by kernel_rfl
@[simp] theorem tsz_149 : tsz Tryd.prog 149 = some 3 := by kernel_rfl
@[simp] theorem tzero_149 : tzero Tryd.prog 149 = some ([.d (.int .u16 0), .d (.int .u16 0), .d (.int .u16 0)]) := by kernel_rfl
@[simp] theorem tbytes_149 : tbytes Tryd.prog 149 = some 6 := by kernel_rfl
@[simp] theorem tzeroD_149 : tzeroD Tryd.prog 149 = some (.agg ([.int .u16 0, .int .u16 0, .int .u16 0])) := by kernel_rfl
@[simp] theorem foff_149_0 : foff Tryd.prog 149 0 = some 0 := by kernel_rfl
@[simp] theorem foff_149_1 : foff Tryd.prog 149 1 = some 1 := by kernel_rfl
@[simp] theorem foff_149_2 : foff Tryd.prog 149 2 = some 2 := by kernel_rfl
@[simp] theorem fplace_149 : fplace Tryd.prog 149 = some [(0, 1), (1, 1), (2, 1)] := by kernel_rfl
@[simp] theorem flat_149 : flatStruct Tryd.prog 149 = some [.int .u16, .int .u16, .int .u16] := by kernel_rfl
@[simp] theorem tk_150 : tk Tryd.prog 150 = .func := by kernel_rfl
@[simp] theorem tsz_150 : tsz Tryd.prog 150 = some 1 := by kernel_rfl
@[simp] theorem tk_151 : tk Tryd.prog 151 = .struct := by kernel_rfl
@[simp] theorem tsz_151 : tsz Tryd.prog 151 = some 3 := by kernel_rfl
@[simp] theorem tzero_151 : tzero Tryd.prog 151 = some ([.d (.int .u32 0), .d (.int .u32 0), .d (.int .u32 0)]) := by kernel_rfl
@[simp] theorem tbytes_151 : tbytes Tryd.prog 151 = some 12 := by kernel_rfl
@[simp] theorem tzeroD_151 : tzeroD Tryd.prog 151 = some (.agg ([.int .u32 0, .int .u32 0, .int .u32 0])) := by kernel_rfl
@[simp] theorem foff_151_0 : foff Tryd.prog 151 0 = some 0 := by kernel_rfl
@[simp] theorem foff_151_1 : foff Tryd.prog 151 1 = some 1 := by kernel_rfl
@[simp] theorem foff_151_2 : foff Tryd.prog 151 2 = some 2 := by kernel_rfl
@[simp] theorem fplace_151 : fplace Tryd.prog 151 = some [(0, 1), (1, 1), (2, 1)] := by kernel_rfl
@[simp] theorem flat_151 : flatStruct Tryd.prog 151 = some [.int .u32, .int .u32, .int .u32] := by kernel_rfl
@[simp] theorem tk_152 : tk Tryd.prog 152 = .struct := by kernel_rfl
@[simp] theorem tsz_152 : tsz Tryd.prog 152 = some 3 := by kernel_rfl
@[simp] theorem tzero_152 : tzero Tryd.prog 152 = some ([.d (.int .u32 0), .d (.int .u32 0), .d (.int .u32 0)]) := by kernel_rfl
@[simp] theorem tbytes_152 : tbytes Tryd.prog 152 = some 12 := by kernel_rfl
@[simp] theorem tzeroD_152 : tzeroD Tryd.prog 152 = some (.agg ([.int .u32 0, .int .u32 0, .int .u32 0])) := by kernel_rfl
@[simp] theorem foff_152_0 : foff Tryd.prog 152 0 = some 0 := by kernel_rfl
@[simp] theorem foff_152_1 : foff Tryd.prog 152 1 = some 1 := by kernel_rfl
@[simp] theorem foff_152_2 : foff Tryd.prog 152 2 = some 2 := by kernel_rfl
@[simp] theorem fplace_152 : fplace Tryd.prog 152 = some [(0, 1), (1, 1), (2, 1)] := by kernel_rfl
@[simp] theorem flat_152 : flatStruct Tryd.prog 152 = some [.int .u32, .int .u32, .int .u32] := by kernel_rfl
@[simp] theorem tk_153 : tk Tryd.prog 153 = .func := by kernel_rfl
@[simp] theorem tsz_153 : tsz Tryd.prog 153 = some 1 := by kernel_rfl
@[simp] theorem tk_154 : tk Tryd.prog 154 = .ptr 149 := by kernel_rfl
@[simp] theorem tsz_154 : tsz Tryd.prog 154 = some 1 := by kernel_rfl
@[simp] theorem tk_155 : tk Tryd.prog 155 = .ptr 152 := by kernel_rfl
@[simp] theorem tsz_155 : tsz Tryd.prog 155 = some 1 := by kernel_rfl
@[simp] theorem tk_156 : tk Tryd.prog 156 = .func := by kernel_rfl
@[simp] theorem tsz_156 : tsz Tryd.prog 156 = some 1 := by kernel_rfl
@[simp] theorem tk_157 : tk Tryd.prog 157 = .struct := by kernel_rfl
@[simp] theorem tsz_157 : tsz Tryd.prog 157 = some 4 := by kernel_rfl
@[simp] theorem tzero_157 : tzero Tryd.prog 157 = some ([.lit (.pointer none), .lit (.pointer none), .lit (.pointer none), .d (.str [])]) := by kernel_rfl
@[simp] theorem foff_157_0 : foff Tryd.prog 157 0 = some 0 := by kernel_rfl
@[simp] theorem foff_157_1 : foff Tryd.prog 157 1 = some 1 := by kernel_rfl
@[simp] theorem foff_157_2 : foff Tryd.prog 157 2 = some 2 := by kernel_rfl
@[simp] theorem foff_157_3 : foff Tryd.prog 157 3 = some 3 := by kernel_rfl
@[simp] theorem fplace_157 : fplace Tryd.prog 157 = some [(0, 1), (1, 1), (2, 1), (3, 1)] := by kernel_rfl
@[simp] theorem tk_158 : tk Tryd.prog 158 = .struct := by kernel_rfl
@[simp] theorem tsz_158 : tsz Tryd.prog 158 = some 4 := by kernel_rfl
@[simp] theorem tzero_158 : tzero Tryd.prog 158 = some ([.lit (.pointer none), .lit (.pointer none), .lit (.pointer none), .d (.str [])]) := by kernel_rfl
@[simp] theorem foff_158_0 : foff Tryd.prog 158 0 = some 0 := by kernel_rfl
@[simp] theorem foff_158_1 : foff Tryd.prog 158 1 = some 1 := by kernel_rfl
@[simp] theorem foff_158_2 : foff Tryd.prog 158 2 = some 2 := by kernel_rfl
@[simp] theorem foff_158_3 : foff Tryd.prog 158 3 = some 3 := by kernel_rfl
@[simp] theorem fplace_158 : fplace Tryd.prog 158 = some [(0, 1), (1, 1), (2, 1), (3, 1)] := by kernel_rfl
@[simp] theorem tk_159 : tk Tryd.prog 159 = .arr 0 16 := by kernel_rfl
@[simp] theorem tsz_159 : tsz Tryd.prog 159 = some 0 := by kernel_rfl
@[simp] theorem tzero_159 : tzero Tryd.prog 159 = some ([]) := by kernel_rfl
@[simp] theorem tbytes_159 : tbytes Tryd.prog 159 = some 0 := by kernel_rfl
@[simp] theorem tzeroD_159 : tzeroD Tryd.prog 159 = some (.agg ([])) := by kernel_rfl
@[simp] theorem fplace_159 : fplace Tryd.prog 159 = none := by kernel_rfl
@[simp] theorem tk_160 : tk Tryd.prog 160 = .struct := by kernel_rfl
@[simp] theorem tsz_160 : tsz Tryd.prog 160 = some 0 := by kernel_rfl
@[simp] theorem tzero_160 : tzero Tryd.prog 160 = some ([]) := by kernel_rfl
@[simp] theorem tbytes_160 : tbytes Tryd.prog 160 = some 0 := by kernel_rfl
@[simp] theorem tzeroD_160 : tzeroD Tryd.prog 160 = some (.agg ([])) := by kernel_rfl
@[simp] theorem fplace_160 : fplace Tryd.prog 160 = some [(0, 0)] := by kernel_rfl
@[simp] theorem tk_161 : tk Tryd.prog 161 = .struct := by kernel_rfl
@[simp] theorem tsz_161 : tsz Tryd.prog 161 = some 0 := by kernel_rfl
@[simp] theorem tzero_161 : tzero Tryd.prog 161 = some ([]) := by kernel_rfl
@[simp] theorem tbytes_161 : tbytes Tryd.prog 161 = some 0 := by kernel_rfl
@[simp] theorem tzeroD_161 : tzeroD Tryd.prog 161 = some (.agg ([])) := by kernel_rfl
@[simp] theorem fplace_161 : fplace Tryd.prog 161 = some [(0, 0)] := by kernel_rfl
@[simp] theorem tk_162 : tk Tryd.prog 162 = .func := by kernel_rfl
@[simp] theorem tsz_162 : tsz Tryd.prog 162 = some 1 := by kernel_rfl
@[simp] theorem tk_163 : tk Tryd.prog 163 = .int .u8 := by kernel_rfl
@[simp] theorem tsz_163 : tsz Tryd.prog 163 = some 1 := by kernel_rfl
@[simp] theorem tzero_163 : tzero Tryd.prog 163 = some ([.d (.int .u8 0)]) := by kernel_rfl
@[simp] theorem tbytes_163 : tbytes Tryd.prog 163 = some 1 := by kernel_rfl
@[simp] theorem tzeroD_163 : tzeroD Tryd.prog 163 = some (.int .u8 0) := by kernel_rfl
@[simp] theorem tk_164 : tk Tryd.prog 164 = .int .u8 := by kernel_rfl
@[simp] theorem tsz_164 : tsz Tryd.prog 164 = some 1 := by kernel_rfl
@[simp] theorem tzero_164 : tzero Tryd.prog 164 = some ([.d (.int .u8 0)]) := by kernel_rfl
@[simp] theorem tbytes_164 : tbytes Tryd.prog 164 = some 1 := by kernel_rfl
@[simp] theorem tzeroD_164 : tzeroD Tryd.prog 164 = some (.int .u8 0) := by kernel_rfl
@[simp] theorem tk_165 : tk Tryd.prog 165 = .func := by kernel_rfl
@[simp] theorem tsz_165 : tsz Tryd.prog 165 = some 1 := by kernel_rfl
@[simp] theorem tk_166 : tk Tryd.prog 166 = .ptr 5 := by kernel_rfl
@[simp] theorem tsz_166 : tsz Tryd.prog 166 = some 1 := by kernel_rfl
@[simp] theorem tk_167 : tk Tryd.prog 167 = .int .i32 := by kernel_rfl
@[simp] theorem tsz_167 : tsz Tryd.prog 167 = some 1 := by kernel_rfl
@[simp] theorem tzero_167 : tzero Tryd.prog 167 = some ([.d (.int .i32 0)]) := by kernel_rfl
@[simp] theorem tbytes_167 : tbytes Tryd.prog 167 = some 4 := by kernel_rfl
@[simp] theorem tzeroD_167 : tzeroD Tryd.prog 167 = some (.int .i32 0) := by kernel_rfl
@[simp] theorem tk_168 : tk Tryd.prog 168 = .int .i32 := by kernel_rfl
@[simp] theorem tsz_168 : tsz Tryd.prog 168 = some 1 := by kernel_rfl
@[simp] theorem tzero_168 : tzero Tryd.prog 168 = some ([.d (.int .i32 0)]) := by kernel_rfl
@[simp] theorem tbytes_168 : tbytes Tryd.prog 168 = some 4 := by kernel_rfl
@[simp] theorem tzeroD_168 : tzeroD Tryd.prog 168 = some (.int .i32 0) := by kernel_rfl
@[simp] theorem tk_169 : tk Tryd.prog 169 = .struct := by kernel_rfl
@[simp] theorem tsz_169 : tsz Tryd.prog 169 = some 11 := by kernel_rfl
@[simp] theorem tzero_169 : tzero Tryd.prog 169 = some ([.d (.int .u64 0), .d (.int .u64 0), .d (.int .u32 0), .d (.int .u8 0), .d (.int .u8 0), .d (.int .u8 0), .d (.int .u8 0), .lit .nilFunc, .lit (.pointer none), .d (.int .i32 0), .d (.int .i32 0)]) := by kernel_rfl
@[simp] theorem foff_169_0 : foff Tryd.prog 169 0 = some 0 := by kernel_rfl
@[simp] theorem foff_169_1 : foff Tryd.prog 169 1 = some 1 := by kernel_rfl
@[simp] theorem foff_169_2 : foff Tryd.prog 169 2 = some 2 := by kernel_rfl
@[simp] theorem foff_169_3 : foff Tryd.prog 169 3 = some 3 := by kernel_rfl
@[simp] theorem foff_169_4 : foff Tryd.prog 169 4 = some 4 := by kernel_rfl
@[simp] theorem foff_169_5 : foff Tryd.prog 169 5 = some 5 := by kernel_rfl
@[simp] theorem foff_169_6 : foff Tryd.prog 169 6 = some 6 := by kernel_rfl
@[simp] theorem foff_169_7 : foff Tryd.prog 169 7 = some 7 := by kernel_rfl
@[simp] theorem foff_169_8 : foff Tryd.prog 169 8 = some 8 := by kernel_rfl
@[simp] theorem foff_169_9 : foff Tryd.prog 169 9 = some 9 := by kernel_rfl
@[simp] theorem foff_169_10 : foff Tryd.prog 169 10 = some 10 := by kernel_rfl
@[simp] theorem fplace_169 : fplace Tryd.prog 169 = some [(0, 1), (1, 1), (2, 1), (3, 1), (4, 1), (5, 1), (6, 1), (7, 1), (8, 1), (9, 1), (10, 1)] := by kernel_rfl
@[simp] theorem tk_170 : tk Tryd.prog 170 = .struct := by kernel_rfl
@[simp] theorem tsz_170 : tsz Tryd.prog 170 = some 11 := by kernel_rfl
@[simp] theorem tzero_170 : tzero Tryd.prog 170 = some ([.d (.int .u64 0), .d (.int .u64 0), .d (.int .u32 0), .d (.int .u8 0), .d (.int .u8 0), .d (.int .u8 0), .d (.int .u8 0), .lit .nilFunc, .lit (.pointer none), .d (.int .i32 0), .d (.int .i32 0)]) := by kernel_rfl
@[simp] theorem foff_170_0 : foff Tryd.prog 170 0 = some 0 := by kernel_rfl
@[simp] theorem foff_170_1 : foff Tryd.prog 170 1 = some 1 := by kernel_rfl
@[simp] theorem foff_170_2 : foff Tryd.prog 170 2 = some 2 := by kernel_rfl
@[simp] theorem foff_170_3 : foff Tryd.prog 170 3 = some 3 := by kernel_rfl
@[simp] theorem foff_170_4 : foff Tryd.prog 170 4 = some 4 := by kernel_rfl
@[simp] theorem foff_170_5 : foff Tryd.prog 170 5 = some 5 := by kernel_rfl
@[simp] theorem foff_170_6 : foff Tryd.prog 170 6 = some 6 := by kernel_rfl
@[simp] theorem foff_170_7 : foff Tryd.prog 170 7 = some 7 := by kernel_rfl
@[simp] theorem foff_170_8 : foff Tryd.prog 170 8 = some 8 := by kernel_rfl
@[simp] theorem foff_170_9 : foff Tryd.prog 170 9 = some 9 := by kernel_rfl
@[simp] theorem foff_170_10 : foff Tryd.prog 170 10 = some 10 := by kernel_rfl
@[simp] theorem fplace_170 : fplace Tryd.prog 170 = some [(0, 1), (1, 1), (2, 1), (3, 1), (4, 1), (5, 1), (6, 1), (7, 1), (8, 1), (9, 1), (10, 1)] := by kernel_rfl
end Go.Am
end
section
namespace Go.Am
open Go
def idxO : List D → Option D
  | [.str s, .str t] => if s.length < 4294967281 then some (.int .i64 (Go.Lib.index s t)) else none
  | _ => none
def ibO : List D → Option D
  | [.str s, .int .u8 c] => some (.int .i64 (Go.Lib.indexByte s c.toNat.toUInt8))
  | _ => none
def hpO : List D → Option D
  | [.str s, .str p] => some (.bool (Go.Lib.hasPrefix s p))
  | _ => none
attribute [simp] idxO.eq_1 ibO.eq_1 hpO.eq_1
end Go.Am
end

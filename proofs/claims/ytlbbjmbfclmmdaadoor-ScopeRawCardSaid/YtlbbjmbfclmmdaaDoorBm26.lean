/-
  The abstract machine, part 26: the evaluator as rules for rewriting: what comes behind is handed on as a value.
-/
import Derived.Test.YtlbbjmbfclmmdaaDoorBm25
namespace Go.Am
open Go

abbrev Ans := Option (Out × List (Nat × Cont))
abbrev Kt := XE → St → Ans

noncomputable def denK (X : Ctx) (f : FuncId) (c : Code) (S : St) (k : Kt) : Ans := (denT X f c S).bind fun p => k p.1 p.2
noncomputable def runK (X : Ctx) (md : Bool) (all ops : List Oper) (S : St) (k : Kt) : Ans := (runOps X (callT X) md all ops S).bind fun p => k p.1 p.2
noncomputable def drwK (X : Ctx) (md : Bool) (all ops : List Oper) (S : St) (acc : List Stp) (k : Kt) : Ans := (drwOps X (callT X) md all ops S acc).bind fun p => k p.1 p.2

noncomputable def seqK (X : Ctx) (f : FuncId) (b : Code) (k : Kt) : Kt
  | .normal, S => denK X f b S k
  | e, S => k e S
def blkK (id : Nat) (k : Kt) : Kt
  | .exit id', S => if id' = id then k .normal S else k (.exit id') S
  | e, S => k e S
noncomputable def loopK (X : Ctx) (f : FuncId) (c : Code) (k : Kt) : Kt
  | .normal, S => denK X f (.loop c) S k
  | e, S => k e S
def leaveK (X : Ctx) (f : FuncId) (id : Nat) (k : Kt) : Kt
  | .normal, S => k .normal (S.leave X f id)
  | e, S => k e S
def finK (P : Program) (p : FPol) (n0 : Nat) (rs : List ResultVar) : Kt
  | .normal, S => finish P p n0 rs S
  | .ret, S => finish P p n0 rs S
  | .panic t x, S => finPanic p n0 t x S
  | .exit _, _ => none

def isB : Bool × AV → Bool
  | (true, .d (.bool _)) => true
  | _ => false
def boolOf : Bool × AV → Bool
  | (_, .d (.bool b)) => b
  | _ => false

section
variable {X : Ctx} {f : FuncId} {S : St} {k : Kt}

theorem andThen_bind (r : Option (XE × St)) (g : St → Option (XE × St)) : (andThen r g).bind (fun p => k p.1 p.2) = r.bind fun p => match p with
    | (.normal, S) => (g S).bind fun p => k p.1 p.2
    | (e, S) => k e S := by
  rcases r with _ | ⟨e, S⟩
  · rfl
  · cases e <;> rfl

theorem denK_skip : denK X f .skip S k = k .normal S := by simp only [denK, denT_skip, Option.bind_some]
theorem denK_exit {id : Nat} : denK X f (.exit id) S k = k (.exit id) S := by simp only [denK, denT_exit, Option.bind_some]
theorem denK_ret : denK X f .ret S k = k .ret S := by simp only [denK, denT_ret, Option.bind_some]
theorem denK_seq {a b : Code} : denK X f (.seq a b) S k = denK X f a S (seqK X f b k) := by
  simp only [denK, denT_seq, andThen_bind]
  congr 1
  funext p
  obtain ⟨e, S⟩ := p
  cases e <;> rfl
theorem denK_loop {c : Code} : denK X f (.loop c) S k = denK X f c S (loopK X f c k) := by
  rw [denK, denT_loop, andThen_bind, denK]
  congr 1
  funext p
  obtain ⟨e, S⟩ := p
  cases e <;> rfl
theorem denK_block {id : Nat} {c : Code} : denK X f (.block id c) S k = denK X f c S (blkK id k) := by
  simp only [denK, denT_block]
  rcases denT X f c S with _ | ⟨e, S⟩
  · rfl
  · cases e with
    | exit id' =>
      simp only [inBlk, Option.bind_some, blkK]
      split <;> rfl
    | _ => rfl
theorem denK_cond {c : Operand} {a b : Code} : denK X f (.cond c a b) S k = if isB (S.opd c) = true then (if boolOf (S.opd c) = true then denK X f a S k else denK X f b S k) else none := by
  simp only [denK, denT_cond]
  generalize S.opd c = v
  obtain ⟨g, x⟩ := v
  cases g with
  | false => rfl
  | true =>
    cases x with
    | d x =>
      cases x with
      | bool t => cases t <;> rfl
      | _ => rfl
    | _ => rfl
theorem denK_region {id : Nat} {l : List Oper} : denK X f (.region id ⟨l⟩ false) S k = runK X (X.md f id) l l S (leaveK X f id k) := by
  simp only [denK, denT_region, runK]
  rcases runOps X (callT X) (X.md f id) l l S with _ | ⟨e, S⟩
  · rfl
  · cases e <;> rfl
theorem denK_draw {id : Nat} {l : List Oper} : denK X f (.region id ⟨l⟩ true) S k = drwK X (X.md f id) l l S [] (leaveK X f id k) := by
  simp only [denK, denT_draw, drwK]
  rcases drwOps X (callT X) (X.md f id) l l S [] with _ | ⟨e, S⟩
  · rfl
  · cases e <;> rfl

theorem seqK_n {b : Code} : seqK X f b k .normal S = denK X f b S k := rfl
theorem seqK_x {b : Code} {id : Nat} : seqK X f b k (.exit id) S = k (.exit id) S := rfl
theorem seqK_r {b : Code} : seqK X f b k .ret S = k .ret S := rfl
theorem seqK_p {b : Code} {t : TypeId} {x : D} : seqK X f b k (.panic t x) S = k (.panic t x) S := rfl
theorem blkK_n {id : Nat} : blkK id k .normal S = k .normal S := rfl
theorem blkK_x {id id' : Nat} : blkK id k (.exit id') S = if id' = id then k .normal S else k (.exit id') S := rfl
theorem blkK_r {id : Nat} : blkK id k .ret S = k .ret S := rfl
theorem blkK_p {id : Nat} {t : TypeId} {x : D} : blkK id k (.panic t x) S = k (.panic t x) S := rfl
theorem loopK_n {c : Code} : loopK X f c k .normal S = denK X f (.loop c) S k := rfl
theorem loopK_x {c : Code} {id : Nat} : loopK X f c k (.exit id) S = k (.exit id) S := rfl
theorem loopK_r {c : Code} : loopK X f c k .ret S = k .ret S := rfl
theorem loopK_p {c : Code} {t : TypeId} {x : D} : loopK X f c k (.panic t x) S = k (.panic t x) S := rfl
theorem leaveK_n {id : Nat} : leaveK X f id k .normal S = k .normal (S.leave X f id) := rfl
theorem leaveK_p {id : Nat} {t : TypeId} {x : D} : leaveK X f id k (.panic t x) S = k (.panic t x) S := rfl
theorem finK_n {P : Program} {p : FPol} {n0 : Nat} {rs : List ResultVar} : finK P p n0 rs .normal S = finish P p n0 rs S := rfl
theorem finK_r {P : Program} {p : FPol} {n0 : Nat} {rs : List ResultVar} : finK P p n0 rs .ret S = finish P p n0 rs S := rfl
theorem finK_p {P : Program} {p : FPol} {n0 : Nat} {rs : List ResultVar} {t : TypeId} {x : D} : finK P p n0 rs (.panic t x) S = finPanic p n0 t x S := rfl
end

/- Operations. -/
def gdst (all : List Oper) (o : Oper) : Option Nat :=
  match o.guard with
  | some (j, _) => dstAt all j
  | none => none
noncomputable def callK (X : Ctx) (md : Bool) (S : St) (d : Option Nat) (all r : List Oper) (k : Kt) : Option CRes → Ans
  | some ⟨.ret x, es, _⟩ => runK X md all r (({ S with mem := putAll S.mem es } : St).put d true x) k
  | some ⟨.panic t x, es, _⟩ => k (.panic t x) { S with mem := putAll S.mem es }
  | none => none
def panicK (S : St) (k : Kt) : Bool × AV → Ans
  | (true, .ifc t d) => k (.panic t d) S
  | _ => none
noncomputable def specK (X : Ctx) (md : Bool) (S : St) (o : Oper) (all r : List Oper) (k : Kt) : Op → Ans
  | .call { callee := .value fv, args, .. } => callK X md S o.dst all r k (callVal X (callT X) S o args.toList (S.opd fv))
  | .panic x => panicK S k (S.opd x)
  | _ => none
noncomputable def stepK (X : Ctx) (md : Bool) (S : St) (o : Oper) (all r : List Oper) (k : Kt) : Res → Ans
  | .val c x => if (opOk S o && c) = true then runK X md all r (S.put o.dst true x) k else none
  | .upd c x e => if (opOk S o && c) = true then runK X md all r (({ S with mem := Mem.set S.mem e } : St).put o.dst true x) k else none
  | .no => specK X md S o all r k o.op
noncomputable def guardK (X : Ctx) (md : Bool) (S : St) (o : Oper) (all r : List Oper) (k : Kt) (b : Bool) : Res → Ans
  | .val c x => if b = true → (opOk S o && c) = true then runK X md all r (S.put o.dst b x) k else none
  | .upd c x e => if b = true then stepK X md S o all r k (.upd c x e) else runK X md all r (S.put o.dst true .junk) k
  | .no => if b = true then specK X md S o all r k o.op else runK X md all r (S.put o.dst true .junk) k
noncomputable def forkK (X : Ctx) (S : St) (o : Oper) (all r : List Oper) (k : Kt) (want t : Bool) : Bool → Ans
  | false => guardK X false S o all r k (t == want) (stepv X.P S o)
  | true => if (t == want) = true then stepK X true (S.cz (gdst all o) want) o all r k (stepv X.P (S.cz (gdst all o) want) o) else runK X true all r ((S.cz (gdst all o) (!want)).put o.dst true .junk) k
noncomputable def grdK (X : Ctx) (md : Bool) (S : St) (o : Oper) (all r : List Oper) (k : Kt) (want : Bool) : Option (Bool × AV) → Ans
  | some (true, .d (.bool t)) => forkK X S o all r k want t md
  | _ => none

section
variable {X : Ctx} {f : FuncId} {S : St} {k : Kt} {all r : List Oper} {md : Bool}

theorem stepK_eq (o : Oper) (res : Res) : (andThen (stepOp X (callT X) S o res) (runOps X (callT X) md all r)).bind (fun p => k p.1 p.2) = stepK X md S o all r k res := by
  cases res with
  | val c x => simp only [stepOp, stepK]; split <;> rfl
  | upd c x e => simp only [stepOp, stepK]; split <;> rfl
  | no =>
    simp only [stepOp, stepK, specOp]
    split
    · rename_i fv args tys ho
      rw [ho]
      simp only [specK]
      rcases callVal X (callT X) S o args.toList (S.opd fv) with _ | ⟨out, es, ks⟩
      · rfl
      · cases out <;> rfl
    · rename_i x ho
      rw [ho]
      simp only [specK]
      generalize S.opd x = v
      obtain ⟨g, y⟩ := v
      cases g <;> cases y <;> rfl
    · rename_i h1 h2
      unfold specK
      split
      · rename_i heq; exact absurd heq (h1 _ _ _)
      · rename_i heq; exact absurd heq (h2 _)
      · rfl

theorem runK_nil : runK X md all [] S k = k .normal S := rfl
theorem runK_cons {d : Option Tmp} {op : Op} {ty : TypeId} {pos : String} {af : Array Edge} : runK X md all (⟨d, op, ty, pos, af, none⟩ :: r) S k = stepK X md S ⟨d, op, ty, pos, af, none⟩ all r k (stepv X.P S ⟨d, op, ty, pos, af, none⟩) :=
  stepK_eq _ _
theorem runK_guard {d : Option Tmp} {op : Op} {ty : TypeId} {pos : String} {af : Array Edge} {j : Nat} {w : Bool} : runK X md all (⟨d, op, ty, pos, af, some (j, w)⟩ :: r) S k = grdK X md S ⟨d, op, ty, pos, af, some (j, w)⟩ all r k w (grd all S j) := by
  simp only [runK, runOps, gstep]
  generalize grd all S j = g
  rcases g with _ | ⟨g, y⟩
  · rfl
  · cases g with
    | false => rfl
    | true =>
      cases y with
      | d y =>
        cases y with
        | bool t =>
          simp only [grdK]
          cases md with
          | true =>
            simp only [forkK, gdst]
            split
            · exact stepK_eq _ _
            · rfl
          | false =>
          simp only [forkK]
          generalize hs : stepv X.P S _ = res
          cases res with
          | val c x => simp only [guardOp, guardK]; split <;> rfl
          | upd c x e =>
            simp only [guardOp, guardK]
            split
            · exact stepK_eq _ (.upd c x e)
            · rfl
          | no =>
            simp only [guardOp, guardK]
            split
            · exact stepK_eq _ .no
            · rfl
        | _ => rfl
      | _ => rfl
theorem callK_ite {d : Option Nat} {c : Prop} [Decidable c] {a b : Option CRes} : callK X md S d all r k (if c then a else b) = if c then callK X md S d all r k a else callK X md S d all r k b := by split <;> rfl
end
theorem callBack_ite {m : Mem} {k0 : Nat} {ρ B : List Nat} {c : Prop} [Decidable c] {a b : Option (Out × List (Nat × Cont))} : callBack m k0 ρ B (if c then a else b) = if c then callBack m k0 ρ B a else callBack m k0 ρ B b := by split <;> rfl

/- Regions that draw their order. -/
noncomputable def dcallK (X : Ctx) (md : Bool) (S : St) (d : Option Nat) (all r : List Oper) (acc : List Stp) (k : Kt) : Option CRes → Ans
  | some ⟨.ret x, es, ks⟩ => drwK X md all r (({ S with mem := putAll S.mem es } : St).put d true x) (⟨ks, es, true, x⟩ :: acc) k
  | _ => none
noncomputable def dspecK (X : Ctx) (md : Bool) (S : St) (o : Oper) (all r : List Oper) (acc : List Stp) (k : Kt) : Op → Ans
  | .call { callee := .value fv, args, .. } => dcallK X md S o.dst all r acc k (callVal X (callT X) S o args.toList (S.opd fv))
  | _ => none
noncomputable def dstepK (X : Ctx) (md : Bool) (S : St) (o : Oper) (all r : List Oper) (acc : List Stp) (k : Kt) : Res → Ans
  | .val c x => if (opOk S o && c) = true then drwK X md all r (S.put o.dst true x) (⟨touch S o, [], true, x⟩ :: acc) k else none
  | .upd c x e => if (opOk S o && c && (touch S o).contains e.key) = true then drwK X md all r (({ S with mem := Mem.set S.mem e } : St).put o.dst true x) (⟨touch S o, [e], true, x⟩ :: acc) k else none
  | .no => dspecK X md S o all r acc k o.op
noncomputable def dguardK (X : Ctx) (md : Bool) (S : St) (o : Oper) (all r : List Oper) (acc : List Stp) (k : Kt) (b : Bool) : Res → Ans
  | .val c x => if b = true → (opOk S o && c) = true then drwK X md all r (S.put o.dst b x) (⟨touch S o, [], b, x⟩ :: acc) k else none
  | .upd c x e => if b = true then dstepK X md S o all r acc k (.upd c x e) else drwK X md all r (S.put o.dst true .junk) (⟨[], [], true, .junk⟩ :: acc) k
  | .no => if b = true then dspecK X md S o all r acc k o.op else drwK X md all r (S.put o.dst true .junk) (⟨[], [], true, .junk⟩ :: acc) k
noncomputable def dforkK (X : Ctx) (S : St) (o : Oper) (all r : List Oper) (acc : List Stp) (k : Kt) (want t : Bool) : Bool → Ans
  | false => dguardK X false S o all r acc k (t == want) (stepv X.P S o)
  | true => if (t == want) = true then dstepK X true (S.cz (gdst all o) want) o all r acc k (stepv X.P (S.cz (gdst all o) want) o) else drwK X true all r ((S.cz (gdst all o) (!want)).put o.dst true .junk) (⟨[], [], true, .junk⟩ :: acc) k
noncomputable def dgrdK (X : Ctx) (md : Bool) (S : St) (o : Oper) (all r : List Oper) (acc : List Stp) (k : Kt) (want : Bool) : Option (Bool × AV) → Ans
  | some (true, .d (.bool t)) => dforkK X S o all r acc k want t md
  | _ => none

section
variable {X : Ctx} {f : FuncId} {S : St} {k : Kt} {all r : List Oper} {md : Bool} {acc : List Stp}

theorem dstepK_eq (o : Oper) (res : Res) : (dThen acc (dstep X (callT X) S o res) (drwOps X (callT X) md all r)).bind (fun p => k p.1 p.2) = dstepK X md S o all r acc k res := by
  cases res with
  | val c x => simp only [dstep, dstepK]; split <;> rfl
  | upd c x e => simp only [dstep, dstepK]; split <;> rfl
  | no =>
    simp only [dstep, dstepK, dspec]
    split
    · rename_i fv args tys ho
      rw [ho]
      simp only [dspecK]
      rcases callVal X (callT X) S o args.toList (S.opd fv) with _ | ⟨out, es, ks⟩
      · rfl
      · cases out <;> rfl
    · rename_i h1
      unfold dspecK
      split
      · rename_i heq; exact absurd heq (h1 _ _ _)
      · rfl

theorem drwK_nil (h : ordOk all acc.reverse = true) : drwK X md all [] S acc k = k .normal S := by
  simp only [drwK, drwOps, h, if_true, Option.bind_some]
theorem drwK_cons {d : Option Tmp} {op : Op} {ty : TypeId} {pos : String} {af : Array Edge} : drwK X md all (⟨d, op, ty, pos, af, none⟩ :: r) S acc k = dstepK X md S ⟨d, op, ty, pos, af, none⟩ all r acc k (stepv X.P S ⟨d, op, ty, pos, af, none⟩) :=
  dstepK_eq _ _
theorem drwK_guard {d : Option Tmp} {op : Op} {ty : TypeId} {pos : String} {af : Array Edge} {j : Nat} {w : Bool} : drwK X md all (⟨d, op, ty, pos, af, some (j, w)⟩ :: r) S acc k = dgrdK X md S ⟨d, op, ty, pos, af, some (j, w)⟩ all r acc k w (grd all S j) := by
  simp only [drwK, drwOps, dgstep]
  generalize grd all S j = g
  rcases g with _ | ⟨g, y⟩
  · rfl
  · cases g with
    | false => rfl
    | true =>
      cases y with
      | d y =>
        cases y with
        | bool t =>
          simp only [dgrdK]
          cases md with
          | true =>
            simp only [dforkK, gdst]
            split
            · exact dstepK_eq _ _
            · rfl
          | false =>
          simp only [dforkK]
          generalize hs : stepv X.P S _ = res
          cases res with
          | val c x => simp only [dguard, dguardK]; split <;> rfl
          | upd c x e =>
            simp only [dguard, dguardK]
            split
            · exact dstepK_eq _ (.upd c x e)
            · rfl
          | no =>
            simp only [dguard, dguardK]
            split
            · exact dstepK_eq _ .no
            · rfl
        | _ => rfl
      | _ => rfl
theorem dcallK_ite {d : Option Nat} {c : Prop} [Decidable c] {a b : Option CRes} : dcallK X md S d all r acc k (if c then a else b) = if c then dcallK X md S d all r acc k a else dcallK X md S d all r acc k b := by split <;> rfl
end

/- Functions. -/
def callOk (n : Nat) (p : FPol) (args : List AV) (cs : List Cont) : Bool :=
  decide (args.length ≤ n) && decide (cs.length ≤ 100) && p.sites.all (fun k => decide (100 ≤ k)) && decide p.sites.Nodup
theorem call_run {X : Ctx} {f : FuncId} {fn : Func} {c : Code} {args : List AV} {cs : List Cont} {n : Nat} {rs : List ResultVar} {p : FPol} (hf : X.P.funcs[f]? = some fn) (hb : fn.body = some c) (hn : fn.ntmps = n) (hrs : fn.results.toList = rs)
    (hp : X.fp f = p) (hs : p.split = false) (hok : callOk n p args cs = true) : callT X f args cs = denK X f c (entry n X.gl args cs p.sites) (finK X.P p cs.length rs) := by
  subst hp
  rw [callT_eq hf hb, hs]
  simp only [runSplit, runFnT]
  subst hn; subst hrs
  rw [if_pos (by simpa only [callOk] using hok)]
  simp only [denK]
  rcases denT X f c _ with _ | ⟨e, S⟩
  · rfl
  · cases e <;> rfl
theorem call_run_split {X : Ctx} {f : FuncId} {fn : Func} {c : Code} {args : List AV} {cs : List Cont} {n : Nat} {rs : List ResultVar} {p : FPol} (hf : X.P.funcs[f]? = some fn) (hb : fn.body = some c) (hn : fn.ntmps = n) (hrs : fn.results.toList = rs)
    (hp : X.fp f = p) (hs : p.split = true) (hok : callOk n p args cs = true) : callT X f args cs = runSplit (fun args => denK X f c (entry n X.gl args cs p.sites) (finK X.P p cs.length rs)) args true := by
  subst hp
  rw [callT_eq hf hb, hs]
  subst hn; subst hrs
  have key : ∀ args' : List AV, args'.length = args.length → runFnT X f fn c cs args' = denK X f c (entry fn.ntmps X.gl args' cs (X.fp f).sites) (finK X.P (X.fp f) cs.length fn.results.toList) := by
    intro args' hl
    simp only [runFnT]
    rw [if_pos (by rw [hl]; simpa only [callOk] using hok)]
    simp only [denK]
    rcases denT X f c _ with _ | ⟨e, S⟩
    · rfl
    · cases e <;> rfl
  simp only [runSplit]
  split
  · rename_i r
    rw [key _ (by simp), key _ (by simp)]
  · exact key _ rfl
end Go.Am

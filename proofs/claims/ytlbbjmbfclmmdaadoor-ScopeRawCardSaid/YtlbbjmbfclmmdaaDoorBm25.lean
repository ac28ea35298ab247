/-
  The abstract machine, part 25: the evaluator without fuel.
-/
import Derived.Test.YtlbbjmbfclmmdaaDoorBm24
namespace Go.Am
open Go

/- Rows that settle. -/
def Mono {α : Type} (f : Nat → Option α) : Prop := ∀ n r, f n = some r → f (n + 1) = some r
theorem Mono.le {α : Type} {f : Nat → Option α} (h : Mono f) {n m : Nat} (hnm : n ≤ m) {r : α} (hr : f n = some r) : f m = some r := by
  induction hnm with
  | refl => exact hr
  | step _ ih => exact h _ _ ih
theorem Mono.const {α : Type} (x : Option α) : Mono fun _ => x := fun _ _ h => h
theorem Mono.bind {α β : Type} {f : Nat → Option α} {g : α → Nat → Option β} (hf : Mono f) (hg : ∀ x, Mono (g x)) : Mono fun n => (f n).bind fun x => g x n := by
  intro n r h
  obtain ⟨x, hx, hr⟩ := Option.bind_eq_some_iff.1 h
  simp only [hf n x hx, Option.bind_some]
  exact hg x n r hr

open Classical in
noncomputable def lim {α : Type} (f : Nat → Option α) : Option α := if h : ∃ n, (f n).isSome = true then f (Classical.choose h) else none
theorem lim_some {α : Type} {f : Nat → Option α} (hf : Mono f) {r : α} : lim f = some r ↔ ∃ n, f n = some r := by
  unfold lim
  constructor
  · intro h
    split at h
    · exact ⟨_, h⟩
    · cases h
  · rintro ⟨n, hn⟩
    have hex : ∃ n, (f n).isSome = true := ⟨n, by rw [hn]; rfl⟩
    rw [dif_pos hex]
    have hc := Classical.choose_spec hex
    obtain ⟨r', hr'⟩ := Option.isSome_iff_exists.1 hc
    rw [hr']
    rcases Nat.le_total n (Classical.choose hex) with h1 | h1
    · rw [← hr']; exact hf.le h1 hn
    · have := hf.le h1 hr'; rw [this] at hn; exact hn
theorem lim_const {α : Type} (x : Option α) : lim (fun _ => x) = x := by
  cases x with
  | some r => exact (lim_some (Mono.const _)).2 ⟨0, rfl⟩
  | none => unfold lim; rw [dif_neg]; rintro ⟨_, h⟩; cases h
theorem lim_bind {α β : Type} {f : Nat → Option α} {g : α → Nat → Option β} (hf : Mono f) (hg : ∀ x, Mono (g x)) : lim (fun n => (f n).bind fun x => g x n) = (lim f).bind fun x => lim (g x) := by
  apply Option.ext
  intro r
  rw [lim_some (hf.bind hg), Option.bind_eq_some_iff]
  constructor
  · rintro ⟨n, hn⟩
    obtain ⟨x, hx, hr⟩ := Option.bind_eq_some_iff.1 hn
    exact ⟨x, (lim_some hf).2 ⟨n, hx⟩, (lim_some (hg x)).2 ⟨n, hr⟩⟩
  · rintro ⟨x, hx, hr⟩
    obtain ⟨n, hn⟩ := (lim_some hf).1 hx
    obtain ⟨m, hm⟩ := (lim_some (hg x)).1 hr
    exact ⟨max n m, by rw [hf.le (Nat.le_max_left n m) hn]; exact (hg x).le (Nat.le_max_right n m) hm⟩
theorem lim_shift {α : Type} {f : Nat → Option α} (hf : Mono f) : lim (fun n => f (n + 1)) = lim f := by
  have hf' : Mono fun n => f (n + 1) := fun n r h => hf (n + 1) r h
  apply Option.ext
  intro r
  rw [lim_some hf', lim_some hf]
  exact ⟨fun ⟨n, h⟩ => ⟨n + 1, h⟩, fun ⟨n, h⟩ => ⟨n, hf n r h⟩⟩

/- All parts of the evaluator by what stands first in them. -/
def aT (k : St → Option (XE × St)) : XE × St → Option (XE × St)
  | (.normal, S) => k S
  | r => some r
theorem andThen_eq (r : Option (XE × St)) (k : St → Option (XE × St)) : andThen r k = r.bind (aT k) := by
  rcases r with _ | ⟨e, S⟩
  · rfl
  · cases e <;> rfl
def mT (k : St → St) : XE × St → Option (XE × St)
  | (.normal, S) => some (.normal, k S)
  | r => some r
theorem mapN_eq (k : St → St) (r : Option (XE × St)) : mapN k r = r.bind (mT k) := by
  rcases r with _ | ⟨e, S⟩
  · rfl
  · cases e <;> rfl
def bT (id : Nat) : XE × St → Option (XE × St)
  | (.exit id', S) => if id' = id then some (.normal, S) else some (.exit id', S)
  | r => some r
theorem inBlk_eq (id : Nat) (r : Option (XE × St)) : inBlk id r = r.bind (bT id) := by
  rcases r with _ | ⟨e, S⟩
  · rfl
  · cases e <;> rfl
def cT (m : Mem) (k0 : Nat) (ρ B : List Nat) (n0 : Nat) (b : Bool) (p : Out × List (Nat × Cont)) : Option CRes := callBack m k0 ρ B (frzR n0 b (some p))
theorem callBack_eq (m : Mem) (k0 : Nat) (ρ B : List Nat) (n0 : Nat) (b : Bool) (r : Option (Out × List (Nat × Cont))) : callBack m k0 ρ B (frzR n0 b r) = r.bind (cT m k0 ρ B n0 b) := by cases r <;> rfl
theorem putC_eq (S : St) (d : Option Nat) (r : Option CRes) : putC S d r = r.bind fun c => putC S d (some c) := by cases r <;> rfl
theorem dcall_eq (S : St) (o : Oper) (r : Option CRes) : dcall S o r = r.bind fun c => dcall S o (some c) := by cases r <;> rfl
theorem dThen_eq (acc : List Stp) (r : Option (St × Stp)) (k : St → List Stp → Option (XE × St)) : dThen acc r k = r.bind fun p => k p.1 (p.2 :: acc) := by cases r <;> rfl
theorem fin_eq (P : Program) (p : FPol) (n0 : Nat) (rs : List ResultVar) (r : Option (XE × St)) : fin P p n0 rs r = r.bind fun q => fin P p n0 rs (some q) := by cases r <;> rfl

/-- A row of functions that settles everywhere. -/
def CMono (C : Nat → CallFn) : Prop := ∀ g a c, Mono fun k => C k g a c

section
variable {X : Ctx} {C : Nat → CallFn} {S : St} {o : Oper} {md : Bool}

theorem callOp_mono (hC : CMono C) (m : Mem) (k0 : Nat) (g : FuncId) (ys : List AV) (mt : List Nat) : Mono (fun k => callOp (C k) m k0 g ys mt) := by
  unfold callOp callOp2 callOp3
  simp only [callBack_eq]
  exact (hC _ _ _).bind fun _ => Mono.const _
theorem callVal_mono (hC : CMono C) (args : List Operand) (fv : Bool × AV) : Mono (fun k => callVal X (C k) S o args fv) := by
  unfold callVal
  split
  · split
    · exact callOp_mono hC _ _ _ _ _
    · exact Mono.const _
  · exact Mono.const _
theorem specOp_mono (hC : CMono C) : Mono (fun k => specOp X (C k) S o) := by
  unfold specOp
  split
  · rename_i fv args tys ho
    have h1 : (fun k => putC S o.dst (callVal X (C k) S o args.toList (S.opd fv))) = fun k => (callVal X (C k) S o args.toList (S.opd fv)).bind fun c => putC S o.dst (some c) := by
      funext k; exact putC_eq ..
    rw [h1]
    exact (callVal_mono hC args.toList (S.opd fv)).bind (fun _ => Mono.const _)
  · exact Mono.const _
  · exact Mono.const _
theorem stepOp_mono (hC : CMono C) (r : Res) : Mono (fun k => stepOp X (C k) S o r) := by
  cases r with
  | no => exact specOp_mono hC
  | val c x => exact Mono.const _
  | upd c x e => exact Mono.const _
theorem guardOp_mono (hC : CMono C) (b : Bool) (r : Res) : Mono (fun k => guardOp X (C k) S o b r) := by
  have other : ∀ r, Mono (fun k => if b = true then stepOp X (C k) S o r else some (.normal, S.put o.dst true .junk)) := by
    intro r
    split
    · exact stepOp_mono hC r
    · exact Mono.const _
  cases r with
  | no => exact other .no
  | val c x => exact Mono.const _
  | upd c x e => exact other (.upd c x e)
theorem gstep_mono (hC : CMono C) (all : List Oper) : Mono (fun k => gstep X (C k) md all S o) := by
  unfold gstep
  split
  · exact stepOp_mono hC _
  · split
    · split
      · exact guardOp_mono hC _ _
      · split
        · exact stepOp_mono hC _
        · exact Mono.const _
    · exact Mono.const _
theorem andThen_mono {F : Nat → Option (XE × St)} {K : St → Nat → Option (XE × St)} (hF : Mono F) (hK : ∀ S, Mono (K S)) : Mono (fun n => andThen (F n) (fun S => K S n)) := by
  simp only [andThen_eq]
  refine hF.bind (g := fun x n => aT (fun S => K S n) x) fun x => ?_
  obtain ⟨e, S⟩ := x
  cases e with
  | normal => exact hK S
  | _ => exact Mono.const _
theorem runOps_mono (hC : CMono C) (all : List Oper) : ∀ (ops : List Oper) (S : St), Mono (fun k => runOps X (C k) md all ops S)
  | [], S => Mono.const _
  | o :: r, S => andThen_mono (gstep_mono hC all) (fun S' => runOps_mono hC all r S')
theorem dspec_mono (hC : CMono C) : Mono (fun k => dspec X (C k) S o) := by
  unfold dspec
  split
  · rename_i fv args tys ho
    have h1 : (fun k => dcall S o (callVal X (C k) S o args.toList (S.opd fv))) = fun k => (callVal X (C k) S o args.toList (S.opd fv)).bind fun c => dcall S o (some c) := by
      funext k; exact dcall_eq ..
    rw [h1]
    exact (callVal_mono hC args.toList (S.opd fv)).bind (fun _ => Mono.const _)
  · exact Mono.const _
theorem dstep_mono (hC : CMono C) (r : Res) : Mono (fun k => dstep X (C k) S o r) := by
  cases r with
  | no => exact dspec_mono hC
  | val c x => exact Mono.const _
  | upd c x e => exact Mono.const _
theorem dguard_mono (hC : CMono C) (b : Bool) (r : Res) : Mono (fun k => dguard X (C k) S o b r) := by
  have other : ∀ r, Mono (fun k => if b = true then dstep X (C k) S o r else some (S.put o.dst true .junk, ⟨[], [], true, .junk⟩)) := by
    intro r
    split
    · exact dstep_mono hC r
    · exact Mono.const _
  cases r with
  | no => exact other .no
  | val c x => exact Mono.const _
  | upd c x e => exact other (.upd c x e)
theorem dgstep_mono (hC : CMono C) (all : List Oper) : Mono (fun k => dgstep X (C k) md all S o) := by
  unfold dgstep
  split
  · exact dstep_mono hC _
  · split
    · split
      · exact dguard_mono hC _ _
      · split
        · exact dstep_mono hC _
        · exact Mono.const _
    · exact Mono.const _
theorem drwOps_mono (hC : CMono C) (all : List Oper) : ∀ (ops : List Oper) (S : St) (acc : List Stp), Mono (fun k => drwOps X (C k) md all ops S acc)
  | [], S, acc => Mono.const _
  | o :: r, S, acc => by
    simp only [drwOps, dThen_eq]
    exact (dgstep_mono hC all).bind (g := fun p n => drwOps X (C n) md all r p.1 (p.2 :: acc)) fun p => drwOps_mono hC all r p.1 (p.2 :: acc)

theorem iter_fuel (f : St → Option (XE × St)) : ∀ (j : Nat) (S : St) (r : XE × St), iter f j S = some r → iter f (j + 1) S = some r
  | 0, S, r, h => by cases h
  | j + 1, S, r, h => by
    simp only [iter] at h
    rw [iter]
    rcases andThen_some h with ⟨S1, h1, h2⟩ | ⟨h1, h2⟩
    · rw [h1]; exact iter_fuel f j S1 r h2
    · rw [h1]
      obtain ⟨e, S1⟩ := r
      cases e with
      | normal => exact absurd rfl h2
      | _ => rfl
theorem iter_fuel_le (f : St → Option (XE × St)) {j k : Nat} (h : j ≤ k) {S : St} {r : XE × St} (hr : iter f j S = some r) : iter f k S = some r := by
  induction h with
  | refl => exact hr
  | step _ ih => exact iter_fuel f _ S r ih
theorem iter_mono {F : Nat → St → Option (XE × St)} (hF : ∀ S, Mono (fun k => F k S)) : ∀ (j : Nat) (S : St), Mono (fun k => iter (F k) j S)
  | 0, S => Mono.const _
  | j + 1, S => andThen_mono (hF S) (fun S' => iter_mono hF j S')

theorem den_mono (hC : CMono C) (f : FuncId) {m : Nat → Nat} (hm : ∀ k, m k ≤ m (k + 1)) : ∀ (c : Code) (S : St), Mono (fun k => den X f (C k) (m k) c S) := by
  intro c
  induction c with
  | region id ops draw =>
    intro S
    cases draw with
    | false =>
      simp only [den, mapN_eq]
      exact (runOps_mono hC _ _ _).bind fun _ => Mono.const _
    | true =>
      simp only [den, mapN_eq]
      exact (drwOps_mono hC _ _ _ _).bind fun _ => Mono.const _
  | seq a b iha ihb => intro S; exact andThen_mono (iha S) (fun S' => ihb S')
  | cond c a b iha ihb =>
    intro S
    simp only [den]
    unfold condB
    split
    · split
      · exact iha S
      · exact ihb S
    · exact Mono.const _
  | block id c ih =>
    intro S
    simp only [den, inBlk_eq]
    exact (ih S).bind fun _ => Mono.const _
  | loop c ih =>
    intro S n r h
    simp only [den] at h ⊢
    have h1 := iter_mono (F := fun k => den X f (C k) (m k) c) ih (m n) S n r h
    exact iter_fuel_le _ (hm n) h1
  | skip => intro S; exact Mono.const _
  | exit id => intro S; exact Mono.const _
  | ret => intro S; exact Mono.const _
  | rangeFunc _ _ _ _ => intro S; exact Mono.const _
  | scope _ _ => intro S; exact Mono.const _
  | label _ => intro S; exact Mono.const _
  | goto _ => intro S; exact Mono.const _
  | refuse _ => intro S; exact Mono.const _

theorem runFn_mono (hC : CMono C) (f : FuncId) {m : Nat → Nat} (hm : ∀ k, m k ≤ m (k + 1)) (fn : Func) (c : Code) (args : List AV) (cs : List Cont) : Mono (fun k => runFn X f (C k) (m k) fn c args cs) := by
  unfold runFn
  split
  · simp only [fin_eq X.P (X.fp f) cs.length fn.results.toList (den _ _ _ _ _ _)]
    exact (den_mono hC f hm c _).bind fun _ => Mono.const _
  · exact Mono.const _

theorem splitRun_mono {F G : Nat → Option (Out × List (Nat × Cont))} (hF : Mono F) (hG : Mono G) : Mono (fun n => splitRun (F n) (G n)) := by
  intro n r h
  replace h : splitRun (F n) (G n) = some r := h
  show splitRun (F (n + 1)) (G (n + 1)) = some r
  unfold splitRun at h
  split at h
  · rename_i a b ha hb
    have e1 := emptyVec_some ha
    have e2 := emptyVec_some hb
    have f1 := hF n _ e1
    have f2 := hG n _ e2
    rw [e1] at h
    rw [f1, f2]
    simp only [splitRun, emptyVec]
    exact h
  · cases h
theorem runSplit_mono {R : Nat → List AV → Option (Out × List (Nat × Cont))} (hR : ∀ a, Mono (fun n => R n a)) (args : List AV) (b : Bool) : Mono (fun n => runSplit (R n) args b) := by
  unfold runSplit
  split
  · split
    · exact splitRun_mono (hR _) (hR _)
    · exact hR _
  · exact hR _

theorem callN_mono (X : Ctx) : ∀ n g a c r, callN X n g a c = some r → callN X (n + 1) g a c = some r
  | 0, g, a, c, r, h => by cases h
  | n + 1, g, a, c, r, h => by
    have ih := callN_mono X n
    have hC : CMono fun k => if k = 0 then callN X n else callN X (n + 1) := by
      intro g a c k r h
      by_cases hk : k = 0
      · subst hk; exact ih g a c r h
      · simp only [hk, if_false] at h; simpa using h
    have hm : ∀ k, (if k = 0 then n else n + 1) ≤ (if k + 1 = 0 then n else n + 1) := by
      intro k
      by_cases hk : k = 0 <;> simp [hk]
    cases hf : X.P.funcs[g]? with
    | none => simp only [callN, hf] at h; cases h
    | some fn =>
      cases hb : fn.body with
      | none => simp only [callN, hf, hb] at h; cases h
      | some code =>
        have e1 : ∀ k, callN X (k + 1) g a c = runSplit (fun args => runFn X g (callN X k) k fn code args c) a (X.fp g).split := by
          intro k; simp only [callN, hf, hb]
        rw [e1] at h ⊢
        exact runSplit_mono (R := fun k args => runFn X g ((fun k => if k = 0 then callN X n else callN X (n + 1)) k) ((fun k => if k = 0 then n else n + 1) k) fn code args c) (fun args => runFn_mono hC g hm fn code args c) a _ 0 r h
theorem callN_cmono (X : Ctx) : CMono (callN X) := fun g a c n r h => callN_mono X n g a c r h
end

/- The limits. -/
noncomputable def callT (X : Ctx) : CallFn := fun g a c => lim fun k => callN X k g a c
noncomputable def denT (X : Ctx) (f : FuncId) (c : Code) (S : St) : Option (XE × St) := lim fun k => den X f (callN X k) k c S

theorem callT_of {X : Ctx} {g a c r} (n : Nat) (h : callN X n g a c = some r) : callT X g a c = some r := (lim_some (callN_cmono X g a c)).2 ⟨n, h⟩
theorem callT_ok {X : Ctx} (hX : CtxOk X) : ClOk X (callT X) := fun g args cs out l h => by
  obtain ⟨n, hn⟩ := (lim_some (callN_cmono X g args cs)).1 h
  exact callN_ok hX n g args cs out l hn

section
variable {X : Ctx} {S : St} {o : Oper} {f : FuncId} {md : Bool}

theorem dm (c : Code) (S : St) : Mono (fun k => den X f (callN X k) k c S) := den_mono (callN_cmono X) f (m := fun k => k) (fun k => Nat.le_succ k) c S

theorem callOp_lim (m : Mem) (k0 : Nat) (g : FuncId) (ys : List AV) (mt : List Nat) : lim (fun k => callOp (callN X k) m k0 g ys mt) = callOp (callT X) m k0 g ys mt := by
  unfold callOp callOp2 callOp3
  simp only [callBack_eq]
  rw [lim_bind (callN_cmono X _ _ _) (fun _ => Mono.const _)]
  simp only [lim_const]
  rfl
theorem callVal_lim (args : List Operand) (fv : Bool × AV) : lim (fun k => callVal X (callN X k) S o args fv) = callVal X (callT X) S o args fv := by
  unfold callVal
  split
  · split
    · exact callOp_lim ..
    · exact lim_const _
  · exact lim_const _
theorem specOp_lim : lim (fun k => specOp X (callN X k) S o) = specOp X (callT X) S o := by
  unfold specOp
  split
  · rename_i fv args tys ho
    have h1 : (fun k => putC S o.dst (callVal X (callN X k) S o args.toList (S.opd fv))) = fun k => (callVal X (callN X k) S o args.toList (S.opd fv)).bind fun c => putC S o.dst (some c) := by
      funext k; exact putC_eq ..
    rw [h1, lim_bind (callVal_mono (callN_cmono X) _ _) (fun _ => Mono.const _), callVal_lim, putC_eq]
    simp only [lim_const]
  · exact lim_const _
  · exact lim_const _
theorem stepOp_lim (r : Res) : lim (fun k => stepOp X (callN X k) S o r) = stepOp X (callT X) S o r := by
  cases r with
  | no => exact specOp_lim
  | val c x => exact lim_const _
  | upd c x e => exact lim_const _
theorem guardOp_lim (b : Bool) (r : Res) : lim (fun k => guardOp X (callN X k) S o b r) = guardOp X (callT X) S o b r := by
  have other : ∀ r, lim (fun k => if b = true then stepOp X (callN X k) S o r else some (.normal, S.put o.dst true .junk)) = if b = true then stepOp X (callT X) S o r else some (.normal, S.put o.dst true .junk) := by
    intro r
    split
    · exact stepOp_lim r
    · exact lim_const _
  cases r with
  | no => exact other .no
  | val c x => exact lim_const _
  | upd c x e => exact other (.upd c x e)
theorem gstep_lim (all : List Oper) : lim (fun k => gstep X (callN X k) md all S o) = gstep X (callT X) md all S o := by
  unfold gstep
  split
  · exact stepOp_lim _
  · split
    · split
      · exact guardOp_lim _ _
      · split
        · exact stepOp_lim _
        · exact lim_const _
    · exact lim_const _
theorem andThen_lim {F : Nat → Option (XE × St)} {K : St → Nat → Option (XE × St)} (hF : Mono F) (hK : ∀ S, Mono (K S)) : lim (fun n => andThen (F n) (fun S => K S n)) = andThen (lim F) (fun S => lim (K S)) := by
  simp only [andThen_eq]
  rw [lim_bind (g := fun x n => aT (fun S => K S n) x) hF (fun x => by
    obtain ⟨e, S⟩ := x
    cases e with
    | normal => exact hK S
    | _ => exact Mono.const _)]
  congr 1
  funext x
  obtain ⟨e, S⟩ := x
  cases e <;> first | rfl | exact lim_const _
theorem runOps_lim (all : List Oper) : ∀ (ops : List Oper) (S : St), lim (fun k => runOps X (callN X k) md all ops S) = runOps X (callT X) md all ops S
  | [], S => lim_const _
  | o :: r, S => by
    simp only [runOps]
    have := andThen_lim (F := fun k => gstep X (callN X k) md all S o) (K := fun S' k => runOps X (callN X k) md all r S') (gstep_mono (callN_cmono X) all) (fun S' => runOps_mono (callN_cmono X) all r S')
    rw [gstep_lim] at this
    simp only [runOps_lim all r] at this
    exact this
theorem dspec_lim : lim (fun k => dspec X (callN X k) S o) = dspec X (callT X) S o := by
  unfold dspec
  split
  · rename_i fv args tys ho
    have h1 : (fun k => dcall S o (callVal X (callN X k) S o args.toList (S.opd fv))) = fun k => (callVal X (callN X k) S o args.toList (S.opd fv)).bind fun c => dcall S o (some c) := by
      funext k; exact dcall_eq ..
    rw [h1, lim_bind (callVal_mono (callN_cmono X) _ _) (fun _ => Mono.const _), callVal_lim, dcall_eq]
    simp only [lim_const]
  · exact lim_const _
theorem dstep_lim (r : Res) : lim (fun k => dstep X (callN X k) S o r) = dstep X (callT X) S o r := by
  cases r with
  | no => exact dspec_lim
  | val c x => exact lim_const _
  | upd c x e => exact lim_const _
theorem dguard_lim (b : Bool) (r : Res) : lim (fun k => dguard X (callN X k) S o b r) = dguard X (callT X) S o b r := by
  have other : ∀ r, lim (fun k => if b = true then dstep X (callN X k) S o r else some (S.put o.dst true .junk, (⟨[], [], true, .junk⟩ : Stp))) = if b = true then dstep X (callT X) S o r else some (S.put o.dst true .junk, ⟨[], [], true, .junk⟩) := by
    intro r
    split
    · exact dstep_lim r
    · exact lim_const _
  cases r with
  | no => exact other .no
  | val c x => exact lim_const _
  | upd c x e => exact other (.upd c x e)
theorem dgstep_lim (all : List Oper) : lim (fun k => dgstep X (callN X k) md all S o) = dgstep X (callT X) md all S o := by
  unfold dgstep
  split
  · exact dstep_lim _
  · split
    · split
      · exact dguard_lim _ _
      · split
        · exact dstep_lim _
        · exact lim_const _
    · exact lim_const _
theorem drwOps_lim (all : List Oper) : ∀ (ops : List Oper) (S : St) (acc : List Stp), lim (fun k => drwOps X (callN X k) md all ops S acc) = drwOps X (callT X) md all ops S acc
  | [], S, acc => lim_const _
  | o :: r, S, acc => by
    simp only [drwOps, dThen_eq]
    rw [lim_bind (g := fun p n => drwOps X (callN X n) md all r p.1 (p.2 :: acc)) (dgstep_mono (callN_cmono X) all) (fun p => drwOps_mono (callN_cmono X) all r p.1 (p.2 :: acc)), dgstep_lim]
    simp only [drwOps_lim all r]

/- What the evaluator does with code. -/
theorem denT_skip : denT X f .skip S = some (.normal, S) := lim_const _
theorem denT_exit {id : Nat} : denT X f (.exit id) S = some (.exit id, S) := lim_const _
theorem denT_ret : denT X f .ret S = some (.ret, S) := lim_const _
theorem denT_seq {a b : Code} : denT X f (.seq a b) S = andThen (denT X f a S) (denT X f b) := andThen_lim (dm a S) (fun S' => dm b S')
theorem denT_cond {c : Operand} {a b : Code} : denT X f (.cond c a b) S = condB (denT X f a S) (denT X f b S) (S.opd c) := by
  unfold denT
  simp only [den]
  unfold condB
  split
  · split <;> rfl
  · exact lim_const _
theorem denT_block {id : Nat} {c : Code} : denT X f (.block id c) S = inBlk id (denT X f c S) := by
  unfold denT
  simp only [den, inBlk_eq]
  rw [lim_bind (dm c S) (fun _ => Mono.const _)]
  simp only [lim_const]
theorem denT_region {id : Nat} {ops : Array Oper} : denT X f (.region id ops false) S = mapN (St.leave X f id) (runOps X (callT X) (X.md f id) ops.toList ops.toList S) := by
  unfold denT
  simp only [den, mapN_eq]
  rw [lim_bind (runOps_mono (callN_cmono X) _ _ _) (fun _ => Mono.const _), runOps_lim]
  simp only [lim_const]
theorem denT_draw {id : Nat} {ops : Array Oper} : denT X f (.region id ops true) S = mapN (St.leave X f id) (drwOps X (callT X) (X.md f id) ops.toList ops.toList S []) := by
  unfold denT
  simp only [den, mapN_eq]
  rw [lim_bind (drwOps_mono (callN_cmono X) _ _ _ _) (fun _ => Mono.const _), drwOps_lim]
  simp only [lim_const]
theorem denT_loop {c : Code} : denT X f (.loop c) S = andThen (denT X f c S) (denT X f (.loop c)) := by
  apply Option.ext
  intro r
  have hl : ∀ S r, denT X f (.loop c) S = some r ↔ ∃ k, iter (den X f (callN X k) k c) k S = some r := fun S r => lim_some (dm (.loop c) S)
  have hi : ∀ {k j i : Nat} {S r}, k ≤ j → i ≤ j → iter (den X f (callN X k) k c) i S = some r → iter (den X f (callN X j) j c) j S = some r := by
    intro k j i S r hk hij h
    exact iter_fuel_le _ hij ((iter_mono (F := fun k => den X f (callN X k) k c) (fun S => dm c S) i S).le hk h)
  rw [hl]
  constructor
  · rintro ⟨k, hk⟩
    cases k with
    | zero => cases hk
    | succ k =>
      simp only [iter] at hk
      rcases andThen_some hk with ⟨S1, h1, h2⟩ | ⟨h1, h2⟩
      · have : denT X f c S = some (.normal, S1) := (lim_some (dm c S)).2 ⟨k + 1, h1⟩
        rw [this]
        exact (hl S1 r).2 ⟨k + 1, hi (Nat.le_refl _) (Nat.le_succ k) h2⟩
      · have : denT X f c S = some r := (lim_some (dm c S)).2 ⟨k + 1, h1⟩
        rw [this]
        obtain ⟨e, S1⟩ := r
        cases e with
        | normal => exact absurd rfl h2
        | _ => rfl
  · intro h
    rcases andThen_some h with ⟨S1, h1, h2⟩ | ⟨h1, h2⟩
    · obtain ⟨k, hk⟩ := (lim_some (dm c S)).1 h1
      obtain ⟨j, hj⟩ := (hl S1 r).1 h2
      refine ⟨max k j + 1, ?_⟩
      rw [iter, (dm c S).le (show k ≤ max k j + 1 by omega) hk]
      have := (iter_mono (F := fun k => den X f (callN X k) k c) (fun S => dm c S) j S1).le (show j ≤ max k j + 1 by omega) hj
      exact iter_fuel_le _ (show j ≤ max k j by omega) this
    · obtain ⟨k, hk⟩ := (lim_some (dm c S)).1 h1
      refine ⟨k + 1, ?_⟩
      rw [iter, (dm c S).le (Nat.le_succ k) hk]
      obtain ⟨e, S1⟩ := r
      cases e with
      | normal => exact absurd rfl h2
      | _ => rfl

noncomputable def runFnT (X : Ctx) (f : FuncId) (fn : Func) (c : Code) (cs : List Cont) (args : List AV) : Option (Out × List (Nat × Cont)) :=
  if (decide (args.length ≤ fn.ntmps) && decide (cs.length ≤ 100) && (X.fp f).sites.all (fun k => decide (100 ≤ k)) && decide (X.fp f).sites.Nodup) = true then
    fin X.P (X.fp f) cs.length fn.results.toList (denT X f c (entry fn.ntmps X.gl args cs (X.fp f).sites))
  else none

theorem callT_eq {fn : Func} {c : Code} {args : List AV} {cs : List Cont} (hf : X.P.funcs[f]? = some fn) (hb : fn.body = some c) :
    callT X f args cs = runSplit (runFnT X f fn c cs) args (X.fp f).split := by
  have hm : ∀ args, Mono (fun k => runFn X f (callN X k) k fn c args cs) := fun args => runFn_mono (callN_cmono X) f (m := fun k => k) (fun k => Nat.le_succ k) fn c args cs
  have hr : ∀ args, lim (fun k => runFn X f (callN X k) k fn c args cs) = runFnT X f fn c cs args := by
    intro args
    unfold runFn runFnT
    split
    · rename_i h
      have h1 : (fun k => fin X.P (X.fp f) cs.length fn.results.toList (den X f (callN X k) k c (entry fn.ntmps X.gl args cs (X.fp f).sites))) = fun k => (den X f (callN X k) k c (entry fn.ntmps X.gl args cs (X.fp f).sites)).bind fun q => fin X.P (X.fp f) cs.length fn.results.toList (some q) := by
        funext k; exact fin_eq ..
      rw [h1, lim_bind (dm c _) (fun _ => Mono.const _), fin_eq]
      simp only [lim_const]
      rfl
    · exact lim_const _
  have e1 : callT X f args cs = lim (fun k => runSplit (fun args => runFn X f (callN X k) k fn c args cs) args (X.fp f).split) := by
    unfold callT
    rw [← lim_shift (callN_cmono X f args cs)]
    congr 1
    funext k
    rw [callN, hf]
    simp only [hb]
  rw [e1]
  unfold runSplit
  split
  · split
    · rename_i r
      apply Option.ext
      intro y
      rw [lim_some (splitRun_mono (hm _) (hm _)), ← hr, ← hr]
      constructor
      · rintro ⟨n, hn⟩
        unfold splitRun at hn ⊢
        split at hn
        · rename_i a b ha hb2
          have f1 := (lim_some (hm _)).2 ⟨n, emptyVec_some ha⟩
          have f2 := (lim_some (hm _)).2 ⟨n, emptyVec_some hb2⟩
          rw [f1, f2]
          rw [emptyVec_some ha] at hn
          exact hn
        · cases hn
      · intro h
        unfold splitRun at h
        split at h
        · rename_i a b ha hb2
          obtain ⟨n, hn⟩ := (lim_some (hm _)).1 (emptyVec_some ha)
          obtain ⟨m, hm2⟩ := (lim_some (hm _)).1 (emptyVec_some hb2)
          refine ⟨max n m, ?_⟩
          rw [(hm _).le (Nat.le_max_left n m) hn, (hm _).le (Nat.le_max_right n m) hm2]
          rw [emptyVec_some ha] at h
          exact h
        · cases h
    · exact hr _
  · exact hr _
end
end Go.Am

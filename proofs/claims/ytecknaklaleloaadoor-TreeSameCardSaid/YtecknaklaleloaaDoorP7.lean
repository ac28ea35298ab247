/-
  Texts of one proof, one behind the other.
-/
import Derived.Test.YtecknaklaleloaaDoorP6
set_option linter.all false
section
namespace Go.Am
open Go
def eS (t : Sgn) : Sgn := ⟨t.kind, t.text, t.n, 0, 0⟩
def eV (v : Vr) : Vr := ⟨v.name, v.ty, v.sec, v.arr, v.lo, v.hi, v.init, 0⟩
mutual
def eE : Ex → Ex
  | .mk op n a b l _ => .mk op n a b (eEs l) 0
def eEs : List Ex → List Ex
  | [] => []
  | x :: r => eE x :: eEs r
end
theorem eEs_eq : ∀ l : List Ex, eEs l = l.map eE
  | [] => rfl
  | x :: r => by simp [eEs, eEs_eq r]
mutual
def eM : Sm → Sm
  | .mk op name to val conds labels fields blocks _ => .mk op name (eE to) (eE val) (eEs conds) labels fields (eBs blocks) 0
def eMs : List Sm → List Sm
  | [] => []
  | x :: r => eM x :: eMs r
def eBs : List (List Sm) → List (List Sm)
  | [] => []
  | b :: r => eMs b :: eBs r
end
theorem eMs_eq : ∀ l : List Sm, eMs l = l.map eM
  | [] => rfl
  | x :: r => by simp [eMs, eMs_eq r]
theorem eBs_eq : ∀ l : List (List Sm), eBs l = l.map (List.map eM)
  | [] => rfl
  | b :: r => by simp [eBs, eBs_eq r, eMs_eq]
theorem smAt_e (x : Sm) (l : Int) : smAt 0 (eM x) = eM (smAt l x) := by cases x; simp [smAt, eM]
def eP (s : PS) : PS := ⟨s.at_, s.deep, s.vars.map eV⟩
def eR (e : Er) : Er := ⟨e.e, 0, 0⟩
def eK (k : Kd) : Kd := ⟨eS k.at_, k.kind, k.arr, k.lo, k.hi⟩
def eG (p : Pg) : Pg := ⟨p.name, p.vars.map eV, p.body.map eM⟩
section
variable {α β : Type}
def emap (g : α → β) : PM α → PM β
  | .ok a s => .ok (g a) (eP s)
  | .bad e s => .bad (eR e) (eP s)
  | .out => .out
def PE (g : α → β) (r : PM α) (r' : PM β) : Prop := r' = emap g r
theorem PE.ok {g : α → β} {a : α} {a' : β} {s s' : PS} (h : a' = g a) (h' : s' = eP s) : PE g (.ok a s) (.ok a' s') := by subst h; subst h'; rfl
theorem PE.out {g : α → β} : PE g .out .out := rfl
theorem PE.bind {α' β' : Type} {g : α → α'} {g' : β → β'} {r : PM α} {r' : PM α'} {k : α → PS → PM β} {k' : α' → PS → PM β'} (h : PE g r r') (hk : ∀ a s, PE g' (k a s) (k' (g a) (eP s))) : PE g' (r.bind k) (r'.bind k') := by
  unfold PE at h
  subst h
  cases r with
  | ok a s => exact hk a s
  | bad e s => rfl
  | out => rfl
theorem PE.ite {g : α → β} {c c' : Prop} [Decidable c] [Decidable c'] {a b : PM α} {a' b' : PM β} (hc : c ↔ c') (h : PE g a a') (h' : PE g b b') : PE g (if c then a else b) (if c' then a' else b') := by
  by_cases hh : c
  · rw [if_pos hh, if_pos (hc.1 hh)]; exact h
  · rw [if_neg hh, if_neg (fun h => hh (hc.2 h))]; exact h'
end
section
variable (L : List Sgn)
theorem fail_e {α β : Type} {g : α → β} {e : Int} {t : Sgn} {s : PS} : PE g (failS e t s) (failS e (eS t) (eP s)) := rfl
theorem now_e (s : PS) : PE eS (nowS L s) (nowS (L.map eS) (eP s)) := by
  unfold nowS eP
  simp only [List.getElem?_map]
  cases L[s.at_]? with
  | none => rfl
  | some t => rfl
theorem is_e (w : Tx) (s : PS) : PE id (isS L w s) (isS (L.map eS) w (eP s)) := by
  unfold isS
  exact PE.bind (now_e L s) fun t s => rfl
theorem any_e : ∀ (ws : List Tx) (s : PS), PE id (anyS L ws s) (anyS (L.map eS) ws (eP s))
  | [], s => rfl
  | w :: r, s => by
    unfold anyS
    exact PE.bind (is_e L w s) fun b s => PE.ite Iff.rfl rfl (any_e r s)
theorem take_e (s : PS) : PE eS (takeS L s) (takeS (L.map eS) (eP s)) := by
  unfold takeS
  refine PE.bind (now_e L s) fun t s => PE.ok rfl ?_
  by_cases h : t.kind = 0
  · rw [if_pos h, if_pos (show (eS t).kind = 0 from h)]
  · rw [if_neg h, if_neg (show ¬ (eS t).kind = 0 from h)]; rfl
theorem may_e (w : Tx) (s : PS) : PE id (mayS L w s) (mayS (L.map eS) w (eP s)) := by
  unfold mayS
  repeat' (first | with_reducible (first | exact now_e L _ | exact is_e L _ _ | exact any_e L _ _ | exact take_e L _ | exact fail_e | exact PE.out | apply PE.bind | refine PE.ite ?_ ?_ ?_ | intro _ _) | exact Iff.rfl | exact PE.ok rfl rfl | exact PE.ok (smAt_e _ _) rfl | exact PE.ok (by simp [eP, eS, eK, eV, eE, eEs, eEs_eq, eM, eMs, eMs_eq, eBs_eq, vrOf, exSub, exVar, ex0, smOp, smAt, Function.comp_def, List.map_append]) rfl | exact PE.ok (by simp [eP, eS, eK, eV, eE, eEs, eEs_eq, eM, eMs, eMs_eq, eBs_eq, vrOf, exSub, exVar, ex0, smOp, smAt, Function.comp_def, List.map_append]) (by simp [eP, eS, eK, eV, eE, eEs, eEs_eq, eM, eMs, eMs_eq, eBs_eq, vrOf, exSub, exVar, ex0, smOp, smAt, Function.comp_def, List.map_append]) | (simp [eP, eS, eK, eV, eE, eEs, eEs_eq, eM, eMs, eMs_eq, eBs_eq, vrOf, exSub, exVar, ex0, smOp, smAt, Function.comp_def, List.map_append]; done) | exact fail_e)
theorem must_e (w : Tx) (s : PS) : PE id (mustS L w s) (mustS (L.map eS) w (eP s)) := by
  unfold mustS
  repeat' (first | with_reducible (first | exact now_e L _ | exact is_e L _ _ | exact any_e L _ _ | exact take_e L _ | exact may_e L _ _  | exact fail_e | exact PE.out | apply PE.bind | refine PE.ite ?_ ?_ ?_ | intro _ _) | exact Iff.rfl | exact PE.ok rfl rfl | exact PE.ok (smAt_e _ _) rfl | exact PE.ok (by simp [eP, eS, eK, eV, eE, eEs, eEs_eq, eM, eMs, eMs_eq, eBs_eq, vrOf, exSub, exVar, ex0, smOp, smAt, Function.comp_def, List.map_append]) rfl | exact PE.ok (by simp [eP, eS, eK, eV, eE, eEs, eEs_eq, eM, eMs, eMs_eq, eBs_eq, vrOf, exSub, exVar, ex0, smOp, smAt, Function.comp_def, List.map_append]) (by simp [eP, eS, eK, eV, eE, eEs, eEs_eq, eM, eMs, eMs_eq, eBs_eq, vrOf, exSub, exVar, ex0, smOp, smAt, Function.comp_def, List.map_append]) | (simp [eP, eS, eK, eV, eE, eEs, eEs_eq, eM, eMs, eMs_eq, eBs_eq, vrOf, exSub, exVar, ex0, smOp, smAt, Function.comp_def, List.map_append]; done) | exact may_e L _ _  | exact fail_e)
theorem kind_e (k : Int) (s : PS) : PE eS (kindS L k s) (kindS (L.map eS) k (eP s)) := by
  unfold kindS
  repeat' (first | with_reducible (first | exact now_e L _ | exact is_e L _ _ | exact any_e L _ _ | exact take_e L _ | exact may_e L _ _  | exact must_e L _ _  | exact fail_e | exact PE.out | apply PE.bind | refine PE.ite ?_ ?_ ?_ | intro _ _) | exact Iff.rfl | exact PE.ok rfl rfl | exact PE.ok (smAt_e _ _) rfl | exact PE.ok (by simp [eP, eS, eK, eV, eE, eEs, eEs_eq, eM, eMs, eMs_eq, eBs_eq, vrOf, exSub, exVar, ex0, smOp, smAt, Function.comp_def, List.map_append]) rfl | exact PE.ok (by simp [eP, eS, eK, eV, eE, eEs, eEs_eq, eM, eMs, eMs_eq, eBs_eq, vrOf, exSub, exVar, ex0, smOp, smAt, Function.comp_def, List.map_append]) (by simp [eP, eS, eK, eV, eE, eEs, eEs_eq, eM, eMs, eMs_eq, eBs_eq, vrOf, exSub, exVar, ex0, smOp, smAt, Function.comp_def, List.map_append]) | (simp [eP, eS, eK, eV, eE, eEs, eEs_eq, eM, eMs, eMs_eq, eBs_eq, vrOf, exSub, exVar, ex0, smOp, smAt, Function.comp_def, List.map_append]; done) | exact may_e L _ _  | exact must_e L _ _  | exact fail_e)
theorem in_e (s : PS) : PE id (inS L s) (inS (L.map eS) (eP s)) := by
  unfold inS
  exact PE.ite Iff.rfl (PE.bind (now_e L { s with deep := wr (s.deep + 1) }) fun _ _ => fail_e) rfl
theorem out_e (s : PS) : PE id (outS s) (outS (eP s)) := rfl
theorem plain_e (s : PS) : PE id (plainS L s) (plainS (L.map eS) (eP s)) := by
  unfold plainS
  repeat' (first | with_reducible (first | exact now_e L _ | exact is_e L _ _ | exact any_e L _ _ | exact take_e L _ | exact may_e L _ _  | exact must_e L _ _  | exact kind_e L _ _  | exact in_e L _ | exact out_e _ | exact fail_e | exact PE.out | apply PE.bind | refine PE.ite ?_ ?_ ?_ | intro _ _) | exact Iff.rfl | exact PE.ok rfl rfl | exact PE.ok (smAt_e _ _) rfl | exact PE.ok (by simp [eP, eS, eK, eV, eE, eEs, eEs_eq, eM, eMs, eMs_eq, eBs_eq, vrOf, exSub, exVar, ex0, smOp, smAt, Function.comp_def, List.map_append]) rfl | exact PE.ok (by simp [eP, eS, eK, eV, eE, eEs, eEs_eq, eM, eMs, eMs_eq, eBs_eq, vrOf, exSub, exVar, ex0, smOp, smAt, Function.comp_def, List.map_append]) (by simp [eP, eS, eK, eV, eE, eEs, eEs_eq, eM, eMs, eMs_eq, eBs_eq, vrOf, exSub, exVar, ex0, smOp, smAt, Function.comp_def, List.map_append]) | (simp [eP, eS, eK, eV, eE, eEs, eEs_eq, eM, eMs, eMs_eq, eBs_eq, vrOf, exSub, exVar, ex0, smOp, smAt, Function.comp_def, List.map_append]; done) | exact may_e L _ _  | exact must_e L _ _  | exact kind_e L _ _  | exact in_e L _ | exact out_e _ | exact fail_e)
theorem array_e (k : Kd) (s : PS) : PE eK (arrayS L k s) (arrayS (L.map eS) (eK k) (eP s)) := by
  unfold arrayS
  repeat' (first | with_reducible (first | exact now_e L _ | exact is_e L _ _ | exact any_e L _ _ | exact take_e L _ | exact may_e L _ _  | exact must_e L _ _  | exact kind_e L _ _  | exact in_e L _ | exact out_e _ | exact plain_e L _  | exact fail_e | exact PE.out | apply PE.bind | refine PE.ite ?_ ?_ ?_ | intro _ _) | exact Iff.rfl | exact PE.ok rfl rfl | exact PE.ok (smAt_e _ _) rfl | exact PE.ok (by simp [eP, eS, eK, eV, eE, eEs, eEs_eq, eM, eMs, eMs_eq, eBs_eq, vrOf, exSub, exVar, ex0, smOp, smAt, Function.comp_def, List.map_append]) rfl | exact PE.ok (by simp [eP, eS, eK, eV, eE, eEs, eEs_eq, eM, eMs, eMs_eq, eBs_eq, vrOf, exSub, exVar, ex0, smOp, smAt, Function.comp_def, List.map_append]) (by simp [eP, eS, eK, eV, eE, eEs, eEs_eq, eM, eMs, eMs_eq, eBs_eq, vrOf, exSub, exVar, ex0, smOp, smAt, Function.comp_def, List.map_append]) | (simp [eP, eS, eK, eV, eE, eEs, eEs_eq, eM, eMs, eMs_eq, eBs_eq, vrOf, exSub, exVar, ex0, smOp, smAt, Function.comp_def, List.map_append]; done) | exact may_e L _ _  | exact must_e L _ _  | exact kind_e L _ _  | exact in_e L _ | exact out_e _ | exact plain_e L _  | exact fail_e)
theorem typed_e (kn : Tx → Int) (s : PS) : PE eK (typedS L kn s) (typedS (L.map eS) kn (eP s)) := by
  unfold typedS
  repeat' (first | with_reducible (first | exact now_e L _ | exact is_e L _ _ | exact any_e L _ _ | exact take_e L _ | exact may_e L _ _  | exact must_e L _ _  | exact kind_e L _ _  | exact in_e L _ | exact out_e _ | exact plain_e L _  | exact array_e L _ _  | exact fail_e | exact PE.out | apply PE.bind | refine PE.ite ?_ ?_ ?_ | intro _ _) | exact Iff.rfl | exact PE.ok rfl rfl | exact PE.ok (smAt_e _ _) rfl | exact PE.ok (by simp [eP, eS, eK, eV, eE, eEs, eEs_eq, eM, eMs, eMs_eq, eBs_eq, vrOf, exSub, exVar, ex0, smOp, smAt, Function.comp_def, List.map_append]) rfl | exact PE.ok (by simp [eP, eS, eK, eV, eE, eEs, eEs_eq, eM, eMs, eMs_eq, eBs_eq, vrOf, exSub, exVar, ex0, smOp, smAt, Function.comp_def, List.map_append]) (by simp [eP, eS, eK, eV, eE, eEs, eEs_eq, eM, eMs, eMs_eq, eBs_eq, vrOf, exSub, exVar, ex0, smOp, smAt, Function.comp_def, List.map_append]) | (simp [eP, eS, eK, eV, eE, eEs, eEs_eq, eM, eMs, eMs_eq, eBs_eq, vrOf, exSub, exVar, ex0, smOp, smAt, Function.comp_def, List.map_append]; done) | exact may_e L _ _  | exact must_e L _ _  | exact kind_e L _ _  | exact in_e L _ | exact out_e _ | exact plain_e L _  | exact array_e L _ _  | exact fail_e)
theorem signed_e (s : PS) : PE id (signedS L s) (signedS (L.map eS) (eP s)) := by
  unfold signedS
  repeat' (first | with_reducible (first | exact now_e L _ | exact is_e L _ _ | exact any_e L _ _ | exact take_e L _ | exact may_e L _ _  | exact must_e L _ _  | exact kind_e L _ _  | exact in_e L _ | exact out_e _ | exact plain_e L _  | exact array_e L _ _  | exact typed_e L _ _  | exact fail_e | exact PE.out | apply PE.bind | refine PE.ite ?_ ?_ ?_ | intro _ _) | exact Iff.rfl | exact PE.ok rfl rfl | exact PE.ok (smAt_e _ _) rfl | exact PE.ok (by simp [eP, eS, eK, eV, eE, eEs, eEs_eq, eM, eMs, eMs_eq, eBs_eq, vrOf, exSub, exVar, ex0, smOp, smAt, Function.comp_def, List.map_append]) rfl | exact PE.ok (by simp [eP, eS, eK, eV, eE, eEs, eEs_eq, eM, eMs, eMs_eq, eBs_eq, vrOf, exSub, exVar, ex0, smOp, smAt, Function.comp_def, List.map_append]) (by simp [eP, eS, eK, eV, eE, eEs, eEs_eq, eM, eMs, eMs_eq, eBs_eq, vrOf, exSub, exVar, ex0, smOp, smAt, Function.comp_def, List.map_append]) | (simp [eP, eS, eK, eV, eE, eEs, eEs_eq, eM, eMs, eMs_eq, eBs_eq, vrOf, exSub, exVar, ex0, smOp, smAt, Function.comp_def, List.map_append]; done) | exact may_e L _ _  | exact must_e L _ _  | exact kind_e L _ _  | exact in_e L _ | exact out_e _ | exact plain_e L _  | exact array_e L _ _  | exact typed_e L _ _  | exact fail_e)
theorem value_e (s : PS) : PE id (valueS L s) (valueS (L.map eS) (eP s)) := by
  unfold valueS
  repeat' (first | with_reducible (first | exact now_e L _ | exact is_e L _ _ | exact any_e L _ _ | exact take_e L _ | exact may_e L _ _  | exact must_e L _ _  | exact kind_e L _ _  | exact in_e L _ | exact out_e _ | exact plain_e L _  | exact array_e L _ _  | exact typed_e L _ _  | exact signed_e L _  | exact fail_e | exact PE.out | apply PE.bind | refine PE.ite ?_ ?_ ?_ | intro _ _) | exact Iff.rfl | exact PE.ok rfl rfl | exact PE.ok (smAt_e _ _) rfl | exact PE.ok (by simp [eP, eS, eK, eV, eE, eEs, eEs_eq, eM, eMs, eMs_eq, eBs_eq, vrOf, exSub, exVar, ex0, smOp, smAt, Function.comp_def, List.map_append]) rfl | exact PE.ok (by simp [eP, eS, eK, eV, eE, eEs, eEs_eq, eM, eMs, eMs_eq, eBs_eq, vrOf, exSub, exVar, ex0, smOp, smAt, Function.comp_def, List.map_append]) (by simp [eP, eS, eK, eV, eE, eEs, eEs_eq, eM, eMs, eMs_eq, eBs_eq, vrOf, exSub, exVar, ex0, smOp, smAt, Function.comp_def, List.map_append]) | (simp [eP, eS, eK, eV, eE, eEs, eEs_eq, eM, eMs, eMs_eq, eBs_eq, vrOf, exSub, exVar, ex0, smOp, smAt, Function.comp_def, List.map_append]; done) | exact may_e L _ _  | exact must_e L _ _  | exact kind_e L _ _  | exact in_e L _ | exact out_e _ | exact plain_e L _  | exact array_e L _ _  | exact typed_e L _ _  | exact signed_e L _  | exact fail_e)
theorem names_e : ∀ (f : Nat) (l : List Sgn) (s : PS), PE (List.map eS) (namesS L f l s) (namesS (L.map eS) f (l.map eS) (eP s))
  | 0, l, s => rfl
  | f + 1, l, s => by
    have ih := fun t s => names_e f (l ++ [t]) s
    simp only [List.map_append, List.map_cons, List.map_nil] at ih
    unfold namesS
    repeat' (first | with_reducible (first | exact now_e L _ | exact is_e L _ _ | exact any_e L _ _ | exact take_e L _ | exact may_e L _ _  | exact must_e L _ _  | exact kind_e L _ _  | exact in_e L _ | exact out_e _ | exact plain_e L _  | exact array_e L _ _  | exact typed_e L _ _  | exact signed_e L _  | exact value_e L _  | exact ih _ _ | exact fail_e | exact PE.out | apply PE.bind | refine PE.ite ?_ ?_ ?_ | intro _ _) | exact Iff.rfl | exact PE.ok rfl rfl | exact PE.ok (smAt_e _ _) rfl | exact PE.ok (by simp [eP, eS, eK, eV, eE, eEs, eEs_eq, eM, eMs, eMs_eq, eBs_eq, vrOf, exSub, exVar, ex0, smOp, smAt, Function.comp_def, List.map_append]) rfl | exact PE.ok (by simp [eP, eS, eK, eV, eE, eEs, eEs_eq, eM, eMs, eMs_eq, eBs_eq, vrOf, exSub, exVar, ex0, smOp, smAt, Function.comp_def, List.map_append]) (by simp [eP, eS, eK, eV, eE, eEs, eEs_eq, eM, eMs, eMs_eq, eBs_eq, vrOf, exSub, exVar, ex0, smOp, smAt, Function.comp_def, List.map_append]) | (simp [eP, eS, eK, eV, eE, eEs, eEs_eq, eM, eMs, eMs_eq, eBs_eq, vrOf, exSub, exVar, ex0, smOp, smAt, Function.comp_def, List.map_append]; done) | exact may_e L _ _  | exact must_e L _ _  | exact kind_e L _ _  | exact in_e L _ | exact out_e _ | exact plain_e L _  | exact array_e L _ _  | exact typed_e L _ _  | exact signed_e L _  | exact value_e L _  | exact ih _ _ | exact fail_e)
theorem init_e (k : Kd) (s : PS) : PE id (initS L k s) (initS (L.map eS) (eK k) (eP s)) := by
  unfold initS
  repeat' (first | with_reducible (first | exact now_e L _ | exact is_e L _ _ | exact any_e L _ _ | exact take_e L _ | exact may_e L _ _  | exact must_e L _ _  | exact kind_e L _ _  | exact in_e L _ | exact out_e _ | exact plain_e L _  | exact array_e L _ _  | exact typed_e L _ _  | exact signed_e L _  | exact value_e L _  | exact names_e L _ _ _ | exact fail_e | exact PE.out | apply PE.bind | refine PE.ite ?_ ?_ ?_ | intro _ _) | exact Iff.rfl | exact PE.ok rfl rfl | exact PE.ok (smAt_e _ _) rfl | exact PE.ok (by simp [eP, eS, eK, eV, eE, eEs, eEs_eq, eM, eMs, eMs_eq, eBs_eq, vrOf, exSub, exVar, ex0, smOp, smAt, Function.comp_def, List.map_append]) rfl | exact PE.ok (by simp [eP, eS, eK, eV, eE, eEs, eEs_eq, eM, eMs, eMs_eq, eBs_eq, vrOf, exSub, exVar, ex0, smOp, smAt, Function.comp_def, List.map_append]) (by simp [eP, eS, eK, eV, eE, eEs, eEs_eq, eM, eMs, eMs_eq, eBs_eq, vrOf, exSub, exVar, ex0, smOp, smAt, Function.comp_def, List.map_append]) | (simp [eP, eS, eK, eV, eE, eEs, eEs_eq, eM, eMs, eMs_eq, eBs_eq, vrOf, exSub, exVar, ex0, smOp, smAt, Function.comp_def, List.map_append]; done) | exact may_e L _ _  | exact must_e L _ _  | exact kind_e L _ _  | exact in_e L _ | exact out_e _ | exact plain_e L _  | exact array_e L _ _  | exact typed_e L _ _  | exact signed_e L _  | exact value_e L _  | exact names_e L _ _ _ | exact fail_e)
theorem declared_e (kn : Tx → Int) (f : Nat) (sec : Int) (s : PS) : PE id (declaredS L kn f sec s) (declaredS (L.map eS) kn f sec (eP s)) := by
  unfold declaredS
  refine PE.bind (names_e L f [] s) fun l s => PE.bind (must_e L _ _) fun _ s => PE.bind (typed_e L _ _) fun k s => PE.bind (init_e L _ _) fun n s => PE.bind (must_e L _ _) fun _ s => ?_
  refine PE.ite (by simp [eP]) (PE.ok rfl ?_) rfl
  simp [eP, eK, eS, eV, vrOf, Function.comp_def]
theorem lines_e (kn : Tx → Int) (sec : Int) : ∀ (f : Nat) (s : PS), PE id (linesS L kn sec f s) (linesS (L.map eS) kn sec f (eP s))
  | 0, s => rfl
  | f + 1, s => by
    have ih := fun s => lines_e kn sec f s
    unfold linesS
    repeat' (first | with_reducible (first | exact now_e L _ | exact is_e L _ _ | exact any_e L _ _ | exact take_e L _ | exact may_e L _ _  | exact must_e L _ _  | exact kind_e L _ _  | exact in_e L _ | exact out_e _ | exact plain_e L _  | exact array_e L _ _  | exact typed_e L _ _  | exact signed_e L _  | exact value_e L _  | exact names_e L _ _ _ | exact init_e L _ _  | exact declared_e L _ _ _ _ | exact ih _ | exact fail_e | exact PE.out | apply PE.bind | refine PE.ite ?_ ?_ ?_ | intro _ _) | exact Iff.rfl | exact PE.ok rfl rfl | exact PE.ok (smAt_e _ _) rfl | exact PE.ok (by simp [eP, eS, eK, eV, eE, eEs, eEs_eq, eM, eMs, eMs_eq, eBs_eq, vrOf, exSub, exVar, ex0, smOp, smAt, Function.comp_def, List.map_append]) rfl | exact PE.ok (by simp [eP, eS, eK, eV, eE, eEs, eEs_eq, eM, eMs, eMs_eq, eBs_eq, vrOf, exSub, exVar, ex0, smOp, smAt, Function.comp_def, List.map_append]) (by simp [eP, eS, eK, eV, eE, eEs, eEs_eq, eM, eMs, eMs_eq, eBs_eq, vrOf, exSub, exVar, ex0, smOp, smAt, Function.comp_def, List.map_append]) | (simp [eP, eS, eK, eV, eE, eEs, eEs_eq, eM, eMs, eMs_eq, eBs_eq, vrOf, exSub, exVar, ex0, smOp, smAt, Function.comp_def, List.map_append]; done) | exact may_e L _ _  | exact must_e L _ _  | exact kind_e L _ _  | exact in_e L _ | exact out_e _ | exact plain_e L _  | exact array_e L _ _  | exact typed_e L _ _  | exact signed_e L _  | exact value_e L _  | exact names_e L _ _ _ | exact init_e L _ _  | exact declared_e L _ _ _ _ | exact ih _ | exact fail_e)
theorem section_e (s : PS) : PE id (sectionS L s) (sectionS (L.map eS) (eP s)) := by
  unfold sectionS
  repeat' (first | with_reducible (first | exact now_e L _ | exact is_e L _ _ | exact any_e L _ _ | exact take_e L _ | exact may_e L _ _  | exact must_e L _ _  | exact kind_e L _ _  | exact in_e L _ | exact out_e _ | exact plain_e L _  | exact array_e L _ _  | exact typed_e L _ _  | exact signed_e L _  | exact value_e L _  | exact names_e L _ _ _ | exact init_e L _ _  | exact declared_e L _ _ _ _ | exact lines_e L _ _ _ _ | exact fail_e | exact PE.out | apply PE.bind | refine PE.ite ?_ ?_ ?_ | intro _ _) | exact Iff.rfl | exact PE.ok rfl rfl | exact PE.ok (smAt_e _ _) rfl | exact PE.ok (by simp [eP, eS, eK, eV, eE, eEs, eEs_eq, eM, eMs, eMs_eq, eBs_eq, vrOf, exSub, exVar, ex0, smOp, smAt, Function.comp_def, List.map_append]) rfl | exact PE.ok (by simp [eP, eS, eK, eV, eE, eEs, eEs_eq, eM, eMs, eMs_eq, eBs_eq, vrOf, exSub, exVar, ex0, smOp, smAt, Function.comp_def, List.map_append]) (by simp [eP, eS, eK, eV, eE, eEs, eEs_eq, eM, eMs, eMs_eq, eBs_eq, vrOf, exSub, exVar, ex0, smOp, smAt, Function.comp_def, List.map_append]) | (simp [eP, eS, eK, eV, eE, eEs, eEs_eq, eM, eMs, eMs_eq, eBs_eq, vrOf, exSub, exVar, ex0, smOp, smAt, Function.comp_def, List.map_append]; done) | exact may_e L _ _  | exact must_e L _ _  | exact kind_e L _ _  | exact in_e L _ | exact out_e _ | exact plain_e L _  | exact array_e L _ _  | exact typed_e L _ _  | exact signed_e L _  | exact value_e L _  | exact names_e L _ _ _ | exact init_e L _ _  | exact declared_e L _ _ _ _ | exact lines_e L _ _ _ _ | exact fail_e)
theorem sections_e (kn : Tx → Int) : ∀ (f : Nat) (s : PS), PE id (sectionsS L kn f s) (sectionsS (L.map eS) kn f (eP s))
  | 0, s => rfl
  | f + 1, s => by
    have ih := fun s => sections_e kn f s
    unfold sectionsS
    refine PE.bind (section_e L s) fun o s => ?_
    cases o with
    | none => rfl
    | some sec => exact PE.bind (lines_e L kn sec f s) fun _ s => ih s
theorem labelled_e (s : PS) : PE id (labelledS L s) (labelledS (L.map eS) (eP s)) := by
  unfold labelledS
  repeat' (first | with_reducible (first | exact now_e L _ | exact is_e L _ _ | exact any_e L _ _ | exact take_e L _ | exact may_e L _ _  | exact must_e L _ _  | exact kind_e L _ _  | exact in_e L _ | exact out_e _ | exact plain_e L _  | exact array_e L _ _  | exact typed_e L _ _  | exact signed_e L _  | exact value_e L _  | exact names_e L _ _ _ | exact init_e L _ _  | exact declared_e L _ _ _ _ | exact lines_e L _ _ _ _ | exact section_e L _  | exact sections_e L _ _ _ | exact fail_e | exact PE.out | apply PE.bind | refine PE.ite ?_ ?_ ?_ | intro _ _) | exact Iff.rfl | exact PE.ok rfl rfl | exact PE.ok (smAt_e _ _) rfl | exact PE.ok (by simp [eP, eS, eK, eV, eE, eEs, eEs_eq, eM, eMs, eMs_eq, eBs_eq, vrOf, exSub, exVar, ex0, smOp, smAt, Function.comp_def, List.map_append]) rfl | exact PE.ok (by simp [eP, eS, eK, eV, eE, eEs, eEs_eq, eM, eMs, eMs_eq, eBs_eq, vrOf, exSub, exVar, ex0, smOp, smAt, Function.comp_def, List.map_append]) (by simp [eP, eS, eK, eV, eE, eEs, eEs_eq, eM, eMs, eMs_eq, eBs_eq, vrOf, exSub, exVar, ex0, smOp, smAt, Function.comp_def, List.map_append]) | (simp [eP, eS, eK, eV, eE, eEs, eEs_eq, eM, eMs, eMs_eq, eBs_eq, vrOf, exSub, exVar, ex0, smOp, smAt, Function.comp_def, List.map_append]; done) | exact may_e L _ _  | exact must_e L _ _  | exact kind_e L _ _  | exact in_e L _ | exact out_e _ | exact plain_e L _  | exact array_e L _ _  | exact typed_e L _ _  | exact signed_e L _  | exact value_e L _  | exact names_e L _ _ _ | exact init_e L _ _  | exact declared_e L _ _ _ _ | exact lines_e L _ _ _ _ | exact section_e L _  | exact sections_e L _ _ _ | exact fail_e)
theorem labels_e : ∀ (f : Nat) (l : List Int) (s : PS), PE id (labelsS L f l s) (labelsS (L.map eS) f l (eP s))
  | 0, l, s => rfl
  | f + 1, l, s => by
    have ih := fun l s => labels_e f l s
    unfold labelsS
    refine PE.bind (signed_e L _) fun lo s => PE.bind (may_e L _ _) fun b s => PE.bind (g := id) (PE.ite Iff.rfl (signed_e L _) rfl) fun hi s => PE.ite Iff.rfl (PE.bind (may_e L _ _) fun b s => PE.ite Iff.rfl (ih _ _) (PE.bind (must_e L _ _) fun _ s => PE.ok rfl rfl)) rfl
theorem endCase_e (s : PS) : PE id (endCaseS L s) (endCaseS (L.map eS) (eP s)) := by
  unfold endCaseS
  repeat' (first | with_reducible (first | exact now_e L _ | exact is_e L _ _ | exact any_e L _ _ | exact take_e L _ | exact may_e L _ _  | exact must_e L _ _  | exact kind_e L _ _  | exact in_e L _ | exact out_e _ | exact plain_e L _  | exact array_e L _ _  | exact typed_e L _ _  | exact signed_e L _  | exact value_e L _  | exact names_e L _ _ _ | exact init_e L _ _  | exact declared_e L _ _ _ _ | exact lines_e L _ _ _ _ | exact section_e L _  | exact sections_e L _ _ _ | exact labelled_e L _  | exact labels_e L _ _ _ | exact fail_e | exact PE.out | apply PE.bind | refine PE.ite ?_ ?_ ?_ | intro _ _) | exact Iff.rfl | exact PE.ok rfl rfl | exact PE.ok (smAt_e _ _) rfl | exact PE.ok (by simp [eP, eS, eK, eV, eE, eEs, eEs_eq, eM, eMs, eMs_eq, eBs_eq, vrOf, exSub, exVar, ex0, smOp, smAt, Function.comp_def, List.map_append]) rfl | exact PE.ok (by simp [eP, eS, eK, eV, eE, eEs, eEs_eq, eM, eMs, eMs_eq, eBs_eq, vrOf, exSub, exVar, ex0, smOp, smAt, Function.comp_def, List.map_append]) (by simp [eP, eS, eK, eV, eE, eEs, eEs_eq, eM, eMs, eMs_eq, eBs_eq, vrOf, exSub, exVar, ex0, smOp, smAt, Function.comp_def, List.map_append]) | (simp [eP, eS, eK, eV, eE, eEs, eEs_eq, eM, eMs, eMs_eq, eBs_eq, vrOf, exSub, exVar, ex0, smOp, smAt, Function.comp_def, List.map_append]; done) | exact may_e L _ _  | exact must_e L _ _  | exact kind_e L _ _  | exact in_e L _ | exact out_e _ | exact plain_e L _  | exact array_e L _ _  | exact typed_e L _ _  | exact signed_e L _  | exact value_e L _  | exact names_e L _ _ _ | exact init_e L _ _  | exact declared_e L _ _ _ _ | exact lines_e L _ _ _ _ | exact section_e L _  | exact sections_e L _ _ _ | exact labelled_e L _  | exact labels_e L _ _ _ | exact fail_e)
structure ErE (f : Nat) : Prop where
  level : ∀ n s, PE eE (Go.Am.levelS L f n s) (Go.Am.levelS (L.map eS) f n (eP s))
  loop : ∀ n x s, PE eE (Go.Am.levelL L f n x s) (Go.Am.levelL (L.map eS) f n (eE x) (eP s))
  unary : ∀  s, PE eE (Go.Am.unaryS L f  s) (Go.Am.unaryS (L.map eS) f  (eP s))
  unop : ∀ op t s, PE eE (Go.Am.unopS L f op t s) (Go.Am.unopS (L.map eS) f op (eS t) (eP s))
  expr : ∀  s, PE eE (Go.Am.exprS L f  s) (Go.Am.exprS (L.map eS) f  (eP s))
  index : ∀  s, PE eE (Go.Am.indexS L f  s) (Go.Am.indexS (L.map eS) f  (eP s))
  factor : ∀  s, PE eE (Go.Am.factorS L f  s) (Go.Am.factorS (L.map eS) f  (eP s))
theorem erE : ∀ f, ErE L f
  | 0 => ⟨fun _ _ => rfl, fun _ _ _ => rfl, fun _ => rfl, fun _ _ _ => rfl, fun _ => rfl, fun _ => rfl, fun _ => rfl⟩
  | f + 1 => by
    have ih := erE f
    have i0 := ih.level
    have i1 := ih.loop
    have i2 := ih.unary
    have i3 := ih.unop
    have i4 := ih.expr
    have i5 := ih.index
    have i6 := ih.factor
    have a_loop := fun (n : Nat) (op : Int) (nm : Tx) (x y : Ex) (ln : Int) (s : PS) => ih.loop n (exSub op nm [x, y] ln) s
    simp only [exSub, eE, eEs] at a_loop
    refine ⟨?_, ?_, ?_, ?_, ?_, ?_, ?_⟩ <;> intros
    · unfold Go.Am.levelS
      repeat' (first | with_reducible (first | exact now_e L _ | exact is_e L _ _ | exact any_e L _ _ | exact take_e L _ | exact may_e L _ _  | exact must_e L _ _  | exact kind_e L _ _  | exact in_e L _ | exact out_e _ | exact plain_e L _  | exact array_e L _ _  | exact typed_e L _ _  | exact signed_e L _  | exact value_e L _  | exact names_e L _ _ _ | exact init_e L _ _  | exact declared_e L _ _ _ _ | exact lines_e L _ _ _ _ | exact section_e L _  | exact sections_e L _ _ _ | exact labelled_e L _  | exact labels_e L _ _ _ | exact endCase_e L _  | exact i0 _ _  | exact i1 _ _ _  | exact i2 _  | exact i3 _ _ _  | exact i4 _  | exact i5 _  | exact i6 _  | exact a_loop _ _ _ _ _ _ _ | exact fail_e | exact PE.out | apply PE.bind | refine PE.ite ?_ ?_ ?_ | intro _ _) | exact Iff.rfl | exact PE.ok rfl rfl | exact PE.ok (smAt_e _ _) rfl | exact PE.ok (by simp [eP, eS, eK, eV, eE, eEs, eEs_eq, eM, eMs, eMs_eq, eBs_eq, vrOf, exSub, exVar, ex0, smOp, smAt, Function.comp_def, List.map_append]) rfl | exact PE.ok (by simp [eP, eS, eK, eV, eE, eEs, eEs_eq, eM, eMs, eMs_eq, eBs_eq, vrOf, exSub, exVar, ex0, smOp, smAt, Function.comp_def, List.map_append]) (by simp [eP, eS, eK, eV, eE, eEs, eEs_eq, eM, eMs, eMs_eq, eBs_eq, vrOf, exSub, exVar, ex0, smOp, smAt, Function.comp_def, List.map_append]) | (simp [eP, eS, eK, eV, eE, eEs, eEs_eq, eM, eMs, eMs_eq, eBs_eq, vrOf, exSub, exVar, ex0, smOp, smAt, Function.comp_def, List.map_append]; done) | exact may_e L _ _  | exact must_e L _ _  | exact kind_e L _ _  | exact in_e L _ | exact out_e _ | exact plain_e L _  | exact array_e L _ _  | exact typed_e L _ _  | exact signed_e L _  | exact value_e L _  | exact names_e L _ _ _ | exact init_e L _ _  | exact declared_e L _ _ _ _ | exact lines_e L _ _ _ _ | exact section_e L _  | exact sections_e L _ _ _ | exact labelled_e L _  | exact labels_e L _ _ _ | exact endCase_e L _  | exact i0 _ _  | exact i1 _ _ _  | exact i2 _  | exact i3 _ _ _  | exact i4 _  | exact i5 _  | exact i6 _  | exact a_loop _ _ _ _ _ _ _ | exact fail_e)
    · unfold Go.Am.levelL
      repeat' (first | with_reducible (first | exact now_e L _ | exact is_e L _ _ | exact any_e L _ _ | exact take_e L _ | exact may_e L _ _  | exact must_e L _ _  | exact kind_e L _ _  | exact in_e L _ | exact out_e _ | exact plain_e L _  | exact array_e L _ _  | exact typed_e L _ _  | exact signed_e L _  | exact value_e L _  | exact names_e L _ _ _ | exact init_e L _ _  | exact declared_e L _ _ _ _ | exact lines_e L _ _ _ _ | exact section_e L _  | exact sections_e L _ _ _ | exact labelled_e L _  | exact labels_e L _ _ _ | exact endCase_e L _  | exact i0 _ _  | exact i1 _ _ _  | exact i2 _  | exact i3 _ _ _  | exact i4 _  | exact i5 _  | exact i6 _  | exact a_loop _ _ _ _ _ _ _ | exact fail_e | exact PE.out | apply PE.bind | refine PE.ite ?_ ?_ ?_ | intro _ _) | exact Iff.rfl | exact PE.ok rfl rfl | exact PE.ok (smAt_e _ _) rfl | exact PE.ok (by simp [eP, eS, eK, eV, eE, eEs, eEs_eq, eM, eMs, eMs_eq, eBs_eq, vrOf, exSub, exVar, ex0, smOp, smAt, Function.comp_def, List.map_append]) rfl | exact PE.ok (by simp [eP, eS, eK, eV, eE, eEs, eEs_eq, eM, eMs, eMs_eq, eBs_eq, vrOf, exSub, exVar, ex0, smOp, smAt, Function.comp_def, List.map_append]) (by simp [eP, eS, eK, eV, eE, eEs, eEs_eq, eM, eMs, eMs_eq, eBs_eq, vrOf, exSub, exVar, ex0, smOp, smAt, Function.comp_def, List.map_append]) | (simp [eP, eS, eK, eV, eE, eEs, eEs_eq, eM, eMs, eMs_eq, eBs_eq, vrOf, exSub, exVar, ex0, smOp, smAt, Function.comp_def, List.map_append]; done) | exact may_e L _ _  | exact must_e L _ _  | exact kind_e L _ _  | exact in_e L _ | exact out_e _ | exact plain_e L _  | exact array_e L _ _  | exact typed_e L _ _  | exact signed_e L _  | exact value_e L _  | exact names_e L _ _ _ | exact init_e L _ _  | exact declared_e L _ _ _ _ | exact lines_e L _ _ _ _ | exact section_e L _  | exact sections_e L _ _ _ | exact labelled_e L _  | exact labels_e L _ _ _ | exact endCase_e L _  | exact i0 _ _  | exact i1 _ _ _  | exact i2 _  | exact i3 _ _ _  | exact i4 _  | exact i5 _  | exact i6 _  | exact a_loop _ _ _ _ _ _ _ | exact fail_e)
    · unfold Go.Am.unaryS
      repeat' (first | with_reducible (first | exact now_e L _ | exact is_e L _ _ | exact any_e L _ _ | exact take_e L _ | exact may_e L _ _  | exact must_e L _ _  | exact kind_e L _ _  | exact in_e L _ | exact out_e _ | exact plain_e L _  | exact array_e L _ _  | exact typed_e L _ _  | exact signed_e L _  | exact value_e L _  | exact names_e L _ _ _ | exact init_e L _ _  | exact declared_e L _ _ _ _ | exact lines_e L _ _ _ _ | exact section_e L _  | exact sections_e L _ _ _ | exact labelled_e L _  | exact labels_e L _ _ _ | exact endCase_e L _  | exact i0 _ _  | exact i1 _ _ _  | exact i2 _  | exact i3 _ _ _  | exact i4 _  | exact i5 _  | exact i6 _  | exact a_loop _ _ _ _ _ _ _ | exact fail_e | exact PE.out | apply PE.bind | refine PE.ite ?_ ?_ ?_ | intro _ _) | exact Iff.rfl | exact PE.ok rfl rfl | exact PE.ok (smAt_e _ _) rfl | exact PE.ok (by simp [eP, eS, eK, eV, eE, eEs, eEs_eq, eM, eMs, eMs_eq, eBs_eq, vrOf, exSub, exVar, ex0, smOp, smAt, Function.comp_def, List.map_append]) rfl | exact PE.ok (by simp [eP, eS, eK, eV, eE, eEs, eEs_eq, eM, eMs, eMs_eq, eBs_eq, vrOf, exSub, exVar, ex0, smOp, smAt, Function.comp_def, List.map_append]) (by simp [eP, eS, eK, eV, eE, eEs, eEs_eq, eM, eMs, eMs_eq, eBs_eq, vrOf, exSub, exVar, ex0, smOp, smAt, Function.comp_def, List.map_append]) | (simp [eP, eS, eK, eV, eE, eEs, eEs_eq, eM, eMs, eMs_eq, eBs_eq, vrOf, exSub, exVar, ex0, smOp, smAt, Function.comp_def, List.map_append]; done) | exact may_e L _ _  | exact must_e L _ _  | exact kind_e L _ _  | exact in_e L _ | exact out_e _ | exact plain_e L _  | exact array_e L _ _  | exact typed_e L _ _  | exact signed_e L _  | exact value_e L _  | exact names_e L _ _ _ | exact init_e L _ _  | exact declared_e L _ _ _ _ | exact lines_e L _ _ _ _ | exact section_e L _  | exact sections_e L _ _ _ | exact labelled_e L _  | exact labels_e L _ _ _ | exact endCase_e L _  | exact i0 _ _  | exact i1 _ _ _  | exact i2 _  | exact i3 _ _ _  | exact i4 _  | exact i5 _  | exact i6 _  | exact a_loop _ _ _ _ _ _ _ | exact fail_e)
    · unfold Go.Am.unopS
      repeat' (first | with_reducible (first | exact now_e L _ | exact is_e L _ _ | exact any_e L _ _ | exact take_e L _ | exact may_e L _ _  | exact must_e L _ _  | exact kind_e L _ _  | exact in_e L _ | exact out_e _ | exact plain_e L _  | exact array_e L _ _  | exact typed_e L _ _  | exact signed_e L _  | exact value_e L _  | exact names_e L _ _ _ | exact init_e L _ _  | exact declared_e L _ _ _ _ | exact lines_e L _ _ _ _ | exact section_e L _  | exact sections_e L _ _ _ | exact labelled_e L _  | exact labels_e L _ _ _ | exact endCase_e L _  | exact i0 _ _  | exact i1 _ _ _  | exact i2 _  | exact i3 _ _ _  | exact i4 _  | exact i5 _  | exact i6 _  | exact a_loop _ _ _ _ _ _ _ | exact fail_e | exact PE.out | apply PE.bind | refine PE.ite ?_ ?_ ?_ | intro _ _) | exact Iff.rfl | exact PE.ok rfl rfl | exact PE.ok (smAt_e _ _) rfl | exact PE.ok (by simp [eP, eS, eK, eV, eE, eEs, eEs_eq, eM, eMs, eMs_eq, eBs_eq, vrOf, exSub, exVar, ex0, smOp, smAt, Function.comp_def, List.map_append]) rfl | exact PE.ok (by simp [eP, eS, eK, eV, eE, eEs, eEs_eq, eM, eMs, eMs_eq, eBs_eq, vrOf, exSub, exVar, ex0, smOp, smAt, Function.comp_def, List.map_append]) (by simp [eP, eS, eK, eV, eE, eEs, eEs_eq, eM, eMs, eMs_eq, eBs_eq, vrOf, exSub, exVar, ex0, smOp, smAt, Function.comp_def, List.map_append]) | (simp [eP, eS, eK, eV, eE, eEs, eEs_eq, eM, eMs, eMs_eq, eBs_eq, vrOf, exSub, exVar, ex0, smOp, smAt, Function.comp_def, List.map_append]; done) | exact may_e L _ _  | exact must_e L _ _  | exact kind_e L _ _  | exact in_e L _ | exact out_e _ | exact plain_e L _  | exact array_e L _ _  | exact typed_e L _ _  | exact signed_e L _  | exact value_e L _  | exact names_e L _ _ _ | exact init_e L _ _  | exact declared_e L _ _ _ _ | exact lines_e L _ _ _ _ | exact section_e L _  | exact sections_e L _ _ _ | exact labelled_e L _  | exact labels_e L _ _ _ | exact endCase_e L _  | exact i0 _ _  | exact i1 _ _ _  | exact i2 _  | exact i3 _ _ _  | exact i4 _  | exact i5 _  | exact i6 _  | exact a_loop _ _ _ _ _ _ _ | exact fail_e)
    · unfold Go.Am.exprS
      repeat' (first | with_reducible (first | exact now_e L _ | exact is_e L _ _ | exact any_e L _ _ | exact take_e L _ | exact may_e L _ _  | exact must_e L _ _  | exact kind_e L _ _  | exact in_e L _ | exact out_e _ | exact plain_e L _  | exact array_e L _ _  | exact typed_e L _ _  | exact signed_e L _  | exact value_e L _  | exact names_e L _ _ _ | exact init_e L _ _  | exact declared_e L _ _ _ _ | exact lines_e L _ _ _ _ | exact section_e L _  | exact sections_e L _ _ _ | exact labelled_e L _  | exact labels_e L _ _ _ | exact endCase_e L _  | exact i0 _ _  | exact i1 _ _ _  | exact i2 _  | exact i3 _ _ _  | exact i4 _  | exact i5 _  | exact i6 _  | exact a_loop _ _ _ _ _ _ _ | exact fail_e | exact PE.out | apply PE.bind | refine PE.ite ?_ ?_ ?_ | intro _ _) | exact Iff.rfl | exact PE.ok rfl rfl | exact PE.ok (smAt_e _ _) rfl | exact PE.ok (by simp [eP, eS, eK, eV, eE, eEs, eEs_eq, eM, eMs, eMs_eq, eBs_eq, vrOf, exSub, exVar, ex0, smOp, smAt, Function.comp_def, List.map_append]) rfl | exact PE.ok (by simp [eP, eS, eK, eV, eE, eEs, eEs_eq, eM, eMs, eMs_eq, eBs_eq, vrOf, exSub, exVar, ex0, smOp, smAt, Function.comp_def, List.map_append]) (by simp [eP, eS, eK, eV, eE, eEs, eEs_eq, eM, eMs, eMs_eq, eBs_eq, vrOf, exSub, exVar, ex0, smOp, smAt, Function.comp_def, List.map_append]) | (simp [eP, eS, eK, eV, eE, eEs, eEs_eq, eM, eMs, eMs_eq, eBs_eq, vrOf, exSub, exVar, ex0, smOp, smAt, Function.comp_def, List.map_append]; done) | exact may_e L _ _  | exact must_e L _ _  | exact kind_e L _ _  | exact in_e L _ | exact out_e _ | exact plain_e L _  | exact array_e L _ _  | exact typed_e L _ _  | exact signed_e L _  | exact value_e L _  | exact names_e L _ _ _ | exact init_e L _ _  | exact declared_e L _ _ _ _ | exact lines_e L _ _ _ _ | exact section_e L _  | exact sections_e L _ _ _ | exact labelled_e L _  | exact labels_e L _ _ _ | exact endCase_e L _  | exact i0 _ _  | exact i1 _ _ _  | exact i2 _  | exact i3 _ _ _  | exact i4 _  | exact i5 _  | exact i6 _  | exact a_loop _ _ _ _ _ _ _ | exact fail_e)
    · unfold Go.Am.indexS
      repeat' (first | with_reducible (first | exact now_e L _ | exact is_e L _ _ | exact any_e L _ _ | exact take_e L _ | exact may_e L _ _  | exact must_e L _ _  | exact kind_e L _ _  | exact in_e L _ | exact out_e _ | exact plain_e L _  | exact array_e L _ _  | exact typed_e L _ _  | exact signed_e L _  | exact value_e L _  | exact names_e L _ _ _ | exact init_e L _ _  | exact declared_e L _ _ _ _ | exact lines_e L _ _ _ _ | exact section_e L _  | exact sections_e L _ _ _ | exact labelled_e L _  | exact labels_e L _ _ _ | exact endCase_e L _  | exact i0 _ _  | exact i1 _ _ _  | exact i2 _  | exact i3 _ _ _  | exact i4 _  | exact i5 _  | exact i6 _  | exact a_loop _ _ _ _ _ _ _ | exact fail_e | exact PE.out | apply PE.bind | refine PE.ite ?_ ?_ ?_ | intro _ _) | exact Iff.rfl | exact PE.ok rfl rfl | exact PE.ok (smAt_e _ _) rfl | exact PE.ok (by simp [eP, eS, eK, eV, eE, eEs, eEs_eq, eM, eMs, eMs_eq, eBs_eq, vrOf, exSub, exVar, ex0, smOp, smAt, Function.comp_def, List.map_append]) rfl | exact PE.ok (by simp [eP, eS, eK, eV, eE, eEs, eEs_eq, eM, eMs, eMs_eq, eBs_eq, vrOf, exSub, exVar, ex0, smOp, smAt, Function.comp_def, List.map_append]) (by simp [eP, eS, eK, eV, eE, eEs, eEs_eq, eM, eMs, eMs_eq, eBs_eq, vrOf, exSub, exVar, ex0, smOp, smAt, Function.comp_def, List.map_append]) | (simp [eP, eS, eK, eV, eE, eEs, eEs_eq, eM, eMs, eMs_eq, eBs_eq, vrOf, exSub, exVar, ex0, smOp, smAt, Function.comp_def, List.map_append]; done) | exact may_e L _ _  | exact must_e L _ _  | exact kind_e L _ _  | exact in_e L _ | exact out_e _ | exact plain_e L _  | exact array_e L _ _  | exact typed_e L _ _  | exact signed_e L _  | exact value_e L _  | exact names_e L _ _ _ | exact init_e L _ _  | exact declared_e L _ _ _ _ | exact lines_e L _ _ _ _ | exact section_e L _  | exact sections_e L _ _ _ | exact labelled_e L _  | exact labels_e L _ _ _ | exact endCase_e L _  | exact i0 _ _  | exact i1 _ _ _  | exact i2 _  | exact i3 _ _ _  | exact i4 _  | exact i5 _  | exact i6 _  | exact a_loop _ _ _ _ _ _ _ | exact fail_e)
    · unfold Go.Am.factorS
      repeat' (first | with_reducible (first | exact now_e L _ | exact is_e L _ _ | exact any_e L _ _ | exact take_e L _ | exact may_e L _ _  | exact must_e L _ _  | exact kind_e L _ _  | exact in_e L _ | exact out_e _ | exact plain_e L _  | exact array_e L _ _  | exact typed_e L _ _  | exact signed_e L _  | exact value_e L _  | exact names_e L _ _ _ | exact init_e L _ _  | exact declared_e L _ _ _ _ | exact lines_e L _ _ _ _ | exact section_e L _  | exact sections_e L _ _ _ | exact labelled_e L _  | exact labels_e L _ _ _ | exact endCase_e L _  | exact i0 _ _  | exact i1 _ _ _  | exact i2 _  | exact i3 _ _ _  | exact i4 _  | exact i5 _  | exact i6 _  | exact a_loop _ _ _ _ _ _ _ | exact fail_e | exact PE.out | apply PE.bind | refine PE.ite ?_ ?_ ?_ | intro _ _) | exact Iff.rfl | exact PE.ok rfl rfl | exact PE.ok (smAt_e _ _) rfl | exact PE.ok (by simp [eP, eS, eK, eV, eE, eEs, eEs_eq, eM, eMs, eMs_eq, eBs_eq, vrOf, exSub, exVar, ex0, smOp, smAt, Function.comp_def, List.map_append]) rfl | exact PE.ok (by simp [eP, eS, eK, eV, eE, eEs, eEs_eq, eM, eMs, eMs_eq, eBs_eq, vrOf, exSub, exVar, ex0, smOp, smAt, Function.comp_def, List.map_append]) (by simp [eP, eS, eK, eV, eE, eEs, eEs_eq, eM, eMs, eMs_eq, eBs_eq, vrOf, exSub, exVar, ex0, smOp, smAt, Function.comp_def, List.map_append]) | (simp [eP, eS, eK, eV, eE, eEs, eEs_eq, eM, eMs, eMs_eq, eBs_eq, vrOf, exSub, exVar, ex0, smOp, smAt, Function.comp_def, List.map_append]; done) | exact may_e L _ _  | exact must_e L _ _  | exact kind_e L _ _  | exact in_e L _ | exact out_e _ | exact plain_e L _  | exact array_e L _ _  | exact typed_e L _ _  | exact signed_e L _  | exact value_e L _  | exact names_e L _ _ _ | exact init_e L _ _  | exact declared_e L _ _ _ _ | exact lines_e L _ _ _ _ | exact section_e L _  | exact sections_e L _ _ _ | exact labelled_e L _  | exact labels_e L _ _ _ | exact endCase_e L _  | exact i0 _ _  | exact i1 _ _ _  | exact i2 _  | exact i3 _ _ _  | exact i4 _  | exact i5 _  | exact i6 _  | exact a_loop _ _ _ _ _ _ _ | exact fail_e)
structure ErS (f : Nat) : Prop where
  block : ∀ w s, PE (List.map eM) (Go.Am.blockS L f w s) (Go.Am.blockS (L.map eS) f w (eP s))
  blockL : ∀ w l s, PE (List.map eM) (Go.Am.blockL L f w l s) (Go.Am.blockL (L.map eS) f w (l.map eM) (eP s))
  stmt : ∀  s, PE eM (Go.Am.stmtS L f  s) (Go.Am.stmtS (L.map eS) f  (eP s))
  opn : ∀  s, PE eM (Go.Am.openS L f  s) (Go.Am.openS (L.map eS) f  (eP s))
  branches : ∀  s, PE eM (Go.Am.branchesS L f  s) (Go.Am.branchesS (L.map eS) f  (eP s))
  branchesL : ∀ c l s, PE eM (Go.Am.branchesL L f c l s) (Go.Am.branchesL (L.map eS) f (c.map eE) (l.map (List.map eM)) (eP s))
  cases : ∀  s, PE eM (Go.Am.casesS L f  s) (Go.Am.casesS (L.map eS) f  (eP s))
  casesL : ∀ v c l s, PE eM (Go.Am.casesL L f v c l s) (Go.Am.casesL (L.map eS) f (eE v) c (l.map (List.map eM)) (eP s))
  caseL : ∀ l s, PE (List.map eM) (Go.Am.caseL L f l s) (Go.Am.caseL (L.map eS) f (l.map eM) (eP s))
  counted : ∀  s, PE eM (Go.Am.countedS L f  s) (Go.Am.countedS (L.map eS) f  (eP s))
  call : ∀ n s, PE eM (Go.Am.callS L f n s) (Go.Am.callS (L.map eS) f n (eP s))
  callL : ∀ n c l s, PE eM (Go.Am.callL L f n c l s) (Go.Am.callL (L.map eS) f n c (l.map eE) (eP s))
theorem erS : ∀ f, ErS L f
  | 0 => ⟨fun _ _ => rfl, fun _ _ _ => rfl, fun _ => rfl, fun _ => rfl, fun _ => rfl, fun _ _ _ => rfl, fun _ => rfl, fun _ _ _ _ => rfl, fun _ _ => rfl, fun _ => rfl, fun _ _ => rfl, fun _ _ _ _ => rfl⟩
  | f + 1 => by
    have ih := erS f
    have ihE := erE L f
    have e1 := ihE.expr
    have e2 := ihE.index
    have i0 := ih.block
    have i1 := ih.blockL
    have i2 := ih.stmt
    have i3 := ih.opn
    have i4 := ih.branches
    have i5 := ih.branchesL
    have i6 := ih.cases
    have i7 := ih.casesL
    have i8 := ih.caseL
    have i9 := ih.counted
    have i10 := ih.call
    have i11 := ih.callL
    have a_blockL := fun w l x s => ih.blockL w (l ++ [x]) s
    simp only [List.map_append, List.map_cons, List.map_nil] at a_blockL
    have a_branchesL := fun c l x y s => ih.branchesL (c ++ [x]) (l ++ [y]) s
    simp only [List.map_append, List.map_cons, List.map_nil] at a_branchesL
    have a_casesL := fun v c l x s => ih.casesL v c (l ++ [x]) s
    simp only [List.map_append, List.map_cons, List.map_nil] at a_casesL
    have a_caseL := fun l x s => ih.caseL (l ++ [x]) s
    simp only [List.map_append, List.map_cons, List.map_nil] at a_caseL
    have a_callL := fun n c l x s => ih.callL n c (l ++ [x]) s
    simp only [List.map_append, List.map_cons, List.map_nil] at a_callL
    refine ⟨?_, ?_, ?_, ?_, ?_, ?_, ?_, ?_, ?_, ?_, ?_, ?_⟩ <;> intros
    · unfold Go.Am.blockS
      repeat' (first | with_reducible (first | exact now_e L _ | exact is_e L _ _ | exact any_e L _ _ | exact take_e L _ | exact may_e L _ _  | exact must_e L _ _  | exact kind_e L _ _  | exact in_e L _ | exact out_e _ | exact plain_e L _  | exact array_e L _ _  | exact typed_e L _ _  | exact signed_e L _  | exact value_e L _  | exact names_e L _ _ _ | exact init_e L _ _  | exact declared_e L _ _ _ _ | exact lines_e L _ _ _ _ | exact section_e L _  | exact sections_e L _ _ _ | exact labelled_e L _  | exact labels_e L _ _ _ | exact endCase_e L _  | exact (erE L _).expr _ | exact i0 _ _  | exact i1 _ _ _  | exact i2 _  | exact i3 _  | exact i4 _  | exact i5 _ _ _  | exact i6 _  | exact i7 _ _ _ _  | exact i8 _ _  | exact i9 _  | exact i10 _ _  | exact i11 _ _ _ _  | exact a_blockL _ _ _ _  | exact a_branchesL _ _ _ _ _  | exact a_casesL _ _ _ _ _  | exact a_caseL _ _ _  | exact a_callL _ _ _ _ _  | exact e1 _ | exact e2 _ | exact i1 _ [] _ | exact i5 [] [] _ | exact i7 _ _ [] _ | exact i8 [] _ | exact i11 _ _ [] _ | exact fail_e | exact PE.out | apply PE.bind | refine PE.ite ?_ ?_ ?_ | intro _ _) | exact Iff.rfl | exact PE.ok rfl rfl | exact PE.ok (smAt_e _ _) rfl | exact PE.ok (by simp [eP, eS, eK, eV, eE, eEs, eEs_eq, eM, eMs, eMs_eq, eBs_eq, vrOf, exSub, exVar, ex0, smOp, smAt, Function.comp_def, List.map_append]) rfl | exact PE.ok (by simp [eP, eS, eK, eV, eE, eEs, eEs_eq, eM, eMs, eMs_eq, eBs_eq, vrOf, exSub, exVar, ex0, smOp, smAt, Function.comp_def, List.map_append]) (by simp [eP, eS, eK, eV, eE, eEs, eEs_eq, eM, eMs, eMs_eq, eBs_eq, vrOf, exSub, exVar, ex0, smOp, smAt, Function.comp_def, List.map_append]) | (simp [eP, eS, eK, eV, eE, eEs, eEs_eq, eM, eMs, eMs_eq, eBs_eq, vrOf, exSub, exVar, ex0, smOp, smAt, Function.comp_def, List.map_append]; done) | exact may_e L _ _  | exact must_e L _ _  | exact kind_e L _ _  | exact in_e L _ | exact out_e _ | exact plain_e L _  | exact array_e L _ _  | exact typed_e L _ _  | exact signed_e L _  | exact value_e L _  | exact names_e L _ _ _ | exact init_e L _ _  | exact declared_e L _ _ _ _ | exact lines_e L _ _ _ _ | exact section_e L _  | exact sections_e L _ _ _ | exact labelled_e L _  | exact labels_e L _ _ _ | exact endCase_e L _  | exact (erE L _).expr _ | exact i0 _ _  | exact i1 _ _ _  | exact i2 _  | exact i3 _  | exact i4 _  | exact i5 _ _ _  | exact i6 _  | exact i7 _ _ _ _  | exact i8 _ _  | exact i9 _  | exact i10 _ _  | exact i11 _ _ _ _  | exact a_blockL _ _ _ _  | exact a_branchesL _ _ _ _ _  | exact a_casesL _ _ _ _ _  | exact a_caseL _ _ _  | exact a_callL _ _ _ _ _  | exact e1 _ | exact e2 _ | exact i1 _ [] _ | exact i5 [] [] _ | exact i7 _ _ [] _ | exact i8 [] _ | exact i11 _ _ [] _ | exact fail_e)
    · unfold Go.Am.blockL
      repeat' (first | with_reducible (first | exact now_e L _ | exact is_e L _ _ | exact any_e L _ _ | exact take_e L _ | exact may_e L _ _  | exact must_e L _ _  | exact kind_e L _ _  | exact in_e L _ | exact out_e _ | exact plain_e L _  | exact array_e L _ _  | exact typed_e L _ _  | exact signed_e L _  | exact value_e L _  | exact names_e L _ _ _ | exact init_e L _ _  | exact declared_e L _ _ _ _ | exact lines_e L _ _ _ _ | exact section_e L _  | exact sections_e L _ _ _ | exact labelled_e L _  | exact labels_e L _ _ _ | exact endCase_e L _  | exact (erE L _).expr _ | exact i0 _ _  | exact i1 _ _ _  | exact i2 _  | exact i3 _  | exact i4 _  | exact i5 _ _ _  | exact i6 _  | exact i7 _ _ _ _  | exact i8 _ _  | exact i9 _  | exact i10 _ _  | exact i11 _ _ _ _  | exact a_blockL _ _ _ _  | exact a_branchesL _ _ _ _ _  | exact a_casesL _ _ _ _ _  | exact a_caseL _ _ _  | exact a_callL _ _ _ _ _  | exact e1 _ | exact e2 _ | exact i1 _ [] _ | exact i5 [] [] _ | exact i7 _ _ [] _ | exact i8 [] _ | exact i11 _ _ [] _ | exact fail_e | exact PE.out | apply PE.bind | refine PE.ite ?_ ?_ ?_ | intro _ _) | exact Iff.rfl | exact PE.ok rfl rfl | exact PE.ok (smAt_e _ _) rfl | exact PE.ok (by simp [eP, eS, eK, eV, eE, eEs, eEs_eq, eM, eMs, eMs_eq, eBs_eq, vrOf, exSub, exVar, ex0, smOp, smAt, Function.comp_def, List.map_append]) rfl | exact PE.ok (by simp [eP, eS, eK, eV, eE, eEs, eEs_eq, eM, eMs, eMs_eq, eBs_eq, vrOf, exSub, exVar, ex0, smOp, smAt, Function.comp_def, List.map_append]) (by simp [eP, eS, eK, eV, eE, eEs, eEs_eq, eM, eMs, eMs_eq, eBs_eq, vrOf, exSub, exVar, ex0, smOp, smAt, Function.comp_def, List.map_append]) | (simp [eP, eS, eK, eV, eE, eEs, eEs_eq, eM, eMs, eMs_eq, eBs_eq, vrOf, exSub, exVar, ex0, smOp, smAt, Function.comp_def, List.map_append]; done) | exact may_e L _ _  | exact must_e L _ _  | exact kind_e L _ _  | exact in_e L _ | exact out_e _ | exact plain_e L _  | exact array_e L _ _  | exact typed_e L _ _  | exact signed_e L _  | exact value_e L _  | exact names_e L _ _ _ | exact init_e L _ _  | exact declared_e L _ _ _ _ | exact lines_e L _ _ _ _ | exact section_e L _  | exact sections_e L _ _ _ | exact labelled_e L _  | exact labels_e L _ _ _ | exact endCase_e L _  | exact (erE L _).expr _ | exact i0 _ _  | exact i1 _ _ _  | exact i2 _  | exact i3 _  | exact i4 _  | exact i5 _ _ _  | exact i6 _  | exact i7 _ _ _ _  | exact i8 _ _  | exact i9 _  | exact i10 _ _  | exact i11 _ _ _ _  | exact a_blockL _ _ _ _  | exact a_branchesL _ _ _ _ _  | exact a_casesL _ _ _ _ _  | exact a_caseL _ _ _  | exact a_callL _ _ _ _ _  | exact e1 _ | exact e2 _ | exact i1 _ [] _ | exact i5 [] [] _ | exact i7 _ _ [] _ | exact i8 [] _ | exact i11 _ _ [] _ | exact fail_e)
    · unfold Go.Am.stmtS
      repeat' (first | with_reducible (first | exact now_e L _ | exact is_e L _ _ | exact any_e L _ _ | exact take_e L _ | exact may_e L _ _  | exact must_e L _ _  | exact kind_e L _ _  | exact in_e L _ | exact out_e _ | exact plain_e L _  | exact array_e L _ _  | exact typed_e L _ _  | exact signed_e L _  | exact value_e L _  | exact names_e L _ _ _ | exact init_e L _ _  | exact declared_e L _ _ _ _ | exact lines_e L _ _ _ _ | exact section_e L _  | exact sections_e L _ _ _ | exact labelled_e L _  | exact labels_e L _ _ _ | exact endCase_e L _  | exact (erE L _).expr _ | exact i0 _ _  | exact i1 _ _ _  | exact i2 _  | exact i3 _  | exact i4 _  | exact i5 _ _ _  | exact i6 _  | exact i7 _ _ _ _  | exact i8 _ _  | exact i9 _  | exact i10 _ _  | exact i11 _ _ _ _  | exact a_blockL _ _ _ _  | exact a_branchesL _ _ _ _ _  | exact a_casesL _ _ _ _ _  | exact a_caseL _ _ _  | exact a_callL _ _ _ _ _  | exact e1 _ | exact e2 _ | exact i1 _ [] _ | exact i5 [] [] _ | exact i7 _ _ [] _ | exact i8 [] _ | exact i11 _ _ [] _ | exact fail_e | exact PE.out | apply PE.bind | refine PE.ite ?_ ?_ ?_ | intro _ _) | exact Iff.rfl | exact PE.ok rfl rfl | exact PE.ok (smAt_e _ _) rfl | exact PE.ok (by simp [eP, eS, eK, eV, eE, eEs, eEs_eq, eM, eMs, eMs_eq, eBs_eq, vrOf, exSub, exVar, ex0, smOp, smAt, Function.comp_def, List.map_append]) rfl | exact PE.ok (by simp [eP, eS, eK, eV, eE, eEs, eEs_eq, eM, eMs, eMs_eq, eBs_eq, vrOf, exSub, exVar, ex0, smOp, smAt, Function.comp_def, List.map_append]) (by simp [eP, eS, eK, eV, eE, eEs, eEs_eq, eM, eMs, eMs_eq, eBs_eq, vrOf, exSub, exVar, ex0, smOp, smAt, Function.comp_def, List.map_append]) | (simp [eP, eS, eK, eV, eE, eEs, eEs_eq, eM, eMs, eMs_eq, eBs_eq, vrOf, exSub, exVar, ex0, smOp, smAt, Function.comp_def, List.map_append]; done) | exact may_e L _ _  | exact must_e L _ _  | exact kind_e L _ _  | exact in_e L _ | exact out_e _ | exact plain_e L _  | exact array_e L _ _  | exact typed_e L _ _  | exact signed_e L _  | exact value_e L _  | exact names_e L _ _ _ | exact init_e L _ _  | exact declared_e L _ _ _ _ | exact lines_e L _ _ _ _ | exact section_e L _  | exact sections_e L _ _ _ | exact labelled_e L _  | exact labels_e L _ _ _ | exact endCase_e L _  | exact (erE L _).expr _ | exact i0 _ _  | exact i1 _ _ _  | exact i2 _  | exact i3 _  | exact i4 _  | exact i5 _ _ _  | exact i6 _  | exact i7 _ _ _ _  | exact i8 _ _  | exact i9 _  | exact i10 _ _  | exact i11 _ _ _ _  | exact a_blockL _ _ _ _  | exact a_branchesL _ _ _ _ _  | exact a_casesL _ _ _ _ _  | exact a_caseL _ _ _  | exact a_callL _ _ _ _ _  | exact e1 _ | exact e2 _ | exact i1 _ [] _ | exact i5 [] [] _ | exact i7 _ _ [] _ | exact i8 [] _ | exact i11 _ _ [] _ | exact fail_e)
    · unfold Go.Am.openS
      repeat' (first | with_reducible (first | exact now_e L _ | exact is_e L _ _ | exact any_e L _ _ | exact take_e L _ | exact may_e L _ _  | exact must_e L _ _  | exact kind_e L _ _  | exact in_e L _ | exact out_e _ | exact plain_e L _  | exact array_e L _ _  | exact typed_e L _ _  | exact signed_e L _  | exact value_e L _  | exact names_e L _ _ _ | exact init_e L _ _  | exact declared_e L _ _ _ _ | exact lines_e L _ _ _ _ | exact section_e L _  | exact sections_e L _ _ _ | exact labelled_e L _  | exact labels_e L _ _ _ | exact endCase_e L _  | exact (erE L _).expr _ | exact i0 _ _  | exact i1 _ _ _  | exact i2 _  | exact i3 _  | exact i4 _  | exact i5 _ _ _  | exact i6 _  | exact i7 _ _ _ _  | exact i8 _ _  | exact i9 _  | exact i10 _ _  | exact i11 _ _ _ _  | exact a_blockL _ _ _ _  | exact a_branchesL _ _ _ _ _  | exact a_casesL _ _ _ _ _  | exact a_caseL _ _ _  | exact a_callL _ _ _ _ _  | exact e1 _ | exact e2 _ | exact i1 _ [] _ | exact i5 [] [] _ | exact i7 _ _ [] _ | exact i8 [] _ | exact i11 _ _ [] _ | exact fail_e | exact PE.out | refine PE.bind (g := eE) (PE.ite ?_ ?_ ?_) (fun _ _ => ?_) | apply PE.bind | refine PE.ite ?_ ?_ ?_ | intro _ _) | exact Iff.rfl | exact PE.ok rfl rfl | exact PE.ok (smAt_e _ _) rfl | exact PE.ok (by simp [eP, eS, eK, eV, eE, eEs, eEs_eq, eM, eMs, eMs_eq, eBs_eq, vrOf, exSub, exVar, ex0, smOp, smAt, Function.comp_def, List.map_append]) rfl | exact PE.ok (by simp [eP, eS, eK, eV, eE, eEs, eEs_eq, eM, eMs, eMs_eq, eBs_eq, vrOf, exSub, exVar, ex0, smOp, smAt, Function.comp_def, List.map_append]) (by simp [eP, eS, eK, eV, eE, eEs, eEs_eq, eM, eMs, eMs_eq, eBs_eq, vrOf, exSub, exVar, ex0, smOp, smAt, Function.comp_def, List.map_append]) | (simp [eP, eS, eK, eV, eE, eEs, eEs_eq, eM, eMs, eMs_eq, eBs_eq, vrOf, exSub, exVar, ex0, smOp, smAt, Function.comp_def, List.map_append]; done) | exact may_e L _ _  | exact must_e L _ _  | exact kind_e L _ _  | exact in_e L _ | exact out_e _ | exact plain_e L _  | exact array_e L _ _  | exact typed_e L _ _  | exact signed_e L _  | exact value_e L _  | exact names_e L _ _ _ | exact init_e L _ _  | exact declared_e L _ _ _ _ | exact lines_e L _ _ _ _ | exact section_e L _  | exact sections_e L _ _ _ | exact labelled_e L _  | exact labels_e L _ _ _ | exact endCase_e L _  | exact (erE L _).expr _ | exact i0 _ _  | exact i1 _ _ _  | exact i2 _  | exact i3 _  | exact i4 _  | exact i5 _ _ _  | exact i6 _  | exact i7 _ _ _ _  | exact i8 _ _  | exact i9 _  | exact i10 _ _  | exact i11 _ _ _ _  | exact a_blockL _ _ _ _  | exact a_branchesL _ _ _ _ _  | exact a_casesL _ _ _ _ _  | exact a_caseL _ _ _  | exact a_callL _ _ _ _ _  | exact e1 _ | exact e2 _ | exact i1 _ [] _ | exact i5 [] [] _ | exact i7 _ _ [] _ | exact i8 [] _ | exact i11 _ _ [] _ | exact fail_e)
    · unfold Go.Am.branchesS
      repeat' (first | with_reducible (first | exact now_e L _ | exact is_e L _ _ | exact any_e L _ _ | exact take_e L _ | exact may_e L _ _  | exact must_e L _ _  | exact kind_e L _ _  | exact in_e L _ | exact out_e _ | exact plain_e L _  | exact array_e L _ _  | exact typed_e L _ _  | exact signed_e L _  | exact value_e L _  | exact names_e L _ _ _ | exact init_e L _ _  | exact declared_e L _ _ _ _ | exact lines_e L _ _ _ _ | exact section_e L _  | exact sections_e L _ _ _ | exact labelled_e L _  | exact labels_e L _ _ _ | exact endCase_e L _  | exact (erE L _).expr _ | exact i0 _ _  | exact i1 _ _ _  | exact i2 _  | exact i3 _  | exact i4 _  | exact i5 _ _ _  | exact i6 _  | exact i7 _ _ _ _  | exact i8 _ _  | exact i9 _  | exact i10 _ _  | exact i11 _ _ _ _  | exact a_blockL _ _ _ _  | exact a_branchesL _ _ _ _ _  | exact a_casesL _ _ _ _ _  | exact a_caseL _ _ _  | exact a_callL _ _ _ _ _  | exact e1 _ | exact e2 _ | exact i1 _ [] _ | exact i5 [] [] _ | exact i7 _ _ [] _ | exact i8 [] _ | exact i11 _ _ [] _ | exact fail_e | exact PE.out | apply PE.bind | refine PE.ite ?_ ?_ ?_ | intro _ _) | exact Iff.rfl | exact PE.ok rfl rfl | exact PE.ok (smAt_e _ _) rfl | exact PE.ok (by simp [eP, eS, eK, eV, eE, eEs, eEs_eq, eM, eMs, eMs_eq, eBs_eq, vrOf, exSub, exVar, ex0, smOp, smAt, Function.comp_def, List.map_append]) rfl | exact PE.ok (by simp [eP, eS, eK, eV, eE, eEs, eEs_eq, eM, eMs, eMs_eq, eBs_eq, vrOf, exSub, exVar, ex0, smOp, smAt, Function.comp_def, List.map_append]) (by simp [eP, eS, eK, eV, eE, eEs, eEs_eq, eM, eMs, eMs_eq, eBs_eq, vrOf, exSub, exVar, ex0, smOp, smAt, Function.comp_def, List.map_append]) | (simp [eP, eS, eK, eV, eE, eEs, eEs_eq, eM, eMs, eMs_eq, eBs_eq, vrOf, exSub, exVar, ex0, smOp, smAt, Function.comp_def, List.map_append]; done) | exact may_e L _ _  | exact must_e L _ _  | exact kind_e L _ _  | exact in_e L _ | exact out_e _ | exact plain_e L _  | exact array_e L _ _  | exact typed_e L _ _  | exact signed_e L _  | exact value_e L _  | exact names_e L _ _ _ | exact init_e L _ _  | exact declared_e L _ _ _ _ | exact lines_e L _ _ _ _ | exact section_e L _  | exact sections_e L _ _ _ | exact labelled_e L _  | exact labels_e L _ _ _ | exact endCase_e L _  | exact (erE L _).expr _ | exact i0 _ _  | exact i1 _ _ _  | exact i2 _  | exact i3 _  | exact i4 _  | exact i5 _ _ _  | exact i6 _  | exact i7 _ _ _ _  | exact i8 _ _  | exact i9 _  | exact i10 _ _  | exact i11 _ _ _ _  | exact a_blockL _ _ _ _  | exact a_branchesL _ _ _ _ _  | exact a_casesL _ _ _ _ _  | exact a_caseL _ _ _  | exact a_callL _ _ _ _ _  | exact e1 _ | exact e2 _ | exact i1 _ [] _ | exact i5 [] [] _ | exact i7 _ _ [] _ | exact i8 [] _ | exact i11 _ _ [] _ | exact fail_e)
    · unfold Go.Am.branchesL
      repeat' (first | with_reducible (first | exact now_e L _ | exact is_e L _ _ | exact any_e L _ _ | exact take_e L _ | exact may_e L _ _  | exact must_e L _ _  | exact kind_e L _ _  | exact in_e L _ | exact out_e _ | exact plain_e L _  | exact array_e L _ _  | exact typed_e L _ _  | exact signed_e L _  | exact value_e L _  | exact names_e L _ _ _ | exact init_e L _ _  | exact declared_e L _ _ _ _ | exact lines_e L _ _ _ _ | exact section_e L _  | exact sections_e L _ _ _ | exact labelled_e L _  | exact labels_e L _ _ _ | exact endCase_e L _  | exact (erE L _).expr _ | exact i0 _ _  | exact i1 _ _ _  | exact i2 _  | exact i3 _  | exact i4 _  | exact i5 _ _ _  | exact i6 _  | exact i7 _ _ _ _  | exact i8 _ _  | exact i9 _  | exact i10 _ _  | exact i11 _ _ _ _  | exact a_blockL _ _ _ _  | exact a_branchesL _ _ _ _ _  | exact a_casesL _ _ _ _ _  | exact a_caseL _ _ _  | exact a_callL _ _ _ _ _  | exact e1 _ | exact e2 _ | exact i1 _ [] _ | exact i5 [] [] _ | exact i7 _ _ [] _ | exact i8 [] _ | exact i11 _ _ [] _ | exact fail_e | exact PE.out | refine PE.bind (g := (List.map (List.map eM))) (PE.ite ?_ ?_ ?_) (fun _ _ => ?_) | apply PE.bind | refine PE.ite ?_ ?_ ?_ | intro _ _) | exact Iff.rfl | exact PE.ok rfl rfl | exact PE.ok (smAt_e _ _) rfl | exact PE.ok (by simp [eP, eS, eK, eV, eE, eEs, eEs_eq, eM, eMs, eMs_eq, eBs_eq, vrOf, exSub, exVar, ex0, smOp, smAt, Function.comp_def, List.map_append]) rfl | exact PE.ok (by simp [eP, eS, eK, eV, eE, eEs, eEs_eq, eM, eMs, eMs_eq, eBs_eq, vrOf, exSub, exVar, ex0, smOp, smAt, Function.comp_def, List.map_append]) (by simp [eP, eS, eK, eV, eE, eEs, eEs_eq, eM, eMs, eMs_eq, eBs_eq, vrOf, exSub, exVar, ex0, smOp, smAt, Function.comp_def, List.map_append]) | (simp [eP, eS, eK, eV, eE, eEs, eEs_eq, eM, eMs, eMs_eq, eBs_eq, vrOf, exSub, exVar, ex0, smOp, smAt, Function.comp_def, List.map_append]; done) | exact may_e L _ _  | exact must_e L _ _  | exact kind_e L _ _  | exact in_e L _ | exact out_e _ | exact plain_e L _  | exact array_e L _ _  | exact typed_e L _ _  | exact signed_e L _  | exact value_e L _  | exact names_e L _ _ _ | exact init_e L _ _  | exact declared_e L _ _ _ _ | exact lines_e L _ _ _ _ | exact section_e L _  | exact sections_e L _ _ _ | exact labelled_e L _  | exact labels_e L _ _ _ | exact endCase_e L _  | exact (erE L _).expr _ | exact i0 _ _  | exact i1 _ _ _  | exact i2 _  | exact i3 _  | exact i4 _  | exact i5 _ _ _  | exact i6 _  | exact i7 _ _ _ _  | exact i8 _ _  | exact i9 _  | exact i10 _ _  | exact i11 _ _ _ _  | exact a_blockL _ _ _ _  | exact a_branchesL _ _ _ _ _  | exact a_casesL _ _ _ _ _  | exact a_caseL _ _ _  | exact a_callL _ _ _ _ _  | exact e1 _ | exact e2 _ | exact i1 _ [] _ | exact i5 [] [] _ | exact i7 _ _ [] _ | exact i8 [] _ | exact i11 _ _ [] _ | exact fail_e)
    · unfold Go.Am.casesS
      repeat' (first | with_reducible (first | exact now_e L _ | exact is_e L _ _ | exact any_e L _ _ | exact take_e L _ | exact may_e L _ _  | exact must_e L _ _  | exact kind_e L _ _  | exact in_e L _ | exact out_e _ | exact plain_e L _  | exact array_e L _ _  | exact typed_e L _ _  | exact signed_e L _  | exact value_e L _  | exact names_e L _ _ _ | exact init_e L _ _  | exact declared_e L _ _ _ _ | exact lines_e L _ _ _ _ | exact section_e L _  | exact sections_e L _ _ _ | exact labelled_e L _  | exact labels_e L _ _ _ | exact endCase_e L _  | exact (erE L _).expr _ | exact i0 _ _  | exact i1 _ _ _  | exact i2 _  | exact i3 _  | exact i4 _  | exact i5 _ _ _  | exact i6 _  | exact i7 _ _ _ _  | exact i8 _ _  | exact i9 _  | exact i10 _ _  | exact i11 _ _ _ _  | exact a_blockL _ _ _ _  | exact a_branchesL _ _ _ _ _  | exact a_casesL _ _ _ _ _  | exact a_caseL _ _ _  | exact a_callL _ _ _ _ _  | exact e1 _ | exact e2 _ | exact i1 _ [] _ | exact i5 [] [] _ | exact i7 _ _ [] _ | exact i8 [] _ | exact i11 _ _ [] _ | exact fail_e | exact PE.out | apply PE.bind | refine PE.ite ?_ ?_ ?_ | intro _ _) | exact Iff.rfl | exact PE.ok rfl rfl | exact PE.ok (smAt_e _ _) rfl | exact PE.ok (by simp [eP, eS, eK, eV, eE, eEs, eEs_eq, eM, eMs, eMs_eq, eBs_eq, vrOf, exSub, exVar, ex0, smOp, smAt, Function.comp_def, List.map_append]) rfl | exact PE.ok (by simp [eP, eS, eK, eV, eE, eEs, eEs_eq, eM, eMs, eMs_eq, eBs_eq, vrOf, exSub, exVar, ex0, smOp, smAt, Function.comp_def, List.map_append]) (by simp [eP, eS, eK, eV, eE, eEs, eEs_eq, eM, eMs, eMs_eq, eBs_eq, vrOf, exSub, exVar, ex0, smOp, smAt, Function.comp_def, List.map_append]) | (simp [eP, eS, eK, eV, eE, eEs, eEs_eq, eM, eMs, eMs_eq, eBs_eq, vrOf, exSub, exVar, ex0, smOp, smAt, Function.comp_def, List.map_append]; done) | exact may_e L _ _  | exact must_e L _ _  | exact kind_e L _ _  | exact in_e L _ | exact out_e _ | exact plain_e L _  | exact array_e L _ _  | exact typed_e L _ _  | exact signed_e L _  | exact value_e L _  | exact names_e L _ _ _ | exact init_e L _ _  | exact declared_e L _ _ _ _ | exact lines_e L _ _ _ _ | exact section_e L _  | exact sections_e L _ _ _ | exact labelled_e L _  | exact labels_e L _ _ _ | exact endCase_e L _  | exact (erE L _).expr _ | exact i0 _ _  | exact i1 _ _ _  | exact i2 _  | exact i3 _  | exact i4 _  | exact i5 _ _ _  | exact i6 _  | exact i7 _ _ _ _  | exact i8 _ _  | exact i9 _  | exact i10 _ _  | exact i11 _ _ _ _  | exact a_blockL _ _ _ _  | exact a_branchesL _ _ _ _ _  | exact a_casesL _ _ _ _ _  | exact a_caseL _ _ _  | exact a_callL _ _ _ _ _  | exact e1 _ | exact e2 _ | exact i1 _ [] _ | exact i5 [] [] _ | exact i7 _ _ [] _ | exact i8 [] _ | exact i11 _ _ [] _ | exact fail_e)
    · unfold Go.Am.casesL
      repeat' (first | with_reducible (first | exact now_e L _ | exact is_e L _ _ | exact any_e L _ _ | exact take_e L _ | exact may_e L _ _  | exact must_e L _ _  | exact kind_e L _ _  | exact in_e L _ | exact out_e _ | exact plain_e L _  | exact array_e L _ _  | exact typed_e L _ _  | exact signed_e L _  | exact value_e L _  | exact names_e L _ _ _ | exact init_e L _ _  | exact declared_e L _ _ _ _ | exact lines_e L _ _ _ _ | exact section_e L _  | exact sections_e L _ _ _ | exact labelled_e L _  | exact labels_e L _ _ _ | exact endCase_e L _  | exact (erE L _).expr _ | exact i0 _ _  | exact i1 _ _ _  | exact i2 _  | exact i3 _  | exact i4 _  | exact i5 _ _ _  | exact i6 _  | exact i7 _ _ _ _  | exact i8 _ _  | exact i9 _  | exact i10 _ _  | exact i11 _ _ _ _  | exact a_blockL _ _ _ _  | exact a_branchesL _ _ _ _ _  | exact a_casesL _ _ _ _ _  | exact a_caseL _ _ _  | exact a_callL _ _ _ _ _  | exact e1 _ | exact e2 _ | exact i1 _ [] _ | exact i5 [] [] _ | exact i7 _ _ [] _ | exact i8 [] _ | exact i11 _ _ [] _ | exact fail_e | exact PE.out | refine PE.bind (g := (List.map (List.map eM))) (PE.ite ?_ ?_ ?_) (fun _ _ => ?_) | apply PE.bind | refine PE.ite ?_ ?_ ?_ | intro _ _) | exact Iff.rfl | exact PE.ok rfl rfl | exact PE.ok (smAt_e _ _) rfl | exact PE.ok (by simp [eP, eS, eK, eV, eE, eEs, eEs_eq, eM, eMs, eMs_eq, eBs_eq, vrOf, exSub, exVar, ex0, smOp, smAt, Function.comp_def, List.map_append]) rfl | exact PE.ok (by simp [eP, eS, eK, eV, eE, eEs, eEs_eq, eM, eMs, eMs_eq, eBs_eq, vrOf, exSub, exVar, ex0, smOp, smAt, Function.comp_def, List.map_append]) (by simp [eP, eS, eK, eV, eE, eEs, eEs_eq, eM, eMs, eMs_eq, eBs_eq, vrOf, exSub, exVar, ex0, smOp, smAt, Function.comp_def, List.map_append]) | (simp [eP, eS, eK, eV, eE, eEs, eEs_eq, eM, eMs, eMs_eq, eBs_eq, vrOf, exSub, exVar, ex0, smOp, smAt, Function.comp_def, List.map_append]; done) | exact may_e L _ _  | exact must_e L _ _  | exact kind_e L _ _  | exact in_e L _ | exact out_e _ | exact plain_e L _  | exact array_e L _ _  | exact typed_e L _ _  | exact signed_e L _  | exact value_e L _  | exact names_e L _ _ _ | exact init_e L _ _  | exact declared_e L _ _ _ _ | exact lines_e L _ _ _ _ | exact section_e L _  | exact sections_e L _ _ _ | exact labelled_e L _  | exact labels_e L _ _ _ | exact endCase_e L _  | exact (erE L _).expr _ | exact i0 _ _  | exact i1 _ _ _  | exact i2 _  | exact i3 _  | exact i4 _  | exact i5 _ _ _  | exact i6 _  | exact i7 _ _ _ _  | exact i8 _ _  | exact i9 _  | exact i10 _ _  | exact i11 _ _ _ _  | exact a_blockL _ _ _ _  | exact a_branchesL _ _ _ _ _  | exact a_casesL _ _ _ _ _  | exact a_caseL _ _ _  | exact a_callL _ _ _ _ _  | exact e1 _ | exact e2 _ | exact i1 _ [] _ | exact i5 [] [] _ | exact i7 _ _ [] _ | exact i8 [] _ | exact i11 _ _ [] _ | exact fail_e)
    · unfold Go.Am.caseL
      repeat' (first | with_reducible (first | exact now_e L _ | exact is_e L _ _ | exact any_e L _ _ | exact take_e L _ | exact may_e L _ _  | exact must_e L _ _  | exact kind_e L _ _  | exact in_e L _ | exact out_e _ | exact plain_e L _  | exact array_e L _ _  | exact typed_e L _ _  | exact signed_e L _  | exact value_e L _  | exact names_e L _ _ _ | exact init_e L _ _  | exact declared_e L _ _ _ _ | exact lines_e L _ _ _ _ | exact section_e L _  | exact sections_e L _ _ _ | exact labelled_e L _  | exact labels_e L _ _ _ | exact endCase_e L _  | exact (erE L _).expr _ | exact i0 _ _  | exact i1 _ _ _  | exact i2 _  | exact i3 _  | exact i4 _  | exact i5 _ _ _  | exact i6 _  | exact i7 _ _ _ _  | exact i8 _ _  | exact i9 _  | exact i10 _ _  | exact i11 _ _ _ _  | exact a_blockL _ _ _ _  | exact a_branchesL _ _ _ _ _  | exact a_casesL _ _ _ _ _  | exact a_caseL _ _ _  | exact a_callL _ _ _ _ _  | exact e1 _ | exact e2 _ | exact i1 _ [] _ | exact i5 [] [] _ | exact i7 _ _ [] _ | exact i8 [] _ | exact i11 _ _ [] _ | exact fail_e | exact PE.out | apply PE.bind | refine PE.ite ?_ ?_ ?_ | intro _ _) | exact Iff.rfl | exact PE.ok rfl rfl | exact PE.ok (smAt_e _ _) rfl | exact PE.ok (by simp [eP, eS, eK, eV, eE, eEs, eEs_eq, eM, eMs, eMs_eq, eBs_eq, vrOf, exSub, exVar, ex0, smOp, smAt, Function.comp_def, List.map_append]) rfl | exact PE.ok (by simp [eP, eS, eK, eV, eE, eEs, eEs_eq, eM, eMs, eMs_eq, eBs_eq, vrOf, exSub, exVar, ex0, smOp, smAt, Function.comp_def, List.map_append]) (by simp [eP, eS, eK, eV, eE, eEs, eEs_eq, eM, eMs, eMs_eq, eBs_eq, vrOf, exSub, exVar, ex0, smOp, smAt, Function.comp_def, List.map_append]) | (simp [eP, eS, eK, eV, eE, eEs, eEs_eq, eM, eMs, eMs_eq, eBs_eq, vrOf, exSub, exVar, ex0, smOp, smAt, Function.comp_def, List.map_append]; done) | exact may_e L _ _  | exact must_e L _ _  | exact kind_e L _ _  | exact in_e L _ | exact out_e _ | exact plain_e L _  | exact array_e L _ _  | exact typed_e L _ _  | exact signed_e L _  | exact value_e L _  | exact names_e L _ _ _ | exact init_e L _ _  | exact declared_e L _ _ _ _ | exact lines_e L _ _ _ _ | exact section_e L _  | exact sections_e L _ _ _ | exact labelled_e L _  | exact labels_e L _ _ _ | exact endCase_e L _  | exact (erE L _).expr _ | exact i0 _ _  | exact i1 _ _ _  | exact i2 _  | exact i3 _  | exact i4 _  | exact i5 _ _ _  | exact i6 _  | exact i7 _ _ _ _  | exact i8 _ _  | exact i9 _  | exact i10 _ _  | exact i11 _ _ _ _  | exact a_blockL _ _ _ _  | exact a_branchesL _ _ _ _ _  | exact a_casesL _ _ _ _ _  | exact a_caseL _ _ _  | exact a_callL _ _ _ _ _  | exact e1 _ | exact e2 _ | exact i1 _ [] _ | exact i5 [] [] _ | exact i7 _ _ [] _ | exact i8 [] _ | exact i11 _ _ [] _ | exact fail_e)
    · unfold Go.Am.countedS
      repeat' (first | with_reducible (first | exact now_e L _ | exact is_e L _ _ | exact any_e L _ _ | exact take_e L _ | exact may_e L _ _  | exact must_e L _ _  | exact kind_e L _ _  | exact in_e L _ | exact out_e _ | exact plain_e L _  | exact array_e L _ _  | exact typed_e L _ _  | exact signed_e L _  | exact value_e L _  | exact names_e L _ _ _ | exact init_e L _ _  | exact declared_e L _ _ _ _ | exact lines_e L _ _ _ _ | exact section_e L _  | exact sections_e L _ _ _ | exact labelled_e L _  | exact labels_e L _ _ _ | exact endCase_e L _  | exact (erE L _).expr _ | exact i0 _ _  | exact i1 _ _ _  | exact i2 _  | exact i3 _  | exact i4 _  | exact i5 _ _ _  | exact i6 _  | exact i7 _ _ _ _  | exact i8 _ _  | exact i9 _  | exact i10 _ _  | exact i11 _ _ _ _  | exact a_blockL _ _ _ _  | exact a_branchesL _ _ _ _ _  | exact a_casesL _ _ _ _ _  | exact a_caseL _ _ _  | exact a_callL _ _ _ _ _  | exact e1 _ | exact e2 _ | exact i1 _ [] _ | exact i5 [] [] _ | exact i7 _ _ [] _ | exact i8 [] _ | exact i11 _ _ [] _ | exact fail_e | exact PE.out | refine PE.bind (g := eE) (PE.ite ?_ ?_ ?_) (fun _ _ => ?_) | apply PE.bind | refine PE.ite ?_ ?_ ?_ | intro _ _) | exact Iff.rfl | exact PE.ok rfl rfl | exact PE.ok (smAt_e _ _) rfl | exact PE.ok (by simp [eP, eS, eK, eV, eE, eEs, eEs_eq, eM, eMs, eMs_eq, eBs_eq, vrOf, exSub, exVar, ex0, smOp, smAt, Function.comp_def, List.map_append]) rfl | exact PE.ok (by simp [eP, eS, eK, eV, eE, eEs, eEs_eq, eM, eMs, eMs_eq, eBs_eq, vrOf, exSub, exVar, ex0, smOp, smAt, Function.comp_def, List.map_append]) (by simp [eP, eS, eK, eV, eE, eEs, eEs_eq, eM, eMs, eMs_eq, eBs_eq, vrOf, exSub, exVar, ex0, smOp, smAt, Function.comp_def, List.map_append]) | (simp [eP, eS, eK, eV, eE, eEs, eEs_eq, eM, eMs, eMs_eq, eBs_eq, vrOf, exSub, exVar, ex0, smOp, smAt, Function.comp_def, List.map_append]; done) | exact may_e L _ _  | exact must_e L _ _  | exact kind_e L _ _  | exact in_e L _ | exact out_e _ | exact plain_e L _  | exact array_e L _ _  | exact typed_e L _ _  | exact signed_e L _  | exact value_e L _  | exact names_e L _ _ _ | exact init_e L _ _  | exact declared_e L _ _ _ _ | exact lines_e L _ _ _ _ | exact section_e L _  | exact sections_e L _ _ _ | exact labelled_e L _  | exact labels_e L _ _ _ | exact endCase_e L _  | exact (erE L _).expr _ | exact i0 _ _  | exact i1 _ _ _  | exact i2 _  | exact i3 _  | exact i4 _  | exact i5 _ _ _  | exact i6 _  | exact i7 _ _ _ _  | exact i8 _ _  | exact i9 _  | exact i10 _ _  | exact i11 _ _ _ _  | exact a_blockL _ _ _ _  | exact a_branchesL _ _ _ _ _  | exact a_casesL _ _ _ _ _  | exact a_caseL _ _ _  | exact a_callL _ _ _ _ _  | exact e1 _ | exact e2 _ | exact i1 _ [] _ | exact i5 [] [] _ | exact i7 _ _ [] _ | exact i8 [] _ | exact i11 _ _ [] _ | exact fail_e)
    · unfold Go.Am.callS
      repeat' (first | with_reducible (first | exact now_e L _ | exact is_e L _ _ | exact any_e L _ _ | exact take_e L _ | exact may_e L _ _  | exact must_e L _ _  | exact kind_e L _ _  | exact in_e L _ | exact out_e _ | exact plain_e L _  | exact array_e L _ _  | exact typed_e L _ _  | exact signed_e L _  | exact value_e L _  | exact names_e L _ _ _ | exact init_e L _ _  | exact declared_e L _ _ _ _ | exact lines_e L _ _ _ _ | exact section_e L _  | exact sections_e L _ _ _ | exact labelled_e L _  | exact labels_e L _ _ _ | exact endCase_e L _  | exact (erE L _).expr _ | exact i0 _ _  | exact i1 _ _ _  | exact i2 _  | exact i3 _  | exact i4 _  | exact i5 _ _ _  | exact i6 _  | exact i7 _ _ _ _  | exact i8 _ _  | exact i9 _  | exact i10 _ _  | exact i11 _ _ _ _  | exact a_blockL _ _ _ _  | exact a_branchesL _ _ _ _ _  | exact a_casesL _ _ _ _ _  | exact a_caseL _ _ _  | exact a_callL _ _ _ _ _  | exact e1 _ | exact e2 _ | exact i1 _ [] _ | exact i5 [] [] _ | exact i7 _ _ [] _ | exact i8 [] _ | exact i11 _ _ [] _ | exact fail_e | exact PE.out | apply PE.bind | refine PE.ite ?_ ?_ ?_ | intro _ _) | exact Iff.rfl | exact PE.ok rfl rfl | exact PE.ok (smAt_e _ _) rfl | exact PE.ok (by simp [eP, eS, eK, eV, eE, eEs, eEs_eq, eM, eMs, eMs_eq, eBs_eq, vrOf, exSub, exVar, ex0, smOp, smAt, Function.comp_def, List.map_append]) rfl | exact PE.ok (by simp [eP, eS, eK, eV, eE, eEs, eEs_eq, eM, eMs, eMs_eq, eBs_eq, vrOf, exSub, exVar, ex0, smOp, smAt, Function.comp_def, List.map_append]) (by simp [eP, eS, eK, eV, eE, eEs, eEs_eq, eM, eMs, eMs_eq, eBs_eq, vrOf, exSub, exVar, ex0, smOp, smAt, Function.comp_def, List.map_append]) | (simp [eP, eS, eK, eV, eE, eEs, eEs_eq, eM, eMs, eMs_eq, eBs_eq, vrOf, exSub, exVar, ex0, smOp, smAt, Function.comp_def, List.map_append]; done) | exact may_e L _ _  | exact must_e L _ _  | exact kind_e L _ _  | exact in_e L _ | exact out_e _ | exact plain_e L _  | exact array_e L _ _  | exact typed_e L _ _  | exact signed_e L _  | exact value_e L _  | exact names_e L _ _ _ | exact init_e L _ _  | exact declared_e L _ _ _ _ | exact lines_e L _ _ _ _ | exact section_e L _  | exact sections_e L _ _ _ | exact labelled_e L _  | exact labels_e L _ _ _ | exact endCase_e L _  | exact (erE L _).expr _ | exact i0 _ _  | exact i1 _ _ _  | exact i2 _  | exact i3 _  | exact i4 _  | exact i5 _ _ _  | exact i6 _  | exact i7 _ _ _ _  | exact i8 _ _  | exact i9 _  | exact i10 _ _  | exact i11 _ _ _ _  | exact a_blockL _ _ _ _  | exact a_branchesL _ _ _ _ _  | exact a_casesL _ _ _ _ _  | exact a_caseL _ _ _  | exact a_callL _ _ _ _ _  | exact e1 _ | exact e2 _ | exact i1 _ [] _ | exact i5 [] [] _ | exact i7 _ _ [] _ | exact i8 [] _ | exact i11 _ _ [] _ | exact fail_e)
    · unfold Go.Am.callL
      repeat' (first | with_reducible (first | exact now_e L _ | exact is_e L _ _ | exact any_e L _ _ | exact take_e L _ | exact may_e L _ _  | exact must_e L _ _  | exact kind_e L _ _  | exact in_e L _ | exact out_e _ | exact plain_e L _  | exact array_e L _ _  | exact typed_e L _ _  | exact signed_e L _  | exact value_e L _  | exact names_e L _ _ _ | exact init_e L _ _  | exact declared_e L _ _ _ _ | exact lines_e L _ _ _ _ | exact section_e L _  | exact sections_e L _ _ _ | exact labelled_e L _  | exact labels_e L _ _ _ | exact endCase_e L _  | exact (erE L _).expr _ | exact i0 _ _  | exact i1 _ _ _  | exact i2 _  | exact i3 _  | exact i4 _  | exact i5 _ _ _  | exact i6 _  | exact i7 _ _ _ _  | exact i8 _ _  | exact i9 _  | exact i10 _ _  | exact i11 _ _ _ _  | exact a_blockL _ _ _ _  | exact a_branchesL _ _ _ _ _  | exact a_casesL _ _ _ _ _  | exact a_caseL _ _ _  | exact a_callL _ _ _ _ _  | exact e1 _ | exact e2 _ | exact i1 _ [] _ | exact i5 [] [] _ | exact i7 _ _ [] _ | exact i8 [] _ | exact i11 _ _ [] _ | exact fail_e | exact PE.out | apply PE.bind | refine PE.ite ?_ ?_ ?_ | intro _ _) | exact Iff.rfl | exact PE.ok rfl rfl | exact PE.ok (smAt_e _ _) rfl | exact PE.ok (by simp [eP, eS, eK, eV, eE, eEs, eEs_eq, eM, eMs, eMs_eq, eBs_eq, vrOf, exSub, exVar, ex0, smOp, smAt, Function.comp_def, List.map_append]) rfl | exact PE.ok (by simp [eP, eS, eK, eV, eE, eEs, eEs_eq, eM, eMs, eMs_eq, eBs_eq, vrOf, exSub, exVar, ex0, smOp, smAt, Function.comp_def, List.map_append]) (by simp [eP, eS, eK, eV, eE, eEs, eEs_eq, eM, eMs, eMs_eq, eBs_eq, vrOf, exSub, exVar, ex0, smOp, smAt, Function.comp_def, List.map_append]) | (simp [eP, eS, eK, eV, eE, eEs, eEs_eq, eM, eMs, eMs_eq, eBs_eq, vrOf, exSub, exVar, ex0, smOp, smAt, Function.comp_def, List.map_append]; done) | exact may_e L _ _  | exact must_e L _ _  | exact kind_e L _ _  | exact in_e L _ | exact out_e _ | exact plain_e L _  | exact array_e L _ _  | exact typed_e L _ _  | exact signed_e L _  | exact value_e L _  | exact names_e L _ _ _ | exact init_e L _ _  | exact declared_e L _ _ _ _ | exact lines_e L _ _ _ _ | exact section_e L _  | exact sections_e L _ _ _ | exact labelled_e L _  | exact labels_e L _ _ _ | exact endCase_e L _  | exact (erE L _).expr _ | exact i0 _ _  | exact i1 _ _ _  | exact i2 _  | exact i3 _  | exact i4 _  | exact i5 _ _ _  | exact i6 _  | exact i7 _ _ _ _  | exact i8 _ _  | exact i9 _  | exact i10 _ _  | exact i11 _ _ _ _  | exact a_blockL _ _ _ _  | exact a_branchesL _ _ _ _ _  | exact a_casesL _ _ _ _ _  | exact a_caseL _ _ _  | exact a_callL _ _ _ _ _  | exact e1 _ | exact e2 _ | exact i1 _ [] _ | exact i5 [] [] _ | exact i7 _ _ [] _ | exact i8 [] _ | exact i11 _ _ [] _ | exact fail_e)
theorem program_e (kn : Tx → Int) (f : Nat) (s : PS) : PE eG (programS L kn f s) (programS (L.map eS) kn f (eP s)) := by
  unfold programS
  refine PE.bind (must_e L _ _) fun _ s => PE.bind (kind_e L _ _) fun nm s => PE.bind (sections_e L _ _ _) fun _ s => PE.bind ((erS L f).block _ _) fun l s => PE.bind (must_e L _ _) fun _ s => PE.bind (kind_e L _ _) fun _ s => PE.ok rfl rfl
end
end Go.Am
end
section
namespace Go.Am
open Go
section
variable {α : Type}
def eqL (s : α → α → Bool) : List α → List α → Bool
  | [], [] => true
  | x :: r, y :: q => s x y && eqL s r q
  | _, _ => false
theorem eqL_len {s : α → α → Bool} : ∀ {l l' : List α}, eqL s l l' = true → l.length = l'.length
  | [], [], _ => rfl
  | [], _ :: _, h => by simp [eqL] at h
  | _ :: _, [], h => by simp [eqL] at h
  | x :: r, y :: q, h => by
    simp only [eqL, Bool.and_eq_true] at h
    simp [eqL_len h.2]
theorem eqL_eq [DecidableEq α] : ∀ (l l' : List α), eqL (fun a b => decide (a = b)) l l' = decide (l = l')
  | [], [] => by simp [eqL]
  | [], _ :: _ => by simp [eqL]
  | _ :: _, [] => by simp [eqL]
  | x :: r, y :: q => by simp [eqL, eqL_eq r q]
end
mutual
def sameE : Ex → Ex → Bool
  | .mk o n a f s _, .mk o' n' a' f' s' _ => decide (o = o') && (decide (n = n') && (decide (a = a') && (decide (f = f') && sameEs s s')))
def sameEs : List Ex → List Ex → Bool
  | [], [] => true
  | x :: r, y :: q => sameE x y && sameEs r q
  | _, _ => false
end
theorem sameEs_eq : ∀ l l' : List Ex, sameEs l l' = eqL sameE l l'
  | [], [] => by simp [sameEs, eqL]
  | [], _ :: _ => by simp [sameEs, eqL]
  | _ :: _, [] => by simp [sameEs, eqL]
  | x :: r, y :: q => by simp [sameEs, eqL, sameEs_eq r q]
mutual
def sameM : Sm → Sm → Bool
  | .mk o n t v c lb f b _, .mk o' n' t' v' c' lb' f' b' _ => decide (o = o') && (decide (n = n') && (sameE t t' && (sameE v v' && (sameEs c c' && (decide (lb = lb') && (decide (f = f') && sameBs b b'))))))
def sameMs : List Sm → List Sm → Bool
  | [], [] => true
  | x :: r, y :: q => sameM x y && sameMs r q
  | _, _ => false
def sameBs : List (List Sm) → List (List Sm) → Bool
  | [], [] => true
  | x :: r, y :: q => sameMs x y && sameBs r q
  | _, _ => false
end
theorem sameMs_eq : ∀ l l' : List Sm, sameMs l l' = eqL sameM l l'
  | [], [] => by simp [sameMs, eqL]
  | [], _ :: _ => by simp [sameMs, eqL]
  | _ :: _, [] => by simp [sameMs, eqL]
  | x :: r, y :: q => by simp [sameMs, eqL, sameMs_eq r q]
theorem sameBs_eq : ∀ l l' : List (List Sm), sameBs l l' = eqL sameMs l l'
  | [], [] => by simp [sameBs, eqL]
  | [], _ :: _ => by simp [sameBs, eqL]
  | _ :: _, [] => by simp [sameBs, eqL]
  | x :: r, y :: q => by simp [sameBs, eqL, sameBs_eq r q]
def sameV (v w : Vr) : Bool := decide (eV v = eV w)
def sameP (p q : Pg) : Bool := eqL sameV p.vars q.vars && (decide (p.name = q.name) && sameMs p.body q.body)
mutual
theorem sameE_iff : ∀ x y : Ex, sameE x y = true ↔ eE x = eE y
  | .mk o n a f s l, .mk o' n' a' f' s' l' => by
    simp only [sameE, eE, Bool.and_eq_true, decide_eq_true_eq, sameEs_iff s s', Ex.mk.injEq, and_true]
theorem sameEs_iff : ∀ l l' : List Ex, sameEs l l' = true ↔ eEs l = eEs l'
  | [], [] => by simp [sameEs, eEs]
  | [], _ :: _ => by simp [sameEs, eEs]
  | _ :: _, [] => by simp [sameEs, eEs]
  | x :: r, y :: q => by simp only [sameEs, eEs, Bool.and_eq_true, sameE_iff x y, sameEs_iff r q, List.cons.injEq]
end
mutual
theorem sameM_iff : ∀ x y : Sm, sameM x y = true ↔ eM x = eM y
  | .mk o n t v c lb f b l, .mk o' n' t' v' c' lb' f' b' l' => by
    simp only [sameM, eM, Bool.and_eq_true, decide_eq_true_eq, sameE_iff, sameEs_iff, sameBs_iff b b', Sm.mk.injEq, and_true]
theorem sameMs_iff : ∀ l l' : List Sm, sameMs l l' = true ↔ eMs l = eMs l'
  | [], [] => by simp [sameMs, eMs]
  | [], _ :: _ => by simp [sameMs, eMs]
  | _ :: _, [] => by simp [sameMs, eMs]
  | x :: r, y :: q => by simp only [sameMs, eMs, Bool.and_eq_true, sameM_iff x y, sameMs_iff r q, List.cons.injEq]
theorem sameBs_iff : ∀ l l' : List (List Sm), sameBs l l' = true ↔ eBs l = eBs l'
  | [], [] => by simp [sameBs, eBs]
  | [], _ :: _ => by simp [sameBs, eBs]
  | _ :: _, [] => by simp [sameBs, eBs]
  | x :: r, y :: q => by simp only [sameBs, eBs, Bool.and_eq_true, sameMs_iff x y, sameBs_iff r q, List.cons.injEq]
end
theorem sameVs_iff : ∀ l l' : List Vr, eqL sameV l l' = true ↔ l.map eV = l'.map eV
  | [], [] => by simp [eqL]
  | [], _ :: _ => by simp [eqL]
  | _ :: _, [] => by simp [eqL]
  | x :: r, y :: q => by simp only [eqL, Bool.and_eq_true, sameV, decide_eq_true_eq, sameVs_iff r q, List.map_cons, List.cons.injEq]
theorem sameP_iff (p q : Pg) : sameP p q = true ↔ eG p = eG q := by
  simp only [sameP, Bool.and_eq_true, decide_eq_true_eq, sameVs_iff, sameMs_iff, eG, Pg.mk.injEq, eMs_eq]
  constructor
  · rintro ⟨a, b, c⟩; exact ⟨b, a, c⟩
  · rintro ⟨b, a, c⟩; exact ⟨a, b, c⟩
theorem sameP_refl (p : Pg) : sameP p p = true := (sameP_iff p p).2 rfl
theorem sameP_symm (p q : Pg) : sameP p q = sameP q p := by
  have h1 := sameP_iff p q
  have h2 := sameP_iff q p
  cases h : sameP p q <;> cases k : sameP q p <;> simp_all
end Go.Am
end
section
namespace Go.Am
open Go Go.Proofs
variable [Inhabited Mx2]
set_option maxRecDepth 20000
theorem eqI_loop (k : Kt) (R1 R2 : Ans)
    (h1 : k .ret ⟨26, gl0, [(4, true, .d (.bool false))], []⟩ = R1) : ∀ (r1 r2 p1 p2 : List Int), p2.length = p1.length → r2.length = r1.length → (p1 ++ r1).length < 1000000000 →
    (h2 : k (.exit 0) ⟨26, gl0, [(0, true, .d (.list ((p1 ++ r1).map (fun n => D.int .i64 n)))), (1, true, .d (.list ((p2 ++ r2).map (fun n => D.int .i64 n)))), (12, true, .d (.int .i64 (p1 ++ r1).length)), (13, true, .d (.int .i64 (p1 ++ r1).length)), (14, true, .d (.bool false))], []⟩ = R2) →
    denK ctx 123 (.loop (Code.at (codeOf Tryd.f123) [1, 1, 0, 1, 0, 0])) ⟨26, gl0, [(0, true, .d (.list ((p1 ++ r1).map (fun n => D.int .i64 n)))), (1, true, .d (.list ((p2 ++ r2).map (fun n => D.int .i64 n)))), (12, true, .d (.int .i64 (p1 ++ r1).length)), (13, true, .d (.int .i64 p1.length))], []⟩ k = if r1 = r2 then R2 else R1
  | [], [], p1, p2, hp, hr, hl, h2 => by
    simp at h2
    rw [denK_loop]
    simp [Tryd.f123, h2]
  | x :: r1, y :: r2, p1, p2, hp, hr, hl, h2 => by
    have ih := eqI_loop k R1 R2 h1 r1 r2 (p1 ++ [x]) (p2 ++ [y]) (by simp [hp]) (by simpa using hr) (by simpa using hl) (by simpa using h2)
    have hr : r2.length = r1.length := by simpa using hr
    have w1 : (p1.length : Int) < p1.length + (r1.length + 1) := by omega
    have w2 : IntKind.i64.wrap ((p1.length : Int) + 1) = p1.length + 1 := wrap_id (by unfold I64; simp at hl; omega)
    rw [denK_loop]
    by_cases he : x = y
    · subst he
      simp [Tryd.f123] at ih ⊢
      simp [w1, w2, hp, hr, ih, drwK_end]
    · simp [Tryd.f123] at h1 ⊢
      simp [w1, w2, hp, hr, he, h1, drwK_end]
theorem eqI_r (l1 l2 : List Int) (hl : l1.length < 1000000000) : callT ctx 123 [.d (.list (l1.map (fun n => D.int .i64 n))), .d (.list (l2.map (fun n => D.int .i64 n)))] [] = some (.ret (.d (.bool (decide (l1 = l2)))), []) := by
  rw [run123 (by simp)]
  by_cases h : l2.length = l1.length
  · have hlp := fun k R1 R2 h1 h2 => eqI_loop k R1 R2 h1 l1 l2 [] [] rfl h (by simpa using hl) h2
    simp [Tryd.f123] at hlp ⊢
    simp [h]
    rw [hlp]
    split <;> simp [*]
  · have h' : ¬ ((l1.length : Int) = l2.length) := by omega
    have hne : ¬ l1 = l2 := fun e => h (by rw [e])
    simp [Tryd.f123, h', hne]
theorem eqX_loop (k : Kt) (R1 R2 : Ans)
    (h1 : k .ret ⟨26, gl0, [(4, true, .d (.bool false))], []⟩ = R1) : ∀ (r1 r2 p1 p2 : List Tx), p2.length = p1.length → r2.length = r1.length → (p1 ++ r1).length < 1000000000 →
    (h2 : k (.exit 0) ⟨26, gl0, [(0, true, .d (.list ((p1 ++ r1).map D.str))), (1, true, .d (.list ((p2 ++ r2).map D.str))), (12, true, .d (.int .i64 (p1 ++ r1).length)), (13, true, .d (.int .i64 (p1 ++ r1).length)), (14, true, .d (.bool false))], []⟩ = R2) →
    denK ctx 95 (.loop (Code.at (codeOf Tryd.f95) [1, 1, 0, 1, 0, 0])) ⟨26, gl0, [(0, true, .d (.list ((p1 ++ r1).map D.str))), (1, true, .d (.list ((p2 ++ r2).map D.str))), (12, true, .d (.int .i64 (p1 ++ r1).length)), (13, true, .d (.int .i64 p1.length))], []⟩ k = if r1 = r2 then R2 else R1
  | [], [], p1, p2, hp, hr, hl, h2 => by
    simp at h2
    rw [denK_loop]
    simp [Tryd.f95, h2]
  | x :: r1, y :: r2, p1, p2, hp, hr, hl, h2 => by
    have ih := eqX_loop k R1 R2 h1 r1 r2 (p1 ++ [x]) (p2 ++ [y]) (by simp [hp]) (by simpa using hr) (by simpa using hl) (by simpa using h2)
    have hr : r2.length = r1.length := by simpa using hr
    have w1 : (p1.length : Int) < p1.length + (r1.length + 1) := by omega
    have w2 : IntKind.i64.wrap ((p1.length : Int) + 1) = p1.length + 1 := wrap_id (by unfold I64; simp at hl; omega)
    rw [denK_loop]
    by_cases he : x = y
    · subst he
      simp [Tryd.f95] at ih ⊢
      simp [w1, w2, hp, hr, ih, drwK_end]
    · simp [Tryd.f95] at h1 ⊢
      simp [w1, w2, hp, hr, he, h1, drwK_end]
theorem eqX_r (l1 l2 : List Tx) (hl : l1.length < 1000000000) : callT ctx 95 [.d (.list (l1.map D.str)), .d (.list (l2.map D.str))] [] = some (.ret (.d (.bool (decide (l1 = l2)))), []) := by
  rw [run95 (by simp)]
  by_cases h : l2.length = l1.length
  · have hlp := fun k R1 R2 h1 h2 => eqX_loop k R1 R2 h1 l1 l2 [] [] rfl h (by simpa using hl) h2
    simp [Tryd.f95] at hlp ⊢
    simp [h]
    rw [hlp]
    split <;> simp [*]
  · have h' : ¬ ((l1.length : Int) = l2.length) := by omega
    have hne : ¬ l1 = l2 := fun e => h (by rw [e])
    simp [Tryd.f95, h', hne]
end Go.Am
end
section
namespace Go.Am
open Go
def exo : Ex → Int | .mk a _ _ _ _ _ => a
def exn : Ex → Int | .mk _ a _ _ _ _ => a
def exa : Ex → Tx | .mk _ _ a _ _ _ => a
def exf : Ex → Tx | .mk _ _ _ a _ _ => a
def exs : Ex → List Ex | .mk _ _ _ _ a _ => a
def exl : Ex → Int | .mk _ _ _ _ _ a => a
@[simp] theorem exo_mk {a b c d e f} : exo (.mk a b c d e f) = a := rfl
@[simp] theorem exn_mk {a b c d e f} : exn (.mk a b c d e f) = b := rfl
@[simp] theorem exa_mk {a b c d e f} : exa (.mk a b c d e f) = c := rfl
@[simp] theorem exf_mk {a b c d e f} : exf (.mk a b c d e f) = d := rfl
@[simp] theorem exs_mk {a b c d e f} : exs (.mk a b c d e f) = e := rfl
@[simp] theorem exl_mk {a b c d e f} : exl (.mk a b c d e f) = f := rfl
theorem exC_A (x : Ex) : exC x = [.int .i64 (exo x), .int .i64 (exn x), .str (exa x), .str (exf x), .list ((exs x).map exD), .int .i64 (exl x)] := by cases x; simp [exC, exDs_eq]
theorem exD_A (x : Ex) : exD x = .agg [.int .i64 (exo x), .int .i64 (exn x), .str (exa x), .str (exf x), .list ((exs x).map exD), .int .i64 (exl x)] := by rw [exD_C, exC_A]
def smo : Sm → Int | .mk a _ _ _ _ _ _ _ _ => a
def sma : Sm → Tx | .mk _ a _ _ _ _ _ _ _ => a
def smt : Sm → Ex | .mk _ _ a _ _ _ _ _ _ => a
def smv : Sm → Ex | .mk _ _ _ a _ _ _ _ _ => a
def smc : Sm → List Ex | .mk _ _ _ _ a _ _ _ _ => a
def smlb : Sm → List (List Int) | .mk _ _ _ _ _ a _ _ _ => a
def smf : Sm → List Tx | .mk _ _ _ _ _ _ a _ _ => a
def smb : Sm → List (List Sm) | .mk _ _ _ _ _ _ _ a _ => a
def sml : Sm → Int | .mk _ _ _ _ _ _ _ _ a => a
@[simp] theorem smo_mk {a b c d e f g h i} : smo (.mk a b c d e f g h i) = a := rfl
@[simp] theorem sma_mk {a b c d e f g h i} : sma (.mk a b c d e f g h i) = b := rfl
@[simp] theorem smt_mk {a b c d e f g h i} : smt (.mk a b c d e f g h i) = c := rfl
@[simp] theorem smv_mk {a b c d e f g h i} : smv (.mk a b c d e f g h i) = d := rfl
@[simp] theorem smc_mk {a b c d e f g h i} : smc (.mk a b c d e f g h i) = e := rfl
@[simp] theorem smlb_mk {a b c d e f g h i} : smlb (.mk a b c d e f g h i) = f := rfl
@[simp] theorem smf_mk {a b c d e f g h i} : smf (.mk a b c d e f g h i) = g := rfl
@[simp] theorem smb_mk {a b c d e f g h i} : smb (.mk a b c d e f g h i) = h := rfl
@[simp] theorem sml_mk {a b c d e f g h i} : sml (.mk a b c d e f g h i) = i := rfl
def bkD (l : List Sm) : D := .list (l.map smD)
theorem smD_A (x : Sm) : smD x = .agg [.int .i64 (smo x), .str (sma x),
    .int .i64 (exo (smt x)), .int .i64 (exn (smt x)), .str (exa (smt x)), .str (exf (smt x)), .list ((exs (smt x)).map exD), .int .i64 (exl (smt x)),
    .int .i64 (exo (smv x)), .int .i64 (exn (smv x)), .str (exa (smv x)), .str (exf (smv x)), .list ((exs (smv x)).map exD), .int .i64 (exl (smv x)),
    .list ((smc x).map exD), .list ((smlb x).map lbD), .list ((smf x).map .str), .list ((smb x).map bkD), .int .i64 (sml x)] := by
  cases x
  simp [smD, exC_A, exDs_eq, bksD_eq, bkD]
end Go.Am
end
section
namespace Go.Am
open Go Go.Proofs
variable [Inhabited Mx2]
set_option maxRecDepth 20000
def eqI (a b : List Int) : Bool := decide (a = b)
theorem efV_loop (k : Kt) (R1 R2 : Ans)
    (h1 : ∀ (v1 v2 : Nat) (c1 c2 : Cont), k .ret ⟨32, gl0, [(6, true, .d (.bool false))], [⟨500, v1, c1⟩, ⟨550, v2, c2⟩]⟩ = R1) : ∀ (r1 r2 p1 p2 : List Vr) (v1 v2 : Nat) (c1 c2 : Cont) , p2.length = p1.length → r2.length = r1.length → (p1 ++ r1).length < 1000000000 →
    (∀ x ∈ r1, ∀ y, callT ctx 35 [.d (vrD x), .d (vrD y)] [] = some (.ret (.d (.bool (sameV x y))), [])) →
    (h2 : ∀ (v1 v2 : Nat) (c1 c2 : Cont), k (.exit 0) ⟨32, gl0, [(1, true, .d (.list ((p2 ++ r2).map vrD))), (2, true, .fn 35 []), (15, true, .d (.list ((p1 ++ r1).map vrD))), (16, true, .d (.int .i64 (p1 ++ r1).length)), (17, true, .d (.int .i64 (p1 ++ r1).length)), (18, true, .d (.bool false))], [⟨500, v1, c1⟩, ⟨550, v2, c2⟩]⟩ = R2) →
    denK ctx 34 (.loop (Code.at (codeOf Tryd.f34) [1, 1, 0, 1, 0, 0])) ⟨32, gl0, [(1, true, .d (.list ((p2 ++ r2).map vrD))), (2, true, .fn 35 []), (15, true, .d (.list ((p1 ++ r1).map vrD))), (16, true, .d (.int .i64 (p1 ++ r1).length)), (17, true, .d (.int .i64 p1.length))], [⟨500, v1, c1⟩, ⟨550, v2, c2⟩]⟩ k = if eqL sameV r1 r2 = true then R2 else R1
  | [], [], p1, p2, v1, v2, c1, c2, hp, hr, hl, hc, h2 => by
    simp at h2
    rw [denK_loop]
    simp [Tryd.f34, h2, eqL]
  | x :: r1, y :: r2, p1, p2, v1, v2, c1, c2, hp, hr, hl, hc, h2 => by
    have ih := fun v1 v2 c1 c2 => efV_loop k R1 R2 h1 r1 r2 (p1 ++ [x]) (p2 ++ [y]) v1 v2 c1 c2 (by simp [hp]) (by simpa using hr) (by simpa using hl) (fun x hx => hc x (by simp [hx])) (by simpa using h2)
    have hr : r2.length = r1.length := by simpa using hr
    have hc := hc x (by simp) y
    have w1 : (p1.length : Int) < p1.length + (r1.length + 1) := by omega
    have w2 : IntKind.i64.wrap ((p1.length : Int) + 1) = p1.length + 1 := wrap_id (by unfold I64; simp at hl; omega)
    rw [denK_loop]
    simp only [eqL]
    by_cases he : sameV x y = true
    · rw [he] at hc
      simp [Tryd.f34, vrD, vrC] at ih hc ⊢
      simp [w1, w2, hp, hr, hc, he, ih, drwK_end, vrD, vrC]
    · have he : sameV x y = false := by simpa using he
      rw [he] at hc
      simp [Tryd.f34, vrD, vrC] at h1 hc ⊢
      simp [w1, w2, hp, hr, hc, he, h1, drwK_end, vrD, vrC]
theorem efV_r (l1 l2 : List Vr) (hl : l1.length < 1000000000) (hc : ∀ x ∈ l1, ∀ y, callT ctx 35 [.d (vrD x), .d (vrD y)] [] = some (.ret (.d (.bool (sameV x y))), [])) :
    callT ctx 34 [.d (.list (l1.map vrD)), .d (.list (l2.map vrD)), .fn 35 []] [] = some (.ret (.d (.bool (eqL sameV l1 l2))), []) := by
  rw [run34 (by simp)]
  by_cases h : l2.length = l1.length
  · have hlp := fun k R1 R2 h1 v1 v2 c1 c2 h2 => efV_loop k R1 R2 h1 l1 l2 [] [] v1 v2 c1 c2 rfl h (by simpa using hl) hc h2
    simp [Tryd.f34] at hlp ⊢
    simp [h]
    rw [hlp _ (some (.ret (.d (.bool false)), [])) (some (.ret (.d (.bool true)), [])) (by simp) _ _ _ _ (by simp)]
    by_cases he : eqL sameV l1 l2 = true
    · simp [he]
    · simp [show eqL sameV l1 l2 = false by simpa using he]
  · have h' : ¬ ((l1.length : Int) = l2.length) := by omega
    have hne : eqL sameV l1 l2 = false := by
      by_cases he : eqL sameV l1 l2 = true
      · exact absurd (eqL_len he).symm h
      · simpa using he
    simp [Tryd.f34, h', hne]
theorem efE_loop (k : Kt) (R1 R2 : Ans)
    (h1 : ∀ (v1 v2 : Nat) (c1 c2 : Cont), k .ret ⟨32, gl0, [(6, true, .d (.bool false))], [⟨500, v1, c1⟩, ⟨550, v2, c2⟩]⟩ = R1) : ∀ (r1 r2 p1 p2 : List Ex) (v1 v2 : Nat) (c1 c2 : Cont) , p2.length = p1.length → r2.length = r1.length → (p1 ++ r1).length < 1000000000 →
    (∀ x ∈ r1, ∀ y, callT ctx 91 [.d (exD x), .d (exD y)] [] = some (.ret (.d (.bool (sameE x y))), [])) →
    (h2 : ∀ (v1 v2 : Nat) (c1 c2 : Cont), k (.exit 0) ⟨32, gl0, [(1, true, .d (.list ((p2 ++ r2).map exD))), (2, true, .fn 91 []), (15, true, .d (.list ((p1 ++ r1).map exD))), (16, true, .d (.int .i64 (p1 ++ r1).length)), (17, true, .d (.int .i64 (p1 ++ r1).length)), (18, true, .d (.bool false))], [⟨500, v1, c1⟩, ⟨550, v2, c2⟩]⟩ = R2) →
    denK ctx 92 (.loop (Code.at (codeOf Tryd.f92) [1, 1, 0, 1, 0, 0])) ⟨32, gl0, [(1, true, .d (.list ((p2 ++ r2).map exD))), (2, true, .fn 91 []), (15, true, .d (.list ((p1 ++ r1).map exD))), (16, true, .d (.int .i64 (p1 ++ r1).length)), (17, true, .d (.int .i64 p1.length))], [⟨500, v1, c1⟩, ⟨550, v2, c2⟩]⟩ k = if eqL sameE r1 r2 = true then R2 else R1
  | [], [], p1, p2, v1, v2, c1, c2, hp, hr, hl, hc, h2 => by
    simp at h2
    rw [denK_loop]
    simp [Tryd.f92, h2, eqL]
  | x :: r1, y :: r2, p1, p2, v1, v2, c1, c2, hp, hr, hl, hc, h2 => by
    have ih := fun v1 v2 c1 c2 => efE_loop k R1 R2 h1 r1 r2 (p1 ++ [x]) (p2 ++ [y]) v1 v2 c1 c2 (by simp [hp]) (by simpa using hr) (by simpa using hl) (fun x hx => hc x (by simp [hx])) (by simpa using h2)
    have hr : r2.length = r1.length := by simpa using hr
    have hc := hc x (by simp) y
    have w1 : (p1.length : Int) < p1.length + (r1.length + 1) := by omega
    have w2 : IntKind.i64.wrap ((p1.length : Int) + 1) = p1.length + 1 := wrap_id (by unfold I64; simp at hl; omega)
    rw [denK_loop]
    simp only [eqL]
    by_cases he : sameE x y = true
    · rw [he] at hc
      simp [Tryd.f92, exD_A] at ih hc ⊢
      simp [w1, w2, hp, hr, hc, he, ih, drwK_end, exD_A]
    · have he : sameE x y = false := by simpa using he
      rw [he] at hc
      simp [Tryd.f92, exD_A] at h1 hc ⊢
      simp [w1, w2, hp, hr, hc, he, h1, drwK_end, exD_A]
theorem efE_r (l1 l2 : List Ex) (hl : l1.length < 1000000000) (hc : ∀ x ∈ l1, ∀ y, callT ctx 91 [.d (exD x), .d (exD y)] [] = some (.ret (.d (.bool (sameE x y))), [])) :
    callT ctx 92 [.d (.list (l1.map exD)), .d (.list (l2.map exD)), .fn 91 []] [] = some (.ret (.d (.bool (eqL sameE l1 l2))), []) := by
  rw [run92 (by simp)]
  by_cases h : l2.length = l1.length
  · have hlp := fun k R1 R2 h1 v1 v2 c1 c2 h2 => efE_loop k R1 R2 h1 l1 l2 [] [] v1 v2 c1 c2 rfl h (by simpa using hl) hc h2
    simp [Tryd.f92] at hlp ⊢
    simp [h]
    rw [hlp _ (some (.ret (.d (.bool false)), [])) (some (.ret (.d (.bool true)), [])) (by simp) _ _ _ _ (by simp)]
    by_cases he : eqL sameE l1 l2 = true
    · simp [he]
    · simp [show eqL sameE l1 l2 = false by simpa using he]
  · have h' : ¬ ((l1.length : Int) = l2.length) := by omega
    have hne : eqL sameE l1 l2 = false := by
      by_cases he : eqL sameE l1 l2 = true
      · exact absurd (eqL_len he).symm h
      · simpa using he
    simp [Tryd.f92, h', hne]
theorem efM_loop (k : Kt) (R1 R2 : Ans)
    (h1 : ∀ (v1 v2 : Nat) (c1 c2 : Cont), k .ret ⟨32, gl0, [(6, true, .d (.bool false))], [⟨500, v1, c1⟩, ⟨550, v2, c2⟩]⟩ = R1) : ∀ (r1 r2 p1 p2 : List Sm) (v1 v2 : Nat) (c1 c2 : Cont) , p2.length = p1.length → r2.length = r1.length → (p1 ++ r1).length < 1000000000 →
    (∀ x ∈ r1, ∀ y, callT ctx 58 [.d (smD x), .d (smD y)] [] = some (.ret (.d (.bool (sameM x y))), [])) →
    (h2 : ∀ (v1 v2 : Nat) (c1 c2 : Cont), k (.exit 0) ⟨32, gl0, [(1, true, .d (.list ((p2 ++ r2).map smD))), (2, true, .fn 58 []), (15, true, .d (.list ((p1 ++ r1).map smD))), (16, true, .d (.int .i64 (p1 ++ r1).length)), (17, true, .d (.int .i64 (p1 ++ r1).length)), (18, true, .d (.bool false))], [⟨500, v1, c1⟩, ⟨550, v2, c2⟩]⟩ = R2) →
    denK ctx 57 (.loop (Code.at (codeOf Tryd.f57) [1, 1, 0, 1, 0, 0])) ⟨32, gl0, [(1, true, .d (.list ((p2 ++ r2).map smD))), (2, true, .fn 58 []), (15, true, .d (.list ((p1 ++ r1).map smD))), (16, true, .d (.int .i64 (p1 ++ r1).length)), (17, true, .d (.int .i64 p1.length))], [⟨500, v1, c1⟩, ⟨550, v2, c2⟩]⟩ k = if eqL sameM r1 r2 = true then R2 else R1
  | [], [], p1, p2, v1, v2, c1, c2, hp, hr, hl, hc, h2 => by
    simp at h2
    rw [denK_loop]
    simp [Tryd.f57, h2, eqL]
  | x :: r1, y :: r2, p1, p2, v1, v2, c1, c2, hp, hr, hl, hc, h2 => by
    have ih := fun v1 v2 c1 c2 => efM_loop k R1 R2 h1 r1 r2 (p1 ++ [x]) (p2 ++ [y]) v1 v2 c1 c2 (by simp [hp]) (by simpa using hr) (by simpa using hl) (fun x hx => hc x (by simp [hx])) (by simpa using h2)
    have hr : r2.length = r1.length := by simpa using hr
    have hc := hc x (by simp) y
    have w1 : (p1.length : Int) < p1.length + (r1.length + 1) := by omega
    have w2 : IntKind.i64.wrap ((p1.length : Int) + 1) = p1.length + 1 := wrap_id (by unfold I64; simp at hl; omega)
    rw [denK_loop]
    simp only [eqL]
    by_cases he : sameM x y = true
    · rw [he] at hc
      simp [Tryd.f57, smD_A] at ih hc ⊢
      simp [w1, w2, hp, hr, hc, he, ih, drwK_end, smD_A]
    · have he : sameM x y = false := by simpa using he
      rw [he] at hc
      simp [Tryd.f57, smD_A] at h1 hc ⊢
      simp [w1, w2, hp, hr, hc, he, h1, drwK_end, smD_A]
theorem efM_r (l1 l2 : List Sm) (hl : l1.length < 1000000000) (hc : ∀ x ∈ l1, ∀ y, callT ctx 58 [.d (smD x), .d (smD y)] [] = some (.ret (.d (.bool (sameM x y))), [])) :
    callT ctx 57 [.d (.list (l1.map smD)), .d (.list (l2.map smD)), .fn 58 []] [] = some (.ret (.d (.bool (eqL sameM l1 l2))), []) := by
  rw [run57 (by simp)]
  by_cases h : l2.length = l1.length
  · have hlp := fun k R1 R2 h1 v1 v2 c1 c2 h2 => efM_loop k R1 R2 h1 l1 l2 [] [] v1 v2 c1 c2 rfl h (by simpa using hl) hc h2
    simp [Tryd.f57] at hlp ⊢
    simp [h]
    rw [hlp _ (some (.ret (.d (.bool false)), [])) (some (.ret (.d (.bool true)), [])) (by simp) _ _ _ _ (by simp)]
    by_cases he : eqL sameM l1 l2 = true
    · simp [he]
    · simp [show eqL sameM l1 l2 = false by simpa using he]
  · have h' : ¬ ((l1.length : Int) = l2.length) := by omega
    have hne : eqL sameM l1 l2 = false := by
      by_cases he : eqL sameM l1 l2 = true
      · exact absurd (eqL_len he).symm h
      · simpa using he
    simp [Tryd.f57, h', hne]
theorem efL_loop (k : Kt) (R1 R2 : Ans)
    (h1 : k .ret ⟨32, gl0, [(6, true, .d (.bool false))], []⟩ = R1) : ∀ (r1 r2 p1 p2 : List (List Int)) , p2.length = p1.length → r2.length = r1.length → (p1 ++ r1).length < 1000000000 →
    (∀ x ∈ r1, ∀ y, callT ctx 94 [.d (lbD x), .d (lbD y)] [] = some (.ret (.d (.bool (eqI x y))), [])) →
    (h2 : k (.exit 0) ⟨32, gl0, [(1, true, .d (.list ((p2 ++ r2).map lbD))), (2, true, .fn 94 []), (15, true, .d (.list ((p1 ++ r1).map lbD))), (16, true, .d (.int .i64 (p1 ++ r1).length)), (17, true, .d (.int .i64 (p1 ++ r1).length)), (18, true, .d (.bool false))], []⟩ = R2) →
    denK ctx 93 (.loop (Code.at (codeOf Tryd.f93) [1, 1, 0, 1, 0, 0])) ⟨32, gl0, [(1, true, .d (.list ((p2 ++ r2).map lbD))), (2, true, .fn 94 []), (15, true, .d (.list ((p1 ++ r1).map lbD))), (16, true, .d (.int .i64 (p1 ++ r1).length)), (17, true, .d (.int .i64 p1.length))], []⟩ k = if eqL eqI r1 r2 = true then R2 else R1
  | [], [], p1, p2, hp, hr, hl, hc, h2 => by
    simp at h2
    rw [denK_loop]
    simp [Tryd.f93, h2, eqL]
  | x :: r1, y :: r2, p1, p2, hp, hr, hl, hc, h2 => by
    have ih := fun (_ : Unit) => efL_loop k R1 R2 h1 r1 r2 (p1 ++ [x]) (p2 ++ [y]) (by simp [hp]) (by simpa using hr) (by simpa using hl) (fun x hx => hc x (by simp [hx])) (by simpa using h2)
    have hr : r2.length = r1.length := by simpa using hr
    have hc := hc x (by simp) y
    have w1 : (p1.length : Int) < p1.length + (r1.length + 1) := by omega
    have w2 : IntKind.i64.wrap ((p1.length : Int) + 1) = p1.length + 1 := wrap_id (by unfold I64; simp at hl; omega)
    rw [denK_loop]
    simp only [eqL]
    by_cases he : eqI x y = true
    · rw [he] at hc
      simp [Tryd.f93, lbD] at ih hc ⊢
      simp [w1, w2, hp, hr, hc, he, ih, drwK_end, lbD]
    · have he : eqI x y = false := by simpa using he
      rw [he] at hc
      simp [Tryd.f93, lbD] at h1 hc ⊢
      simp [w1, w2, hp, hr, hc, he, h1, drwK_end, lbD]
theorem efL_r (l1 l2 : List (List Int)) (hl : l1.length < 1000000000) (hc : ∀ x ∈ l1, ∀ y, callT ctx 94 [.d (lbD x), .d (lbD y)] [] = some (.ret (.d (.bool (eqI x y))), [])) :
    callT ctx 93 [.d (.list (l1.map lbD)), .d (.list (l2.map lbD)), .fn 94 []] [] = some (.ret (.d (.bool (eqL eqI l1 l2))), []) := by
  rw [run93 (by simp)]
  by_cases h : l2.length = l1.length
  · have hlp := fun k R1 R2 h1 h2 => efL_loop k R1 R2 h1 l1 l2 [] [] rfl h (by simpa using hl) hc h2
    simp [Tryd.f93] at hlp ⊢
    simp [h]
    rw [hlp]
    by_cases he : eqL eqI l1 l2 = true
    · simp [he]
    · simp [show eqL eqI l1 l2 = false by simpa using he]
  · have h' : ¬ ((l1.length : Int) = l2.length) := by omega
    have hne : eqL eqI l1 l2 = false := by
      by_cases he : eqL eqI l1 l2 = true
      · exact absurd (eqL_len he).symm h
      · simpa using he
    simp [Tryd.f93, h', hne]
theorem efB_loop (k : Kt) (R1 R2 : Ans)
    (h1 : k .ret ⟨32, gl0, [(6, true, .d (.bool false))], []⟩ = R1) : ∀ (r1 r2 p1 p2 : List (List Sm)) , p2.length = p1.length → r2.length = r1.length → (p1 ++ r1).length < 1000000000 →
    (∀ x ∈ r1, ∀ y, callT ctx 36 [.d (bkD x), .d (bkD y)] [] = some (.ret (.d (.bool (sameMs x y))), [])) →
    (h2 : k (.exit 0) ⟨32, gl0, [(1, true, .d (.list ((p2 ++ r2).map bkD))), (2, true, .fn 36 []), (15, true, .d (.list ((p1 ++ r1).map bkD))), (16, true, .d (.int .i64 (p1 ++ r1).length)), (17, true, .d (.int .i64 (p1 ++ r1).length)), (18, true, .d (.bool false))], []⟩ = R2) →
    denK ctx 96 (.loop (Code.at (codeOf Tryd.f96) [1, 1, 0, 1, 0, 0])) ⟨32, gl0, [(1, true, .d (.list ((p2 ++ r2).map bkD))), (2, true, .fn 36 []), (15, true, .d (.list ((p1 ++ r1).map bkD))), (16, true, .d (.int .i64 (p1 ++ r1).length)), (17, true, .d (.int .i64 p1.length))], []⟩ k = if eqL sameMs r1 r2 = true then R2 else R1
  | [], [], p1, p2, hp, hr, hl, hc, h2 => by
    simp at h2
    rw [denK_loop]
    simp [Tryd.f96, h2, eqL]
  | x :: r1, y :: r2, p1, p2, hp, hr, hl, hc, h2 => by
    have ih := fun (_ : Unit) => efB_loop k R1 R2 h1 r1 r2 (p1 ++ [x]) (p2 ++ [y]) (by simp [hp]) (by simpa using hr) (by simpa using hl) (fun x hx => hc x (by simp [hx])) (by simpa using h2)
    have hr : r2.length = r1.length := by simpa using hr
    have hc := hc x (by simp) y
    have w1 : (p1.length : Int) < p1.length + (r1.length + 1) := by omega
    have w2 : IntKind.i64.wrap ((p1.length : Int) + 1) = p1.length + 1 := wrap_id (by unfold I64; simp at hl; omega)
    rw [denK_loop]
    simp only [eqL]
    by_cases he : sameMs x y = true
    · rw [he] at hc
      simp [Tryd.f96, bkD] at ih hc ⊢
      simp [w1, w2, hp, hr, hc, he, ih, drwK_end, bkD]
    · have he : sameMs x y = false := by simpa using he
      rw [he] at hc
      simp [Tryd.f96, bkD] at h1 hc ⊢
      simp [w1, w2, hp, hr, hc, he, h1, drwK_end, bkD]
theorem efB_r (l1 l2 : List (List Sm)) (hl : l1.length < 1000000000) (hc : ∀ x ∈ l1, ∀ y, callT ctx 36 [.d (bkD x), .d (bkD y)] [] = some (.ret (.d (.bool (sameMs x y))), [])) :
    callT ctx 96 [.d (.list (l1.map bkD)), .d (.list (l2.map bkD)), .fn 36 []] [] = some (.ret (.d (.bool (eqL sameMs l1 l2))), []) := by
  rw [run96 (by simp)]
  by_cases h : l2.length = l1.length
  · have hlp := fun k R1 R2 h1 h2 => efB_loop k R1 R2 h1 l1 l2 [] [] rfl h (by simpa using hl) hc h2
    simp [Tryd.f96] at hlp ⊢
    simp [h]
    rw [hlp]
    by_cases he : eqL sameMs l1 l2 = true
    · simp [he]
    · simp [show eqL sameMs l1 l2 = false by simpa using he]
  · have h' : ¬ ((l1.length : Int) = l2.length) := by omega
    have hne : eqL sameMs l1 l2 = false := by
      by_cases he : eqL sameMs l1 l2 = true
      · exact absurd (eqL_len he).symm h
      · simpa using he
    simp [Tryd.f96, h', hne]
end Go.Am
end
section
namespace Go.Am
open Go Go.Proofs
variable [Inhabited Mx2]
set_option maxRecDepth 20000
/- No row is longer than this. -/
mutual
def ltE : Ex → Prop
  | .mk _ _ _ _ s _ => s.length < 1000000000 ∧ ltEs s
def ltEs : List Ex → Prop
  | [] => True
  | x :: r => ltE x ∧ ltEs r
end
theorem ltEs_iff : ∀ l : List Ex, ltEs l ↔ ∀ x ∈ l, ltE x
  | [] => by simp [ltEs]
  | x :: r => by simp [ltEs, ltEs_iff r]
mutual
def ltM : Sm → Prop
  | .mk _ _ t v c lb f b _ => ltE t ∧ ltE v ∧ c.length < 1000000000 ∧ ltEs c ∧ lb.length < 1000000000 ∧ (∀ l ∈ lb, l.length < 1000000000) ∧ f.length < 1000000000 ∧ b.length < 1000000000 ∧ ltBs b
def ltMs : List Sm → Prop
  | [] => True
  | x :: r => ltM x ∧ ltMs r
def ltBs : List (List Sm) → Prop
  | [] => True
  | x :: r => x.length < 1000000000 ∧ ltMs x ∧ ltBs r
end
theorem ltMs_iff : ∀ l : List Sm, ltMs l ↔ ∀ x ∈ l, ltM x
  | [] => by simp [ltMs]
  | x :: r => by simp [ltMs, ltMs_iff r]
theorem ltBs_iff : ∀ l : List (List Sm), ltBs l ↔ ∀ x ∈ l, x.length < 1000000000 ∧ ltMs x
  | [] => by simp [ltBs]
  | x :: r => by simp [ltBs, ltBs_iff r, and_assoc]
theorem exD_M (x : Ex) : exD x = .agg [.int .i64 (exo x), .int .i64 (exn x), .str (exa x), .str (exf x), .list ((exs x).map exD), .int .i64 (exl x)] := exD_A x
theorem sameE_r : ∀ (x y : Ex), ltE x → callT ctx 91 [.d (exD x), .d (exD y)] [] = some (.ret (.d (.bool (sameE x y))), [])
  | .mk o n a f s l, .mk o' n' a' f' s' l', h => by
    simp only [ltE] at h
    have hs := fun x (hx : x ∈ s) y => sameE_r x y ((ltEs_iff s).1 h.2 x hx)
    have he := efE_r s s' h.1 hs
    rw [run91 (by simp)]
    simp [Tryd.f91, exD_A, he, sameE, sameEs_eq]
    grind
termination_by x => SizeOf.sizeOf x
decreasing_by all_goals (simp_wf; have := List.sizeOf_lt_of_mem hx; omega)
theorem sameLabels_r (l l' : List Int) (h : l.length < 1000000000) : callT ctx 94 [.d (lbD l), .d (lbD l')] [] = some (.ret (.d (.bool (eqI l l'))), []) := by
  have he := eqI_r l l' h
  rw [run94 (by simp)]
  simp [Tryd.f94, lbD, he, eqI]
theorem sameBlock_of (l l' : List Sm) (h : l.length < 1000000000) (hc : ∀ x ∈ l, ∀ y, callT ctx 58 [.d (smD x), .d (smD y)] [] = some (.ret (.d (.bool (sameM x y))), [])) :
    callT ctx 36 [.d (bkD l), .d (bkD l')] [] = some (.ret (.d (.bool (sameMs l l'))), []) := by
  have he := efM_r l l' h hc
  rw [run36 (by simp)]
  simp [Tryd.f36, bkD, he, sameMs_eq]
theorem sameM_r : ∀ (x y : Sm), ltM x → callT ctx 58 [.d (smD x), .d (smD y)] [] = some (.ret (.d (.bool (sameM x y))), [])
  | .mk o n t v c lb f b l, .mk o' n' t' v' c' lb' f' b' l', h => by
    simp only [ltM] at h
    obtain ⟨h1, h2, h3, h4, h5, h6, h7, h8, h9⟩ := h
    have hb := fun x (hx : x ∈ b) y => sameBlock_of x y ((ltBs_iff b).1 h9 x hx).1 (fun z hz w => sameM_r z w ((ltMs_iff x).1 ((ltBs_iff b).1 h9 x hx).2 z hz))
    have e1 := sameE_r t t' h1
    have e2 := sameE_r v v' h2
    have e3 := efE_r c c' h3 (fun x hx y => sameE_r x y ((ltEs_iff c).1 h4 x hx))
    have e4 := efL_r lb lb' h5 (fun x hx y => sameLabels_r x y (h6 x hx))
    have e5 := eqX_r f f' h7
    have e6 := efB_r b b' h8 hb
    have e7 : eqL eqI lb lb' = decide (lb = lb') := eqL_eq lb lb'
    rw [run58 (by simp)]
    simp [exD_A] at e1 e2
    simp [Tryd.f58, smD_A, e1, e2, e3, e4, e5, e6, e7, sameM, sameEs_eq, sameBs_eq]
    grind
termination_by x => SizeOf.sizeOf x
decreasing_by
  simp_wf
  have h1 := List.sizeOf_lt_of_mem hz
  have h2 := List.sizeOf_lt_of_mem hx
  omega
def ltPg (p : Pg) : Prop := p.vars.length < 1000000000 ∧ p.body.length < 1000000000 ∧ ltMs p.body
theorem sameV_r (x y : Vr) : callT ctx 35 [.d (vrD x), .d (vrD y)] [] = some (.ret (.d (.bool (sameV x y))), []) := by
  rw [run35 (by simp)]
  simp [Tryd.f35, vrD, vrC, sameV, eV]
  grind
theorem sameP_r (p q : Pg) (h : ltPg p) : callT ctx 17 [.d (.agg [.str p.name, .list (p.vars.map vrD), .list (p.body.map smD)]), .d (.agg [.str q.name, .list (q.vars.map vrD), .list (q.body.map smD)])] [] = some (.ret (.d (.bool (sameP p q))), []) := by
  have e1 := efV_r p.vars q.vars h.1 (fun x _ y => sameV_r x y)
  have e2 := sameBlock_of p.body q.body h.2.1 (fun x hx y => sameM_r x y ((ltMs_iff p.body).1 h.2.2 x hx))
  simp only [bkD] at e2
  rw [run17 (by simp)]
  simp [Tryd.f17, e1, e2, sameP]
  grind
end Go.Am
end
section
namespace Go.Am
open Go Go.Proofs
variable [Inhabited Mx2]
set_option maxRecDepth 20000
theorem r16_loop (k : Kt) (R1 R2 : Ans)
    (h1 : k .ret ⟨26, gl0, [(4, true, .d (.bool false))], []⟩ = R1) : ∀ (r1 r2 p1 p2 : List Int), p2.length = p1.length → r2.length = r1.length → (p1 ++ r1).length < 1000000000 →
    (h2 : k (.exit 0) ⟨26, gl0, [(0, true, .d (.list ((p1 ++ r1).map (fun n => D.int .i64 n)))), (1, true, .d (.list ((p2 ++ r2).map (fun n => D.int .i64 n)))), (5, true, .d (.int .i64 (p1 ++ r1).length)), (14, true, .d (.bool false))], []⟩ = R2) →
    denK ctx 60 (.loop (Code.at (codeOf Tryd.f60) [1, 1, 0, 1, 0, 0])) ⟨26, gl0, [(0, true, .d (.list ((p1 ++ r1).map (fun n => D.int .i64 n)))), (1, true, .d (.list ((p2 ++ r2).map (fun n => D.int .i64 n)))), (5, true, .d (.int .i64 p1.length))], []⟩ k = if r1 = r2 then R2 else R1
  | [], [], p1, p2, hp, hr, hl, h2 => by
    simp at h2
    rw [denK_loop]
    simp [Tryd.f60, h2]
  | x :: r1, y :: r2, p1, p2, hp, hr, hl, h2 => by
    have ih := r16_loop k R1 R2 h1 r1 r2 (p1 ++ [x]) (p2 ++ [y]) (by simp [hp]) (by simpa using hr) (by simpa using hl) (by simpa using h2)
    have hr : r2.length = r1.length := by simpa using hr
    have w1 : (p1.length : Int) < p1.length + (r1.length + 1) := by omega
    have w2 : IntKind.i64.wrap ((p1.length : Int) + 1) = p1.length + 1 := wrap_id (by unfold I64; simp at hl; omega)
    rw [denK_loop]
    by_cases he : x = y
    · subst he
      simp [Tryd.f60] at ih ⊢
      simp [w1, w2, hp, hr, ih, drwK_end]
    · simp [Tryd.f60] at h1 ⊢
      simp [w1, w2, hp, hr, he, h1, drwK_end]
theorem r16_r (l1 l2 : List Int) (hl : l1.length < 1000000000) : callT ctx 60 [.d (lbD l1), .d (lbD l2)] [] = some (.ret (.d (.bool (decide (l1 = l2)))), []) := by
  rw [run60 (by simp)]
  by_cases h : l2.length = l1.length
  · have hlp := fun k R1 R2 h1 h2 => r16_loop k R1 R2 h1 l1 l2 [] [] rfl h (by simpa using hl) h2
    simp [Tryd.f60, lbD] at hlp ⊢
    simp [h]
    rw [hlp]
    split <;> simp [*]
  · have h' : ¬ ((l1.length : Int) = l2.length) := by omega
    have hne : ¬ l1 = l2 := fun e => h (by rw [e])
    simp [Tryd.f60, h', hne, lbD]
theorem rxE_loop (k : Kt) (R1 R2 : Ans)
    (h1 : ∀ (v1 v2 : Nat) (c1 c2 : Cont), k .ret ⟨74, gl0, [(6, true, .d (.bool false))], [⟨500, v1, c1⟩, ⟨550, v2, c2⟩]⟩ = R1) : ∀ (r1 r2 p1 p2 : List Ex) (v1 v2 : Nat) (c1 c2 : Cont), p2.length = p1.length → r2.length = r1.length → (p1 ++ r1).length < 1000000000 →
    (∀ x ∈ r1, ∀ l, callT ctx 59 [.d (.list ((exs x).map exD)), .d (.list (l.map exD)), .d (.bool false)] [] = some (.ret (.d (.bool (sameEs (exs x) l))), [])) →
    (h2 : ∀ (v1 v2 : Nat) (c1 c2 : Cont), k (.exit 0) ⟨74, gl0, [(0, true, .d (.list ((p1 ++ r1).map exD))), (1, true, .d (.list ((p2 ++ r2).map exD))), (2, true, .d (.bool false)), (7, true, .d (.int .i64 (p1 ++ r1).length)), (18, true, .d (.bool false))], [⟨500, v1, c1⟩, ⟨550, v2, c2⟩]⟩ = R2) →
    denK ctx 59 (.loop (Code.at (codeOf Tryd.f59) [1, 1, 0, 1, 0, 0])) ⟨74, gl0, [(0, true, .d (.list ((p1 ++ r1).map exD))), (1, true, .d (.list ((p2 ++ r2).map exD))), (2, true, .d (.bool false)), (7, true, .d (.int .i64 p1.length))], [⟨500, v1, c1⟩, ⟨550, v2, c2⟩]⟩ k = if eqL sameE r1 r2 = true then R2 else R1
  | [], [], p1, p2, v1, v2, c1, c2, hp, hr, hl, hc, h2 => by
    simp at h2
    rw [denK_loop]
    simp [Tryd.f59, h2, eqL]
  | x :: r1, y :: r2, p1, p2, v1, v2, c1, c2, hp, hr, hl, hc, h2 => by
    have ih := fun v1 v2 c1 c2 => rxE_loop k R1 R2 h1 r1 r2 (p1 ++ [x]) (p2 ++ [y]) v1 v2 c1 c2 (by simp [hp]) (by simpa using hr) (by simpa using hl) (fun x hx => hc x (by simp [hx])) (by simpa using h2)
    have hr : r2.length = r1.length := by simpa using hr
    have hc := hc x (by simp) (exs y)
    have w1 : (p1.length : Int) < p1.length + (r1.length + 1) := by omega
    have w2 : IntKind.i64.wrap ((p1.length : Int) + 1) = p1.length + 1 := wrap_id (by unfold I64; simp at hl; omega)
    rw [denK_loop]
    simp only [eqL]
    have hs : sameE x y = (decide (exo x = exo y) && (decide (exn x = exn y) && (decide (exa x = exa y) && (decide (exf x = exf y) && sameEs (exs x) (exs y))))) := by
      cases x; cases y
      simp only [sameE, exo_mk, exn_mk, exa_mk, exf_mk, exs_mk]
      rfl
    simp only [hs]
    generalize sameEs (exs x) (exs y) = b at hc ⊢
    simp [Tryd.f59, exD_A] at ih hc h1 ⊢
    by_cases a1 : exo x = exo y
    · by_cases a2 : exn x = exn y
      · by_cases a3 : exa x = exa y
        · by_cases a4 : exf x = exf y
          · simp only [a1, a2, a3, a4] at ih
            cases b <;> simp [w1, w2, hp, hr, hc, ih, h1, drwK_end, exD_A, a1, a2, a3, a4]
          · simp [w1, w2, hp, hr, h1, drwK_end, exD_A, a1, a2, a3, a4]
        · simp [w1, w2, hp, hr, h1, drwK_end, exD_A, a1, a2, a3]
      · simp [w1, w2, hp, hr, h1, drwK_end, exD_A, a1, a2]
    · simp [w1, w2, hp, hr, h1, drwK_end, exD_A, a1]
theorem rxE_of (l1 l2 : List Ex) (hl : l1.length < 1000000000) (hc : ∀ x ∈ l1, ∀ l, callT ctx 59 [.d (.list ((exs x).map exD)), .d (.list (l.map exD)), .d (.bool false)] [] = some (.ret (.d (.bool (sameEs (exs x) l))), [])) :
    callT ctx 59 [.d (.list (l1.map exD)), .d (.list (l2.map exD)), .d (.bool false)] [] = some (.ret (.d (.bool (sameEs l1 l2))), []) := by
  rw [run59 (by simp), sameEs_eq]
  by_cases h : l2.length = l1.length
  · have hlp := fun k R1 R2 h1 v1 v2 c1 c2 h2 => rxE_loop k R1 R2 h1 l1 l2 [] [] v1 v2 c1 c2 rfl h (by simpa using hl) hc h2
    simp [Tryd.f59] at hlp ⊢
    simp [h]
    rw [hlp _ (some (.ret (.d (.bool false)), [])) (some (.ret (.d (.bool true)), [])) (by simp) _ _ _ _ (by simp)]
    by_cases he : eqL sameE l1 l2 = true
    · simp [he]
    · simp [show eqL sameE l1 l2 = false by simpa using he]
  · have h' : ¬ ((l1.length : Int) = l2.length) := by omega
    have hne : eqL sameE l1 l2 = false := by
      by_cases he : eqL sameE l1 l2 = true
      · exact absurd (eqL_len he).symm h
      · simpa using he
    simp [Tryd.f59, h', hne]
theorem rxE_one : ∀ (x : Ex), ltE x → ∀ l, callT ctx 59 [.d (.list ((exs x).map exD)), .d (.list (l.map exD)), .d (.bool false)] [] = some (.ret (.d (.bool (sameEs (exs x) l))), [])
  | .mk o n a f s ln, h, l => by
    simp only [ltE] at h
    exact rxE_of s l h.1 (fun x hx l => rxE_one x ((ltEs_iff s).1 h.2 x hx) l)
termination_by x => SizeOf.sizeOf x
decreasing_by all_goals (simp_wf; have := List.sizeOf_lt_of_mem hx; omega)
theorem rxE_r (l1 l2 : List Ex) (hl : l1.length < 1000000000) (h : ltEs l1) :
    callT ctx 59 [.d (.list (l1.map exD)), .d (.list (l2.map exD)), .d (.bool false)] [] = some (.ret (.d (.bool (sameEs l1 l2))), []) :=
  rxE_of l1 l2 hl fun x hx l => rxE_one x ((ltEs_iff l1).1 h x hx) l
end Go.Am
end
section
namespace Go.Am
open Go Go.Proofs
variable [Inhabited Mx2]
set_option maxRecDepth 20000
def bxM (x : Sm) : Cont := .box [.d (.int .i64 (smo x)), .d (.str (sma x)), .d (.int .i64 (exo (smt x))), .d (.int .i64 (exn (smt x))), .d (.str (exa (smt x))), .d (.str (exf (smt x))), .d (.list ((exs (smt x)).map exD)), .d (.int .i64 (exl (smt x))),
  .d (.int .i64 (exo (smv x))), .d (.int .i64 (exn (smv x))), .d (.str (exa (smv x))), .d (.str (exf (smv x))), .d (.list ((exs (smv x)).map exD)), .d (.int .i64 (exl (smv x))), .d (.list ((smc x).map exD)), .d (.list ((smlb x).map lbD)), .d (.list ((smf x).map .str)), .d (.list ((smb x).map bkD)), .d (.int .i64 (sml x))]
theorem rsL_loop (A B C : AV) (v1 v2 : Nat) (x y : Sm) (hlen : (smlb x).length < 1000000000) (k : Kt) (R : Ans) : ∀ (r1 r2 p1 p2 : List (List Int)), smlb x = p1 ++ r1 → smlb y = p2 ++ r2 → p2.length = p1.length → r2.length = r1.length → (hc : ∀ x ∈ r1, ∀ l, callT ctx 60 [.d (lbD x), .d (lbD l)] [] = some (.ret (.d (.bool (eqI x l))), [])) →
    ((if eqL eqI r1 r2 = true then k (.exit 2) ⟨160, gl0, [(0, true, A), (1, true, B), (2, true, .d (.bool false)), (7, true, C), (8, true, .ptr 500 v1 0), (9, true, .ptr 550 v2 0), (10, true, .d (.int .i64 (smlb x).length)), (107, true, .d (.bool false))], [⟨500, v1, bxM x⟩, ⟨550, v2, bxM y⟩]⟩ else k .ret ⟨160, gl0, [(6, true, .d (.bool false))], [⟨500, v1, bxM x⟩, ⟨550, v2, bxM y⟩]⟩) = R) →
    denK ctx 37 (.loop (Code.at (codeOf Tryd.f37) [1, 1, 0, 1, 0, 0, 1, 0, 0, 1, 1, 1, 0, 1, 0, 0])) ⟨160, gl0, [(0, true, A), (1, true, B), (2, true, .d (.bool false)), (7, true, C), (8, true, .ptr 500 v1 0), (9, true, .ptr 550 v2 0), (10, true, .d (.int .i64 p1.length))], [⟨500, v1, bxM x⟩, ⟨550, v2, bxM y⟩]⟩ k = R
  | [], [], p1, p2, ex1, ey1, hp, hr, hc, hx => by
    simp [eqL, ex1] at hx
    rw [denK_loop]
    simp [Tryd.f37, bxM, ex1] at hx ⊢
    simp [hx]
  | x' :: r1, y' :: r2, p1, p2, ex1, ey1, hp, hr, hc, hx => by
    have ih := rsL_loop A B C v1 v2 x y hlen k R r1 r2 (p1 ++ [x']) (p2 ++ [y']) (by simp [ex1]) (by simp [ey1]) (by simp [hp]) (by simpa using hr) (fun x hx => hc x (by simp [hx]))
    have hr : r2.length = r1.length := by simpa using hr
    have hc := hc x' (by simp) y'
    have w1 : (p1.length : Int) < p1.length + (r1.length + 1) := by omega
    have w2 : IntKind.i64.wrap ((p1.length : Int) + 1) = p1.length + 1 := wrap_id (by unfold I64; rw [ex1] at hlen; simp at hlen; omega)
    rw [denK_loop]
    by_cases he : eqI x' y' = true
    · rw [he] at hc
      have ih := ih (by simpa [eqL, he] using hx)
      simp [Tryd.f37, bxM, ex1, ey1, lbD] at ih hc ⊢
      simp [w1, w2, hp, hr, hc, ih, drwK_end, lbD]
    · have he : eqI x' y' = false := by simpa using he
      rw [he] at hc
      rw [if_neg (by simp [eqL, he])] at hx
      simp [Tryd.f37, bxM, ex1, ey1, lbD] at hx hc ⊢
      simp [w1, w2, hp, hr, hc, hx, drwK_end, lbD]
def eqT (a b : Tx) : Bool := decide (a = b)
theorem rsF_loop (A B C : AV) (v1 v2 : Nat) (x y : Sm) (hlen : (smf x).length < 1000000000) (k : Kt) (R : Ans) : ∀ (r1 r2 p1 p2 : List (Tx)), smf x = p1 ++ r1 → smf y = p2 ++ r2 → p2.length = p1.length → r2.length = r1.length → (hc : True) →
    ((if eqL eqT r1 r2 = true then k (.exit 4) ⟨160, gl0, [(0, true, A), (1, true, B), (2, true, .d (.bool false)), (7, true, C), (8, true, .ptr 500 v1 0), (9, true, .ptr 550 v2 0), (11, true, .d (.int .i64 (smf x).length)), (126, true, .d (.bool false))], [⟨500, v1, bxM x⟩, ⟨550, v2, bxM y⟩]⟩ else k .ret ⟨160, gl0, [(6, true, .d (.bool false))], [⟨500, v1, bxM x⟩, ⟨550, v2, bxM y⟩]⟩) = R) →
    denK ctx 37 (.loop (Code.at (codeOf Tryd.f37) [1, 1, 0, 1, 0, 0, 1, 0, 0, 1, 1, 1, 1, 0, 1, 0, 0])) ⟨160, gl0, [(0, true, A), (1, true, B), (2, true, .d (.bool false)), (7, true, C), (8, true, .ptr 500 v1 0), (9, true, .ptr 550 v2 0), (11, true, .d (.int .i64 p1.length))], [⟨500, v1, bxM x⟩, ⟨550, v2, bxM y⟩]⟩ k = R
  | [], [], p1, p2, ex1, ey1, hp, hr, hc, hx => by
    simp [eqL, ex1] at hx
    rw [denK_loop]
    simp [Tryd.f37, bxM, ex1] at hx ⊢
    simp [hx]
  | x' :: r1, y' :: r2, p1, p2, ex1, ey1, hp, hr, hc, hx => by
    have ih := rsF_loop A B C v1 v2 x y hlen k R r1 r2 (p1 ++ [x']) (p2 ++ [y']) (by simp [ex1]) (by simp [ey1]) (by simp [hp]) (by simpa using hr) trivial
    have hr : r2.length = r1.length := by simpa using hr
    have w1 : (p1.length : Int) < p1.length + (r1.length + 1) := by omega
    have w2 : IntKind.i64.wrap ((p1.length : Int) + 1) = p1.length + 1 := wrap_id (by unfold I64; rw [ex1] at hlen; simp at hlen; omega)
    rw [denK_loop]
    by_cases he : eqT x' y' = true
    · have he' : x' = y' := by simpa [eqT] using he
      subst he'
      have ih := ih (by simpa [eqL, he] using hx)
      simp [Tryd.f37, bxM, ex1, ey1] at ih ⊢
      simp [w1, w2, hp, hr, ih, drwK_end]
    · have he' : ¬ x' = y' := by simpa [eqT] using he
      rw [if_neg (by simp [eqL, he])] at hx
      simp [Tryd.f37, bxM, ex1, ey1] at hx ⊢
      simp [w1, w2, hp, hr, he', hx, drwK_end]
theorem rsB_loop (A B C : AV) (v1 v2 : Nat) (x y : Sm) (hlen : (smb x).length < 1000000000) (k : Kt) (R : Ans) : ∀ (r1 r2 p1 p2 : List (List Sm)), smb x = p1 ++ r1 → smb y = p2 ++ r2 → p2.length = p1.length → r2.length = r1.length → (hc : ∀ x ∈ r1, ∀ l, callT ctx 37 [.d (bkD x), .d (bkD l), .d (.bool false)] [] = some (.ret (.d (.bool (sameMs x l))), [])) →
    ((if eqL sameMs r1 r2 = true then k (.exit 6) ⟨160, gl0, [(0, true, A), (1, true, B), (2, true, .d (.bool false)), (7, true, C), (8, true, .ptr 500 v1 0), (9, true, .ptr 550 v2 0), (12, true, .d (.int .i64 (smb x).length)), (144, true, .d (.bool false))], [⟨500, v1, bxM x⟩, ⟨550, v2, bxM y⟩]⟩ else k .ret ⟨160, gl0, [(6, true, .d (.bool false))], [⟨500, v1, bxM x⟩, ⟨550, v2, bxM y⟩]⟩) = R) →
    denK ctx 37 (.loop (Code.at (codeOf Tryd.f37) [1, 1, 0, 1, 0, 0, 1, 0, 0, 1, 1, 1, 1, 1, 1, 0, 0])) ⟨160, gl0, [(0, true, A), (1, true, B), (2, true, .d (.bool false)), (7, true, C), (8, true, .ptr 500 v1 0), (9, true, .ptr 550 v2 0), (12, true, .d (.int .i64 p1.length))], [⟨500, v1, bxM x⟩, ⟨550, v2, bxM y⟩]⟩ k = R
  | [], [], p1, p2, ex1, ey1, hp, hr, hc, hx => by
    simp [eqL, ex1] at hx
    rw [denK_loop]
    simp [Tryd.f37, bxM, ex1] at hx ⊢
    simp [hx]
  | x' :: r1, y' :: r2, p1, p2, ex1, ey1, hp, hr, hc, hx => by
    have ih := rsB_loop A B C v1 v2 x y hlen k R r1 r2 (p1 ++ [x']) (p2 ++ [y']) (by simp [ex1]) (by simp [ey1]) (by simp [hp]) (by simpa using hr) (fun x hx => hc x (by simp [hx]))
    have hr : r2.length = r1.length := by simpa using hr
    have hc := hc x' (by simp) y'
    have w1 : (p1.length : Int) < p1.length + (r1.length + 1) := by omega
    have w2 : IntKind.i64.wrap ((p1.length : Int) + 1) = p1.length + 1 := wrap_id (by unfold I64; rw [ex1] at hlen; simp at hlen; omega)
    rw [denK_loop]
    by_cases he : sameMs x' y' = true
    · rw [he] at hc
      have ih := ih (by simpa [eqL, he] using hx)
      simp [Tryd.f37, bxM, ex1, ey1, bkD] at ih hc ⊢
      simp [w1, w2, hp, hr, hc, ih, drwK_end, bkD]
    · have he : sameMs x' y' = false := by simpa using he
      rw [he] at hc
      rw [if_neg (by simp [eqL, he])] at hx
      simp [Tryd.f37, bxM, ex1, ey1, bkD] at hx hc ⊢
      simp [w1, w2, hp, hr, hc, hx, drwK_end, bkD]
theorem sameM_ref (x y : Sm) : sameM x y = (decide (smo x = smo y) && (decide (sma x = sma y) && (sameEs [smt x, smv x] [smt y, smv y] && (sameEs (smc x) (smc y) && (eqL eqI (smlb x) (smlb y) && (eqL eqT (smf x) (smf y) && eqL sameMs (smb x) (smb y))))))) := by
  have h1 : ∀ l l' : List (List Int), eqL eqI l l' = decide (l = l') := fun l l' => eqL_eq l l'
  have h2 : ∀ l l' : List Tx, eqL eqT l l' = decide (l = l') := fun l l' => eqL_eq l l'
  cases x; cases y
  simp only [sameM, smo_mk, sma_mk, smt_mk, smv_mk, smc_mk, smlb_mk, smf_mk, smb_mk, sameEs, h1, h2, sameBs_eq, Bool.and_true, Bool.and_assoc]
  rfl
theorem eqL_nlen {α : Type} {s : α → α → Bool} {l l' : List α} (h : ¬ l.length = l'.length) : eqL s l l' = false := by
  by_cases he : eqL s l l' = true
  · exact absurd (eqL_len he) h
  · simpa using he
set_option maxHeartbeats 2000000 in
theorem rxM_loop (k : Kt) (R1 R2 : Ans)
    (h1 : ∀ (v1 v2 : Nat) (c1 c2 : Cont), k .ret ⟨160, gl0, [(6, true, .d (.bool false))], [⟨500, v1, c1⟩, ⟨550, v2, c2⟩]⟩ = R1) : ∀ (r1 r2 p1 p2 : List Sm) (v1 v2 : Nat) (c1 c2 : Cont), p2.length = p1.length → r2.length = r1.length → (p1 ++ r1).length < 1000000000 →
    (∀ x ∈ r1, ltM x) →
    (∀ x ∈ r1, ∀ b ∈ smb x, ∀ l, callT ctx 37 [.d (bkD b), .d (bkD l), .d (.bool false)] [] = some (.ret (.d (.bool (sameMs b l))), [])) →
    (h2 : ∀ (v1 v2 : Nat) (c1 c2 : Cont), k (.exit 0) ⟨160, gl0, [(0, true, .d (.list ((p1 ++ r1).map smD))), (1, true, .d (.list ((p2 ++ r2).map smD))), (2, true, .d (.bool false)), (7, true, .d (.int .i64 (p1 ++ r1).length)), (21, true, .d (.bool false))], [⟨500, v1, c1⟩, ⟨550, v2, c2⟩]⟩ = R2) →
    denK ctx 37 (.loop (Code.at (codeOf Tryd.f37) [1, 1, 0, 1, 0, 0])) ⟨160, gl0, [(0, true, .d (.list ((p1 ++ r1).map smD))), (1, true, .d (.list ((p2 ++ r2).map smD))), (2, true, .d (.bool false)), (7, true, .d (.int .i64 p1.length))], [⟨500, v1, c1⟩, ⟨550, v2, c2⟩]⟩ k = if eqL sameM r1 r2 = true then R2 else R1
  | [], [], p1, p2, v1, v2, c1, c2, hp, hr, hl, hlt, hc, h2 => by
    simp at h2
    rw [denK_loop]
    simp [Tryd.f37, h2, eqL]
  | x :: r1, y :: r2, p1, p2, v1, v2, c1, c2, hp, hr, hl, hlt, hc, h2 => by
    have ih := fun v1 v2 c1 c2 => rxM_loop k R1 R2 h1 r1 r2 (p1 ++ [x]) (p2 ++ [y]) v1 v2 c1 c2 (by simp [hp]) (by simpa using hr) (by simpa using hl) (fun x hx => hlt x (by simp [hx])) (fun x hx => hc x (by simp [hx])) (by simpa using h2)
    have hr : r2.length = r1.length := by simpa using hr
    have hc := hc x (by simp)
    have ltx : ltE (smt x) ∧ ltE (smv x) ∧ (smc x).length < 1000000000 ∧ ltEs (smc x) ∧ (smlb x).length < 1000000000 ∧ (∀ l ∈ smlb x, l.length < 1000000000) ∧ (smf x).length < 1000000000 ∧ (smb x).length < 1000000000 := by
      have := hlt x (by simp)
      cases x
      simp only [ltM] at this
      exact ⟨this.1, this.2.1, this.2.2.1, this.2.2.2.1, this.2.2.2.2.1, this.2.2.2.2.2.1, this.2.2.2.2.2.2.1, this.2.2.2.2.2.2.2.1⟩
    obtain ⟨l1, l2, l3, l4, l5, l6, l7, l8⟩ := ltx
    have e1 := rxE_r [smt x, smv x] [smt y, smv y] (by simp) (by simp [ltEs, l1, l2])
    have e2 := rxE_r (smc x) (smc y) l3 l4
    have r02 : List.range' 0 2 = [0, 1] := rfl
    have w1 : (p1.length : Int) < p1.length + (r1.length + 1) := by omega
    have w2 : IntKind.i64.wrap ((p1.length : Int) + 1) = p1.length + 1 := wrap_id (by unfold I64; simp at hl; omega)
    rw [denK_loop]
    simp only [eqL]
    simp only [sameM_ref]
    generalize sameEs [smt x, smv x] [smt y, smv y] = b1 at e1 ⊢
    generalize sameEs (smc x) (smc y) = b2 at e2 ⊢
    simp only [List.map_cons, List.map_nil] at e1
    simp [Tryd.f37, smD_A, exD_A, bxM] at ih h1 e1 ⊢
    by_cases a1 : smo x = smo y
    · by_cases a2 : sma x = sma y
      · by_cases a3 : (smlb x).length = (smlb y).length
        · by_cases a4 : (smf x).length = (smf y).length
          · by_cases a5 : (smb x).length = (smb y).length
            · have q1 := fun A B C v1 v2 k R => rsL_loop A B C v1 v2 x y l5 k R (smlb x) (smlb y) [] [] rfl rfl rfl a3.symm (fun l hl l' => r16_r l l' (l6 l hl))
              have q2 := fun A B C v1 v2 k R => rsF_loop A B C v1 v2 x y l7 k R (smf x) (smf y) [] [] rfl rfl rfl a4.symm trivial
              have q3 := fun A B C v1 v2 k R => rsB_loop A B C v1 v2 x y l8 k R (smb x) (smb y) [] [] rfl rfl rfl a5.symm hc
              simp [Tryd.f37, bxM, a1, a2] at q1 q2 q3
              simp only [a1, a2] at ih
              cases b1 with
              | false => simp [r02, w1, w2, hp, hr, h1, drwK_end, smD_A, exD_A, a1, a2, a3, a4, a5, e1]
              | true =>
                cases b2 with
                | false => simp [r02, w1, w2, hp, hr, h1, drwK_end, smD_A, exD_A, a1, a2, a3, a4, a5, e1, e2]
                | true =>
                  simp [r02, w1, w2, hp, hr, h1, drwK_end, smD_A, exD_A, a1, a2, a3, a4, a5, e1, e2]
                  rw [q1]
                  by_cases t1 : eqL eqI (smlb x) (smlb y) = true
                  · simp [r02, t1]
                    rw [q2]
                    by_cases t2 : eqL eqT (smf x) (smf y) = true
                    · simp [r02, t2]
                      rw [q3]
                      by_cases t3 : eqL sameMs (smb x) (smb y) = true
                      · simp [r02, t3, w2, ih]
                      · simp [r02, t3, h1]
                    · simp [r02, t2, h1]
                  · simp [r02, t1, h1]
            · have a5' : ¬ ((smb x).length : Int) = (smb y).length := by omega
              simp [r02, w1, w2, hp, hr, h1, drwK_end, smD_A, exD_A, a1, a2, a3, a4, a5, a5', eqL_nlen a5]
          · have a4' : ¬ ((smf x).length : Int) = (smf y).length := by omega
            simp [r02, w1, w2, hp, hr, h1, drwK_end, smD_A, exD_A, a1, a2, a3, a4, a4', eqL_nlen a4]
        · have a3' : ¬ ((smlb x).length : Int) = (smlb y).length := by omega
          simp [r02, w1, w2, hp, hr, h1, drwK_end, smD_A, exD_A, a1, a2, a3, a3', eqL_nlen a3]
      · simp [r02, w1, w2, hp, hr, h1, drwK_end, smD_A, exD_A, a1, a2]
    · simp [r02, w1, w2, hp, hr, h1, drwK_end, smD_A, exD_A, a1]
theorem rxM_of (l1 l2 : List Sm) (hl : l1.length < 1000000000) (hlt : ∀ x ∈ l1, ltM x) (hc : ∀ x ∈ l1, ∀ b ∈ smb x, ∀ l, callT ctx 37 [.d (bkD b), .d (bkD l), .d (.bool false)] [] = some (.ret (.d (.bool (sameMs b l))), [])) :
    callT ctx 37 [.d (.list (l1.map smD)), .d (.list (l2.map smD)), .d (.bool false)] [] = some (.ret (.d (.bool (sameMs l1 l2))), []) := by
  rw [run37 (by simp), sameMs_eq]
  by_cases h : l2.length = l1.length
  · have hlp := fun k R1 R2 h1 v1 v2 c1 c2 h2 => rxM_loop k R1 R2 h1 l1 l2 [] [] v1 v2 c1 c2 rfl h (by simpa using hl) hlt hc h2
    simp [Tryd.f37] at hlp ⊢
    simp [h]
    rw [hlp _ (some (.ret (.d (.bool false)), [])) (some (.ret (.d (.bool true)), [])) (by simp) _ _ _ _ (by simp)]
    by_cases he : eqL sameM l1 l2 = true
    · simp [he]
    · simp [show eqL sameM l1 l2 = false by simpa using he]
  · have h' : ¬ ((l1.length : Int) = l2.length) := by omega
    simp [Tryd.f37, h', eqL_nlen (fun e => h e.symm)]
theorem rxM_one : ∀ (x : Sm), ltM x → ∀ b ∈ smb x, ∀ l, callT ctx 37 [.d (bkD b), .d (bkD l), .d (.bool false)] [] = some (.ret (.d (.bool (sameMs b l))), [])
  | .mk o n t v c lb f b ln, h, l, hl, l' => by
    simp only [ltM] at h
    simp only [smb_mk] at hl
    have hb := (ltBs_iff b).1 h.2.2.2.2.2.2.2.2 l hl
    exact rxM_of l l' hb.1 ((ltMs_iff l).1 hb.2) (fun x hx b' hb' l'' => rxM_one x ((ltMs_iff l).1 hb.2 x hx) b' hb' l'')
termination_by x => SizeOf.sizeOf x
decreasing_by
  simp_wf
  have h1 := List.sizeOf_lt_of_mem hx
  have h2 := List.sizeOf_lt_of_mem hl
  try simp only [smb_mk] at h2
  omega
theorem rxM_r (l1 l2 : List Sm) (hl : l1.length < 1000000000) (h : ltMs l1) :
    callT ctx 37 [.d (.list (l1.map smD)), .d (.list (l2.map smD)), .d (.bool false)] [] = some (.ret (.d (.bool (sameMs l1 l2))), []) :=
  rxM_of l1 l2 hl ((ltMs_iff l1).1 h) fun x hx => rxM_one x ((ltMs_iff l1).1 h x hx)
end Go.Am
end
section
namespace Go.Am
open Go
section
variable {L : List Sgn} (hL : OkL L)
include hL
structure AllS (L : List Sgn) (f : Nat) : Prop where
  block : ∀ (ws : List Tx) (s : PS), Iv L s → 20 * (L.length - s.at_) + 19 ≤ f → Tr (blockS L f ws s) fun _ s' => Fw L s s'
  loop : ∀ (ws : List Tx) (l : List Sm) (s : PS), Iv L s → l.length ≤ s.at_ → 20 * (L.length - s.at_) + 18 ≤ f → Tr (blockL L f ws l s) fun _ s' => Fw L s s'
  stmt : ∀ s : PS, Iv L s → 20 * (L.length - s.at_) + 17 ≤ f → Tr (stmtS L f s) fun _ s' => Fs L s s'
  opn : ∀ s : PS, Iv L s → 20 * (L.length - s.at_) + 16 ≤ f → Tr (openS L f s) fun _ s' => Fs L s s'
  branches : ∀ s : PS, Iv L s → 20 * (L.length - s.at_) + 15 ≤ f → Tr (branchesS L f s) fun _ s' => Fs L s s'
  branchesL : ∀ (c : List Ex) (l : List (List Sm)) (s : PS), Iv L s → c.length ≤ s.at_ → l.length ≤ s.at_ → 20 * (L.length - s.at_) + 14 ≤ f → Tr (branchesL L f c l s) fun _ s' => Fs L s s'
  cases : ∀ s : PS, Iv L s → 20 * (L.length - s.at_) + 15 ≤ f → Tr (casesS L f s) fun _ s' => Fs L s s'
  casesL : ∀ (v : Ex) (c : List (List Int)) (l : List (List Sm)) (s : PS), Iv L s → c.length ≤ s.at_ → l.length ≤ s.at_ → 20 * (L.length - s.at_) + 14 ≤ f → Tr (casesL L f v c l s) fun _ s' => Fs L s s'
  caseL : ∀ (l : List Sm) (s : PS), Iv L s → l.length ≤ s.at_ → 20 * (L.length - s.at_) + 18 ≤ f → Tr (caseL L f l s) fun _ s' => Fw L s s'
  counted : ∀ s : PS, Iv L s → 20 * (L.length - s.at_) + 15 ≤ f → Tr (countedS L f s) fun _ s' => Fs L s s'
  call : ∀ (nm : Tx) (s : PS), Iv L s → 20 * (L.length - s.at_) + 15 ≤ f → Tr (callS L f nm s) fun _ s' => Fs L s s'
  callL : ∀ (nm : Tx) (c : List Tx) (l : List Ex) (s : PS), Iv L s → c.length ≤ s.at_ → l.length ≤ s.at_ → 20 * (L.length - s.at_) + 14 ≤ f → Tr (callL L f nm c l s) fun _ s' => Fs L s s'
theorem allS : ∀ f, AllS L f
  | 0 => ⟨fun _ s h hf => by have := h.at_; omega, fun _ _ s h _ hf => by have := h.at_; omega, fun s h hf => by have := h.at_; omega, fun s h hf => by have := h.at_; omega, fun s h hf => by have := h.at_; omega,
      fun _ _ s h _ _ hf => by have := h.at_; omega, fun s h hf => by have := h.at_; omega, fun _ _ _ s h _ _ hf => by have := h.at_; omega, fun _ s h _ hf => by have := h.at_; omega, fun s h hf => by have := h.at_; omega,
      fun _ s h hf => by have := h.at_; omega, fun _ _ _ s h _ _ hf => by have := h.at_; omega⟩
  | f + 1 => by
    have ih := allS f
    have ihE := allE hL f
    have hlen := hL.len
    refine ⟨?_, ?_, ?_, ?_, ?_, ?_, ?_, ?_, ?_, ?_, ?_, ?_⟩
    · intro ws s h hf
      unfold blockS
      exact ih.loop ws [] s h (by simp) (by omega)
    · intro ws l s h hl hf
      unfold blockL
      have := h.at_
      refine (any_tr hL h _).bind fun b s1 ⟨e, h1⟩ => ?_
      subst e
      refine Tr.iff (fun hb => .refl h) fun hb => (ih.stmt s1 h (by omega)).bind fun x s2 h2 => ?_
      have := h2.lt
      have := h2.iv.at_
      rw [if_pos (by omega)]
      exact (ih.loop ws _ s2 h2.iv (by simp; omega) (by omega)).mono fun _ s3 h3 => h2.toFw.trans h3
    · intro s h hf
      unfold stmtS
      refine (now_tr hL h).bind fun t s1 ⟨e, k1⟩ => ?_
      subst e
      refine (in_tr hL h).bind fun _ s1 h1 => ?_
      have := h1.at_
      refine (ih.opn s1 h1.iv (by omega)).bind fun x s2 h2 => (must_tr hL h2.iv).bind fun _ s3 ⟨h3, _⟩ => ?_
      exact up_tr hL h h1 (h2.toFw.trans h3.toFw) fun s' h4 h5 => ⟨h4, by have := h2.lt; have := h3.lt; omega⟩
    · intro s h hf
      unfold openS
      have := h.at_
      refine (may_tr hL h).bind fun b s1 ⟨h1, h1'⟩ => Tr.iff (fun hb => ?_) fun hb => ?_
      · have h1 := (h1 hb).1
        have := h1.lt
        have := h1.iv.at_
        exact (ih.branches s1 h1.iv (by omega)).mono fun _ s2 h2 => h1.trans h2.toFw
      have := h1' (by simpa using hb); subst this
      refine (may_tr hL h).bind fun b s1 ⟨h1, h1'⟩ => Tr.iff (fun hb => ?_) fun hb => ?_
      · have h1 := (h1 hb).1
        have := h1.lt
        have := h1.iv.at_
        exact (ih.cases s1 h1.iv (by omega)).mono fun _ s2 h2 => h1.trans h2.toFw
      have := h1' (by simpa using hb); subst this
      refine (may_tr hL h).bind fun b s1 ⟨h1, h1'⟩ => Tr.iff (fun hb => ?_) fun hb => ?_
      · have h1 := (h1 hb).1
        have := h1.lt
        have := h1.iv.at_
        exact (ih.counted s1 h1.iv (by omega)).mono fun _ s2 h2 => h1.trans h2.toFw
      have := h1' (by simpa using hb); subst this
      refine (may_tr hL h).bind fun b s1 ⟨h1, h1'⟩ => Tr.iff (fun hb => ?_) fun hb => ?_
      · have h1 := (h1 hb).1
        have := h1.lt
        have := h1.iv.at_
        refine (ihE.expr s1 h1.iv (by omega)).bind fun v s2 h2 => (must_tr hL h2.iv).bind fun _ s3 ⟨h3, _⟩ => ?_
        have := h2.lt
        have := h3.lt
        have := h3.iv.at_
        refine (ih.block _ s3 h3.iv (by omega)).bind fun l s4 h4 => (must_tr hL h4.iv).bind fun _ s5 ⟨h5, _⟩ => ?_
        exact h1.trans (h2.toFw.trans (h3.toFw.trans (h4.trans h5.toFw)))
      have := h1' (by simpa using hb); subst this
      refine (may_tr hL h).bind fun b s1 ⟨h1, h1'⟩ => Tr.iff (fun hb => ?_) fun hb => ?_
      · have h1 := (h1 hb).1
        have := h1.lt
        have := h1.iv.at_
        refine (ih.block _ s1 h1.iv (by omega)).bind fun l s2 h2 => (must_tr hL h2.iv).bind fun _ s3 ⟨h3, _⟩ => ?_
        have := h2.at_
        have := h3.lt
        have := h3.iv.at_
        refine (ihE.expr s3 h3.iv (by omega)).bind fun v s4 h4 => (must_tr hL h4.iv).bind fun _ s5 ⟨h5, _⟩ => ?_
        exact h1.trans (h2.trans (h3.toFw.trans (h4.toFw.trans h5.toFw)))
      have := h1' (by simpa using hb); subst this
      refine (may_tr hL h).bind fun b s1 ⟨h1, h1'⟩ => Tr.iff (fun hb => (h1 hb).1) fun hb => ?_
      have := h1' (by simpa using hb); subst this
      refine (may_tr hL h).bind fun b s1 ⟨h1, h1'⟩ => Tr.iff (fun hb => (h1 hb).1) fun hb => ?_
      have := h1' (by simpa using hb); subst this
      refine (kind_trS hL (by decide) h).bind fun nm s2 ⟨h2, _⟩ => ?_
      have := h2.lt
      have := h2.iv.at_
      refine (may_tr hL h2.iv).bind fun b s3 ⟨h3, h3'⟩ => Tr.iff (fun hb => ?_) fun hb => ?_
      · have h3 := (h3 hb).1
        have := h3.lt
        have := h3.iv.at_
        exact (ih.call nm.text s3 h3.iv (by omega)).mono fun _ s4 h4 => h2.trans (h3.toFw.trans h4.toFw)
      have := h3' (by simpa using hb); subst this
      refine (is_tr hL h2.iv).bind fun b s4 ⟨e, _⟩ => ?_
      subst e
      have hto : Tr (if b = true then (indexS L f s4).bind fun x s => .ok (exSub 4 nm.text [x] nm.line) s else .ok (exVar nm) s4) fun _ s' => Fw L s4 s' :=
        Tr.iff (fun hb => (ihE.index s4 h2.iv (by omega)).bind fun x s5 h5 => h5.toFw) fun hb => Fw.refl h2.iv
      refine hto.bind fun to s5 h5 => (must_tr hL h5.iv).bind fun _ s6 ⟨h6, _⟩ => ?_
      have := h5.at_
      have := h6.lt
      have := h6.iv.at_
      exact (ihE.expr s6 h6.iv (by omega)).bind fun v s7 h7 => h2.trans (h5.trans (h6.toFw.trans h7.toFw))
    · intro s h hf
      unfold branchesS
      exact ih.branchesL [] [] s h (by simp) (by simp) (by omega)
    · intro c l s h hc hl hf
      unfold branchesL
      have := h.at_
      refine (ihE.expr s h (by omega)).bind fun x s1 h1 => (must_tr hL h1.iv).bind fun _ s2 ⟨h2, _⟩ => ?_
      have := h1.lt
      have := h2.lt
      have := h2.iv.at_
      refine (ih.block _ s2 h2.iv (by omega)).bind fun b s3 h3 => ?_
      have := h3.at_
      have := h3.iv.at_
      rw [if_pos (by omega)]
      refine (may_tr hL h3.iv).bind fun m s4 ⟨h4, h4'⟩ => Tr.iff (fun hb => ?_) fun hb => ?_
      · have h4 := (h4 hb).1
        have := h4.lt
        have := h4.iv.at_
        exact (ih.branchesL _ _ s4 h4.iv (by simp; omega) (by simp; omega) (by omega)).mono fun _ s5 h5 => h1.trans (h2.toFw.trans (h3.trans (h4.toFw.trans h5.toFw)))
      have := h4' (by simpa using hb); subst this
      refine (may_tr hL h3.iv).bind fun m s5 ⟨h5, h5'⟩ => ?_
      have hto : Tr (if m = true then (blockS L f [[69, 78, 68, 95, 73, 70]] s5).bind fun z s => .ok (l ++ [b] ++ [z]) s else .ok (l ++ [b]) s5) fun _ s' => Fw L s4 s' := by
        refine Tr.iff (fun hb => ?_) fun hb => ?_
        · have h5 := (h5 hb).1
          have := h5.lt
          have := h5.iv.at_
          exact (ih.block _ s5 h5.iv (by omega)).bind fun x s6 h6 => h5.toFw.trans h6
        · have := h5' (by simpa using hb); subst this
          exact Fw.refl h3.iv
      refine hto.bind fun l2 s6 h6 => (must_tr hL h6.iv).bind fun _ s7 ⟨h7, _⟩ => ?_
      exact h1.trans (h2.toFw.trans (h3.trans (h6.trans h7.toFw)))
    · intro s h hf
      unfold casesS
      have := h.at_
      refine (ihE.expr s h (by omega)).bind fun v s1 h1 => (must_tr hL h1.iv).bind fun _ s2 ⟨h2, _⟩ => ?_
      have := h1.lt
      have := h2.lt
      have := h2.iv.at_
      exact (ih.casesL v [] [] s2 h2.iv (by simp) (by simp) (by omega)).mono fun _ s3 h3 => h1.trans (h2.toFw.trans h3.toFw)
    · intro v c l s h hc hl hf
      unfold casesL
      have := h.at_
      refine (labelled_tr hL h).bind fun b s1 e => ?_
      subst e
      refine Tr.iff (fun hb => ?_) fun hb => ?_
      · refine (labels_tr hL f [] s1 h (by omega) (by simp)).bind fun x s2 h2 => ?_
        have := h2.lt
        have := h2.iv.at_
        refine (ih.caseL [] s2 h2.iv (by simp) (by omega)).bind fun b s3 h3 => ?_
        have := h3.at_
        have := h3.iv.at_
        rw [if_pos (by omega)]
        exact (ih.casesL v _ _ s3 h3.iv (by simp; omega) (by simp; omega) (by omega)).mono fun _ s4 h4 => h2.trans (h3.trans h4.toFw)
      refine (may_tr hL h).bind fun m s2 ⟨h2, h2'⟩ => ?_
      have hto : Tr (if m = true then (blockS L f [[69, 78, 68, 95, 67, 65, 83, 69]] s2).bind fun z s => if l.length < 100000 then .ok (l ++ [z]) s else .out else .ok l s2) fun _ s' => Fw L s1 s' := by
        refine Tr.iff (fun hb => ?_) fun hb => ?_
        · have h2 := (h2 hb).1
          have := h2.lt
          have := h2.iv.at_
          exact (ih.block _ s2 h2.iv (by omega)).bind fun x s3 h3 => by rw [if_pos (by omega)]; exact h2.toFw.trans h3
        · have := h2' (by simpa using hb); subst this
          exact Fw.refl h
      exact hto.bind fun l2 s3 h3 => (must_tr hL h3.iv).bind fun _ s4 ⟨h4, _⟩ => h3.transS h4
    · intro l s h hl hf
      unfold caseL
      have := h.at_
      refine (endCase_tr hL h).bind fun b s1 e => ?_
      subst e
      refine Tr.iff (fun hb => .refl h) fun hb => (ih.stmt s1 h (by omega)).bind fun x s2 h2 => ?_
      have := h2.lt
      have := h2.iv.at_
      rw [if_pos (by omega)]
      exact (ih.caseL _ s2 h2.iv (by simp; omega) (by omega)).mono fun _ s3 h3 => h2.toFw.trans h3
    · intro s h hf
      unfold countedS
      refine (kind_trS hL (by decide) h).bind fun nm s1 ⟨h1, _⟩ => (must_tr hL h1.iv).bind fun _ s2 ⟨h2, _⟩ => ?_
      have := h.at_
      have := h1.lt
      have := h2.lt
      have := h2.iv.at_
      refine (ihE.expr s2 h2.iv (by omega)).bind fun a s3 h3 => (must_tr hL h3.iv).bind fun _ s4 ⟨h4, _⟩ => ?_
      have := h3.lt
      have := h4.lt
      have := h4.iv.at_
      refine (ihE.expr s4 h4.iv (by omega)).bind fun b s5 h5 => (now_tr hL h5.iv).bind fun t s6 ⟨e, _⟩ => ?_
      subst e
      have := h5.lt
      have := h5.iv.at_
      refine (may_tr hL h5.iv).bind fun m s7 ⟨h7, h7'⟩ => ?_
      have hto : Tr (if m = true then exprS L f s7 else .ok (.mk 1 1 [] [] [] t.line) s7) fun _ s' => Fw L s6 s' := by
        refine Tr.iff (fun hb => ?_) fun hb => ?_
        · have h7 := (h7 hb).1
          have := h7.lt
          have := h7.iv.at_
          exact (ihE.expr s7 h7.iv (by omega)).mono fun _ s8 h8 => h7.toFw.trans h8.toFw
        · have := h7' (by simpa using hb); subst this
          exact Fw.refl h5.iv
      refine hto.bind fun c s8 h8 => (must_tr hL h8.iv).bind fun _ s9 ⟨h9, _⟩ => ?_
      have := h8.at_
      have := h9.lt
      have := h9.iv.at_
      refine (ih.block _ s9 h9.iv (by omega)).bind fun l s10 h10 => (must_tr hL h10.iv).bind fun _ s11 ⟨h11, _⟩ => ?_
      exact h1.trans (h2.toFw.trans (h3.toFw.trans (h4.toFw.trans (h5.toFw.trans (h8.trans (h9.toFw.trans (h10.trans h11.toFw)))))))
    · intro nm s h hf
      unfold callS
      refine (may_tr hL h).bind fun b s1 ⟨h1, h1'⟩ => Tr.iff (fun hb => (h1 hb).1) fun hb => ?_
      have := h1' (by simpa using hb); subst this
      exact ih.callL nm [] [] s1 h (by simp) (by simp) (by omega)
    · intro nm c l s h hc hl hf
      unfold callL
      have := h.at_
      refine (kind_trS hL (by decide) h).bind fun t s1 ⟨h1, _⟩ => (must_tr hL h1.iv).bind fun _ s2 ⟨h2, _⟩ => ?_
      have := h1.lt
      have := h2.lt
      have := h2.iv.at_
      refine (ihE.expr s2 h2.iv (by omega)).bind fun x s3 h3 => ?_
      have := h3.lt
      have := h3.iv.at_
      rw [if_pos (by omega)]
      refine (may_tr hL h3.iv).bind fun b s4 ⟨h4, h4'⟩ => Tr.iff (fun hb => ?_) fun hb => ?_
      · have h4 := (h4 hb).1
        have := h4.lt
        have := h4.iv.at_
        exact (ih.callL nm _ _ s4 h4.iv (by simp; omega) (by simp; omega) (by omega)).mono fun _ s5 h5 => h1.trans (h2.toFw.trans (h3.toFw.trans (h4.toFw.trans h5.toFw)))
      · have := h4' (by simpa using hb); subst this
        exact (must_tr hL h3.iv).bind fun _ s5 ⟨h5, _⟩ => h1.trans (h2.toFw.trans (h3.toFw.trans h5.toFw))
/-- What is known of a program that was read: END_PROGRAM stands in it. -/
theorem program_tr {kindN : Tx → Int} {f : Nat} {s : PS} (h : Iv L s) (hf : 20 * (L.length - s.at_) + 19 ≤ f) : Tr (programS L kindN f s) fun p s' => p.vars.length ≤ 64 ∧ ∃ (i : Nat) (t : Sgn), L[i]? = some t ∧ isW t [69, 78, 68, 95, 80, 82, 79, 71, 82, 65, 77] = true := by
  unfold programS
  have := h.at_
  refine (must_tr hL h).bind fun _ s1 ⟨h1, _⟩ => (kind_trS hL (by decide) h1.iv).bind fun nm s2 ⟨h2, _⟩ => ?_
  have := h1.lt
  have := h2.lt
  have := h2.iv.at_
  refine (sections_tr hL f s2 h2.iv (by omega)).bind fun _ s3 h3 => ?_
  have := h3.at_
  have := h3.iv.at_
  refine ((allS hL f).block _ s3 h3.iv (by omega)).bind fun l s4 h4 => (must_tr hL h4.iv).bind fun _ s5 ⟨h5, t, k5, k5'⟩ => (kind_tr hL h5.iv).bind fun _ s6 ⟨h6, _⟩ => ?_
  exact ⟨h6.iv.vs, _, t, k5, k5'⟩
end
end Go.Am
end
section
namespace Go.Am
open Go Go.Proofs
variable [Inhabited Mx2]
set_option maxRecDepth 20000
def pB (L : List Sgn) (s : PS) : List AV := [.d (.list (L.map sgnD)), .d (.int .i64 s.at_), .d (.int .i64 s.deep), .vec 1 0 0 s.vars.length]
def pC (L : List Sgn) (s : PS) : List Cont := [.box (pB L s), .vec 8 (s.vars.map vrD)]
def pC2 (L : List Sgn) (s : PS) : List (Nat × Cont) := [(0, .box (pB L s)), (0, .vec 8 (s.vars.map vrD))]
def fD (e : Er) : D := .agg [.int .i64 e.e, .int .i64 0, .str [], .int .i64 0, .int .i64 e.line, .int .i64 e.col]
def badK (L : List Sgn) (e : Er) (s : PS) : Ans := some (.panic 67 (fD e), pC2 L s)
section
variable {L : List Sgn} {s : PS}
theorem now_run : callT ctx 79 [.ptr 0 0 0] (pC L s) = (nowS L s).el (fun t s => some (.ret (.d (sgnD t)), pC2 L s)) (badK L) := by
  rw [run79 (by simp [pC])]
  by_cases h : s.at_ < L.length
  · simp [Tryd.f79, drwK_end, pC, pC2, pB, nowS, h, sgnD]
  · simp [Tryd.f79, drwK_end, pC, pC2, pB, nowS, h, sgnD]
@[simp] theorem tx_beq (a b : Tx) : (a == b) = decide (a = b) := by by_cases h : a = b <;> simp [h]
theorem badKB : badK L = fun e s => some (.panic 67 (fD e), [(0, .box [.d (.list (L.map sgnD)), .d (.int .i64 s.at_), .d (.int .i64 s.deep), .vec 1 0 0 s.vars.length]), (0, .vec 8 (s.vars.map vrD))]) := rfl
theorem pCB : pC L s = [.box [.d (.list (L.map sgnD)), .d (.int .i64 s.at_), .d (.int .i64 s.deep), .vec 1 0 0 s.vars.length], .vec 8 (s.vars.map vrD)] := rfl
theorem pC2B : pC2 L s = [(0, .box [.d (.list (L.map sgnD)), .d (.int .i64 s.at_), .d (.int .i64 s.deep), .vec 1 0 0 s.vars.length]), (0, .vec 8 (s.vars.map vrD))] := rfl
theorem now_r : callT ctx 79 [.ptr 0 0 0] [.box [.d (.list (L.map sgnD)), .d (.int .i64 s.at_), .d (.int .i64 s.deep), .vec 1 0 0 s.vars.length], .vec 8 (s.vars.map vrD)] = (nowS L s).el (fun t s => some (.ret (.d (sgnD t)), pC2 L s)) (badK L) := now_run
theorem fail_run (e : Int) (t : Sgn) : callT ctx 78 [.d (.int .i64 e), .d (sgnD t)] [] = some (.panic 67 (fD ⟨e, t.line, t.col⟩), []) := by
  rw [run78 (by simp)]
  simp [Tryd.f78, fD]
theorem fail_r (e k n l c : Int) (x : Tx) : callT ctx 78 [.d (.int .i64 e), .d (.agg [.int .i64 k, .str x, .int .i64 n, .int .i64 l, .int .i64 c])] [] = some (.panic 67 (fD ⟨e, l, c⟩), []) := fail_run e ⟨k, x, n, l, c⟩
@[simp] theorem ite_f {β : Type} {b : Bool} {x y : β} : (if b = false then x else y) = if b = true then y else x := by cases b <;> rfl
theorem is_run (w : Tx) : callT ctx 83 [.ptr 0 0 0, .d (.str w)] (pC L s) = (isS L w s).el (fun b s => some (.ret (.d (.bool b)), pC2 L s)) (badK L) := by
  rw [run83 (by simp [pC])]
  simp [Tryd.f83, pCB, now_r, isS, isW, pC2B, badKB]
theorem take_run (hL : L.length < 1000000) : callT ctx 80 [.ptr 0 0 0] (pC L s) = (takeS L s).el (fun t s => some (.ret (.d (sgnD t)), pC2 L s)) (badK L) := by
  by_cases h : s.at_ < L.length
  · have w1 : IntKind.i64.wrap ((s.at_ : Int) + 1) = (s.at_ : Int) + 1 := wrap_id (by unfold I64; omega)
    rw [run80 (by simp [pC])]
    by_cases hk : L[s.at_].kind = 0
    · simp [Tryd.f80, pCB, now_r, takeS, nowS, pC2B, badKB, h, hk, w1]
    · simp [Tryd.f80, pCB, now_r, takeS, nowS, pC2B, badKB, h, hk, w1]
  · rw [run80 (by simp [pC])]
    simp [Tryd.f80, pCB, now_r, takeS, nowS, pC2B, badKB, h]
end
section
variable {L : List Sgn} {s : PS} (hL : L.length < 1000000)
theorem is_r (w : Tx) : callT ctx 83 [.ptr 0 0 0, .d (.str w)] [.box [.d (.list (L.map sgnD)), .d (.int .i64 s.at_), .d (.int .i64 s.deep), .vec 1 0 0 s.vars.length], .vec 8 (s.vars.map vrD)] = (isS L w s).el (fun b s => some (.ret (.d (.bool b)), pC2 L s)) (badK L) := is_run w
include hL
theorem take_r : callT ctx 80 [.ptr 0 0 0] [.box [.d (.list (L.map sgnD)), .d (.int .i64 s.at_), .d (.int .i64 s.deep), .vec 1 0 0 s.vars.length], .vec 8 (s.vars.map vrD)] = (takeS L s).el (fun t s => some (.ret (.d (sgnD t)), pC2 L s)) (badK L) := take_run hL
theorem may_r (w : Tx) : callT ctx 77 [.ptr 0 0 0, .d (.str w)] [.box [.d (.list (L.map sgnD)), .d (.int .i64 s.at_), .d (.int .i64 s.deep), .vec 1 0 0 s.vars.length], .vec 8 (s.vars.map vrD)] = (mayS L w s).el (fun b s => some (.ret (.d (.bool b)), pC2 L s)) (badK L) := by
  rw [run77 (by simp)]
  simp [Tryd.f77, is_r, take_r hL, mayS, pC2B, badKB]
theorem must_r (w : Tx) : callT ctx 49 [.ptr 0 0 0, .d (.str w)] [.box [.d (.list (L.map sgnD)), .d (.int .i64 s.at_), .d (.int .i64 s.deep), .vec 1 0 0 s.vars.length], .vec 8 (s.vars.map vrD)] = (mustS L w s).el (fun _ s => some (.ret (.tup []), pC2 L s)) (badK L) := by
  rw [run49 (by simp)]
  simp [Tryd.f49, may_r hL, now_r, fail_r, failS, mustS, pC2B, badKB]
theorem kind_r (k : Int) : callT ctx 50 [.ptr 0 0 0, .d (.int .i64 k)] [.box [.d (.list (L.map sgnD)), .d (.int .i64 s.at_), .d (.int .i64 s.deep), .vec 1 0 0 s.vars.length], .vec 8 (s.vars.map vrD)] = (kindS L k s).el (fun t s => some (.ret (.d (sgnD t)), pC2 L s)) (badK L) := by
  rw [run50 (by simp)]
  simp [Tryd.f50, take_r hL, now_r, fail_r, failS, kindS, pC2B, badKB]
theorem in_r : callT ctx 116 [.ptr 0 0 0] [.box [.d (.list (L.map sgnD)), .d (.int .i64 s.at_), .d (.int .i64 s.deep), .vec 1 0 0 s.vars.length], .vec 8 (s.vars.map vrD)] = (inS L s).el (fun _ s => some (.ret (.tup []), pC2 L s)) (badK L) := by
  have h := now_r (L := L) (s := { s with deep := wr (s.deep + 1) })
  simp only at h
  rw [run116 (by simp)]
  simp [Tryd.f116, h, fail_r, failS, inS, pC2B, badKB]
theorem out_r : callT ctx 118 [.ptr 0 0 0] [.box [.d (.list (L.map sgnD)), .d (.int .i64 s.at_), .d (.int .i64 s.deep), .vec 1 0 0 s.vars.length], .vec 8 (s.vars.map vrD)] = (outS s).el (fun _ s => some (.ret (.tup []), pC2 L s)) (badK L) := by
  rw [run118 (by simp)]
  simp [Tryd.f118, outS, pC2B, badKB]
theorem plain_r : callT ctx 141 [.ptr 0 0 0] [.box [.d (.list (L.map sgnD)), .d (.int .i64 s.at_), .d (.int .i64 s.deep), .vec 1 0 0 s.vars.length], .vec 8 (s.vars.map vrD)] = (plainS L s).el (fun p s => some (.ret (.tup [.d (.int .i64 p.1), .d (.bool p.2)]), pC2 L s)) (badK L) := by
  rw [run141 (by simp)]
  simp [Tryd.f141, may_r hL, plainS, pC2B, badKB]
theorem signed_r : callT ctx 144 [.ptr 0 0 0] [.box [.d (.list (L.map sgnD)), .d (.int .i64 s.at_), .d (.int .i64 s.deep), .vec 1 0 0 s.vars.length], .vec 8 (s.vars.map vrD)] = (signedS L s).el (fun n s => some (.ret (.d (.int .i64 n)), pC2 L s)) (badK L) := by
  rw [run144 (by simp)]
  simp [Tryd.f144, may_r hL, kind_r hL, signedS, pC2B, badKB]
theorem value_r : callT ctx 114 [.ptr 0 0 0] [.box [.d (.list (L.map sgnD)), .d (.int .i64 s.at_), .d (.int .i64 s.deep), .vec 1 0 0 s.vars.length], .vec 8 (s.vars.map vrD)] = (valueS L s).el (fun p s => some (.ret (.tup [.d (.int .i64 p.1), .d (.bool p.2)]), pC2 L s)) (badK L) := by
  rw [run114 (by simp)]
  simp [Tryd.f114, may_r hL, signed_r hL, valueS, pC2B, badKB]
theorem labelled_r : callT ctx 162 [.ptr 0 0 0] [.box [.d (.list (L.map sgnD)), .d (.int .i64 s.at_), .d (.int .i64 s.deep), .vec 1 0 0 s.vars.length], .vec 8 (s.vars.map vrD)] = (labelledS L s).el (fun b s => some (.ret (.d (.bool b)), pC2 L s)) (badK L) := by
  rw [run162 (by simp)]
  simp [Tryd.f162, now_r, is_r, labelledS, pC2B, badKB]
end
end Go.Am
end
section
namespace Go.Am
open Go Go.Proofs
variable [Inhabited Mx2]
set_option maxRecDepth 20000
/-- A block's sheet: its kind, its name, its inputs, its outputs, how many inner cells. -/
structure Sh where
  k : Int
  name : Tx
  ins : Tx
  outs : Tx
  n : Int
def shT : List Sh := [
  ⟨10, [84, 79, 78], [73, 78, 32, 80, 84, 35], [81, 32, 69, 84, 35], 0⟩,
  ⟨11, [84, 79, 70], [73, 78, 32, 80, 84, 35], [81, 32, 69, 84, 35], 0⟩,
  ⟨12, [84, 80], [73, 78, 32, 80, 84, 35], [81, 32, 69, 84, 35], 2⟩,
  ⟨13, [67, 84, 85], [67, 85, 32, 82, 32, 80, 86, 35], [81, 32, 67, 86, 35], 1⟩,
  ⟨14, [67, 84, 68], [67, 68, 32, 76, 68, 32, 80, 86, 35], [81, 32, 67, 86, 35], 1⟩,
  ⟨15, [82, 95, 84, 82, 73, 71], [67, 76, 75], [81], 1⟩,
  ⟨16, [70, 95, 84, 82, 73, 71], [67, 76, 75], [81], 1⟩,
  ⟨17, [83, 82], [83, 49, 32, 82], [81, 49], 0⟩,
  ⟨18, [82, 83], [83, 32, 82, 49], [81, 49], 0⟩,
  ⟨20, [77, 67, 95, 80, 111, 119, 101, 114], [65, 120, 105, 115, 35, 32, 69, 110, 97, 98, 108, 101], [83, 116, 97, 116, 117, 115, 32, 69, 114, 114, 111, 114], 0⟩,
  ⟨21, [77, 67, 95, 72, 111, 109, 101], [65, 120, 105, 115, 35, 32, 69, 120, 101, 99, 117, 116, 101], [68, 111, 110, 101, 32, 66, 117, 115, 121, 32, 65, 99, 116, 105, 118, 101, 32, 67, 111, 109, 109, 97, 110, 100, 65, 98, 111, 114, 116, 101, 100, 32, 69, 114, 114, 111, 114], 2⟩,
  ⟨22, [77, 67, 95, 83, 116, 111, 112], [65, 120, 105, 115, 35, 32, 69, 120, 101, 99, 117, 116, 101], [68, 111, 110, 101, 32, 66, 117, 115, 121, 32, 65, 99, 116, 105, 118, 101, 32, 67, 111, 109, 109, 97, 110, 100, 65, 98, 111, 114, 116, 101, 100, 32, 69, 114, 114, 111, 114], 2⟩,
  ⟨23, [77, 67, 95, 72, 97, 108, 116], [65, 120, 105, 115, 35, 32, 69, 120, 101, 99, 117, 116, 101], [68, 111, 110, 101, 32, 66, 117, 115, 121, 32, 65, 99, 116, 105, 118, 101, 32, 67, 111, 109, 109, 97, 110, 100, 65, 98, 111, 114, 116, 101, 100, 32, 69, 114, 114, 111, 114], 2⟩,
  ⟨24, [77, 67, 95, 77, 111, 118, 101, 65, 98, 115, 111, 108, 117, 116, 101], [65, 120, 105, 115, 35, 32, 69, 120, 101, 99, 117, 116, 101, 32, 80, 111, 115, 105, 116, 105, 111, 110, 35, 32, 86, 101, 108, 111, 99, 105, 116, 121, 35, 32, 66, 117, 102, 102, 101, 114, 77, 111, 100, 101, 35], [68, 111, 110, 101, 32, 66, 117, 115, 121, 32, 65, 99, 116, 105, 118, 101, 32, 67, 111, 109, 109, 97, 110, 100, 65, 98, 111, 114, 116, 101, 100, 32, 69, 114, 114, 111, 114], 2⟩,
  ⟨25, [77, 67, 95, 77, 111, 118, 101, 82, 101, 108, 97, 116, 105, 118, 101], [65, 120, 105, 115, 35, 32, 69, 120, 101, 99, 117, 116, 101, 32, 68, 105, 115, 116, 97, 110, 99, 101, 35, 32, 86, 101, 108, 111, 99, 105, 116, 121, 35, 32, 66, 117, 102, 102, 101, 114, 77, 111, 100, 101, 35], [68, 111, 110, 101, 32, 66, 117, 115, 121, 32, 65, 99, 116, 105, 118, 101, 32, 67, 111, 109, 109, 97, 110, 100, 65, 98, 111, 114, 116, 101, 100, 32, 69, 114, 114, 111, 114], 2⟩,
  ⟨26, [77, 67, 95, 77, 111, 118, 101, 65, 100, 100, 105, 116, 105, 118, 101], [65, 120, 105, 115, 35, 32, 69, 120, 101, 99, 117, 116, 101, 32, 68, 105, 115, 116, 97, 110, 99, 101, 35, 32, 86, 101, 108, 111, 99, 105, 116, 121, 35, 32, 66, 117, 102, 102, 101, 114, 77, 111, 100, 101, 35], [68, 111, 110, 101, 32, 66, 117, 115, 121, 32, 65, 99, 116, 105, 118, 101, 32, 67, 111, 109, 109, 97, 110, 100, 65, 98, 111, 114, 116, 101, 100, 32, 69, 114, 114, 111, 114], 2⟩,
  ⟨27, [77, 67, 95, 77, 111, 118, 101, 86, 101, 108, 111, 99, 105, 116, 121], [65, 120, 105, 115, 35, 32, 69, 120, 101, 99, 117, 116, 101, 32, 86, 101, 108, 111, 99, 105, 116, 121, 35], [73, 110, 86, 101, 108, 111, 99, 105, 116, 121, 32, 66, 117, 115, 121, 32, 65, 99, 116, 105, 118, 101, 32, 67, 111, 109, 109, 97, 110, 100, 65, 98, 111, 114, 116, 101, 100, 32, 69, 114, 114, 111, 114], 2⟩,
  ⟨28, [77, 67, 95, 71, 101, 97, 114, 73, 110], [65, 120, 105, 115, 35, 32, 69, 120, 101, 99, 117, 116, 101, 32, 77, 97, 115, 116, 101, 114, 35, 32, 78, 117, 109, 101, 114, 97, 116, 111, 114, 35, 32, 68, 101, 110, 111, 109, 105, 110, 97, 116, 111, 114, 35], [73, 110, 71, 101, 97, 114, 32, 66, 117, 115, 121, 32, 65, 99, 116, 105, 118, 101, 32, 67, 111, 109, 109, 97, 110, 100, 65, 98, 111, 114, 116, 101, 100, 32, 69, 114, 114, 111, 114], 2⟩,
  ⟨29, [77, 67, 95, 82, 101, 115, 101, 116], [65, 120, 105, 115, 35, 32, 69, 120, 101, 99, 117, 116, 101], [68, 111, 110, 101, 32, 69, 114, 114, 111, 114], 1⟩,
  ⟨30, [77, 67, 95, 83, 101, 116, 80, 111, 115, 105, 116, 105, 111, 110], [65, 120, 105, 115, 35, 32, 69, 120, 101, 99, 117, 116, 101, 32, 80, 111, 115, 105, 116, 105, 111, 110, 35], [68, 111, 110, 101, 32, 69, 114, 114, 111, 114], 1⟩,
  ⟨31, [77, 67, 95, 83, 101, 116, 79, 118, 101, 114, 114, 105, 100, 101], [65, 120, 105, 115, 35, 32, 69, 110, 97, 98, 108, 101, 32, 80, 101, 114, 99, 101, 110, 116, 35], [69, 110, 97, 98, 108, 101, 100], 0⟩]
@[simp] def shD (x : Sh) : D := .agg [.int .i64 x.k, .str x.name, .str x.ins, .str x.outs, .int .i64 x.n]
def idxK (w : Tx) : List Sh → Nat → Int
  | [], _ => -1
  | x :: r, i => if x.name = w then i else idxK w r (i + 1)
theorem idxK_range (w : Tx) : ∀ (l : List Sh) (i : Nat), idxK w l i = -1 ∨ (i ≤ idxK w l i ∧ idxK w l i < i + l.length)
  | [], i => .inl rfl
  | x :: r, i => by
    unfold idxK
    split
    · right; simp; omega
    · rcases idxK_range w r (i + 1) with h | h
      · exact .inl h
      · right; simp only [List.length_cons]; omega
/-- A block's kind by its name; 0: there is none. -/
def kindN (w : Tx) : Int := if idxK w shT 0 < 0 then 0 else (shT.getD (idxK w shT 0).toNat ⟨0, [], [], [], 0⟩).k
theorem sheets_r : callT ctx 159 [] [] = some (.ret (.d (.list (shT.map shD))), []) := callT_of 120 (by kernel_rfl)
theorem kind1_r (x : Sh) (w : Tx) : callT ctx 161 [.d (shD x), .ptr 0 0 0] [.box [.d (.str w)]] = some (.ret (.d (.bool (decide (x.name = w)))), [(0, .box [.d (.str w)])]) := by
  rw [run161 (by simp)]
  simp [Tryd.f161]
theorem kindIdx_loop (w : Tx) : ∀ (rest pre : List Sh), (pre ++ rest).length < 1000 → ∀ k : Kt,
    denK ctx 160 (.loop (Code.at (codeOf Tryd.f160) [1, 0, 1, 0, 0])) ⟨19, gl0, [(0, true, .d (.list ((pre ++ rest).map shD))), (1, true, .fn 161 [.ptr 0 0 0]), (7, true, .d (.int .i64 (pre ++ rest).length)), (8, true, .d (.int .i64 pre.length))], [⟨0, 0, .box [.d (.str w)]⟩]⟩ k =
      if idxK w rest pre.length < 0 then k (.exit 0) ⟨19, gl0, [(0, true, .d (.list ((pre ++ rest).map shD))), (1, true, .fn 161 [.ptr 0 0 0]), (7, true, .d (.int .i64 (pre ++ rest).length)), (8, true, .d (.int .i64 (pre ++ rest).length)), (9, true, .d (.bool false))], [⟨0, 0, .box [.d (.str w)]⟩]⟩
      else k .ret ⟨19, gl0, [(4, true, .d (.int .i64 (idxK w rest pre.length)))], [⟨0, 0, .box [.d (.str w)]⟩]⟩
  | [], pre, hl, k => by
    rw [denK_loop]
    simp [Tryd.f160, idxK]
  | x :: rest, pre, hl, k => by
    have hs := kind1_r x w
    have ih := kindIdx_loop w rest (pre ++ [x]) (by simpa using hl) k
    have h1 : (pre.length : Int) < pre.length + (rest.length + 1) := by omega
    have h2 : IntKind.i64.wrap ((pre.length : Int) + 1) = pre.length + 1 := wrap_id (by unfold I64; simp at hl; omega)
    have h3 : ¬ ((pre.length : Int) < 0) := by omega
    simp at hs
    rw [denK_loop]
    unfold idxK
    by_cases he : x.name = w
    · simp [he] at hs
      simp [Tryd.f160, h1, h2, h3, hs, he]
    · simp [he] at hs
      simp [Tryd.f160] at ih ⊢
      simp [h1, h2, hs, he, ih]
theorem std_kind_r (w : Tx) : callT ctx 143 [.d (.str w)] [] = some (.ret (.d (.int .i64 (kindN w))), []) := by
  have hl := kindIdx_loop w shT [] (by decide)
  have hi : callT ctx 160 [.d (.list (shT.map shD)), .fn 161 [.ptr 0 0 0]] [.box [.d (.str w)]] = some (.ret (.d (.int .i64 (idxK w shT 0))), [(0, .box [.d (.str w)])]) := by
    rw [run160 (by simp)]
    simp [Tryd.f160] at hl ⊢
    simp [hl]
    intro h
    rcases idxK_range w shT 0 with h1 | h1
    · exact h1.symm
    · omega
  have hr := idxK_range w shT 0
  have hlen : shT.length = 21 := rfl
  have hsh := sheets_r
  unfold kindN
  generalize idxK w shT 0 = j at *
  have hget : ∀ (h : j.toNat < shT.length), shT.getD j.toNat ⟨0, [], [], [], 0⟩ = shT[j.toNat] := fun h => by simp [h]
  generalize shT = T at *
  rw [run143 (by simp)]
  by_cases h : j < 0
  · simp [Tryd.f143, hsh, hi, h]
  · have h0 : 0 ≤ j := by omega
    have h1 : j.toNat < T.length := by omega
    simp [hget h1]
    simp [Tryd.f143, hsh, hi, h, h0, h1]
end Go.Am
end
section
namespace Go.Am
open Go Go.Proofs
variable [Inhabited Mx2]
set_option maxRecDepth 20000
section
variable {L : List Sgn} {s : PS}
def idxS (L : List Sgn) : List Tx → Nat → PS → PM Int
  | [], _, s => .ok (-1) s
  | w :: r, i, s => (isS L w s).bind fun b s => if b = true then .ok (i : Int) s else idxS L r (i + 1) s
theorem isS_same {w : Tx} {b : Bool} {s' : PS} (h : isS L w s = .ok b s') : s' = s := by
  unfold isS nowS at h
  cases hl : L[s.at_]? with
  | none => rw [hl] at h; cases h
  | some t => rw [hl] at h; cases h; rfl
theorem any_idx {β : Type} (f : Bool → PS → Option β) (g : Er → PS → Option β) : ∀ (ws : List Tx) (i : Nat) (s : PS), (idxS L ws i s).el (fun n s => f (decide (0 ≤ n)) s) g = (anyS L ws s).el f g
  | [], i, s => by simp [idxS, anyS]
  | w :: r, i, s => by
    unfold idxS anyS
    cases h : isS L w s with
    | out => rfl
    | bad e s => rfl
    | ok b s' =>
      simp only [PR.bind]
      cases b with
      | true => simp
      | false => simpa using any_idx f g r (i + 1) s'
def pM (L : List Sgn) (s : PS) : List Ent := [⟨0, 0, .box [.d (.list (L.map sgnD)), .d (.int .i64 s.at_), .d (.int .i64 s.deep), .vec 1 0 0 s.vars.length]⟩, ⟨1, 0, .vec 8 (s.vars.map vrD)⟩]
theorem idx_loop : ∀ (rest pre : List Tx) (s : PS), (pre ++ rest).length < 1000000 → ∀ k : Kt, (hp : ∀ env e s, k (.panic 67 (fD e)) ⟨19, gl0, env, pM L s⟩ = badK L e s) →
    denK ctx 115 (.loop (Code.at (codeOf Tryd.f115) [1, 0, 1, 0, 0])) ⟨19, gl0, [(0, true, .d (.list ((pre ++ rest).map .str))), (1, true, .fn (83 + 1000000) [.ptr 0 0 0]), (7, true, .d (.int .i64 (pre ++ rest).length)), (8, true, .d (.int .i64 pre.length))], pM L s⟩ k =
      (idxS L rest pre.length s).el (fun n s => if n = -1 then k (.exit 0) ⟨19, gl0, [(0, true, .d (.list ((pre ++ rest).map .str))), (1, true, .fn (83 + 1000000) [.ptr 0 0 0]), (7, true, .d (.int .i64 (pre ++ rest).length)), (8, true, .d (.int .i64 (pre ++ rest).length)), (9, true, .d (.bool false))], pM L s⟩
        else k .ret ⟨19, gl0, [(4, true, .d (.int .i64 n))], pM L s⟩) (badK L)
  | [], pre, s, hl, k, hp => by
    rw [denK_loop]
    simp [Tryd.f115, idxS, pM]
  | w :: rest, pre, s, hl, k, hp => by
    have ih := fun s => idx_loop rest (pre ++ [w]) s (by simpa using hl) k hp
    have h1 : (pre.length : Int) < pre.length + (rest.length + 1) := by omega
    have h2 : IntKind.i64.wrap ((pre.length : Int) + 1) = pre.length + 1 := wrap_id (by unfold I64; simp at hl; omega)
    have h3 : ¬ ((pre.length : Int) = -1) := by omega
    rw [denK_loop]
    unfold idxS
    simp [Tryd.f115, pM, badKB] at ih hp ⊢
    simp [h1, h2, h3, is_r, pC2B, badKB, hp, ih]
theorem idxF_r (ws : List Tx) (hl : ws.length < 1000000) : callT ctx 115 [.d (.list (ws.map .str)), .fn (83 + 1000000) [.ptr 0 0 0]] [.box [.d (.list (L.map sgnD)), .d (.int .i64 s.at_), .d (.int .i64 s.deep), .vec 1 0 0 s.vars.length], .vec 8 (s.vars.map vrD)] = (idxS L ws 0 s).el (fun n s => some (.ret (.d (.int .i64 n)), pC2 L s)) (badK L) := by
  have h := fun k hp => idx_loop (L := L) ws [] s (by simpa using hl) k hp
  rw [run115 (by simp)]
  simp [Tryd.f115, pM, badKB, pC2B] at h ⊢
  rw [h]
  · simp
    congr 1
    funext n s
    split <;> simp_all
  · intro env e s; simp
theorem contains_r (ws : List Tx) (hl : ws.length < 1000000) : callT ctx 82 [.d (.list (ws.map .str)), .fn (83 + 1000000) [.ptr 0 0 0]] [.box [.d (.list (L.map sgnD)), .d (.int .i64 s.at_), .d (.int .i64 s.deep), .vec 1 0 0 s.vars.length], .vec 8 (s.vars.map vrD)] = (anyS L ws s).el (fun b s => some (.ret (.d (.bool b)), pC2 L s)) (badK L) := by
  have h := idxF_r (L := L) (s := s) ws hl
  rw [← any_idx _ _ ws 0 s]
  rw [run82 (by simp)]
  simp at h
  simp [Tryd.f82, h, pC2B, badKB]
end
theorem idxW_loop (w : Tx) : ∀ (rest pre : List Tx), (pre ++ rest).length < 1000 → ∀ k : Kt,
    denK ctx 139 (.loop (Code.at (codeOf Tryd.f139) [1, 0, 1, 0, 0])) ⟨19, gl0, [(0, true, .d (.list ((pre ++ rest).map .str))), (1, true, .d (.str w)), (7, true, .d (.int .i64 (pre ++ rest).length)), (8, true, .d (.int .i64 pre.length))], []⟩ k =
      if idxT w rest pre.length < 0 then k (.exit 0) ⟨19, gl0, [(0, true, .d (.list ((pre ++ rest).map .str))), (1, true, .d (.str w)), (7, true, .d (.int .i64 (pre ++ rest).length)), (8, true, .d (.int .i64 (pre ++ rest).length)), (9, true, .d (.bool false))], []⟩
      else k .ret ⟨19, gl0, [(4, true, .d (.int .i64 (idxT w rest pre.length)))], []⟩
  | [], pre, hl, k => by
    rw [denK_loop]
    simp [Tryd.f139, idxT]
  | x :: rest, pre, hl, k => by
    have ih := idxW_loop w rest (pre ++ [x]) (by simpa using hl) k
    have h1 : (pre.length : Int) < pre.length + (rest.length + 1) := by omega
    have h2 : IntKind.i64.wrap ((pre.length : Int) + 1) = pre.length + 1 := wrap_id (by unfold I64; simp at hl; omega)
    have h3 : ¬ ((pre.length : Int) < 0) := by omega
    rw [denK_loop]
    unfold idxT
    by_cases he : w = x
    · simp [Tryd.f139, h1, h2, h3, he]
    · simp [Tryd.f139] at ih ⊢
      simp [h1, h2, he, ih]
theorem idxT_range (w : Tx) : ∀ (l : List Tx) (i : Nat), idxT w l i = -1 ∨ (i ≤ idxT w l i ∧ idxT w l i < i + l.length)
  | [], i => .inl rfl
  | x :: r, i => by
    unfold idxT
    split
    · right; simp; omega
    · rcases idxT_range w r (i + 1) with h | h
      · exact .inl h
      · right; simp only [List.length_cons]; omega
theorem index_r (w : Tx) (l : List Tx) (hl : l.length < 1000) : callT ctx 139 [.d (.list (l.map .str)), .d (.str w)] [] = some (.ret (.d (.int .i64 (idxT w l 0))), []) := by
  have h := idxW_loop w l [] (by simpa using hl)
  have hr := idxT_range w l 0
  rw [run139 (by simp)]
  simp [Tryd.f139] at h ⊢
  simp [h]
  intro h
  omega
theorem operator_r (w : Tx) : callT ctx 176 [.d (.str w)] [] = some (.ret (.d (.int .i64 (opI w))), []) := by
  have h := index_r w opT (by decide)
  have hr := idxT_range w opT 0
  have hlen : opT.length = 14 := rfl
  have w1 : IntKind.i64.wrap (8 + idxT w opT 0) = 8 + idxT w opT 0 := wrap_id (by unfold I64; omega)
  rw [run176 (by simp)]
  unfold opI
  generalize hj : idxT w opT 0 = j at *
  simp only [opT, List.map_cons, List.map_nil] at h
  have h14 : List.range' 0 14 = [0, 1, 2, 3, 4, 5, 6, 7, 8, 9, 10, 11, 12, 13] := rfl
  simp [Tryd.f176, h14, h, w1]
theorem levels_r : callT ctx 174 [] [] = some (.ret (.d (.list (lvT.map fun l => .list (l.map .str)))), []) := callT_of 40 (by kernel_rfl)
section
variable {L : List Sgn} {s : PS} (hL : L.length < 1000000)
include hL
def kdD (k : Kd) : D := .agg [.int .i64 k.at_.kind, .str k.at_.text, .int .i64 k.at_.n, .int .i64 k.at_.line, .int .i64 k.at_.col, .int .i64 k.kind, .bool k.arr, .int .i64 k.lo, .int .i64 k.hi]
theorem array_r (t : Sgn) : callT ctx 142 [.ptr 0 0 0, .d (.agg [.int .i64 t.kind, .str t.text, .int .i64 t.n, .int .i64 t.line, .int .i64 t.col, .int .i64 0, .bool false, .int .i64 0, .int .i64 0])] [.box [.d (.list (L.map sgnD)), .d (.int .i64 s.at_), .d (.int .i64 s.deep), .vec 1 0 0 s.vars.length], .vec 8 (s.vars.map vrD)] = (arrayS L ⟨t, 0, false, 0, 0⟩ s).el (fun k s => some (.ret (.d (kdD k)), pC2 L s)) (badK L) := by
  rw [run142 (by simp)]
  simp [Tryd.f142, drwK_end, must_r hL, kind_r hL, plain_r hL, now_r, fail_r, failS, arrayS, kdD, pC2B, badKB]
theorem typed_r : callT ctx 113 [.ptr 0 0 0] [.box [.d (.list (L.map sgnD)), .d (.int .i64 s.at_), .d (.int .i64 s.deep), .vec 1 0 0 s.vars.length], .vec 8 (s.vars.map vrD)] = (typedS L kindN s).el (fun k s => some (.ret (.d (kdD k)), pC2 L s)) (badK L) := by
  have ha := fun s t => array_r (L := L) (s := s) hL t
  rw [run113 (by simp)]
  simp [Tryd.f113, drwK_end, may_r hL, kind_r hL, plain_r hL, now_r, std_kind_r, ha, fail_r, failS, typedS, kdD, pC2B, badKB]
end
end Go.Am
end
section
namespace Go.Am
open Go Go.Proofs
variable [Inhabited Mx2]
set_option maxRecDepth 20000
section
variable {L : List Sgn}
theorem vars_loop (kd : Kd) (sec init : Int) (s : PS) (v5 : Nat) (c5 : Cont) : ∀ (rest pre : List Sgn) (v v1 v6 : Nat) (c6 : Cont), s.vars.length + (pre ++ rest).length ≤ 64 → ∀ (k : Kt) (R : Ans)
    (hx : ∀ v1 v6 c6, k (.exit 2) ⟨94, gl0, [(0, true, .ptr 0 0 0), (1, true, .d (.int .i64 sec)), (6, true, .ptr 400 1 0), (7, true, .d (.int .i64 init)), (63, true, .vec 300 v 0 (pre ++ rest).length), (64, true, .d (.int .i64 (pre ++ rest).length)), (65, true, .d (.int .i64 (pre ++ rest).length)), (66, true, .d (.bool false))],
      [⟨0, 0, .box [.d (.list (L.map sgnD)), .d (.int .i64 s.at_), .d (.int .i64 s.deep), .vec 1 v1 0 (s.vars ++ (pre ++ rest).map (vrOf kd sec init)).length]⟩, ⟨1, v1, .vec 8 ((s.vars ++ (pre ++ rest).map (vrOf kd sec init)).map vrD)⟩, ⟨300, v, .vec 5 ((pre ++ rest).map sgnD)⟩, ⟨350, v5, c5⟩, ⟨400, 1, .box [.d (.int .i64 kd.at_.kind), .d (.str kd.at_.text), .d (.int .i64 kd.at_.n), .d (.int .i64 kd.at_.line), .d (.int .i64 kd.at_.col), .d (.int .i64 kd.kind), .d (.bool kd.arr), .d (.int .i64 kd.lo), .d (.int .i64 kd.hi)]⟩, ⟨650, v6, c6⟩]⟩ = R),
    denK ctx 81 (.loop (Code.at (codeOf Tryd.f81) [1, 1, 1, 1, 1, 1, 1, 1, 0, 0])) ⟨94, gl0, [(0, true, .ptr 0 0 0), (1, true, .d (.int .i64 sec)), (6, true, .ptr 400 1 0), (7, true, .d (.int .i64 init)), (63, true, .vec 300 v 0 (pre ++ rest).length), (64, true, .d (.int .i64 (pre ++ rest).length)), (65, true, .d (.int .i64 pre.length))],
      [⟨0, 0, .box [.d (.list (L.map sgnD)), .d (.int .i64 s.at_), .d (.int .i64 s.deep), .vec 1 v1 0 (s.vars ++ pre.map (vrOf kd sec init)).length]⟩, ⟨1, v1, .vec 8 ((s.vars ++ pre.map (vrOf kd sec init)).map vrD)⟩, ⟨300, v, .vec 5 ((pre ++ rest).map sgnD)⟩, ⟨350, v5, c5⟩, ⟨400, 1, .box [.d (.int .i64 kd.at_.kind), .d (.str kd.at_.text), .d (.int .i64 kd.at_.n), .d (.int .i64 kd.at_.line), .d (.int .i64 kd.at_.col), .d (.int .i64 kd.kind), .d (.bool kd.arr), .d (.int .i64 kd.lo), .d (.int .i64 kd.hi)]⟩, ⟨650, v6, c6⟩]⟩ k = R
  | [], pre, v, v1, v6, c6, hl, k, R, hx => by
    simp at hx
    rw [denK_loop]
    simp [Tryd.f81, hx]
  | t :: rest, pre, v, v1, v6, c6, hl, k, R, hx => by
    have ih := fun v1 v6 c6 => vars_loop kd sec init s v5 c5 rest (pre ++ [t]) v v1 v6 c6 (by simpa using hl) k R (fun v1 v6 c6 => by have := hx v1 v6 c6; simp at this; simpa using this)
    have h1 : (pre.length : Int) < pre.length + (rest.length + 1) := by omega
    have h2 : IntKind.i64.wrap ((pre.length : Int) + 1) = pre.length + 1 := wrap_id (by unfold I64; simp at hl; omega)
    have h3 : (s.vars.length + pre.length + 1) * 72 ≤ 140737488355328 ∧ s.vars.length + pre.length + 1 ≤ 4611686018427387904 := by simp at hl; omega
    rw [denK_loop]
    simp [Tryd.f81, vrD, vrC, vrOf, Nat.add_assoc] at ih h3 ⊢
    simp [h1, h2, h3, drwK_end, ih, Nat.add_assoc]
/-- The memory of a line of variables. -/
def dM (L : List Sgn) (s : PS) (v : Nat) (c : Cont) (v2 : Nat) (c2 : Cont) (e4 e6 : Ent) : List Ent :=
  [⟨0, 0, .box [.d (.list (L.map sgnD)), .d (.int .i64 s.at_), .d (.int .i64 s.deep), .vec 1 0 0 s.vars.length]⟩, ⟨1, 0, .vec 8 (s.vars.map vrD)⟩, ⟨300, v, c⟩, ⟨350, v2, c2⟩, e4, e6]
/-- What a call gives that may bring variables. -/
def pC3 (L : List Sgn) (s : PS) : List (Nat × Cont) := [(0, .box [.d (.list (L.map sgnD)), .d (.int .i64 s.at_), .d (.int .i64 s.deep), .vec 1 1 0 s.vars.length]), (1, .vec 8 (s.vars.map vrD))]
def badK1 (L : List Sgn) (e : Er) (s : PS) : Ans := some (.panic 67 (fD e), pC3 L s)
theorem names_loop (hL : L.length < 1000000) (sec : Int) (k : Kt) (R : List Sgn → PS → Ans) (B : Er → PS → Ans)
    (hp : ∀ env e s v c v2 c2, k (.panic 67 (fD e)) ⟨94, gl0, env, dM L s v c v2 c2 ⟨400, 0, .dead⟩ ⟨650, 0, .dead⟩⟩ = B e s)
    (hx : ∀ l s v v2 c2, Le (R l s) (k (.exit 0) ⟨94, gl0, [(0, true, .ptr 0 0 0), (1, true, .d (.int .i64 sec)), (4, true, .vec 300 v 0 l.length), (31, true, .d (.bool true))], dM L s v (.vec 5 (l.map sgnD)) v2 c2 ⟨400, 0, .dead⟩ ⟨650, 0, .dead⟩⟩)) :
    ∀ (f : Nat) (l : List Sgn) (s : PS) (v v2 : Nat) (c2 : Cont) (X : Env), (X = [] ∨ X = [(31, true, .d (.bool false))]) →
    Le ((namesS L f l s).el R B) (denK ctx 81 (.loop (Code.at (codeOf Tryd.f81) [1, 0, 0, 0])) ⟨94, gl0, [(0, true, .ptr 0 0 0), (1, true, .d (.int .i64 sec)), (4, true, .vec 300 v 0 l.length)] ++ X, dM L s v (.vec 5 (l.map sgnD)) v2 c2 ⟨400, 0, .dead⟩ ⟨650, 0, .dead⟩⟩ k)
  | 0, l, s, v, v2, c2, X, hX => Le.none
  | f + 1, l, s, v, v2, c2, X, hX => by
    have ih := fun l s v v2 c2 => names_loop hL sec k R B hp hx f l s v v2 c2 _ (.inr rfl)
    have hk := kind_r (L := L) (s := s) hL 1
    have hm := fun s => may_r (L := L) (s := s) hL [44]
    rw [denK_loop]
    unfold namesS
    cases hks : kindS L 1 s with
    | out => exact Le.none
    | bad e s1 =>
      apply Le.of_eq
      simp [hks, badKB] at hk
      simp [Tryd.f81, dM, badKB] at hp ⊢
      rcases hX with rfl | rfl <;> simp [hk, hp, badKB]
    | ok t s1 =>
      simp only [bind_ok]
      simp [hks, pC2B] at hk
      by_cases h64 : 64 < s1.vars.length + (l.length + 1)
      · by_cases hb : l.length < 100000 ∧ s1.vars.length < 100000
        · apply Le.of_eq
          have h2 : IntKind.i64.wrap ((s1.vars.length : Int) + (l.length + 1)) = s1.vars.length + (l.length + 1) := wrap_id (by unfold I64; omega)
          have h3 : (l.length + 1) * 48 ≤ 140737488355328 ∧ l.length ≤ 4611686018427387903 := by omega
          have h4 : (64 : Int) < s1.vars.length + (l.length + 1) := by omega
          simp [Tryd.f81, dM, badKB] at hp ⊢
          rcases hX with rfl | rfl <;> simp [h64, hb, hk, h2, h3, h4, hp, fail_r, failS, badKB]
        · simp only [if_pos h64, if_neg hb]
          exact Le.none
      · have h2 : IntKind.i64.wrap ((s1.vars.length : Int) + (l.length + 1)) = s1.vars.length + (l.length + 1) := wrap_id (by unfold I64; omega)
        have h3 : (l.length + 1) * 48 ≤ 140737488355328 ∧ l.length ≤ 4611686018427387903 := by omega
        have h4 : ¬ ((64 : Int) < s1.vars.length + (l.length + 1)) := by omega
        simp only [if_neg h64]
        have ih := fun s v v2 c2 => ih (l ++ [t]) s v v2 c2
        have hx := fun s v v2 c2 => hx (l ++ [t]) s v v2 c2
        simp [Tryd.f81, dM, badKB] at hp hx ih hm ⊢
        rcases hX with rfl | rfl <;> simp [hk, h2, h3, h4, hp, hm, pC2B, badKB] <;>
        exact Le.el (fun b s => Le.ite (fun _ => ih _ _ _ _) (fun _ => hx _ _ _ _)) (fun e s => Le.refl _)
theorem declared_le (hL : L.length < 1000000) (f : Nat) (sec : Int) (s : PS) : Le ((declaredS L kindN f sec s).el (fun _ s => some (.ret (.tup []), pC3 L s)) (badK1 L))
    (callT ctx 81 [.ptr 0 0 0, .d (.int .i64 sec)] [.box [.d (.list (L.map sgnD)), .d (.int .i64 s.at_), .d (.int .i64 s.deep), .vec 1 0 0 s.vars.length], .vec 8 (s.vars.map vrD)]) := by
  have hn := fun k R B hp hx v v2 c2 => names_loop hL sec k R B hp hx f [] s v v2 c2 [] (.inl rfl)
  have hv := fun kd init s v5 c5 rest v v6 c6 hl k R hx => vars_loop (L := L) kd sec init s v5 c5 rest [] v 0 v6 c6 hl k R hx
  rw [run81 (by simp)]
  unfold declaredS
  simp only [el_bind]
  simp [Tryd.f81, dM, badKB] at hn hv ⊢
  refine hn _ _ _ ?_ ?_ _ _ _
  · intro env e s v c v2 c2
    simp [badK1, pC3]
  · intro l s v v2 c2
    simp [must_r hL, typed_r hL, may_r hL, value_r hL, fail_r, failS, initS, kdD, pC2B, badKB, pC3, badK1, drwK_end, or_assoc]
    have leaf : ∀ (kd : Kd) (init : Int) (s : PS) (v5 : Nat) (c5 : Cont) (v v6 : Nat) (c6 : Cont), s.vars.length + l.length ≤ 64 → _ := fun kd init s v5 c5 v v6 c6 hl => hv kd init s v5 c5 l v v6 c6 hl
    refine Le.el (fun _ s => Le.el (fun kd s => Le.el (fun b s => Le.ite (fun _ => Le.el (fun p s => Le.ite (fun _ => Le.refl _) fun _ => Le.el (fun _ s => ?_) fun _ _ => Le.refl _) fun _ _ => Le.refl _) (fun _ => Le.el (fun _ s => ?_) fun _ _ => Le.refl _)) fun _ _ => Le.refl _) fun _ _ => Le.refl _) fun _ _ => Le.refl _
    · by_cases hl : s.vars.length + l.length ≤ 64
      · rw [if_pos hl]
        apply Le.of_eq
        symm
        refine leaf kd _ s _ _ _ _ _ hl _ _ ?_
        intro v1 v6 c6
        simp [pC3, badK1]
      · rw [if_neg hl]; exact Le.none
    · by_cases hl : s.vars.length + l.length ≤ 64
      · rw [if_pos hl]
        apply Le.of_eq
        symm
        refine leaf kd _ s _ _ _ _ _ hl _ _ ?_
        intro v1 v6 c6
        simp [pC3, badK1]
      · rw [if_neg hl]; exact Le.none
end
end Go.Am
end
section
namespace Go.Am
open Go Go.Proofs
variable [Inhabited Mx2]
set_option maxRecDepth 20000
def pMv (L : List Sgn) (s : PS) (v : Nat) : List Ent := [⟨0, 0, .box [.d (.list (L.map sgnD)), .d (.int .i64 s.at_), .d (.int .i64 s.deep), .vec 1 v 0 s.vars.length]⟩, ⟨1, v, .vec 8 (s.vars.map vrD)⟩]
section
variable {L : List Sgn}
theorem lines_loop (hL : L.length < 1000000) (sec : Int) (k : Kt) (R : PS → Ans) (B : Er → PS → Ans)
    (hp : ∀ env e s v, k (.panic 67 (fD e)) ⟨18, gl0, env, pMv L s v⟩ = B e s)
    (hx : ∀ s v, Le (R s) (k (.exit 3) ⟨18, gl0, [(0, true, .ptr 0 0 0), (2, true, .d (.int .i64 sec)), (14, true, .d (.bool false))], pMv L s v⟩)) :
    ∀ (f : Nat) (s : PS) (v : Nat) (X : Env), (X = [] ∨ X = [(3, true, .d (.bool true))]) →
    Le ((linesS L kindN sec f s).el (fun _ s => R s) B) (denK ctx 51 (.loop (Code.at (codeOf Tryd.f51) [0, 0, 0, 1, 1, 0, 0])) ⟨18, gl0, [(0, true, .ptr 0 0 0), (2, true, .d (.int .i64 sec))] ++ X, pMv L s v⟩ k)
  | 0, s, v, X, hX => Le.none
  | f + 1, s, v, X, hX => by
    have ih := fun s v => lines_loop hL sec k R B hp hx f s v [] (.inl rfl)
    have hm := may_r (L := L) (s := s) hL [69, 78, 68, 95, 86, 65, 82]
    rw [denK_loop]
    unfold linesS
    cases hms : mayS L [69, 78, 68, 95, 86, 65, 82] s with
    | out => exact Le.none
    | bad e s1 =>
      apply Le.of_eq
      simp [hms, badKB] at hm
      simp [Tryd.f51, pMv] at hp ⊢
      rcases hX with rfl | rfl <;> simp [hm, hp]
    | ok b s1 =>
      simp only [bind_ok]
      simp [hms, pC2B] at hm
      cases b with
      | true =>
        have hx := hx s1
        simp [Tryd.f51, pMv] at hx ⊢
        rcases hX with rfl | rfl <;> simpa [hm] using hx _
      | false =>
        have hd := declared_le hL f sec s1
        simp only [Bool.false_eq_true, if_false]
        cases hds : declaredS L kindN f sec s1 with
        | out => exact Le.none
        | bad e s2 =>
          apply Le.of_eq
          simp only [hds, el_bad, badK1, pC3] at hd
          have hd := hd _ rfl
          simp [Tryd.f51, pMv] at hp hd ⊢
          rcases hX with rfl | rfl <;> simp [hm, hp, hd]
        | ok u s2 =>
          have ih := ih s2
          simp only [hds, el_ok, pC3] at hd
          have hd := hd _ rfl
          simp only [bind_ok]
          simp [Tryd.f51, pMv] at ih hd ⊢
          rcases hX with rfl | rfl <;> simpa [hm, hd] using ih _
theorem sections_loop (hL : L.length < 1000000) (k : Kt) (R : PS → Ans) (B : Er → PS → Ans)
    (hp : ∀ env e s v, k (.panic 67 (fD e)) ⟨18, gl0, env, pMv L s v⟩ = B e s)
    (hx : ∀ env s v, Le (R s) (k .ret ⟨18, gl0, env, pMv L s v⟩)) :
    ∀ (f : Nat) (s : PS) (v : Nat) (X : Env), (X = [] ∨ ∃ sec : Int, X = [(2, true, .d (.int .i64 sec)), (14, true, .d (.bool false))]) →
    Le ((sectionsS L kindN f s).el (fun _ s => R s) B) (denK ctx 51 (.loop (Code.at (codeOf Tryd.f51) [0, 0])) ⟨18, gl0, [(0, true, .ptr 0 0 0)] ++ X, pMv L s v⟩ k)
  | 0, s, v, X, hX => Le.none
  | f + 1, s, v, X, hX => by
    have ih := fun sec s v => sections_loop hL k R B hp hx f s v _ (.inr ⟨sec, rfl⟩)
    have hl := fun sec k R B hp hx s v X hX => lines_loop (L := L) hL sec k R B hp hx f s v X hX
    have hm := fun s w => may_r (L := L) (s := s) hL w
    rw [denK_loop]
    unfold sectionsS sectionS
    simp only [el_bind]
    simp [Tryd.f51, pMv] at hp hl ih hx ⊢
    rcases hX with rfl | ⟨sec, rfl⟩
    all_goals
      simp [hm, hp, pC2B, badKB]
      refine Le.el (fun b s => Le.ite (fun hb => ?_) fun hb => Le.el (fun b s => Le.ite (fun hb => ?_) fun hb => Le.el (fun b s => Le.ite (fun hb => ?_) fun hb => ?_) fun e s => Le.refl _) fun e s => Le.refl _) fun e s => Le.refl _
      · exact (hl 0 _ _ _ (fun env e s v => by simp [hp]) (fun s v => by simpa using ih 0 s v) _ _).2
      · exact (hl 1 _ _ _ (fun env e s v => by simp [hp]) (fun s v => by simpa using ih 1 s v) _ _).1
      · exact (hl 2 _ _ _ (fun env e s v => by simp [hp]) (fun s v => by simpa using ih 2 s v) _ _).1
      · exact hx _ _ _
theorem sections_le (hL : L.length < 1000000) (f : Nat) (s : PS) : Le ((sectionsS L kindN f s).el (fun _ s => some (.ret (.tup []), pC3 L s)) (badK1 L))
    (callT ctx 51 [.ptr 0 0 0] [.box [.d (.list (L.map sgnD)), .d (.int .i64 s.at_), .d (.int .i64 s.deep), .vec 1 0 0 s.vars.length], .vec 8 (s.vars.map vrD)]) := by
  have hl := fun k R B hp hx => sections_loop hL k R B hp hx f s 0 [] (.inl rfl)
  rw [run51 (by simp)]
  simp [Tryd.f51, pMv] at hl ⊢
  refine hl _ (fun s => some (.ret (.tup []), pC3 L s)) _ ?_ ?_
  · intro env e s v
    simp [badK1, pC3]
  · intro env s v
    simp [pC3]
    exact Le.refl _
end
end Go.Am
end
section
namespace Go.Am
open Go
section
variable {ε σ α β : Type}
/-- Less defined. -/
def PR.le (r r' : PR ε σ α) : Prop := r = .out ∨ r = r'
theorem PR.le.refl (r : PR ε σ α) : r.le r := .inr rfl
theorem PR.le.out (r : PR ε σ α) : PR.le .out r := .inl rfl
theorem PR.le.bind {r r' : PR ε σ α} {k k' : α → σ → PR ε σ β} (h : r.le r') (hk : ∀ a s, (k a s).le (k' a s)) : (r.bind k).le (r'.bind k') := by
  rcases h with h | h
  · subst h; exact .inl rfl
  · subst h
    cases r with
    | ok a s => exact hk a s
    | bad e s => exact .inr rfl
    | out => exact .inl rfl
theorem PR.le.ite {c : Prop} [Decidable c] {a b a' b' : PR ε σ α} (h : a.le a') (h' : b.le b') : (if c then a else b).le (if c then a' else b') := by
  split
  · exact h
  · exact h'
theorem PR.le.el {r r' : PR ε σ α} {γ : Type} {f : α → σ → Option γ} {g : ε → σ → Option γ} (h : r.le r') : Le (r.el f g) (r'.el f g) := by
  rcases h with h | h
  · subst h; exact Le.none
  · subst h; exact Le.refl _
end
section
variable (L : List Sgn)
structure MonE (f g : Nat) : Prop where
  level : ∀ n s, (levelS L f n s).le (levelS L g n s)
  loop : ∀ n x s, (levelL L f n x s).le (levelL L g n x s)
  unary : ∀ s, (unaryS L f s).le (unaryS L g s)
  unop : ∀ op t s, (unopS L f op t s).le (unopS L g op t s)
  expr : ∀ s, (exprS L f s).le (exprS L g s)
  index : ∀ s, (indexS L f s).le (indexS L g s)
  factor : ∀ s, (factorS L f s).le (factorS L g s)
theorem monE : ∀ f g, f ≤ g → MonE L f g
  | 0, g, _ => by
    refine ⟨?_, ?_, ?_, ?_, ?_, ?_, ?_⟩ <;> intros
    · unfold levelS; exact PR.le.out _
    · unfold levelL; exact PR.le.out _
    · unfold unaryS; exact PR.le.out _
    · unfold unopS; exact PR.le.out _
    · unfold exprS; exact PR.le.out _
    · unfold indexS; exact PR.le.out _
    · unfold factorS; exact PR.le.out _
  | f + 1, 0, h => by omega
  | f + 1, g + 1, h => by
    have ih := monE f g (by omega)
    have i1 := ih.level
    have i2 := ih.loop
    have i3 := ih.unary
    have i4 := ih.unop
    have i5 := ih.expr
    have i6 := ih.index
    have i7 := ih.factor
    refine ⟨?_, ?_, ?_, ?_, ?_, ?_, ?_⟩ <;> intros
    · unfold levelS
      repeat' with_reducible (first | exact i1 _ _ | exact i2 _ _ _ | exact i3 _ | exact i4 _ _ _ | exact i5 _ | exact i6 _ | exact i7 _ | exact PR.le.refl _ | refine PR.le.bind ?_ (fun _ _ => ?_) | refine PR.le.ite ?_ ?_)
    · unfold levelL
      repeat' with_reducible (first | exact i1 _ _ | exact i2 _ _ _ | exact i3 _ | exact i4 _ _ _ | exact i5 _ | exact i6 _ | exact i7 _ | exact PR.le.refl _ | refine PR.le.bind ?_ (fun _ _ => ?_) | refine PR.le.ite ?_ ?_)
    · unfold unaryS
      repeat' with_reducible (first | exact i1 _ _ | exact i2 _ _ _ | exact i3 _ | exact i4 _ _ _ | exact i5 _ | exact i6 _ | exact i7 _ | exact PR.le.refl _ | refine PR.le.bind ?_ (fun _ _ => ?_) | refine PR.le.ite ?_ ?_)
    · unfold unopS
      repeat' with_reducible (first | exact i1 _ _ | exact i2 _ _ _ | exact i3 _ | exact i4 _ _ _ | exact i5 _ | exact i6 _ | exact i7 _ | exact PR.le.refl _ | refine PR.le.bind ?_ (fun _ _ => ?_) | refine PR.le.ite ?_ ?_)
    · unfold exprS
      repeat' with_reducible (first | exact i1 _ _ | exact i2 _ _ _ | exact i3 _ | exact i4 _ _ _ | exact i5 _ | exact i6 _ | exact i7 _ | exact PR.le.refl _ | refine PR.le.bind ?_ (fun _ _ => ?_) | refine PR.le.ite ?_ ?_)
    · unfold indexS
      repeat' with_reducible (first | exact i1 _ _ | exact i2 _ _ _ | exact i3 _ | exact i4 _ _ _ | exact i5 _ | exact i6 _ | exact i7 _ | exact PR.le.refl _ | refine PR.le.bind ?_ (fun _ _ => ?_) | refine PR.le.ite ?_ ?_)
    · unfold factorS
      repeat' with_reducible (first | exact i1 _ _ | exact i2 _ _ _ | exact i3 _ | exact i4 _ _ _ | exact i5 _ | exact i6 _ | exact i7 _ | exact PR.le.refl _ | refine PR.le.bind ?_ (fun _ _ => ?_) | refine PR.le.ite ?_ ?_)
structure MonS (f g : Nat) : Prop where
  block : ∀ w s, (blockS L f w s).le (blockS L g w s)
  blockL : ∀ w l s, (blockL L f w l s).le (blockL L g w l s)
  stmt : ∀ s, (stmtS L f s).le (stmtS L g s)
  opn : ∀ s, (openS L f s).le (openS L g s)
  branches : ∀ s, (branchesS L f s).le (branchesS L g s)
  branchesL : ∀ c l s, (branchesL L f c l s).le (branchesL L g c l s)
  cases : ∀ s, (casesS L f s).le (casesS L g s)
  casesL : ∀ v c l s, (casesL L f v c l s).le (casesL L g v c l s)
  caseL : ∀ l s, (caseL L f l s).le (caseL L g l s)
  counted : ∀ s, (countedS L f s).le (countedS L g s)
  call : ∀ n s, (callS L f n s).le (callS L g n s)
  callL : ∀ n c l s, (callL L f n c l s).le (callL L g n c l s)
theorem monLabels : ∀ f g l s, f ≤ g → (labelsS L f l s).le (labelsS L g l s)
  | 0, g, l, s, _ => by unfold labelsS; exact PR.le.out _
  | f + 1, 0, l, s, h => by omega
  | f + 1, g + 1, l, s, h => by
    have ih := fun l s => monLabels f g l s (by omega)
    unfold labelsS
    repeat' with_reducible (first | exact ih _ _ | exact PR.le.refl _ | refine PR.le.bind ?_ (fun _ _ => ?_) | refine PR.le.ite ?_ ?_)
theorem monS : ∀ f g, f ≤ g → MonS L f g
  | 0, g, _ => by
    refine ⟨?_, ?_, ?_, ?_, ?_, ?_, ?_, ?_, ?_, ?_, ?_, ?_⟩ <;> intros
    · unfold blockS; exact PR.le.out _
    · unfold Go.Am.blockL; exact PR.le.out _
    · unfold stmtS; exact PR.le.out _
    · unfold openS; exact PR.le.out _
    · unfold branchesS; exact PR.le.out _
    · unfold Go.Am.branchesL; exact PR.le.out _
    · unfold casesS; exact PR.le.out _
    · unfold Go.Am.casesL; exact PR.le.out _
    · unfold Go.Am.caseL; exact PR.le.out _
    · unfold countedS; exact PR.le.out _
    · unfold callS; exact PR.le.out _
    · unfold Go.Am.callL; exact PR.le.out _
  | f + 1, 0, h => by omega
  | f + 1, g + 1, h => by
    have ih := monS f g (by omega)
    have ihE := monE L f g (by omega)
    have i5 := ihE.expr
    have i6 := ihE.index
    have j0 := fun l s => monLabels L f g l s (by omega)
    have j1 := ih.block
    have j2 := ih.blockL
    have j3 := ih.stmt
    have j4 := ih.opn
    have j5 := ih.branches
    have j6 := ih.branchesL
    have j7 := ih.cases
    have j8 := ih.casesL
    have j9 := ih.caseL
    have j10 := ih.counted
    have j11 := ih.call
    have j12 := ih.callL
    refine ⟨?_, ?_, ?_, ?_, ?_, ?_, ?_, ?_, ?_, ?_, ?_, ?_⟩ <;> intros
    · unfold blockS; repeat' with_reducible (first | exact j2 _ _ _ | exact PR.le.refl _ | refine PR.le.bind ?_ (fun _ _ => ?_) | refine PR.le.ite ?_ ?_)
    · unfold Go.Am.blockL; repeat' with_reducible (first | exact j2 _ _ _ | exact j3 _ | exact PR.le.refl _ | refine PR.le.bind ?_ (fun _ _ => ?_) | refine PR.le.ite ?_ ?_)
    · unfold stmtS; repeat' with_reducible (first | exact j4 _ | exact PR.le.refl _ | refine PR.le.bind ?_ (fun _ _ => ?_) | refine PR.le.ite ?_ ?_)
    · unfold openS; repeat' with_reducible (first | exact i5 _ | exact i6 _ | exact j1 _ _ | exact j5 _ | exact j7 _ | exact j10 _ | exact j11 _ _ | exact PR.le.refl _ | refine PR.le.bind ?_ (fun _ _ => ?_) | refine PR.le.ite ?_ ?_)
    · unfold branchesS; repeat' with_reducible (first | exact j6 _ _ _ | exact PR.le.refl _ | refine PR.le.bind ?_ (fun _ _ => ?_) | refine PR.le.ite ?_ ?_)
    · unfold Go.Am.branchesL; repeat' with_reducible (first | exact i5 _ | exact j1 _ _ | exact j6 _ _ _ | exact PR.le.refl _ | refine PR.le.bind ?_ (fun _ _ => ?_) | refine PR.le.ite ?_ ?_)
    · unfold casesS; repeat' with_reducible (first | exact i5 _ | exact j8 _ _ _ _ | exact PR.le.refl _ | refine PR.le.bind ?_ (fun _ _ => ?_) | refine PR.le.ite ?_ ?_)
    · unfold Go.Am.casesL; repeat' with_reducible (first | exact j0 _ _ | exact j1 _ _ | exact j9 _ _ | exact j8 _ _ _ _ | exact PR.le.refl _ | refine PR.le.bind ?_ (fun _ _ => ?_) | refine PR.le.ite ?_ ?_)
    · unfold Go.Am.caseL; repeat' with_reducible (first | exact j3 _ | exact j9 _ _ | exact PR.le.refl _ | refine PR.le.bind ?_ (fun _ _ => ?_) | refine PR.le.ite ?_ ?_)
    · unfold countedS; repeat' with_reducible (first | exact i5 _ | exact j1 _ _ | exact PR.le.refl _ | refine PR.le.bind ?_ (fun _ _ => ?_) | refine PR.le.ite ?_ ?_)
    · unfold callS; repeat' with_reducible (first | exact j12 _ _ _ _ | exact PR.le.refl _ | refine PR.le.bind ?_ (fun _ _ => ?_) | refine PR.le.ite ?_ ?_)
    · unfold Go.Am.callL; repeat' with_reducible (first | exact i5 _ | exact j12 _ _ _ _ | exact PR.le.refl _ | refine PR.le.bind ?_ (fun _ _ => ?_) | refine PR.le.ite ?_ ?_)
end
end Go.Am
end
section
namespace Go.Am
open Go Go.Proofs
variable [Inhabited Mx2]
set_option maxRecDepth 20000
theorem range02 : List.range' 0 2 = [0, 1] := rfl
def outsL : List Nat := [79, 83, 80, 77, 49, 50, 116, 118, 162, 163, 144, 82, 176, 174]
/-- What the calls of the expressions' functions give. -/
structure FamE (L : List Sgn) (cl : CallFn) (f : Nat) : Prop where
  le : ∀ g a c r, cl g a c = some r → callT ctx g a c = some r
  out : ∀ g, outsL.contains g = true → cl g = callT ctx g
  level : ∀ n s, cl 164 [.ptr 0 0 0, .d (.int .i64 (n : Nat))] (pC L s) = (levelS L f n s).el (fun x s => some (.ret (.d (exD x)), pC2 L s)) (badK L)
  unary : ∀ s, cl 175 [.ptr 0 0 0] (pC L s) = (unaryS L f s).el (fun x s => some (.ret (.d (exD x)), pC2 L s)) (badK L)
  factor : ∀ s, cl 181 [.ptr 0 0 0] (pC L s) = (factorS L f s).el (fun x s => some (.ret (.d (exD x)), pC2 L s)) (badK L)
  index : ∀ s, cl 150 [.ptr 0 0 0] (pC L s) = (indexS L f s).el (fun x s => some (.ret (.d (exD x)), pC2 L s)) (badK L)
  expr : ∀ s, cl 148 [.ptr 0 0 0] (pC L s) = (exprS L f s).el (fun x s => some (.ret (.d (exD x)), pC2 L s)) (badK L)
def unopW (L : List Sgn) (f : Nat) (op : Int) (t : Sgn) (s : PS) : PM Ex := (inS L s).bind fun _ s => (takeS L s).bind fun _ s => (unaryS L f s).bind fun x s => (outS s).bind fun _ s => .ok (exSub op [] [x] t.line) s
def unaryW (L : List Sgn) (f : Nat) (s : PS) : PM Ex := (nowS L s).bind fun t s => (isS L [45] s).bind fun b s =>
    if b = true then unopW L f 6 t s else (isS L [78, 79, 84] s).bind fun b s => if b = true then unopW L f 7 t s else factorS L f s
theorem unop_le (L : List Sgn) (op : Int) (t : Sgn) (s : PS) : ∀ f, (unopS L f op t s).le (unopW L f op t s)
  | 0 => by unfold unopS; exact PR.le.out _
  | f + 1 => by
    have h := (monE L f (f + 1) (by omega)).unary
    unfold unopS unopW
    exact PR.le.bind (PR.le.refl _) fun _ _ => PR.le.bind (PR.le.refl _) fun _ _ => PR.le.bind (h _) fun _ _ => PR.le.refl _
theorem unary_le (L : List Sgn) (f : Nat) (s : PS) : (unaryS L (f + 1) s).le (unaryW L f s) := by
  unfold unaryS unaryW
  exact PR.le.bind (PR.le.refl _) fun _ _ => PR.le.bind (PR.le.refl _) fun _ _ => PR.le.ite (unop_le ..) (PR.le.bind (PR.le.refl _) fun _ _ => PR.le.ite (unop_le ..) (PR.le.refl _))
section
variable {L : List Sgn} {s : PS} {cl : CallFn} {f : Nat} (hL : L.length < 1000000) (F : FamE L cl f)
include hL F
theorem expr_f : Le ((exprS L (f + 1) s).el (fun x s => some (.ret (.d (exD x)), pC2 L s)) (badK L)) (callT ctx 148 [.ptr 0 0 0] (pC L s)) := by
  have h := F.level 0
  simp only [pCB, pC2B, badKB] at h
  refine Le.trans (Le.of_eq ?_) (ov148 F.le (by simp [pC]))
  unfold exprS
  simp at h
  simp [Tryd.f148, drwK_end, exD_A, pCB, pC2B, badKB, h]
theorem index_f : Le ((indexS L (f + 1) s).el (fun x s => some (.ret (.d (exD x)), pC2 L s)) (badK L)) (callT ctx 150 [.ptr 0 0 0] (pC L s)) := by
  have h := F.expr
  have e1 := F.out 116 (by decide)
  have e2 := F.out 49 (by decide)
  have e3 := F.out 118 (by decide)
  simp only [pCB, pC2B, badKB] at h
  refine Le.trans (Le.of_eq ?_) (ov150 F.le (by simp [pC]))
  unfold indexS
  simp [Tryd.f150, drwK_end, exD_A, pCB, pC2B, badKB, h, e1, e2, e3, in_r hL, must_r hL, out_r hL]
theorem unary_f : Le ((unaryS L (f + 1) s).el (fun x s => some (.ret (.d (exD x)), pC2 L s)) (badK L)) (callT ctx 175 [.ptr 0 0 0] (pC L s)) := by
  have h := F.factor
  have h' := F.unary
  have e1 := F.out 116 (by decide)
  have e2 := F.out 79 (by decide)
  have e3 := F.out 118 (by decide)
  have e4 := F.out 83 (by decide)
  have e5 := F.out 80 (by decide)
  simp only [pCB, pC2B, badKB] at h h'
  refine Le.trans (unary_le L f s).el (Le.trans (Le.of_eq ?_) (ov175 F.le (by simp [pC])))
  unfold unaryW unopW
  simp [Tryd.f175, drwK_end, exD_A, pCB, pC2B, badKB, h, h', e1, e2, e3, e4, e5, in_r hL, is_r, now_r, take_r hL, out_r hL, exSub]
theorem factor_f : Le ((factorS L (f + 1) s).el (fun x s => some (.ret (.d (exD x)), pC2 L s)) (badK L)) (callT ctx 181 [.ptr 0 0 0] (pC L s)) := by
  have h := F.expr
  have h' := F.index
  have e1 := F.out 116 (by decide)
  have e2 := F.out 79 (by decide)
  have e3 := F.out 118 (by decide)
  have e4 := F.out 83 (by decide)
  have e5 := F.out 80 (by decide)
  have e6 := F.out 77 (by decide)
  have e7 := F.out 49 (by decide)
  have e8 := F.out 50 (by decide)
  simp only [pCB, pC2B, badKB] at h h'
  refine Le.trans (Le.of_eq ?_) (ov181 F.le (by simp [pC]))
  unfold factorS
  simp [Tryd.f181, drwK_end, exD_A, pCB, pC2B, badKB, h, h', e1, e2, e3, e4, e5, e6, e7, e8, in_r hL, is_r, now_r, take_r hL, out_r hL, may_r hL, must_r hL, kind_r hL, exSub, exVar]
end
end Go.Am
end

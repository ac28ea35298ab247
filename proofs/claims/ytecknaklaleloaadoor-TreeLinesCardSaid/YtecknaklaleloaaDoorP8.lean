/-
  Texts of one proof, one behind the other.
-/
import Derived.Test.YtecknaklaleloaaDoorP7
set_option linter.all false
section
namespace Go.Am
open Go Go.Proofs
variable [Inhabited Mx2]
set_option maxRecDepth 20000
def caseE (L : List Sgn) (f : Nat) (v : Ex) (c : List (List Int)) (l : List (List Sm)) (s : PS) : PM Sm :=
  (mayS L [69, 76, 83, 69] s).bind fun m s => (if m = true then (blockS L f [[69, 78, 68, 95, 67, 65, 83, 69]] s).bind fun z s => .ok (l ++ [z]) s else .ok l s).bind fun l s => (mustS L [69, 78, 68, 95, 67, 65, 83, 69] s).bind fun _ s => .ok (.mk 3 [] ex0 v [] c [] l 0) s
def casesW (L : List Sgn) (f j : Nat) (v : Ex) (c : List (List Int)) (l : List (List Sm)) (s : PS) : PM Sm :=
  (labelledS L s).bind fun b s =>
    if b = true then (labelsS L f [] s).bind fun x s => (caseL L f [] s).bind fun b s => if c.length < 100000 ∧ l.length < 100000 then casesL L j v (c ++ [x]) (l ++ [b]) s else .out
    else caseE L f v c l s
theorem casesL_le {L : List Sgn} {f j : Nat} (hj : j ≤ f) (v : Ex) (c : List (List Int)) (l : List (List Sm)) (s : PS) : (casesL L (j + 1) v c l s).le (casesW L f j v c l s) := by
  have h1 := (monS L j f hj).caseL
  have h2 := (monS L j f hj).block
  have h3 := fun l s => monLabels L j f l s hj
  unfold casesL casesW caseE
  by_cases hl : l.length < 100000
  · simp only [if_pos hl]
    repeat' with_reducible (first | exact h1 _ _ | exact h2 _ _ | exact h3 _ _ | exact PR.le.refl _ | refine PR.le.bind ?_ (fun _ _ => ?_) | refine PR.le.ite ?_ ?_)
  · simp only [if_neg hl]
    refine PR.le.bind (PR.le.refl _) fun b s => PR.le.ite (PR.le.bind (h3 _ _) fun x s => PR.le.bind (h1 _ _) fun b s => PR.le.ite (PR.le.refl _) (PR.le.refl _)) (PR.le.bind (PR.le.refl _) fun m s => PR.le.bind (PR.le.ite ?_ (PR.le.refl _)) fun _ _ => PR.le.refl _)
    cases hb : blockS L j [[69, 78, 68, 95, 67, 65, 83, 69]] s with
    | ok a s => exact PR.le.out _
    | out => exact PR.le.out _
    | bad e s1 =>
      rcases h2 [[69, 78, 68, 95, 67, 65, 83, 69]] s with h | h
      · rw [hb] at h; cases h
      · rw [← h, hb]; exact PR.le.refl _
def caseW (L : List Sgn) (f j : Nat) (l : List Sm) (s : PS) : PM (List Sm) := (endCaseS L s).bind fun b s => if b = true then .ok l s else (stmtS L f s).bind fun x s => if l.length < 100000 then caseL L j (l ++ [x]) s else .out
theorem caseL_le {L : List Sgn} {f j : Nat} (hj : j ≤ f) (l : List Sm) (s : PS) : (caseL L (j + 1) l s).le (caseW L f j l s) := by
  have h1 := (monS L j f hj).stmt
  unfold caseL caseW
  exact PR.le.bind (PR.le.refl _) fun _ _ => PR.le.ite (PR.le.refl _) (PR.le.bind (h1 _) fun _ _ => PR.le.refl _)
section
variable {L : List Sgn} {s : PS} {cl : CallFn} {f : Nat} (hL : L.length < 1000000) (F : FamS L cl f)
def csM (L : List Sgn) (s : PS) (x : Ex) (c : List (List Int)) (l : List (List Sm)) (v1 v2 v3 : Nat) (c3 : Cont) : List Ent := pM L s ++ [⟨200, 1, bxS0⟩, ⟨250, 1, .box [.d (.int .i64 3), .d (.str []), .d (.int .i64 0), .d (.int .i64 0), .d (.str []), .d (.str []), .lit (.slice none 0 0), .d (.int .i64 0), .d (.int .i64 (exo x)), .d (.int .i64 (exn x)), .d (.str (exa x)), .d (.str (exf x)), .d (.list ((exs x).map exD)), .d (.int .i64 (exl x)), .lit (.slice none 0 0), .vec 251 v1 0 c.length, .lit (.slice none 0 0), .vec 252 v2 0 l.length, .d (.int .i64 0)]⟩, ⟨251, v1, .vec 1 (c.map lbD)⟩, ⟨252, v2, .vec 1 (l.map bkD)⟩, ⟨300, v3, c3⟩]
theorem endCase_bind {β : Type} (k : Bool → PS → PM β) (s : PS) : (endCaseS L s).bind k = (labelledS L s).bind fun b s => if b = true then k true s else (isS L [69, 76, 83, 69] s).bind fun b s => if b = true then k true s else (isS L [69, 78, 68, 95, 67, 65, 83, 69] s).bind k := by
  unfold endCaseS
  cases labelledS L s with
  | out => rfl
  | bad e s => rfl
  | ok b s =>
    simp only [bind_ok]
    cases b with
    | true => rfl
    | false =>
      simp only [Bool.false_eq_true, if_false]
      cases isS L [69, 76, 83, 69] s with
      | out => rfl
      | bad e s => rfl
      | ok b s => cases b <;> rfl
include hL F
theorem case_loop (x : Ex) (c : List (List Int)) (l0 : List (List Sm)) (v1 v2 : Nat) (k : Kt) (R : List Sm → PS → Ans) (B : Er → PS → Ans)
    (hp : ∀ env e s r, k (.panic 67 (fD e)) ⟨56, gl0, env, pM L s ++ r⟩ = B e s)
    (hx : ∀ l s v, l.length ≤ 100000 → Le (R l s) (k (.exit 2) ⟨56, gl0, [(0, true, .ptr 0 0 0), (2, true, .ptr 200 1 0), (3, true, .ptr 250 1 0), (4, true, .d (.list (l.map smD))), (31, true, .d (.bool false))], csM L s x c l0 v1 v2 v .dead⟩)) :
    ∀ (j : Nat), j ≤ f → ∀ (l : List Sm) (s : PS) (v : Nat), l.length ≤ 100000 →
    Le ((caseL L j l s).el R B) (denK (ctx.over cl) 146 (.loop (Code.at (codeOf Tryd.f146) [1, 1, 1, 0, 0, 0, 1, 0, 1, 1, 0, 0, 0])) ⟨56, gl0, [(0, true, .ptr 0 0 0), (2, true, .ptr 200 1 0), (3, true, .ptr 250 1 0), (4, true, .vec 300 v 0 l.length)], csM L s x c l0 v1 v2 v (.vec 19 (l.map smD))⟩ k)
  | 0, hj, l, s, v, hl => by unfold caseL; exact Le.none
  | j + 1, hj, l, s, v, hl => by
    have ih := fun y s v h => case_loop x c l0 v1 v2 k R B hp hx j (by omega) (l ++ [y]) s v h
    have e1 := F.E.out 162 (by decide)
    have e2 := F.E.out 83 (by decide)
    have h1 := F.stmt
    simp only [pCB, pC2B, badKB] at h1
    refine Le.trans (caseL_le (f := f) (show j ≤ f by omega) l s).el ?_
    unfold caseW
    rw [endCase_bind]
    rw [denK_loop]
    simp only [el_bind]
    have h3 : (l.length + 1) * 288 ≤ 140737488355328 ∧ l.length ≤ 4611686018427387903 := by omega
    have hx := fun s v => hx l s v hl
    by_cases hlen : l.length < 100000
    · have ih := fun y s v => ih y s v (by simp; omega)
      simp [Tryd.f146, pM, csM, bxS0, exD_A, smD_A] at hp ih hx ⊢
      simp [labelled_r hL, is_r, hp, hlen, h1, h3, e1, e2, pC2B, badKB, drwK_end, range02, exD_A, smD_A]
      refine Le.el (fun b s => Le.ite (fun hb => hx _ _) fun hb => Le.el (fun b s => Le.ite (fun hb => hx _ _) fun hb => Le.el (fun b s => Le.ite (fun hb => hx _ _) fun hb => Le.el (fun y s => ?_) fun _ _ => Le.refl _) fun _ _ => Le.refl _) fun _ _ => Le.refl _) fun _ _ => Le.refl _
      exact ih _ _ _
    · simp only [if_neg hlen]
      simp [Tryd.f146, pM, csM, bxS0, exD_A, smD_A] at hp hx ⊢
      simp [labelled_r hL, is_r, hp, h1, h3, e1, e2, pC2B, badKB, drwK_end, range02, exD_A, smD_A]
      refine Le.el (fun b s => Le.ite (fun hb => hx _ _) fun hb => Le.el (fun b s => Le.ite (fun hb => hx _ _) fun hb => Le.el (fun b s => Le.ite (fun hb => hx _ _) fun hb => Le.el (fun y s => ?_) fun _ _ => Le.refl _) fun _ _ => Le.refl _) fun _ _ => Le.refl _) fun _ _ => Le.refl _
      exact Le.none
theorem cases_loop (x : Ex) (k : Kt) (R : Sm → PS → Ans) (B : Er → PS → Ans)
    (hp : ∀ env e s r, k (.panic 67 (fD e)) ⟨56, gl0, env, pM L s ++ r⟩ = B e s)
    (hx : ∀ c l s v1 v2 v3 c3, c.length ≤ 100000 → l.length ≤ 100000 → Le ((caseE L f x c l s).el R B) (k (.exit 0) ⟨56, gl0, [(0, true, .ptr 0 0 0), (2, true, .ptr 200 1 0), (3, true, .ptr 250 1 0), (11, true, .d (.bool false))], csM L s x c l v1 v2 v3 c3⟩)) :
    ∀ (j : Nat), j ≤ f → ∀ (c : List (List Int)) (l : List (List Sm)) (s : PS) (v1 v2 v3 : Nat) (c3 : Cont), c.length ≤ 100000 → l.length ≤ 100000 →
    Le ((casesL L j x c l s).el R B) (denK (ctx.over cl) 146 (.loop (Code.at (codeOf Tryd.f146) [1, 1, 1, 0, 0, 0])) ⟨56, gl0, [(0, true, .ptr 0 0 0), (2, true, .ptr 200 1 0), (3, true, .ptr 250 1 0)], csM L s x c l v1 v2 v3 c3⟩ k)
  | 0, hj, c, l, s, v1, v2, v3, c3, hc, hl => by unfold casesL; exact Le.none
  | j + 1, hj, c, l, s, v1, v2, v3, c3, hc, hl => by
    have ih := fun y b s v1 v2 v3 c3 h1 h2 => cases_loop x k R B hp hx j (by omega) (c ++ [y]) (l ++ [b]) s v1 v2 v3 c3 h1 h2
    have hcl := fun y v1 v2 k R B hp hx s v => case_loop hL F x (c ++ [y]) l v1 v2 k R B hp hx f (Nat.le_refl f) [] s v (by simp)
    have e1 := F.E.out 162 (by decide)
    have e2 := F.E.out 163 (by decide)
    refine Le.trans (casesL_le (f := f) (show j ≤ f by omega) x c l s).el ?_
    unfold casesW
    rw [denK_loop]
    have h3 : (c.length + 1) * 24 ≤ 140737488355328 ∧ c.length ≤ 4611686018427387903 := by omega
    have h4 : (l.length + 1) * 24 ≤ 140737488355328 ∧ l.length ≤ 4611686018427387903 := by omega
    have hlr := labelled_r (L := L) (s := s) hL
    cases hls : labelledS L s with
    | out => exact Le.none
    | bad e s1 =>
      apply Le.of_eq
      simp [hls, badKB] at hlr
      simp [Tryd.f146, pM, csM, bxS0] at hp ⊢
      simp [hlr, hp, e1]
    | ok b s1 =>
      simp only [bind_ok]
      simp [hls, pC2B] at hlr
      cases b with
      | false =>
        have hx := hx c l s1 v1 v2 v3 c3 hc hl
        simp [Tryd.f146, pM, csM, bxS0] at hx ⊢
        simpa [hlr, e1] using hx
      | true =>
        have hlb := labels_le hL f s1
        simp only [if_true]
        cases hbs : labelsS L f [] s1 with
        | out => exact Le.none
        | bad e s2 =>
          apply Le.of_eq
          simp only [hbs, el_bad, pCB, badKB] at hlb
          have hlb := hlb _ rfl
          simp [Tryd.f146, pM, csM, bxS0] at hp ⊢
          simp [hlr, hlb, hp, e1, e2, drwK_end, range02]
        | ok y s2 =>
          simp only [hbs, el_ok, pCB, pC2B] at hlb
          have hlb := hlb _ rfl
          have ih := ih y
          simp only [bind_ok, el_bind]
          simp [Tryd.f146, pM, csM, bxS0, bkD] at hp ih hcl ⊢
          simp [hlr, hlb, e1, e2, drwK_end, range02, h3, h4]
          refine hcl _ _ _ _ _ _ ?_ ?_ _ _
          · intro env e s r
            simp [hp]
          · intro b s v hb
            by_cases hlen : c.length < 100000 ∧ l.length < 100000
            · have ih := fun s v1 v2 v3 c3 => ih b s v1 v2 v3 c3 (by omega) (by omega)
              simp [hlen, h4, drwK_end, bkD]
              simpa using ih _ _ _ _ _
            · rw [if_neg hlen]; exact Le.none
theorem cases_f : Le ((casesS L (f + 1) s).el (fun x s => some (.ret (.d (smD x)), pC2 L s)) (badK L)) (callT ctx 146 [.ptr 0 0 0] (pC L s)) := by
  have hl := fun x k R B hp hx s v1 v2 v3 c3 => cases_loop hL F x k R B hp hx f (Nat.le_refl f) [] [] s v1 v2 v3 c3 (by simp) (by simp)
  have e1 := F.E.out 77 (by decide)
  have e2 := F.E.out 49 (by decide)
  have h1 := F.E.expr
  have h2 := fun s => F.block [[69, 78, 68, 95, 67, 65, 83, 69]] s (by decide)
  simp only [pCB, pC2B, badKB] at h1 h2
  refine Le.trans ?_ (ov146 F.E.le (by simp [pC]))
  unfold casesS
  simp only [el_bind]
  simp at h2
  simp [Tryd.f146, pM, csM, bxS0] at hl ⊢
  simp [pCB, pC2B, badKB, drwK_end, range02, must_r hL, e2, h1, exD_A]
  refine Le.el (fun x s => Le.el (fun _ s => ?_) fun _ _ => Le.refl _) fun _ _ => Le.refl _
  refine hl _ _ _ _ ?_ ?_ _ _ _ _ _
  · intro env e s r
    simp
  · intro c l s v1 v2 v3 c3 hc hl
    have h3 : (l.length + 1) * 24 ≤ 140737488355328 ∧ l.length ≤ 4611686018427387903 := by omega
    apply Le.of_eq
    simp [caseE, may_r hL, must_r hL, e1, e2, h2, h3, pC2B, badKB, drwK_end, range02, smD_A, ex0, bkD]
end
end Go.Am
end
section
namespace Go.Am
open Go Go.Proofs
variable [Inhabited Mx2]
set_option maxRecDepth 20000
def retE (L : List Sgn) (x : Ex) (s : PS) : Ans := some (.ret (.d (exD x)), pC2 L s)
def retS (L : List Sgn) (x : Sm) (s : PS) : Ans := some (.ret (.d (smD x)), pC2 L s)
def retB (L : List Sgn) (l : List Sm) (s : PS) : Ans := some (.ret (.d (.list (l.map smD))), pC2 L s)
inductive TA where
  | level (n : Nat) (s : PS)
  | unary (s : PS)
  | factor (s : PS)
  | index (s : PS)
  | expr (s : PS)
  | block (ws : List Tx) (s : PS)
  | stmt (s : PS)
  | opn (s : PS)
  | branches (s : PS)
  | cases (s : PS)
  | counted (s : PS)
  | call (nm : Tx) (s : PS)
def TA.fid : TA → FuncId
  | .level .. => 164
  | .unary .. => 175
  | .factor .. => 181
  | .index .. => 150
  | .expr .. => 148
  | .block .. => 52
  | .stmt .. => 84
  | .opn .. => 117
  | .branches .. => 145
  | .cases .. => 146
  | .counted .. => 147
  | .call .. => 149
def TA.args : TA → List AV
  | .level n _ => [.ptr 0 0 0, .d (.int .i64 n)]
  | .block ws _ => [.ptr 0 0 0, .d (.list (ws.map .str))]
  | .call nm _ => [.ptr 0 0 0, .d (.str nm)]
  | _ => [.ptr 0 0 0]
def TA.st : TA → PS
  | .level _ s => s
  | .unary s => s
  | .factor s => s
  | .index s => s
  | .expr s => s
  | .block _ s => s
  | .stmt s => s
  | .opn s => s
  | .branches s => s
  | .cases s => s
  | .counted s => s
  | .call _ s => s
def TA.ans (L : List Sgn) (f : Nat) : TA → Ans
  | .level n s => (levelS L f n s).el (retE L) (badK L)
  | .unary s => (unaryS L f s).el (retE L) (badK L)
  | .factor s => (factorS L f s).el (retE L) (badK L)
  | .index s => (indexS L f s).el (retE L) (badK L)
  | .expr s => (exprS L f s).el (retE L) (badK L)
  | .block ws s => if ws.length < 1000 then (blockS L f ws s).el (retB L) (badK L) else none
  | .stmt s => (stmtS L f s).el (retS L) (badK L)
  | .opn s => (openS L f s).el (retS L) (badK L)
  | .branches s => (branchesS L f s).el (retS L) (badK L)
  | .cases s => (casesS L f s).el (retS L) (badK L)
  | .counted s => (countedS L f s).el (retS L) (badK L)
  | .call nm s => (callS L f nm s).el (retS L) (badK L)
theorem vrDs_inj : ∀ {l l' : List Vr}, l.map vrD = l'.map vrD → l = l'
  | [], [], _ => rfl
  | [], _ :: _, h => by simp at h
  | _ :: _, [], h => by simp at h
  | a :: l, b :: l', h => by
    simp only [List.map_cons, List.cons.injEq] at h
    rw [vrD_inj h.1, vrDs_inj h.2]
theorem strs_inj : ∀ {l l' : List Tx}, l.map D.str = l'.map D.str → l = l'
  | [], [], _ => rfl
  | [], _ :: _, h => by simp at h
  | _ :: _, [], h => by simp at h
  | a :: l, b :: l', h => by
    simp only [List.map_cons, List.cons.injEq, D.str.injEq] at h
    rw [h.1, strs_inj h.2]
theorem pC_inj {L : List Sgn} {s s' : PS} (h : pC L s = pC L s') : s = s' := by
  simp only [pC, pB, List.cons.injEq, Cont.box.injEq, Cont.vec.injEq, AV.d.injEq, D.int.injEq, true_and, and_true] at h
  obtain ⟨⟨h1, h2, _⟩, h3⟩ := h
  cases s; cases s'
  simp only at h1 h2 h3
  have h3 := vrDs_inj h3
  have h1 := Int.ofNat.inj h1
  subst h1 h2 h3
  rfl
theorem ans_inj {L : List Sgn} : ∀ (t t' : TA), t.fid = t'.fid → t.args = t'.args → t.st = t'.st → t = t'
  | t, t', h1, h2, h3 => by
    cases t <;> cases t' <;> simp [TA.fid] at h1 <;> simp only [TA.st] at h3 <;> subst h3 <;> try rfl
    · simp only [TA.args, List.cons.injEq, AV.d.injEq, D.int.injEq, true_and, and_true] at h2
      obtain rfl := Int.ofNat.inj h2; rfl
    · simp only [TA.args, List.cons.injEq, AV.d.injEq, D.list.injEq, true_and, and_true] at h2
      rw [strs_inj h2]
    · simp [TA.args] at h2
      subst h2; rfl
theorem parser_le {L : List Sgn} (hL : L.length < 1000000) (f : Nat) (t : TA) : Le (t.ans L f) (callT ctx t.fid t.args (pC L t.st)) := by
  intro r hr
  refine recur (X := ctx) TA.fid TA.args (fun t => pC L t.st) (fun f t => t.ans L f) ?_ ?_ ?_ f t r hr
  · intro t
    cases t <;> simp [TA.ans, levelS, unaryS, factorS, indexS, exprS, blockS, stmtS, openS, branchesS, casesS, countedS, callS]
  · intro t t' h1 h2 h3 f
    rw [ans_inj (L := L) t t' h1 h2 (pC_inj h3)]
  · intro f cl h1 h2 h3 t r hr
    have E : FamE L cl f := by
      refine ⟨h1, ?_, fun n s => h2 (.level n s), fun s => h2 (.unary s), fun s => h2 (.factor s), fun s => h2 (.index s), fun s => h2 (.expr s)⟩
      intro g hg
      funext a c
      refine h3 g (fun t => ?_) a c
      intro he
      subst he
      revert hg
      cases t <;> simp only [TA.fid] <;> decide
    have F : FamS L cl f := by
      refine ⟨E, fun ws s hw => ?_, fun s => h2 (.stmt s), fun s => h2 (.opn s), fun s => h2 (.branches s), fun s => h2 (.cases s), fun s => h2 (.counted s), fun nm s => h2 (.call nm s)⟩
      have := h2 (.block ws s)
      simp only [TA.ans, if_pos hw] at this
      exact this
    cases t with
    | level n s => exact level_f hL E n r hr
    | unary s => exact unary_f hL E r hr
    | factor s => exact factor_f hL E r hr
    | index s => exact index_f hL E r hr
    | expr s => exact expr_f hL E r hr
    | block ws s =>
      by_cases hw : ws.length < 1000
      · simp only [TA.ans, if_pos hw] at hr
        exact block_f hL F ws hw r hr
      · simp only [TA.ans, if_neg hw] at hr
        cases hr
    | stmt s => exact stmt_f hL F r hr
    | opn s => exact open_f hL F r hr
    | branches s => exact branches_f hL F r hr
    | cases s => exact cases_f hL F r hr
    | counted s => exact counted_f hL F r hr
    | call nm s => exact call_f hL F nm r hr
end Go.Am
end
section
namespace Go.Am
open Go
section
variable {L : List Sgn} (hL : OkL L)
include hL
structure AllS (L : List Sgn) (f : Nat) : Prop where
  block : ∀ (ws : List Tx) (s : PS), Iv L s → 20 * (L.length - s.at_) + 19 ≤ f → Tr (blockS L f ws s) fun _ s' => Fw L s s'
  loop : ∀ (ws : List Tx) (l : List Sm) (s : PS), Iv L s → l.length ≤ s.at_ → 20 * (L.length - s.at_) + 18 ≤ f → Tr (blockL L f ws l s) fun _ s' => Fw L s s'
  stmt : ∀ s : PS, Iv L s → 20 * (L.length - s.at_) + 17 ≤ f → Tr (stmtS L f s) fun _ s' => Fs L s s'
  opn : ∀ s : PS, Iv L s → 20 * (L.length - s.at_) + 16 ≤ f → Tr (openS L f s) fun _ s' => Fs L s s'
  branches : ∀ s : PS, Iv L s → 20 * (L.length - s.at_) + 15 ≤ f → Tr (branchesS L f s) fun _ s' => Fs L s s'
  branchesL : ∀ (c : List Ex) (l : List (List Sm)) (s : PS), Iv L s → c.length ≤ s.at_ → l.length ≤ s.at_ → 20 * (L.length - s.at_) + 14 ≤ f → Tr (branchesL L f c l s) fun _ s' => Fs L s s'
  cases : ∀ s : PS, Iv L s → 20 * (L.length - s.at_) + 15 ≤ f → Tr (casesS L f s) fun _ s' => Fs L s s'
  casesL : ∀ (v : Ex) (c : List (List Int)) (l : List (List Sm)) (s : PS), Iv L s → c.length ≤ s.at_ → l.length ≤ s.at_ → 20 * (L.length - s.at_) + 14 ≤ f → Tr (casesL L f v c l s) fun _ s' => Fs L s s'
  caseL : ∀ (l : List Sm) (s : PS), Iv L s → l.length ≤ s.at_ → 20 * (L.length - s.at_) + 18 ≤ f → Tr (caseL L f l s) fun _ s' => Fw L s s'
  counted : ∀ s : PS, Iv L s → 20 * (L.length - s.at_) + 15 ≤ f → Tr (countedS L f s) fun _ s' => Fs L s s'
  call : ∀ (nm : Tx) (s : PS), Iv L s → 20 * (L.length - s.at_) + 15 ≤ f → Tr (callS L f nm s) fun _ s' => Fs L s s'
  callL : ∀ (nm : Tx) (c : List Tx) (l : List Ex) (s : PS), Iv L s → c.length ≤ s.at_ → l.length ≤ s.at_ → 20 * (L.length - s.at_) + 14 ≤ f → Tr (callL L f nm c l s) fun _ s' => Fs L s s'
theorem allS : ∀ f, AllS L f
  | 0 => ⟨fun _ s h hf => by have := h.at_; omega, fun _ _ s h _ hf => by have := h.at_; omega, fun s h hf => by have := h.at_; omega, fun s h hf => by have := h.at_; omega, fun s h hf => by have := h.at_; omega,
      fun _ _ s h _ _ hf => by have := h.at_; omega, fun s h hf => by have := h.at_; omega, fun _ _ _ s h _ _ hf => by have := h.at_; omega, fun _ s h _ hf => by have := h.at_; omega, fun s h hf => by have := h.at_; omega,
      fun _ s h hf => by have := h.at_; omega, fun _ _ _ s h _ _ hf => by have := h.at_; omega⟩
  | f + 1 => by
    have ih := allS f
    have ihE := allE hL f
    have hlen := hL.len
    refine ⟨?_, ?_, ?_, ?_, ?_, ?_, ?_, ?_, ?_, ?_, ?_, ?_⟩
    · intro ws s h hf
      unfold blockS
      exact ih.loop ws [] s h (by simp) (by omega)
    · intro ws l s h hl hf
      unfold blockL
      have := h.at_
      refine (any_tr hL h _).bind fun b s1 ⟨e, h1⟩ => ?_
      subst e
      refine Tr.iff (fun hb => .refl h) fun hb => (ih.stmt s1 h (by omega)).bind fun x s2 h2 => ?_
      have := h2.lt
      have := h2.iv.at_
      rw [if_pos (by omega)]
      exact (ih.loop ws _ s2 h2.iv (by simp; omega) (by omega)).mono fun _ s3 h3 => h2.toFw.trans h3
    · intro s h hf
      unfold stmtS
      refine (now_tr hL h).bind fun t s1 ⟨e, k1⟩ => ?_
      subst e
      refine (in_tr hL h).bind fun _ s1 h1 => ?_
      have := h1.at_
      refine (ih.opn s1 h1.iv (by omega)).bind fun x s2 h2 => (must_tr hL h2.iv).bind fun _ s3 ⟨h3, _⟩ => ?_
      exact up_tr hL h h1 (h2.toFw.trans h3.toFw) fun s' h4 h5 => ⟨h4, by have := h2.lt; have := h3.lt; omega⟩
    · intro s h hf
      unfold openS
      have := h.at_
      refine (may_tr hL h).bind fun b s1 ⟨h1, h1'⟩ => Tr.iff (fun hb => ?_) fun hb => ?_
      · have h1 := (h1 hb).1
        have := h1.lt
        have := h1.iv.at_
        exact (ih.branches s1 h1.iv (by omega)).mono fun _ s2 h2 => h1.trans h2.toFw
      have := h1' (by simpa using hb); subst this
      refine (may_tr hL h).bind fun b s1 ⟨h1, h1'⟩ => Tr.iff (fun hb => ?_) fun hb => ?_
      · have h1 := (h1 hb).1
        have := h1.lt
        have := h1.iv.at_
        exact (ih.cases s1 h1.iv (by omega)).mono fun _ s2 h2 => h1.trans h2.toFw
      have := h1' (by simpa using hb); subst this
      refine (may_tr hL h).bind fun b s1 ⟨h1, h1'⟩ => Tr.iff (fun hb => ?_) fun hb => ?_
      · have h1 := (h1 hb).1
        have := h1.lt
        have := h1.iv.at_
        exact (ih.counted s1 h1.iv (by omega)).mono fun _ s2 h2 => h1.trans h2.toFw
      have := h1' (by simpa using hb); subst this
      refine (may_tr hL h).bind fun b s1 ⟨h1, h1'⟩ => Tr.iff (fun hb => ?_) fun hb => ?_
      · have h1 := (h1 hb).1
        have := h1.lt
        have := h1.iv.at_
        refine (ihE.expr s1 h1.iv (by omega)).bind fun v s2 h2 => (must_tr hL h2.iv).bind fun _ s3 ⟨h3, _⟩ => ?_
        have := h2.lt
        have := h3.lt
        have := h3.iv.at_
        refine (ih.block _ s3 h3.iv (by omega)).bind fun l s4 h4 => (must_tr hL h4.iv).bind fun _ s5 ⟨h5, _⟩ => ?_
        exact h1.trans (h2.toFw.trans (h3.toFw.trans (h4.trans h5.toFw)))
      have := h1' (by simpa using hb); subst this
      refine (may_tr hL h).bind fun b s1 ⟨h1, h1'⟩ => Tr.iff (fun hb => ?_) fun hb => ?_
      · have h1 := (h1 hb).1
        have := h1.lt
        have := h1.iv.at_
        refine (ih.block _ s1 h1.iv (by omega)).bind fun l s2 h2 => (must_tr hL h2.iv).bind fun _ s3 ⟨h3, _⟩ => ?_
        have := h2.at_
        have := h3.lt
        have := h3.iv.at_
        refine (ihE.expr s3 h3.iv (by omega)).bind fun v s4 h4 => (must_tr hL h4.iv).bind fun _ s5 ⟨h5, _⟩ => ?_
        exact h1.trans (h2.trans (h3.toFw.trans (h4.toFw.trans h5.toFw)))
      have := h1' (by simpa using hb); subst this
      refine (may_tr hL h).bind fun b s1 ⟨h1, h1'⟩ => Tr.iff (fun hb => (h1 hb).1) fun hb => ?_
      have := h1' (by simpa using hb); subst this
      refine (may_tr hL h).bind fun b s1 ⟨h1, h1'⟩ => Tr.iff (fun hb => (h1 hb).1) fun hb => ?_
      have := h1' (by simpa using hb); subst this
      refine (kind_trS hL (by decide) h).bind fun nm s2 ⟨h2, _⟩ => ?_
      have := h2.lt
      have := h2.iv.at_
      refine (may_tr hL h2.iv).bind fun b s3 ⟨h3, h3'⟩ => Tr.iff (fun hb => ?_) fun hb => ?_
      · have h3 := (h3 hb).1
        have := h3.lt
        have := h3.iv.at_
        exact (ih.call nm.text s3 h3.iv (by omega)).mono fun _ s4 h4 => h2.trans (h3.toFw.trans h4.toFw)
      have := h3' (by simpa using hb); subst this
      refine (is_tr hL h2.iv).bind fun b s4 ⟨e, _⟩ => ?_
      subst e
      have hto : Tr (if b = true then (indexS L f s4).bind fun x s => .ok (exSub 4 nm.text [x] nm.line) s else .ok (exVar nm) s4) fun _ s' => Fw L s4 s' :=
        Tr.iff (fun hb => (ihE.index s4 h2.iv (by omega)).bind fun x s5 h5 => h5.toFw) fun hb => Fw.refl h2.iv
      refine hto.bind fun to s5 h5 => (must_tr hL h5.iv).bind fun _ s6 ⟨h6, _⟩ => ?_
      have := h5.at_
      have := h6.lt
      have := h6.iv.at_
      exact (ihE.expr s6 h6.iv (by omega)).bind fun v s7 h7 => h2.trans (h5.trans (h6.toFw.trans h7.toFw))
    · intro s h hf
      unfold branchesS
      exact ih.branchesL [] [] s h (by simp) (by simp) (by omega)
    · intro c l s h hc hl hf
      unfold branchesL
      have := h.at_
      refine (ihE.expr s h (by omega)).bind fun x s1 h1 => (must_tr hL h1.iv).bind fun _ s2 ⟨h2, _⟩ => ?_
      have := h1.lt
      have := h2.lt
      have := h2.iv.at_
      refine (ih.block _ s2 h2.iv (by omega)).bind fun b s3 h3 => ?_
      have := h3.at_
      have := h3.iv.at_
      rw [if_pos (by omega)]
      refine (may_tr hL h3.iv).bind fun m s4 ⟨h4, h4'⟩ => Tr.iff (fun hb => ?_) fun hb => ?_
      · have h4 := (h4 hb).1
        have := h4.lt
        have := h4.iv.at_
        exact (ih.branchesL _ _ s4 h4.iv (by simp; omega) (by simp; omega) (by omega)).mono fun _ s5 h5 => h1.trans (h2.toFw.trans (h3.trans (h4.toFw.trans h5.toFw)))
      have := h4' (by simpa using hb); subst this
      refine (may_tr hL h3.iv).bind fun m s5 ⟨h5, h5'⟩ => ?_
      have hto : Tr (if m = true then (blockS L f [[69, 78, 68, 95, 73, 70]] s5).bind fun z s => .ok (l ++ [b] ++ [z]) s else .ok (l ++ [b]) s5) fun _ s' => Fw L s4 s' := by
        refine Tr.iff (fun hb => ?_) fun hb => ?_
        · have h5 := (h5 hb).1
          have := h5.lt
          have := h5.iv.at_
          exact (ih.block _ s5 h5.iv (by omega)).bind fun x s6 h6 => h5.toFw.trans h6
        · have := h5' (by simpa using hb); subst this
          exact Fw.refl h3.iv
      refine hto.bind fun l2 s6 h6 => (must_tr hL h6.iv).bind fun _ s7 ⟨h7, _⟩ => ?_
      exact h1.trans (h2.toFw.trans (h3.trans (h6.trans h7.toFw)))
    · intro s h hf
      unfold casesS
      have := h.at_
      refine (ihE.expr s h (by omega)).bind fun v s1 h1 => (must_tr hL h1.iv).bind fun _ s2 ⟨h2, _⟩ => ?_
      have := h1.lt
      have := h2.lt
      have := h2.iv.at_
      exact (ih.casesL v [] [] s2 h2.iv (by simp) (by simp) (by omega)).mono fun _ s3 h3 => h1.trans (h2.toFw.trans h3.toFw)
    · intro v c l s h hc hl hf
      unfold casesL
      have := h.at_
      refine (labelled_tr hL h).bind fun b s1 e => ?_
      subst e
      refine Tr.iff (fun hb => ?_) fun hb => ?_
      · refine (labels_tr hL f [] s1 h (by omega) (by simp)).bind fun x s2 h2 => ?_
        have := h2.lt
        have := h2.iv.at_
        refine (ih.caseL [] s2 h2.iv (by simp) (by omega)).bind fun b s3 h3 => ?_
        have := h3.at_
        have := h3.iv.at_
        rw [if_pos (by omega)]
        exact (ih.casesL v _ _ s3 h3.iv (by simp; omega) (by simp; omega) (by omega)).mono fun _ s4 h4 => h2.trans (h3.trans h4.toFw)
      refine (may_tr hL h).bind fun m s2 ⟨h2, h2'⟩ => ?_
      have hto : Tr (if m = true then (blockS L f [[69, 78, 68, 95, 67, 65, 83, 69]] s2).bind fun z s => if l.length < 100000 then .ok (l ++ [z]) s else .out else .ok l s2) fun _ s' => Fw L s1 s' := by
        refine Tr.iff (fun hb => ?_) fun hb => ?_
        · have h2 := (h2 hb).1
          have := h2.lt
          have := h2.iv.at_
          exact (ih.block _ s2 h2.iv (by omega)).bind fun x s3 h3 => by rw [if_pos (by omega)]; exact h2.toFw.trans h3
        · have := h2' (by simpa using hb); subst this
          exact Fw.refl h
      exact hto.bind fun l2 s3 h3 => (must_tr hL h3.iv).bind fun _ s4 ⟨h4, _⟩ => h3.transS h4
    · intro l s h hl hf
      unfold caseL
      have := h.at_
      refine (endCase_tr hL h).bind fun b s1 e => ?_
      subst e
      refine Tr.iff (fun hb => .refl h) fun hb => (ih.stmt s1 h (by omega)).bind fun x s2 h2 => ?_
      have := h2.lt
      have := h2.iv.at_
      rw [if_pos (by omega)]
      exact (ih.caseL _ s2 h2.iv (by simp; omega) (by omega)).mono fun _ s3 h3 => h2.toFw.trans h3
    · intro s h hf
      unfold countedS
      refine (kind_trS hL (by decide) h).bind fun nm s1 ⟨h1, _⟩ => (must_tr hL h1.iv).bind fun _ s2 ⟨h2, _⟩ => ?_
      have := h.at_
      have := h1.lt
      have := h2.lt
      have := h2.iv.at_
      refine (ihE.expr s2 h2.iv (by omega)).bind fun a s3 h3 => (must_tr hL h3.iv).bind fun _ s4 ⟨h4, _⟩ => ?_
      have := h3.lt
      have := h4.lt
      have := h4.iv.at_
      refine (ihE.expr s4 h4.iv (by omega)).bind fun b s5 h5 => (now_tr hL h5.iv).bind fun t s6 ⟨e, _⟩ => ?_
      subst e
      have := h5.lt
      have := h5.iv.at_
      refine (may_tr hL h5.iv).bind fun m s7 ⟨h7, h7'⟩ => ?_
      have hto : Tr (if m = true then exprS L f s7 else .ok (.mk 1 1 [] [] [] t.line) s7) fun _ s' => Fw L s6 s' := by
        refine Tr.iff (fun hb => ?_) fun hb => ?_
        · have h7 := (h7 hb).1
          have := h7.lt
          have := h7.iv.at_
          exact (ihE.expr s7 h7.iv (by omega)).mono fun _ s8 h8 => h7.toFw.trans h8.toFw
        · have := h7' (by simpa using hb); subst this
          exact Fw.refl h5.iv
      refine hto.bind fun c s8 h8 => (must_tr hL h8.iv).bind fun _ s9 ⟨h9, _⟩ => ?_
      have := h8.at_
      have := h9.lt
      have := h9.iv.at_
      refine (ih.block _ s9 h9.iv (by omega)).bind fun l s10 h10 => (must_tr hL h10.iv).bind fun _ s11 ⟨h11, _⟩ => ?_
      exact h1.trans (h2.toFw.trans (h3.toFw.trans (h4.toFw.trans (h5.toFw.trans (h8.trans (h9.toFw.trans (h10.trans h11.toFw)))))))
    · intro nm s h hf
      unfold callS
      refine (may_tr hL h).bind fun b s1 ⟨h1, h1'⟩ => Tr.iff (fun hb => (h1 hb).1) fun hb => ?_
      have := h1' (by simpa using hb); subst this
      exact ih.callL nm [] [] s1 h (by simp) (by simp) (by omega)
    · intro nm c l s h hc hl hf
      unfold callL
      have := h.at_
      refine (kind_trS hL (by decide) h).bind fun t s1 ⟨h1, _⟩ => (must_tr hL h1.iv).bind fun _ s2 ⟨h2, _⟩ => ?_
      have := h1.lt
      have := h2.lt
      have := h2.iv.at_
      refine (ihE.expr s2 h2.iv (by omega)).bind fun x s3 h3 => ?_
      have := h3.lt
      have := h3.iv.at_
      rw [if_pos (by omega)]
      refine (may_tr hL h3.iv).bind fun b s4 ⟨h4, h4'⟩ => Tr.iff (fun hb => ?_) fun hb => ?_
      · have h4 := (h4 hb).1
        have := h4.lt
        have := h4.iv.at_
        exact (ih.callL nm _ _ s4 h4.iv (by simp; omega) (by simp; omega) (by omega)).mono fun _ s5 h5 => h1.trans (h2.toFw.trans (h3.toFw.trans (h4.toFw.trans h5.toFw)))
      · have := h4' (by simpa using hb); subst this
        exact (must_tr hL h3.iv).bind fun _ s5 ⟨h5, _⟩ => h1.trans (h2.toFw.trans (h3.toFw.trans h5.toFw))
theorem program_tr {kindN : Tx → Int} {f : Nat} {s : PS} (h : Iv L s) (hf : 20 * (L.length - s.at_) + 19 ≤ f) : Tr (programS L kindN f s) fun p s' => p.vars.length ≤ 64 ∧ ∃ (i : Nat) (t : Sgn), L[i]? = some t ∧ isW t [69, 78, 68, 95, 80, 82, 79, 71, 82, 65, 77] = true := by
  unfold programS
  have := h.at_
  refine (must_tr hL h).bind fun _ s1 ⟨h1, _⟩ => (kind_trS hL (by decide) h1.iv).bind fun nm s2 ⟨h2, _⟩ => ?_
  have := h1.lt
  have := h2.lt
  have := h2.iv.at_
  refine (sections_tr hL f s2 h2.iv (by omega)).bind fun _ s3 h3 => ?_
  have := h3.at_
  have := h3.iv.at_
  refine ((allS hL f).block _ s3 h3.iv (by omega)).bind fun l s4 h4 => (must_tr hL h4.iv).bind fun _ s5 ⟨h5, t, k5, k5'⟩ => (kind_tr hL h5.iv).bind fun _ s6 ⟨h6, _⟩ => ?_
  exact ⟨h6.iv.vs, _, t, k5, k5'⟩
end
end Go.Am
end
section
namespace Go.Am
open Go Go.Proofs
variable [Inhabited Mx2]
set_option maxRecDepth 20000
theorem Tr.of_ok {α : Type} {r : PM α} {Q : α → PS → Prop} (h : Tr r Q) {a : α} {s : PS} (e : r = .ok a s) : Q a s := by subst e; exact h
section
variable {L : List Sgn} {s : PS} (hL : L.length < 1000000)
include hL
theorem program_le (hOk : OkL L) (hI : Iv L s) (f : Nat) (hf : 20 * (L.length - s.at_) + 19 ≤ f) : Le ((programS L kindN f s).el (fun p s => some (.ret (.agg [.d (.str p.name), .vec 1 1 0 s.vars.length, .d (.list (p.body.map smD))]), pC3 L s)) (badK1 L)) (callT ctx 25 [.ptr 0 0 0] (pC L s)) := by
  rw [run25 (by simp [pC])]
  unfold programS
  have m1 := must_r (L := L) (s := s) hL [80, 82, 79, 71, 82, 65, 77]
  cases h1 : mustS L [80, 82, 79, 71, 82, 65, 77] s with
  | out => exact Le.none
  | bad e s1 =>
    apply Le.of_eq
    simp [h1, badKB] at m1
    simp [Tryd.f25, pCB, badK1, pC3, m1]
  | ok u s1 =>
    simp [h1, pC2B] at m1
    have m2 := kind_r (L := L) (s := s1) hL 1
    have i1 := ((must_tr hOk hI).of_ok h1).1
    have := i1.lt
    have := i1.iv.at_
    simp only [bind_ok]
    cases h2 : kindS L 1 s1 with
    | out => exact Le.none
    | bad e s2 =>
      apply Le.of_eq
      simp [h2, badKB] at m2
      simp [Tryd.f25, pCB, badK1, pC3, m1, m2]
    | ok nm s2 =>
      simp [h2, pC2B] at m2
      have m3 := sections_le (L := L) hL f s2
      have i2 := ((kind_trS hOk (by decide) i1.iv).of_ok h2).1
      have := i2.lt
      have := i2.iv.at_
      simp only [bind_ok]
      cases h3 : sectionsS L kindN f s2 with
      | out => exact Le.none
      | bad e s3 =>
        apply Le.of_eq
        simp only [h3, el_bad, badK1, pC3] at m3
        have m3 := m3 _ rfl
        simp [Tryd.f25, pCB, badK1, pC3, m1, m2, m3]
      | ok u s3 =>
        simp only [h3, el_ok, pC3] at m3
        have m3 := m3 _ rfl
        have i3 := (sections_tr hOk f s2 i2.iv (by omega)).of_ok h3
        have := i3.at_
        have m4 := parser_le (L := L) hL f (.block [[69, 78, 68, 95, 80, 82, 79, 71, 82, 65, 77]] s3)
        simp only [bind_ok]
        simp only [TA.ans, TA.fid, TA.args, TA.st, pCB, retB, pC2B, badKB] at m4
        rw [if_pos (by decide)] at m4
        cases h4 : blockS L f [[69, 78, 68, 95, 80, 82, 79, 71, 82, 65, 77]] s3 with
        | out => exact Le.none
        | bad e s4 =>
          apply Le.of_eq
          simp only [h4, el_bad] at m4
          have m4 := m4 _ rfl
          simp at m4
          simp [Tryd.f25, pCB, badK1, pC3, m1, m2, m3, m4]
        | ok l s4 =>
          simp only [h4, el_ok] at m4
          have m4 := m4 _ rfl
          simp at m4
          have i4 := ((allS hOk f).block _ s3 i3.iv (by omega)).of_ok h4
          have m5 := must_r (L := L) (s := s4) hL [69, 78, 68, 95, 80, 82, 79, 71, 82, 65, 77]
          simp only [bind_ok]
          apply Le.of_eq
          cases h5 : mustS L [69, 78, 68, 95, 80, 82, 79, 71, 82, 65, 77] s4 with
          | out => have := must_tr (w := [69, 78, 68, 95, 80, 82, 79, 71, 82, 65, 77]) hOk i4.iv; rw [h5] at this; exact this.elim
          | bad e s5 =>
            simp [h5, badKB] at m5
            simp [Tryd.f25, pCB, badK1, pC2B, pC3, m1, m2, m3, m4, m5]
          | ok u s5 =>
            have i5 := ((must_tr hOk i4.iv).of_ok h5).1
            simp [h5, pC2B] at m5
            have m6 := kind_r (L := L) (s := s5) hL 0
            simp only [bind_ok]
            cases h6 : kindS L 0 s5 with
            | out => have := kind_tr (k := 0) hOk i5.iv; rw [h6] at this; exact this.elim
            | bad e s6 =>
              simp [h6, badKB] at m6
              simp [Tryd.f25, pCB, badK1, pC2B, pC3, m1, m2, m3, m4, m5, m6]
            | ok u s6 =>
              have i6 := ((kind_tr hOk i5.iv).of_ok h6).1
              have hv : s6.vars = s3.vars := by rw [i6.vars, i5.vars, i4.vars]
              simp [h6, pC2B] at m6
              simp [Tryd.f25, pCB, pC2B, pC3, m1, m2, m3, m4, m5, m6, hv]
end
end Go.Am
end
section
namespace Go.Am
open Go
abbrev AnsT := Option (Out × List (Nat × Cont))
theorem hoistB (c : Prop) [Decidable c] (a b : Bool) (l : List (Nat × Cont)) : (if c then (some (Out.ret (.d (.bool a)), l) : AnsT) else some (Out.ret (.d (.bool b)), l)) = some (Out.ret (.d (.bool (if c then a else b))), l) := by split <;> rfl
theorem retB_iff (a b : Bool) (l : List (Nat × Cont)) : (some (Out.ret (.d (.bool a)), l) : AnsT) = some (Out.ret (.d (.bool b)), l) ↔ (a = true ↔ b = true) := by
  cases a <;> cases b <;> simp
theorem hoistI (c : Prop) [Decidable c] (k : IntKind) (a b : Int) (l : List (Nat × Cont)) : (if c then (some (Out.ret (.d (.int k a)), l) : AnsT) else some (Out.ret (.d (.int k b)), l)) = some (Out.ret (.d (.int k (if c then a else b))), l) := by split <;> rfl
theorem hoistT (c : Prop) [Decidable c] (a b : List AV) (l : List (Nat × Cont)) : (if c then (some (Out.ret (.tup a), l) : AnsT) else some (Out.ret (.tup b), l)) = some (Out.ret (.tup (if c then a else b)), l) := by split <;> rfl
end Go.Am
end
section
namespace Go.Am
open Go Go.Proofs
variable [Inhabited Mx2]
set_option maxRecDepth 20000
theorem wrap8_id {n : Int} (h1 : 0 ≤ n) (h2 : n ≤ 255) : IntKind.u8.wrap n = n := by
  simp [IntKind.wrap, IntKind.bits, IntKind.signed]
  omega
theorem letter_run (c : UInt8) : callT ctx 70 [.d (.int .u8 c.toNat)] [] = some (.ret (.d (.bool (letterB c))), []) := by
  rw [run70 (by simp)]
  simp [Tryd.f70, drwK_end]
  grind [letterB]
theorem digit_run (c : UInt8) : callT ctx 74 [.d (.int .u8 c.toNat)] [] = some (.ret (.d (.bool (digitB c))), []) := by
  rw [run74 (by simp)]
  simp [Tryd.f74, drwK_end]
  grind [digitB]
theorem inner_run (c : UInt8) : callT ctx 72 [.d (.int .u8 c.toNat)] [] = some (.ret (.d (.bool (innerB c))), []) := by
  rw [run72 (by simp)]
  simp [Tryd.f72, drwK_end, letter_run, digit_run]
  simp only [hoistB, retB_iff]
  grind [innerB]
theorem value_run (c : UInt8) : callT ctx 112 [.d (.int .u8 c.toNat)] [] = some (.ret (.d (.int .i64 (valB c))), []) := by
  rw [run112 (by simp)]
  simp [Tryd.f112, drwK_end, digit_run]
  have hc : c.toNat < 256 := c.toNat_lt
  have w : ∀ y : Int, -9223372036854775808 ≤ y → y ≤ 9223372036854775807 → IntKind.i64.wrap y = y := fun y h1 h2 => wrap_id ⟨h1, h2⟩
  have w8 : ∀ y : Int, 0 ≤ y → y ≤ 255 → IntKind.u8.wrap y = y := fun y h1 h2 => wrap8_id h1 h2
  grind [valB, digitB]
end Go.Am
end
section
namespace Go.Am
open Go Go.Proofs
variable [Inhabited Mx2]
set_option maxRecDepth 20000
theorem strAt_eq {s : Tx} {i : Nat} (h : i < s.length) : strAt s i = s[i] := by simp [strAt, h]
theorem u8_eq (c : UInt8) (n : Nat) (hn : n < 256) : ((c.toNat : Int) = n) ↔ c = UInt8.ofNat n := by
  constructor
  · intro h
    have h : c.toNat = n := by omega
    rw [← h]; simp
  · rintro rfl
    simp; omega
@[simp] def rBox (s : Tx) (i : Nat) : Cont := .box [.d (.str s), .d (.int .i64 i), .d (.int .i64 (plOf (s.take i)).1), .d (.int .i64 (plOf (s.take i)).2)]
theorem rest_run (s : Tx) (i : Nat) (h : i ≤ s.length) : callT ctx 46 [.ptr 0 0 0] [rBox s i] = some (.ret (.d (.str (s.drop i))), [(0, rBox s i)]) := by
  rw [run46 (by simp)]
  simp [Tryd.f46, drwK_end, h]
theorem skip_loop (s : Tx) (i n : Nat) (h : i + n ≤ s.length) (hs : s.length ≤ 100000) (k : Kt) : ∀ (r j : Nat), j + r = n →
    denK ctx 48 (.loop (Code.at (codeOf Tryd.f48) [1, 0, 0])) ⟨42, gl0, [(0, true, .ptr 0 0 0), (4, true, .d (.int .i64 n)), (5, true, .d (.int .i64 j))], [⟨0, 0, rBox s (i + j)⟩]⟩ k =
      k (.exit 0) ⟨42, gl0, [(0, true, .ptr 0 0 0), (4, true, .d (.int .i64 n)), (5, true, .d (.int .i64 n)), (6, true, .d (.bool false))], [⟨0, 0, rBox s (i + n)⟩]⟩
  | 0, j, hj => by
    have hj : j = n := by omega
    subst hj
    rw [denK_loop]
    simp [Tryd.f48]
  | r + 1, j, hj => by
    have ih := skip_loop s i n h hs k r (j + 1) (by omega)
    have hlt : i + j < s.length := by omega
    have hb := plOf_take (s := s) (i := i + j)
    have hsu := plOf_succ hlt
    rw [show i + (j + 1) = i + j + 1 by omega] at ih
    generalize hp : plOf (s.take (i + j)) = p at *
    generalize hq : plOf (s.take (i + j + 1)) = q at *
    obtain ⟨l, c⟩ := p
    obtain ⟨l2, c2⟩ := q
    simp only at hb
    have w1 : IntKind.i64.wrap (c + 1) = c + 1 := wrap_id (by unfold I64; omega)
    have w2 : IntKind.i64.wrap (l + 1) = l + 1 := wrap_id (by unfold I64; omega)
    have w3 : IntKind.i64.wrap ((i : Int) + j + 1) = (i : Int) + j + 1 := wrap_id (by unfold I64; omega)
    have w4 : IntKind.i64.wrap ((j : Int) + 1) = (j : Int) + 1 := wrap_id (by unfold I64; omega)
    have hjn : j < n := by omega
    rw [denK_loop]
    simp [Tryd.f48, hp, hq] at ih ⊢
    have h0 : (0 : Int) ≤ (i : Int) + j := by omega
    have ht : ((i : Int) + j).toNat = i + j := by omega
    have hst := strAt_eq hlt
    have h10 := u8_eq s[i + j] 10 (by omega)
    simp at h10
    unfold plStep at hsu
    by_cases hc : s[i + j] = 10
    · rw [if_pos hc] at hsu
      cases hsu
      simp [hjn, w1, w2, w3, w4, hlt, drwK_end, h0, ht, hst, hc, ih]
    · rw [if_neg hc] at hsu
      cases hsu
      simp [hjn, w1, w2, w3, w4, hlt, drwK_end, h0, ht, hst, h10, hc, ih]
theorem skip_run (s : Tx) (i n : Nat) (h : i + n ≤ s.length) (hs : s.length ≤ 100000) : callT ctx 48 [.ptr 0 0 0, .d (.int .i64 n)] [rBox s i] = some (.ret (.tup []), [(0, rBox s (i + n))]) := by
  have hl := fun k => skip_loop s i n h hs k n 0 (by omega)
  rw [run48 (by simp)]
  simp [Tryd.f48] at hl ⊢
  simp [hl]
end Go.Am
end
section
namespace Go.Am
open Go Go.Proofs
variable [Inhabited Mx2]
set_option maxRecDepth 20000
theorem indexByte_run (t : Tx) (c : UInt8) : callT ctx 68 [.d (.str t), .d (.int .u8 c.toNat)] [] = some (.ret (.d (.int .i64 (Go.Lib.indexByte t c))), []) := by
  rw [run68 (by simp)]
  simp [Tryd.f68, drwK_end]
set_option maxHeartbeats 1000000 in
theorem gap_loop (s : Tx) (hs : s.length ≤ 100000) (k : Kt) (R : Ans) : ∀ (f i : Nat), i ≤ s.length → s.length - i < f →
    (k .ret ⟨51, gl0, [(2, true, .d (.bool (gapC f (s.drop i)).2))], [⟨0, 0, rBox s (i + (gapC f (s.drop i)).1)⟩]⟩ = R) →
    denK ctx 45 (.loop (Code.at (codeOf Tryd.f45) [1, 0, 0])) ⟨51, gl0, [(0, true, .ptr 0 0 0)], [⟨0, 0, rBox s i⟩]⟩ k = R
  | 0, i, hi, hf, hk => by omega
  | f + 1, i, hi, hf, hk => by
    have hr := rest_run s i hi
    cases ht : s.drop i with
    | nil =>
      rw [ht] at hr hk
      simp [gapC] at hr hk
      rw [denK_loop]
      simp [Tryd.f45, hr, hk, drwK_end]
    | cons c r =>
      have hlen : i + (r.length + 1) = s.length := by have := congrArg List.length ht; simp at this; omega
      have hb1 := indexByte_run (c :: r) 10
      rw [indexByte_line] at hb1
      rw [ht] at hr hk
      unfold gapC at hk
      have hst : strAt (c :: r) 0 = c := rfl
      have hlb := lineN_le (c :: r)
      by_cases h1 : blankB c = true
      · rw [if_pos h1] at hk
        have hsk := skip_run s i 1 (by omega) hs
        have hd : s.drop (i + 1) = r := by rw [← List.tail_drop, ht]; rfl
        have ih := gap_loop s hs k R f (i + 1) (by omega) (by omega) (by rw [hd, show i + 1 + (gapC f r).1 = i + (1 + (gapC f r).1) by omega]; exact hk)
        simp [blankB] at h1
        rw [denK_loop]
        simp [Tryd.f45] at hr hsk ih ⊢
        rcases h1 with (h1 | h1) | h1 <;> simp [hr, hst, h1, hsk, ih, drwK_end]
      rw [if_neg h1] at hk
      have n1 : ¬ (c.toNat : Int) = 32 := fun h => h1 (by simp [blankB]; omega)
      have n2 : ¬ (c.toNat : Int) = 10 := fun h => h1 (by simp [blankB]; omega)
      have n3 : ¬ (c.toNat : Int) = 9 := fun h => h1 (by simp [blankB]; omega)
      have p1 := hasPrefix2 47 47 c r
      have p2 := hasPrefix2 40 42 c r
      by_cases h2 : c = 47 ∧ r.head? = some 47
      · rw [if_pos h2] at hk
        have p1 : Go.Lib.hasPrefix (c :: r) [47, 47] = true := by rw [p1]; simp [h2]
        have hsk := skip_run s i (lineN (c :: r)) (by simp at hlb; omega) hs
        have hd : s.drop (i + lineN (c :: r)) = (c :: r).drop (lineN (c :: r)) := by rw [← List.drop_drop, ht]
        have hpos : 0 < lineN (c :: r) := by simp [lineN, h2.1]
        have ih := gap_loop s hs k R f (i + lineN (c :: r)) (by simp at hlb; omega) (by omega) (by rw [hd, Nat.add_assoc]; exact hk)
        generalize lineN (c :: r) = n at *
        rw [denK_loop]
        by_cases hl : n < (c :: r).length
        · rw [if_pos hl] at hb1
          have hnn : ¬ ((n : Int) < 0) := by omega
          simp [Tryd.f45] at hr hsk ih hb1 ⊢
          simp [hr, hst, n1, n2, n3, p1, hb1, hnn, hsk, ih, drwK_end]
        · rw [if_neg hl] at hb1
          have hn : n = r.length + 1 := by simp at hl hlb; omega
          subst hn
          simp [Tryd.f45] at hr hsk ih hb1 ⊢
          simp [hr, hst, n1, n2, n3, p1, hb1, hsk, ih, drwK_end]
      rw [if_neg h2] at hk
      have p1 : Go.Lib.hasPrefix (c :: r) [47, 47] = false := by rw [p1]; simpa using h2
      by_cases h3 : c = 40 ∧ r.head? = some 42
      · rw [if_pos h3] at hk
        have p2 : Go.Lib.hasPrefix (c :: r) [40, 42] = true := by rw [p2]; simp [h3]
        have hi2 := index_end r.tail
        have h2l : (2 : Int) ≤ (r.length : Int) + 1 := by cases r with | nil => simp at h3 | cons d r => simp; omega
        have hb : r.length - 1 < 4294967281 := by omega
        cases hf2 : findEnd r.tail with
        | none =>
          rw [hf2] at hk hi2
          simp at hk hi2 hr
          rw [denK_loop]
          simp [Tryd.f45]
          simp [hr, hst, n1, n2, n3, p1, p2, h2l, hb, hi2, hk, drwK_end]
        | some m =>
          rw [hf2] at hk hi2
          have hm := findEnd_le hf2
          have hmt : r.tail.length = r.length - 1 := by simp
          have hsk := skip_run s i (m + 4) (by omega) hs
          have hd : s.drop (i + (m + 4)) = (c :: r).drop (m + 4) := by rw [← List.drop_drop, ht]
          have ih := gap_loop s hs k R f (i + (m + 4)) (by omega) (by omega) (by rw [hd, Nat.add_assoc]; exact hk)
          have hnn : ¬ ((m : Int) < 0) := by omega
          have w1 : IntKind.i64.wrap ((m : Int) + 4) = m + 4 := wrap_id (by unfold I64; omega)
          rw [denK_loop]
          simp [Tryd.f45] at hr hsk ih hi2 ⊢
          simp [hr, hst, n1, n2, n3, p1, p2, h2l, hb, hi2, hnn, w1, hsk, ih, drwK_end]
      rw [if_neg h3] at hk
      have p2 : Go.Lib.hasPrefix (c :: r) [40, 42] = false := by rw [p2]; simpa using h3
      simp at hk hr
      rw [denK_loop]
      simp [Tryd.f45]
      simp [hr, hst, n1, n2, n3, p1, p2, hk, drwK_end]
theorem gap_run (s : Tx) (i : Nat) (hi : i ≤ s.length) (hs : s.length ≤ 100000) (f : Nat) (hf : s.length - i < f) :
    callT ctx 45 [.ptr 0 0 0] [rBox s i] = some (.ret (.d (.bool (gapC f (s.drop i)).2)), [(0, rBox s (i + (gapC f (s.drop i)).1))]) := by
  have hl := fun k R => gap_loop s hs k R f i hi hf
  rw [run45 (by simp)]
  simp [Tryd.f45] at hl ⊢
  rw [hl]
  simp
end Go.Am
end
section
namespace Go.Am
open Go Go.Proofs
variable [Inhabited Mx2]
set_option maxRecDepth 20000
theorem number1_run (c : UInt8) (b : Int) : callT ctx 111 [.d (.int .u8 c.toNat), .ptr 0 0 0] [.box [.d (.int .i64 b)]] = some (.ret (.d (.bool (decide ((valB c : Int) < b)))), [(0, .box [.d (.int .i64 b)])]) := by
  rw [run111 (by simp)]
  simp [Tryd.f111, drwK_end, value_run]
theorem whileA_loop (s : Tx) (hs : s.length ≤ 100000) (k : Kt) : ∀ (r n : Nat), n + r = s.length →
    denK ctx 71 (.loop (Code.at (codeOf Tryd.f71) [1, 1, 0, 0, 0])) ⟨20, gl0, [(0, true, .d (.str s)), (1, true, .fn 72 []), (5, true, .d (.int .i64 n))], []⟩ k =
      k (.exit 0) ⟨20, gl0, [(0, true, .d (.str s)), (1, true, .fn 72 []), (5, true, .d (.int .i64 (n + ((s.drop n).takeWhile innerB).length : Nat))), (16, true, .d (.bool false))], []⟩
  | 0, n, hn => by
    have hn : n = s.length := by omega
    subst hn
    rw [denK_loop]
    simp [Tryd.f71]
  | r + 1, n, hn => by
    have hlt : n < s.length := by omega
    have ih := whileA_loop s hs k r (n + 1) (by omega)
    have w1 : IntKind.i64.wrap ((n : Int) + 1) = (n : Int) + 1 := wrap_id (by unfold I64; omega)
    have hst := strAt_eq hlt
    have hin := inner_run s[n]
    have hd : s.drop n = s[n] :: s.drop (n + 1) := List.drop_eq_getElem_cons hlt
    rw [hd, List.takeWhile_cons]
    rw [denK_loop]
    cases hq : innerB s[n] with
    | true =>
      rw [hq] at hin
      have e : n + 1 + (List.takeWhile innerB (s.drop (n + 1))).length = n + ((List.takeWhile innerB (s.drop (n + 1))).length + 1) := by omega
      rw [e] at ih
      simp [Tryd.f71] at ih hin ⊢
      simp [hlt, hst, hin, w1, ih]
    | false =>
      rw [hq] at hin
      simp [Tryd.f71] at hin ⊢
      simp [hlt, hst, hin]
theorem whileA_run (s : Tx) (hs : s.length ≤ 100000) : callT ctx 71 [.d (.str s), .fn 72 []] [] = some (.ret (.d (.int .i64 (s.takeWhile innerB).length)), []) := by
  have hl := fun k => whileA_loop s hs k s.length 0 (by omega)
  rw [run71 (by simp)]
  simp [Tryd.f71] at hl ⊢
  simp [hl]
theorem whileB_loop (s : Tx) (hs : s.length ≤ 100000) (b : Nat) (k : Kt) : ∀ (r n : Nat), n + r = s.length →
    denK ctx 71 (.loop (Code.at (codeOf Tryd.f71) [1, 1, 0, 0, 0])) ⟨20, gl0, [(0, true, .d (.str s)), (1, true, .fn 111 [.ptr 0 0 0]), (5, true, .d (.int .i64 n))], [⟨0, 0, .box [.d (.int .i64 b)]⟩]⟩ k =
      k (.exit 0) ⟨20, gl0, [(0, true, .d (.str s)), (1, true, .fn 111 [.ptr 0 0 0]), (5, true, .d (.int .i64 (n + ((s.drop n).takeWhile (fun c => decide (valB c < b))).length : Nat))), (16, true, .d (.bool false))], [⟨0, 0, .box [.d (.int .i64 b)]⟩]⟩
  | 0, n, hn => by
    have hn : n = s.length := by omega
    subst hn
    rw [denK_loop]
    simp [Tryd.f71]
  | r + 1, n, hn => by
    have hlt : n < s.length := by omega
    have ih := whileB_loop s hs b k r (n + 1) (by omega)
    have w1 : IntKind.i64.wrap ((n : Int) + 1) = (n : Int) + 1 := wrap_id (by unfold I64; omega)
    have hst := strAt_eq hlt
    have hin := number1_run s[n] b
    have hd : s.drop n = s[n] :: s.drop (n + 1) := List.drop_eq_getElem_cons hlt
    rw [hd, List.takeWhile_cons]
    rw [denK_loop]
    by_cases hq : valB s[n] < b
    · have e : n + 1 + (List.takeWhile (fun c => decide (valB c < b)) (s.drop (n + 1))).length = n + ((List.takeWhile (fun c => decide (valB c < b)) (s.drop (n + 1))).length + 1) := by omega
      rw [e] at ih
      simp [Tryd.f71, hq] at ih hin ⊢
      simp [hlt, hst, hin, w1, ih]
    · simp [Tryd.f71, hq] at hin ⊢
      simp [hlt, hst, hin]
theorem whileB_run (s : Tx) (hs : s.length ≤ 100000) (b : Nat) : callT ctx 71 [.d (.str s), .fn 111 [.ptr 0 0 0]] [.box [.d (.int .i64 b)]] =
    some (.ret (.d (.int .i64 (s.takeWhile (fun c => decide (valB c < b))).length)), [(0, .box [.d (.int .i64 b)])]) := by
  have hl := fun k => whileB_loop s hs b k s.length 0 (by omega)
  rw [run71 (by simp)]
  simp [Tryd.f71] at hl ⊢
  simp [hl]
end Go.Am
end
section
namespace Go.Am
open Go Go.Proofs
variable [Inhabited Mx2]
set_option maxRecDepth 20000
theorem valB_le (c : UInt8) : valB c ≤ 99 := by
  unfold valB digitB
  split
  · rename_i h; simp at h; omega
  · split <;> omega
set_option maxHeartbeats 1000000 in
theorem num_loop (s : Tx) (hs : s.length ≤ 100000) (b : Nat) (hb : 2 ≤ b ∧ b ≤ 16) (n v : Nat) (ct : Cont) (hn : n ≤ s.length) (k : Kt) (R : Ans) : ∀ (rest : Tx) (i x : Nat), (s.drop i).take rest.length = rest → i + rest.length = n → x ≤ 9223372036854775807 →
    (match valN b x rest with
      | none => k .ret ⟨83, gl0, [(2, true, .d (.int .i64 0)), (3, true, .d (.int .i64 0)), (4, true, .d (.int .i64 2))], [⟨350, 1, .box [.d (.int .i64 b)]⟩, ⟨500, v, ct⟩]⟩
      | some y => k (.exit 2) ⟨83, gl0, [(0, true, .d (.str s)), (5, true, .ptr 350 1 0), (9, true, .d (.int .i64 n)), (10, true, .d (.int .i64 y)), (11, true, .d (.int .i64 n)), (63, true, .d (.bool false))], [⟨350, 1, .box [.d (.int .i64 b)]⟩, ⟨500, v, ct⟩]⟩) = R →
    denK ctx 75 (.loop (Code.at (codeOf Tryd.f75) [1, 1, 1, 1, 1, 1, 0, 1, 0, 0])) ⟨83, gl0, [(0, true, .d (.str s)), (5, true, .ptr 350 1 0), (9, true, .d (.int .i64 n)), (10, true, .d (.int .i64 x)), (11, true, .d (.int .i64 i))], [⟨350, 1, .box [.d (.int .i64 b)]⟩, ⟨500, v, ct⟩]⟩ k = R
  | [], i, x, ht, hi, hx, hR => by
    have hi : i = n := by simpa using hi
    subst hi
    simp [valN] at hR
    rw [denK_loop]
    simp [Tryd.f75, hR]
  | c :: rest, i, x, ht, hi, hx, hR => by
    simp only [List.length_cons] at hi ht
    have hlt : i < s.length := by omega
    have hin : i < n := by omega
    have hd : s.drop i = s[i] :: s.drop (i + 1) := List.drop_eq_getElem_cons hlt
    rw [hd, List.take_succ_cons] at ht
    have hc : s[i] = c := (List.cons.inj ht).1
    have ht2 := (List.cons.inj ht).2
    have hst := strAt_eq hlt
    have hv := value_run c
    have hvl := valB_le c
    have w1 : IntKind.i64.wrap ((i : Int) + 1) = (i : Int) + 1 := wrap_id (by unfold I64; omega)
    have w2 : IntKind.i64.wrap (9223372036854775807 - (valB c : Int)) = ((9223372036854775807 - valB c : Nat) : Int) := by rw [wrap_id (by unfold I64; omega)]; omega
    have hqb : (9223372036854775807 - valB c) / b ≤ 9223372036854775807 := Nat.le_trans (Nat.div_le_self _ _) (Nat.sub_le _ _)
    have w3 : IntKind.i64.wrap (((9223372036854775807 - valB c : Nat) : Int) / (b : Int)) = (((9223372036854775807 - valB c) / b : Nat) : Int) := by
      rw [← Int.natCast_ediv]
      generalize (9223372036854775807 - valB c) / b = z at hqb
      exact wrap_id (by unfold I64; omega)
    have hb0 : b ≠ 0 := by omega
    unfold valN at hR
    rw [denK_loop]
    by_cases ho : (9223372036854775807 - valB c) / b < x
    · have ho' : ((9223372036854775807 - valB c : Nat) : Int) / (b : Int) < x := by rw [← Int.natCast_ediv]; exact Int.ofNat_lt.2 ho
      rw [if_pos ho] at hR
      simp at hR hv
      simp [Tryd.f75]
      simp [hin, hlt, hst, hc, hv, w2, w3, hb0, ho', hR]
    · have ho' : ¬ (((9223372036854775807 - valB c : Nat) : Int) / (b : Int) < x) := by rw [← Int.natCast_ediv]; exact fun h => ho (Int.ofNat_lt.1 h)
      rw [if_neg ho] at hR
      have hm : x * b ≤ 9223372036854775807 - valB c := by
        have h1 : x ≤ (9223372036854775807 - valB c) / b := by omega
        have := Nat.mul_le_mul_right b h1
        have h2 := Nat.div_mul_le_self (9223372036854775807 - valB c) b
        omega
      have hm2 : (x : Int) * (b : Int) = ((x * b : Nat) : Int) := by simp
      have w4 : IntKind.i64.wrap ((x : Int) * b) = ((x * b : Nat) : Int) := by rw [hm2]; exact wrap_id (by unfold I64; omega)
      have w5 : IntKind.i64.wrap (((x * b : Nat) : Int) + valB c) = ((x * b + valB c : Nat) : Int) := by rw [wrap_id (by unfold I64; omega)]; simp
      have ih := num_loop s hs b hb n v ct hn k R rest (i + 1) (x * b + valB c) ht2 (by omega) (by omega) hR
      generalize hxb : x * b + valB c = xb at *
      generalize x * b = xm at *
      simp [Tryd.f75] at ih ⊢
      simp [hin, hlt, hst, hc, hv, w1, w2, w3, w4, w5, hb0, ho', ih]
theorem pre_head {a : UInt8} {p s : Tx} (h : (a :: p).isPrefixOf s = true) : s.head? = some a ∧ p.length + 1 ≤ s.length := by
  have h' := List.isPrefixOf_iff_prefix.1 h
  refine ⟨?_, by simpa using h'.length_le⟩
  obtain ⟨t, rfl⟩ := h'
  rfl
theorem head_cases (s : Tx) : (Go.Lib.hasPrefix s [50, 35] = true ∧ Go.Lib.hasPrefix s [56, 35] = false ∧ Go.Lib.hasPrefix s [49, 54, 35] = false ∧ headN s = (2, 2) ∧ 2 ≤ s.length) ∨
    (Go.Lib.hasPrefix s [50, 35] = false ∧ Go.Lib.hasPrefix s [56, 35] = true ∧ Go.Lib.hasPrefix s [49, 54, 35] = false ∧ headN s = (8, 2) ∧ 2 ≤ s.length) ∨
    (Go.Lib.hasPrefix s [50, 35] = false ∧ Go.Lib.hasPrefix s [56, 35] = false ∧ Go.Lib.hasPrefix s [49, 54, 35] = true ∧ headN s = (16, 3) ∧ 3 ≤ s.length) ∨
    (Go.Lib.hasPrefix s [50, 35] = false ∧ Go.Lib.hasPrefix s [56, 35] = false ∧ Go.Lib.hasPrefix s [49, 54, 35] = false ∧ headN s = (10, 0) ∧ 0 ≤ s.length) := by
  unfold Go.Lib.hasPrefix headN
  have x1 : ([50, 35] : Tx).isPrefixOf s = true → ([56, 35] : Tx).isPrefixOf s = true → False := fun h g => by
    have h := (pre_head h).1; have g := (pre_head g).1; rw [h] at g; revert g; decide
  have x2 : ([50, 35] : Tx).isPrefixOf s = true → ([49, 54, 35] : Tx).isPrefixOf s = true → False := fun h g => by
    have h := (pre_head h).1; have g := (pre_head g).1; rw [h] at g; revert g; decide
  have x3 : ([56, 35] : Tx).isPrefixOf s = true → ([49, 54, 35] : Tx).isPrefixOf s = true → False := fun h g => by
    have h := (pre_head h).1; have g := (pre_head g).1; rw [h] at g; revert g; decide
  have l1 : ([50, 35] : Tx).isPrefixOf s = true → 2 ≤ s.length := fun h => (pre_head h).2
  have l2 : ([56, 35] : Tx).isPrefixOf s = true → 2 ≤ s.length := fun h => (pre_head h).2
  have l3 : ([49, 54, 35] : Tx).isPrefixOf s = true → 3 ≤ s.length := fun h => (pre_head h).2
  cases h2 : ([50, 35] : Tx).isPrefixOf s <;> cases h8 : ([56, 35] : Tx).isPrefixOf s <;> cases h16 : ([49, 54, 35] : Tx).isPrefixOf s <;> simp_all
set_option maxHeartbeats 2000000 in
theorem number_run (s : Tx) (hs : s.length ≤ 100000) : callT ctx 75 [.d (.str s)] [] = some (.ret (.tup [.d (.int .i64 (numF s).1), .d (.int .i64 (numF s).2.1), .d (.int .i64 (numF s).2.2)]), []) := by
  obtain ⟨b, h, hbh, hb, hhl⟩ : ∃ b h, headN s = (b, h) ∧ (2 ≤ b ∧ b ≤ 16) ∧ h ≤ s.length := by
    rcases head_cases s with ⟨_, _, _, e, hl⟩ | ⟨_, _, _, e, hl⟩ | ⟨_, _, _, e, hl⟩ | ⟨_, _, _, e, hl⟩ <;> exact ⟨_, _, e, by omega, by omega⟩
  have hw := whileB_run (s.drop h) (by simp; omega) b
  obtain ⟨ds, hds⟩ : ∃ ds, ds = (s.drop h).takeWhile (fun c => decide (valB c < b)) := ⟨_, rfl⟩
  rw [← hds] at hw
  have hdl : ds.length ≤ s.length - h := by
    have := (List.takeWhile_prefix (fun c => decide (valB c < b)) (l := s.drop h)).length_le
    rw [← hds] at this; simpa using this
  have hdt : (s.drop h).take ds.length = ds := by
    rw [hds]; exact List.prefix_iff_eq_take.1 (List.takeWhile_prefix _) |>.symm
  obtain ⟨n, hn⟩ : ∃ n, n = h + ds.length := ⟨_, rfl⟩
  have hns : n ≤ s.length := by omega
  have hloop := fun v ct k R => num_loop s hs b hb n v ct hns k R ds h 0 hdt hn.symm (by omega)
  have wn : IntKind.i64.wrap ((h : Int) + ds.length) = (n : Int) := by rw [wrap_id (by unfold I64; omega)]; omega
  have hn0 : ¬ ((n : Int) < 0) := by omega
  have hn1 : (0 : Int) ≤ n := by omega
  obtain ⟨F, hF⟩ : ∃ F : Nat × Nat × Nat, F = numG s b h ds := ⟨_, rfl⟩
  have hFF : numF s = F := by unfold numF; rw [hF, hbh]; simp only [← hds]
  rw [hFF]
  have c1 : IntKind.i64.wrap 1 = 1 := wrap_id (by unfold I64; omega)
  have c2 : IntKind.i64.wrap 2 = 2 := wrap_id (by unfold I64; omega)
  have c3 : IntKind.i64.wrap 3 = 3 := wrap_id (by unfold I64; omega)
  have r3 : List.range' 0 3 = [0, 1, 2] := rfl
  have key : ∀ (v : Nat) (ct : Cont) (k : Kt), n ≠ h → (n < s.length → innerB (strAt s n) = false ∧ strAt s n ≠ 35) →
      (∀ x, k (.exit 2) ⟨83, gl0, [(0, true, .d (.str s)), (5, true, .ptr 350 1 0), (9, true, .d (.int .i64 n)), (10, true, .d (.int .i64 x)), (11, true, .d (.int .i64 n)), (63, true, .d (.bool false))], [⟨350, 1, .box [.d (.int .i64 b)]⟩, ⟨500, v, ct⟩]⟩ = some (.ret (.tup [.d (.int .i64 n), .d (.int .i64 x), .d (.int .i64 0)]), [])) →
      (k .ret ⟨83, gl0, [(2, true, .d (.int .i64 0)), (3, true, .d (.int .i64 0)), (4, true, .d (.int .i64 2))], [⟨350, 1, .box [.d (.int .i64 b)]⟩, ⟨500, v, ct⟩]⟩ = some (.ret (.tup [.d (.int .i64 0), .d (.int .i64 0), .d (.int .i64 2)]), [])) →
      denK ctx 75 (.loop (Code.at (codeOf Tryd.f75) [1, 1, 1, 1, 1, 1, 0, 1, 0, 0])) ⟨83, gl0, [(0, true, .d (.str s)), (5, true, .ptr 350 1 0), (9, true, .d (.int .i64 n)), (10, true, .d (.int .i64 (0 : Nat))), (11, true, .d (.int .i64 h))], [⟨350, 1, .box [.d (.int .i64 b)]⟩, ⟨500, v, ct⟩]⟩ k =
        some (.ret (.tup [.d (.int .i64 F.1), .d (.int .i64 F.2.1), .d (.int .i64 F.2.2)]), []) := by
    intro v ct k h1 h2 h3 h4
    have hne : ¬ (ds = [] ∨ ∃ c, s[h + ds.length]? = some c ∧ (innerB c = true ∨ c = 35)) := by
      rintro (hc | ⟨c, hc, hc2⟩)
      · exact h1 (by rw [hn, hc]; rfl)
      · rw [← hn] at hc
        obtain ⟨hlt, hcc⟩ := List.getElem?_eq_some_iff.1 hc
        have h5 := h2 hlt
        rw [strAt_eq hlt, hcc] at h5
        rcases hc2 with hc2 | hc2
        · rw [h5.1] at hc2; cases hc2
        · exact h5.2 hc2
    unfold numG at hF
    rw [if_neg hne, ← hn] at hF
    refine hloop v ct k _ ?_
    cases hv : valN b 0 ds with
    | none => rw [hv] at hF; rw [hF]; exact h4
    | some x => rw [hv] at hF; rw [hF]; exact h3 x
  have err : ∀ c, n < s.length → strAt s n = c → (innerB c = true ∨ c = 35) → F = (0, 0, 5) := by
    intro c hlt hc hc2
    unfold numG at hF
    rw [hF, if_pos (.inr ⟨c, by rw [← hn, List.getElem?_eq_getElem hlt, ← strAt_eq hlt, hc], hc2⟩)]
  have err2 : n = h → F = (0, 0, 5) := by
    intro he
    unfold numG at hF
    rw [hF, if_pos (.inl (List.length_eq_zero_iff.1 (by omega)))]
  have hinr := inner_run (strAt s n)
  have h35 := u8_eq (strAt s n) 35 (by omega)
  simp at h35
  clear hF hloop
  rw [run75 (by simp)]
  rcases head_cases s with ⟨p1, p2, p3, e, hl⟩ | ⟨p1, p2, p3, e, hl⟩ | ⟨p1, p2, p3, e, hl⟩ | ⟨p1, p2, p3, e, hl⟩
  all_goals
    obtain ⟨h', hh'⟩ : ∃ h' : Nat, h' = h := ⟨_, rfl⟩
    rw [hbh] at e
    cases e
    have hlI := Int.ofNat_le.2 hl
    simp [Tryd.f75] at hw wn hlI key err2
    simp [Tryd.f75, r3]
    iterate 4 (rw [denK_loop]; simp [p1, p2, p3, c1, c2, c3, drwK_end])
    simp [hl, hlI, hw, wn]
    by_cases hnh : n = h'
    · have hFe := err2 (hnh.trans hh')
      rw [hh'] at hnh
      simp [hnh, hFe]
    · have hnI : ¬ ((n : Int) = (h' : Int)) := by omega
      rw [hh'] at hnI hnh
      simp at hnI
      by_cases hlt : n < s.length
      · cases hin : innerB (strAt s n)
        · rw [hin] at hinr
          by_cases h35' : strAt s n = 35
          · have hFe := err _ hlt h35' (.inr rfl)
            rw [h35'] at hinr
            simp at hinr
            simp [hnI, hlt, hinr, h35', hFe]
          · have h35n : ¬ ((strAt s n).toNat : Int) = 35 := fun h => h35' (h35.1 h)
            simp [hnI, hlt, hinr, h35n]
            exact key _ _ _ hnh (fun _ => ⟨hin, h35'⟩) (fun x => by simp) (by simp)
        · have hFe := err _ hlt rfl (.inl hin)
          rw [hin] at hinr
          simp [hnI, hlt, hinr, hFe]
      · simp [hnI, hlt]
        exact key _ _ _ hnh (fun h => absurd h hlt) (fun x => by simp) (by simp)
end Go.Am
end
section
namespace Go.Am
open Go Go.Proofs
variable [Inhabited Mx2]
set_option maxRecDepth 20000
def idxR (s : Tx) : Nat → List Tx → Int
  | _, [] => -1
  | i, x :: r => if s = x then (i : Int) else idxR s (i + 1) r
theorem idxR_mem (s : Tx) : ∀ (l : List Tx) (i : Nat), decide (0 ≤ idxR s i l) = decide (s ∈ l)
  | [], i => by simp [idxR]
  | x :: r, i => by
    have := idxR_mem s r (i + 1)
    unfold idxR
    by_cases h : s = x
    · simp [h]
    · simp only [if_neg h, this]; simp [h]
theorem strIdx_loop (l : List Tx) (hl : l.length ≤ 1000) (s : Tx) (k : Kt) (R : Ans) : ∀ (rest : List Tx) (i : Nat), l.drop i = rest → i + rest.length = l.length →
    ((if 0 ≤ idxR s i rest then k .ret ⟨19, gl0, [(4, true, .d (.int .i64 (idxR s i rest)))], []⟩ else k (.exit 0) ⟨19, gl0, [(0, true, .d (.list (l.map .str))), (1, true, .d (.str s)), (7, true, .d (.int .i64 l.length)), (8, true, .d (.int .i64 l.length)), (9, true, .d (.bool false))], []⟩) = R) →
    denK ctx 139 (.loop (Code.at (codeOf Tryd.f139) [1, 0, 1, 0, 0])) ⟨19, gl0, [(0, true, .d (.list (l.map .str))), (1, true, .d (.str s)), (7, true, .d (.int .i64 l.length)), (8, true, .d (.int .i64 i))], []⟩ k = R
  | [], i, hd, hi, h => by
    have hi : i = l.length := by simpa using hi
    subst hi
    rw [denK_loop]
    simp [idxR] at h
    simp [Tryd.f139, h]
  | x :: rest, i, hd, hi, h => by
    have hlt : i < l.length := by simp at hi; omega
    have hx : l[i] = x := by
      have := congrArg (·[0]?) hd
      simp at this
      simpa [hlt] using this
    have w1 : IntKind.i64.wrap ((i : Int) + 1) = (i : Int) + 1 := wrap_id (by unfold I64; omega)
    unfold idxR at h
    rw [denK_loop]
    by_cases hs : s = x
    · simp [hs] at h
      simp [Tryd.f139]
      simp [hlt, hx, hs, h]
    · rw [if_neg hs] at h
      have ih := strIdx_loop l hl s k R rest (i + 1) (by rw [← List.tail_drop, hd]; rfl) (by simp at hi; omega) h
      simp [Tryd.f139] at ih ⊢
      simp [hlt, hx, hs, w1, ih]
theorem idxR_neg (s : Tx) : ∀ (l : List Tx) (i : Nat), ¬ 0 ≤ idxR s i l → idxR s i l = -1
  | [], i, _ => rfl
  | x :: r, i, h => by
    unfold idxR at h ⊢
    split
    · rename_i hs; rw [if_pos hs] at h; omega
    · rename_i hs; rw [if_neg hs] at h; exact idxR_neg s r (i + 1) h
theorem strIdx_run (l : List Tx) (hl : l.length ≤ 1000) (s : Tx) : callT ctx 139 [.d (.list (l.map .str)), .d (.str s)] [] = some (.ret (.d (.int .i64 (idxR s 0 l))), []) := by
  have hlo := fun k R h => strIdx_loop l hl s k R l 0 rfl (by simp) h
  rw [run139 (by simp)]
  simp [Tryd.f139] at hlo ⊢
  rw [hlo]
  split
  · simp
  · rename_i h; simp [idxR_neg s l 0 h]
theorem contains_run (l : List Tx) (hl : l.length ≤ 1000) (s : Tx) : callT ctx 109 [.d (.list (l.map .str)), .d (.str s)] [] = some (.ret (.d (.bool (decide (s ∈ l)))), []) := by
  have h := strIdx_run l hl s
  rw [run109 (by simp)]
  simp [Tryd.f109, h, ← idxR_mem s l 0]
theorem fields_run : callT ctx 110 [.d (.str wordsT)] [] = some (.ret (.d (.list (wordsL.map .str))), []) := callT_of 300 (by kernel_rfl)
theorem word_run (s : Tx) : callT ctx 73 [.d (.str s)] [] = some (.ret (.d (.bool (wordB s))), []) := by
  have hf := fields_run
  have hc := contains_run wordsL (by decide) s
  unfold wordsT at hf
  generalize wordsL.map D.str = W at hf hc
  rw [run73 (by simp)]
  simp [Tryd.f73, hf, hc, wordB]
theorem indexByte_mem (c : UInt8) : ∀ (l : Tx), 0 ≤ Go.Lib.indexByte l c ↔ c ∈ l
  | [] => by simp [Go.Lib.indexByte]
  | b :: r => by
    have ih := indexByte_mem c r
    have hg := Go.Lib.indexByte_ge r c
    unfold Go.Lib.indexByte
    by_cases h : b = c
    · simp [h]
    · have h' : ¬ c = b := fun e => h e.symm
      simp only [beq_iff_eq, h, if_false, List.mem_cons, h', false_or, ← ih]
      split <;> omega
theorem signF_eq (c : UInt8) (r : Tx) : signF (c :: r) = if Go.Lib.hasPrefix (c :: r) [58, 61] = true then 2 else if Go.Lib.hasPrefix (c :: r) [60, 61] = true then 2 else if Go.Lib.hasPrefix (c :: r) [62, 61] = true then 2 else if Go.Lib.hasPrefix (c :: r) [60, 62] = true then 2 else if Go.Lib.hasPrefix (c :: r) [46, 46] = true then 2 else if 0 ≤ Go.Lib.indexByte signs1 c then 1 else 0 := by
  have hm := indexByte_mem c signs1
  unfold signF signs2 Go.Lib.hasPrefix
  simp only [List.any_cons, List.any_nil, Bool.or_false, Bool.or_eq_true, hm]
  grind
theorem sign_run (c : UInt8) (r : Tx) : callT ctx 76 [.d (.str (c :: r))] [] = some (.ret (.d (.int .i64 (signF (c :: r)))), []) := by
  have r5 : List.range' 0 5 = [0, 1, 2, 3, 4] := rfl
  have c1 : IntKind.i64.wrap 1 = 1 := wrap_id (by unfold I64; omega)
  have c2 : IntKind.i64.wrap 2 = 2 := wrap_id (by unfold I64; omega)
  have c3 : IntKind.i64.wrap 3 = 3 := wrap_id (by unfold I64; omega)
  have c4 : IntKind.i64.wrap 4 = 4 := wrap_id (by unfold I64; omega)
  have c5 : IntKind.i64.wrap 5 = 5 := wrap_id (by unfold I64; omega)
  have hb := indexByte_run signs1 c
  rw [run76 (by simp)]
  simp [Tryd.f76, r5]
  iterate 6 (try (rw [denK_loop]; simp [c1, c2, c3, c4, c5, drwK_end]))
  have hst : strAt (c :: r) 0 = c := rfl
  rw [signF_eq]
  unfold signs1 at hb ⊢
  simp [hst, hb]
  grind
end Go.Am
end
section
namespace Go.Am
open Go Go.Proofs
variable [Inhabited Mx2]
set_option maxRecDepth 20000
theorem numF_le (s : Tx) : (numF s).1 ≤ s.length := by
  unfold numF numG
  rcases head_cases s with ⟨_, _, _, e, hl⟩ | ⟨_, _, _, e, hl⟩ | ⟨_, _, _, e, hl⟩ | ⟨_, _, _, e, hl⟩
  all_goals
    rw [e]
    simp only
    split
    · simp
    · split
      · simp
      · rename_i x _
        simp only
        have := (List.takeWhile_prefix (fun c => decide (valB c < (headN s).1)) (l := s.drop (headN s).2)).length_le
        rw [e] at this
        simp only [List.length_drop] at this
        omega
theorem signF_le (c : UInt8) (r : Tx) : signF (c :: r) ≤ (c :: r).length := by
  unfold signF
  split
  · rename_i h
    simp only [signs2, List.any_cons, List.any_nil, Bool.or_false, Bool.or_eq_true] at h
    rcases h with h | h | h | h | h <;> exact (pre_head h).2
  · simp only
    split <;> simp
set_option maxHeartbeats 1000000 in
theorem next_run (c : UInt8) (r : Tx) (hs : (c :: r).length ≤ 100000) (line col : Int) : callT ctx 47 [.d (.str (c :: r)), .d (sgnD ⟨0, [], 0, line, col⟩)] [] =
    some (.ret (.tup [.d (sgnD ⟨(nextF (c :: r)).2.1, (c :: r).take (nextF (c :: r)).2.2.1, (nextF (c :: r)).2.2.2, line, col⟩), .d (.int .i64 (nextF (c :: r)).1)]), []) := by
  have hst : strAt (c :: r) 0 = c := rfl
  have hl := letter_run c
  have hd := digit_run c
  have hw := whileA_run (c :: r) hs
  have hnr := number_run (c :: r) hs
  have hsg := sign_run c r
  have hwle : ((c :: r).takeWhile innerB).length ≤ (c :: r).length := (List.takeWhile_prefix _).length_le
  have hnle := numF_le (c :: r)
  have hsle := signF_le c r
  have hwd := word_run ((c :: r).take ((c :: r).takeWhile innerB).length)
  unfold nextF
  generalize hn1 : ((c :: r).takeWhile innerB).length = n1 at *
  generalize hn2 : signF (c :: r) = n2 at *
  generalize hF : numF (c :: r) = F at *
  obtain ⟨n, x, e⟩ := F
  simp only at hnr hnle
  rw [run47 (by simp)]
  simp only [List.length_cons] at hwle hnle hsle
  cases h1 : letterB c with
  | true =>
    rw [h1] at hl
    cases h2 : wordB ((c :: r).take n1) with
    | true =>
      rw [h2] at hwd
      simp [Tryd.f47, drwK_end, hst, hl, hw, hwle, hwd, h1, h2]
    | false =>
      rw [h2] at hwd
      by_cases h3 : 16 < n1
      · simp [Tryd.f47, drwK_end, hst, hl, hw, hwle, hwd, h1, h2, h3]
        omega
      · simp [Tryd.f47, drwK_end, hst, hl, hw, hwle, hwd, h1, h2, h3]
        omega
  | false =>
    rw [h1] at hl
    cases h2 : digitB c with
    | true =>
      rw [h2] at hd
      by_cases h3 : e = 0
      · simp [Tryd.f47, drwK_end, hst, hl, hd, hnr, hnle, h1, h2, h3]
      · simp [Tryd.f47, drwK_end, hst, hl, hd, hnr, hnle, h1, h2, h3]
    | false =>
      rw [h2] at hd
      by_cases h3 : n2 = 0
      · simp [Tryd.f47, drwK_end, hst, hl, hd, hsg, hsle, h1, h2, h3]
      · simp [Tryd.f47, drwK_end, hst, hl, hd, hsg, hsle, h1, h2, h3]
end Go.Am
end
section
namespace Go.Am
open Go Go.Proofs
variable [Inhabited Mx2]
set_option maxRecDepth 20000
theorem numF_pos {s : Tx} (h : (numF s).2.2 = 0) : 1 ≤ (numF s).1 := by
  unfold numF numG at h ⊢
  split
  · rename_i hc; rw [if_pos hc] at h; simp at h
  · rename_i hc
    rw [if_neg hc] at h
    split
    · rename_i hv; rw [hv] at h; simp at h
    · simp only
      simp only [not_or] at hc
      have := List.length_pos_iff.2 hc.1
      omega
theorem nextF_ok {c : UInt8} {r : Tx} (h : (nextF (c :: r)).1 = 0) : 1 ≤ (nextF (c :: r)).2.2.1 ∧ (nextF (c :: r)).2.2.1 ≤ (c :: r).length := by
  have hwle : ((c :: r).takeWhile innerB).length ≤ (c :: r).length := (List.takeWhile_prefix _).length_le
  have hnle := numF_le (c :: r)
  have hsle := signF_le c r
  have hlp : letterB c = true → 1 ≤ ((c :: r).takeWhile innerB).length := by
    intro hl
    have : innerB c = true := by unfold innerB; rw [hl]; rfl
    simp [this]
  have hnp := numF_pos (s := c :: r)
  unfold nextF at h ⊢
  simp only at h ⊢
  generalize ((c :: r).takeWhile innerB).length = n1 at *
  generalize signF (c :: r) = n2 at *
  generalize numF (c :: r) = F at *
  by_cases h1 : letterB c = true
  · simp only [if_pos h1] at h ⊢
    have := hlp h1
    split at h
    · rename_i hw; rw [if_pos hw]; exact ⟨this, hwle⟩
    · rename_i hw
      rw [if_neg hw]
      split at h
      · simp at h
      · rename_i h16; rw [if_neg h16]; exact ⟨this, hwle⟩
  · simp only [if_neg h1] at h ⊢
    by_cases h2 : digitB c = true
    · simp only [if_pos h2] at h ⊢
      split at h
      · rename_i he; rw [if_pos he]; exact ⟨hnp he, hnle⟩
      · rename_i he; exact absurd h he
    · simp only [if_neg h2] at h ⊢
      split at h
      · simp at h
      · rename_i he; rw [if_neg he]; exact ⟨by simp only; omega, hsle⟩
set_option maxHeartbeats 1000000 in
theorem lex_loop (s : Tx) (hs : s.length ≤ 16384) : ∀ (f i : Nat) (out : List Sgn) (v4 v5 v55 : Nat) (c5 c55 : Cont), i ≤ s.length → s.length - i < f → out.length ≤ i →
    denK ctx 23 (.loop (Code.at (codeOf Tryd.f23) [1, 1, 1, 1, 0, 0])) ⟨62, gl0, [(4, true, .ptr 300 1 0), (5, true, .ptr 950 1 0), (6, true, .vec 400 v4 0 out.length)],
      [⟨200, 1, .vec 5 []⟩, ⟨300, 1, .box [.d (.int .i64 0), .d (.str []), .d (.int .i64 0), .d (.int .i64 0), .d (.int .i64 0)]⟩, ⟨400, v4, .vec 5 (out.map sgnD)⟩, ⟨500, v5, c5⟩, ⟨550, v55, c55⟩, ⟨950, 1, rBox s i⟩]⟩
      (blkK 0 (finK Tryd.prog fp23 0 [.tmp 2, .tmp 3, .cell 4 29])) = some (.ret (.tup [.d (.list ((lexF s f i out).1.map sgnD)), .d (.int .i64 (lexF s f i out).2.1), .d (sgnD (lexF s f i out).2.2)]), [])
  | 0, i, out, v4, v5, v55, c5, c55, hi, hf, ho => by omega
  | f + 1, i, out, v4, v5, v55, c5, c55, hi, hf, ho => by
    have hg := gap_run s i hi (by omega) (s.length + 1) (by omega)
    have hgl := gapC_le (s.length + 1) (s.drop i)
    unfold lexF
    generalize gapC (s.length + 1) (s.drop i) = g at *
    obtain ⟨n, ok⟩ := g
    simp only [List.length_drop] at hgl
    simp only at hg ⊢
    obtain ⟨j, hj⟩ : ∃ j, j = i + n := ⟨_, rfl⟩
    have hjl : j ≤ s.length := by omega
    have hcast : ((i + n : Nat) : Int) = (i : Int) + n := by omega
    rw [← hj] at hg ⊢
    have hr := rest_run s j hjl
    generalize hp : plOf (s.take j) = p at *
    obtain ⟨l, c⟩ := p
    rw [denK_loop]
    cases ok with
    | false =>
      simp [hp] at hg
      simp [Tryd.f23, drwK_end, hg, here]
    | true =>
      simp only [Bool.true_eq_false, if_false]
      cases ht : s.drop j with
      | nil =>
        rw [ht] at hr
        simp [hp] at hg hr
        have g1 : (out.length + 1) * 48 ≤ 140737488355328 ∧ out.length ≤ 4611686018427387903 := by omega
        simp [Tryd.f23, drwK_end, hg, hr, here, g1]
      | cons a r =>
        rw [ht] at hr
        have hlen : j + (r.length + 1) = s.length := by have := congrArg List.length ht; simp at this; omega
        have hn := next_run a r (by simp; omega) l c
        have hok := nextF_ok (c := a) (r := r)
        have hne : ¬ (a :: r = []) := by simp
        simp only [if_neg hne]
        generalize nextF (a :: r) = F at *
        obtain ⟨e, kd, m, x⟩ := F
        simp only at hn hok ⊢
        simp [hp] at hg hr
        have g1 : (out.length + 1) * 48 ≤ 140737488355328 ∧ out.length ≤ 4611686018427387903 := by omega
        by_cases he : e = 0
        · subst he
          obtain ⟨hm1, hm2⟩ := hok rfl
          simp only [List.length_cons] at hm2
          have hsk := skip_run s j m (by omega) (by omega)
          have ih := fun v4 v5 v55 c5 c55 => lex_loop s hs f (j + m) (out ++ [⟨kd, (a :: r).take m, x, l, c⟩]) v4 v5 v55 c5 c55 (by omega) (by omega) (by simp; omega)
          have hmin : min m (r.length + 1) = m := by omega
          have hminI : ((min m (r.length + 1) : Nat) : Int) = m := by rw [hmin]
          simp at hn
          simp [Tryd.f23, hp] at ih hsk ⊢
          simp [drwK_end, hg, hr, hn, g1, hmin, hsk, ih]
        · simp at hn
          have heI : ¬ ((e : Int) = 0) := by omega
          simp [Tryd.f23, drwK_end, hg, hr, hn, he, heI, here]
theorem lex_run (s : Tx) : callT ctx 23 [.d (.str s)] [] = some (.ret (.tup [.d (.list ((lexP s).1.map sgnD)), .d (.int .i64 (lexP s).2.1), .d (sgnD (lexP s).2.2)]), []) := by
  rw [run23 (by simp)]
  unfold lexP
  by_cases h : 16384 < s.length
  · have hI : (16384 : Int) < s.length := by omega
    simp [Tryd.f23, drwK_end, h, hI]
  · have hI : ¬ ((16384 : Int) < s.length) := by omega
    have hl := fun v4 v5 v55 c5 c55 => lex_loop s (by omega) (s.length + 1) 0 [] v4 v5 v55 c5 c55 (by omega) (by omega) (by simp)
    rw [if_neg h]
    generalize lexF s (s.length + 1) 0 [] = L at *
    have hp : plOf [] = (1, 1) := rfl
    simp [Tryd.f23, hp] at hl
    simp [Tryd.f23, drwK_end, h, hI]
    exact hl _ _ _ _ _
end Go.Am
end
section
namespace Go.Am
open Go Go.Proofs
variable [Inhabited Mx2]
def ltP (p q : Int × Int) : Prop := p.1 < q.1 ∨ (p.1 = q.1 ∧ p.2 < q.2)
theorem ltP_step (p : Int × Int) (c : UInt8) : ltP p (plStep p c) := by
  unfold ltP plStep
  split
  · left; simp only; omega
  · right; simp only; exact ⟨trivial, by omega⟩
theorem ltP_trans {p q r : Int × Int} (h : ltP p q) (k : ltP q r) : ltP p r := by
  unfold ltP at *; omega
theorem plOf_lt {s : Tx} : ∀ (d i : Nat), i + d + 1 ≤ s.length → ltP (plOf (s.take i)) (plOf (s.take (i + d + 1)))
  | 0, i, h => by
    rw [plOf_succ (show i + 0 < s.length by omega)]
    exact ltP_step _ _
  | d + 1, i, h => by
    have := plOf_lt (s := s) d i (by omega)
    rw [plOf_succ (show i + (d + 1) < s.length by omega)]
    exact ltP_trans this (ltP_step _ _)
theorem plOf_ne {s : Tx} {i j : Nat} (h : i < j) (hj : j ≤ s.length) : ¬ ((plOf (s.take j)).1 = (plOf (s.take i)).1 ∧ (plOf (s.take j)).2 = (plOf (s.take i)).2) := by
  have := plOf_lt (s := s) (j - i - 1) i (by omega)
  rw [show i + (j - i - 1) + 1 = j by omega] at this
  unfold ltP at this
  omega
inductive Laid (s : Tx) : Nat → List Sgn → Prop
  | fin (i : Nat) (h : i ≤ s.length) : Laid s i [here (plOf (s.take s.length))]
  | sign (i j m : Nat) (k n : Int) (r : List Sgn) (h1 : i ≤ j) (h2 : j + m ≤ s.length) (h3 : 1 ≤ m) (h : Laid s (j + m) r) :
      Laid s i (⟨k, (s.drop j).take m, n, (plOf (s.take j)).1, (plOf (s.take j)).2⟩ :: r)
theorem Laid.weaken {s : Tx} {i i' : Nat} {r : List Sgn} (h : Laid s i r) (hi : i' ≤ i) : Laid s i' r := by
  cases h with
  | fin _ h => exact .fin i' (by omega)
  | sign _ j m k n r h1 h2 h3 h => exact .sign i' j m k n r (by omega) h2 h3 h
theorem Laid.step {s : Tx} {i : Nat} {t : Sgn} {r : List Sgn} (h : Laid s i (t :: r)) (hi : i ≤ s.length) :
    (¬ (t.line = (plOf (s.take i)).1 ∧ t.col = (plOf (s.take i)).2) ∧ i < s.length ∧ Laid s (i + 1) (t :: r)) ∨
    ((t.line = (plOf (s.take i)).1 ∧ t.col = (plOf (s.take i)).2) ∧ t.text.length ≤ s.length - i ∧ (s.drop i).take t.text.length = t.text ∧ ((i < s.length ∧ Laid s (i + 1) r) ∨ (i = s.length ∧ r = []))) := by
  cases h with
  | fin _ h =>
    by_cases he : i = s.length
    · subst he
      right
      simp [here]
    · left
      have hlt : i < s.length := by omega
      exact ⟨plOf_ne hlt (Nat.le_refl _), hlt, .fin _ (by omega)⟩
  | sign _ j m k n r h1 h2 h3 h =>
    by_cases he : i = j
    · subst he
      right
      have hl : ((s.drop i).take m).length = m := by simp; omega
      refine ⟨⟨rfl, rfl⟩, ?_, ?_, .inl ⟨by omega, h.weaken (by omega)⟩⟩
      · simp only [hl]; omega
      · simp only [hl]
    · left
      have hlt : i < j := by omega
      exact ⟨plOf_ne hlt (by omega), by omega, .sign _ j m k n r (by omega) h2 h3 h⟩
theorem lexF_laid (s : Tx) : ∀ (f i : Nat) (out : List Sgn), i ≤ s.length → (lexF s f i out).2.1 = 0 → ∃ r, (lexF s f i out).1 = out ++ r ∧ Laid s i r ∧ (lexF s f i out).2.2 = ⟨0, [], 0, 0, 0⟩
  | 0, i, out, hi, h => by simp [lexF] at h
  | f + 1, i, out, hi, h => by
    have hgl := gapC_le (s.length + 1) (s.drop i)
    unfold lexF at h ⊢
    generalize gapC (s.length + 1) (s.drop i) = g at *
    obtain ⟨n, ok⟩ := g
    simp only [List.length_drop] at hgl
    simp only at h ⊢
    cases ok with
    | false => simp at h
    | true =>
      simp only [Bool.true_eq_false, if_false] at h ⊢
      by_cases ht : s.drop (i + n) = []
      · rw [if_pos ht]
        have hj : i + n = s.length := by
          have := congrArg List.length ht
          simp at this; omega
        exact ⟨_, rfl, by rw [hj]; exact .fin i hi, rfl⟩
      · rw [if_neg ht] at h ⊢
        obtain ⟨a, t, hat⟩ : ∃ a t, s.drop (i + n) = a :: t := by
          cases hc : s.drop (i + n) with
          | nil => exact absurd hc ht
          | cons a t => exact ⟨a, t, rfl⟩
        have hlen : (i + n) + (t.length + 1) = s.length := by have := congrArg List.length hat; simp at this; omega
        have hok := nextF_ok (c := a) (r := t)
        rw [hat] at h ⊢
        by_cases he : (nextF (a :: t)).1 = 0
        · have hne : ¬ ((nextF (a :: t)).1 ≠ 0) := fun hh => hh he
          rw [if_neg hne] at h ⊢
          obtain ⟨hm1, hm2⟩ := hok he
          simp only [List.length_cons] at hm2
          obtain ⟨r, h1, h2, h3⟩ := lexF_laid s f (i + n + (nextF (a :: t)).2.2.1) _ (by omega) h
          refine ⟨_ :: r, by rw [h1, List.append_assoc]; rfl, ?_, h3⟩
          have := Laid.sign (s := s) i (i + n) (nextF (a :: t)).2.2.1 (nextF (a :: t)).2.1 (nextF (a :: t)).2.2.2 r (by omega) (by omega) hm1 h2
          rw [hat] at this
          exact this
        · rw [if_pos he] at h
          exact absurd h he
theorem lexP_laid {s : Tx} (h : (lexP s).2.1 = 0) : Laid s 0 (lexP s).1 ∧ (lexP s).2.2 = ⟨0, [], 0, 0, 0⟩ := by
  unfold lexP at h ⊢
  split at h
  · simp at h
  · rename_i hl
    rw [if_neg hl]
    obtain ⟨r, h1, h2, h3⟩ := lexF_laid s _ 0 [] (by omega) h
    rw [h1]
    exact ⟨h2, h3⟩
theorem lexF_err (s : Tx) : ∀ (f i : Nat) (out : List Sgn), s.length - i < f → i ≤ s.length → (lexF s f i out).2.1 ≠ 0 → (lexF s f i out).1 = [] ∧ ∃ j, (lexF s f i out).2.2 = here (plOf (s.take j))
  | 0, i, out, hf, _, h => by omega
  | f + 1, i, out, hf, hi, h => by
    have hgl := gapC_le (s.length + 1) (s.drop i)
    unfold lexF at h ⊢
    generalize gapC (s.length + 1) (s.drop i) = g at *
    obtain ⟨n, ok⟩ := g
    simp only [List.length_drop] at hgl
    simp only at h ⊢
    cases ok with
    | false => exact ⟨rfl, _, rfl⟩
    | true =>
      simp only [Bool.true_eq_false, if_false] at h ⊢
      by_cases ht : s.drop (i + n) = []
      · rw [if_pos ht] at h; simp at h
      · rw [if_neg ht] at h ⊢
        obtain ⟨a, t, hat⟩ : ∃ a t, s.drop (i + n) = a :: t := by
          cases hc : s.drop (i + n) with
          | nil => exact absurd hc ht
          | cons a t => exact ⟨a, t, rfl⟩
        have hlen : (i + n) + (t.length + 1) = s.length := by have := congrArg List.length hat; simp at this; omega
        have hok := nextF_ok (c := a) (r := t)
        rw [hat] at h ⊢
        by_cases he : (nextF (a :: t)).1 = 0
        · have hne : ¬ ((nextF (a :: t)).1 ≠ 0) := fun hh => hh he
          rw [if_neg hne] at h ⊢
          obtain ⟨hm1, hm2⟩ := hok he
          simp only [List.length_cons] at hm2
          exact lexF_err s f _ _ (by omega) (by omega) h
        · rw [if_pos he]
          exact ⟨rfl, _, rfl⟩
end Go.Am
end
section
namespace Go.Am
open Go Go.Proofs
variable [Inhabited Mx2]
set_option maxRecDepth 20000
theorem rec_bad (e : Er) (a : List AV) (b : AV) (c : List AV) (ha : a.length = 3) (hc : c.length = 5) : recT ctx 24 [.ptr 0 0 0, .ptr 1 0 0, .ptr 2 0 0, .ifc 67 (fD e)] [.box a, .box [b], .box c] = some (.ret (.tup []), [(0, .box [.d (.str []), .lit (.slice none 0 0), .lit (.slice none 0 0)]), (0, .box [.d (.int .i64 e.e)]), (0, .box [.d (.int .i64 0), .d (.str []), .d (.int .i64 0), .d (.int .i64 e.line), .d (.int .i64 e.col)])]) := by
  obtain ⟨a1, a2, a3, rfl⟩ : ∃ a1 a2 a3, a = [a1, a2, a3] := by
    match a, ha with
    | [a1, a2, a3], _ => exact ⟨a1, a2, a3, rfl⟩
  obtain ⟨c1, c2, c3, c4, c5, rfl⟩ : ∃ c1 c2 c3 c4 c5, c = [c1, c2, c3, c4, c5] := by
    match c, hc with
    | [c1, c2, c3, c4, c5], _ => exact ⟨c1, c2, c3, c4, c5, rfl⟩
  rw [run24 (by rfl) (by rfl) (by simp)]
  simp [Tryd.f24]
  erw [denRK_reg rfl]
  simp [fD, drwK_end]
theorem rec_ok (x y b1 c1 c2 c3 c4 c5 : D) (rows : List D) : recT ctx 24 [.ptr 0 0 0, .ptr 1 0 0, .ptr 2 0 0, .lit .nilIface] [.box [.d x, .vec 3 0 0 rows.length, .d y], .box [.d b1], .box [.d c1, .d c2, .d c3, .d c4, .d c5], .vec 8 rows] =
    some (.ret (.tup []), [(0, .box [.d x, .vec 3 1 0 rows.length, .d y]), (0, .box [.d b1]), (0, .box [.d c1, .d c2, .d c3, .d c4, .d c5]), (1, .vec 8 rows)]) := by
  rw [run24 (by rfl) (by rfl) (by simp)]
  simp [Tryd.f24]
  erw [denRK_reg rfl]
  simp
theorem program_vars {L : List Sgn} {kn : Tx → Int} {f : Nat} {s s' : PS} {p : Pg} (h : programS L kn f s = .ok p s') : p.vars = s'.vars := by
  unfold programS at h
  revert h
  have hb : ∀ {α β : Type} {r : PM α} {k : α → PS → PM β} {b : β} {s' : PS}, r.bind k = .ok b s' → ∃ a s, r = .ok a s ∧ k a s = .ok b s' := by
    intro α β r k b s' h
    cases r with
    | ok a s => exact ⟨a, s, rfl, h⟩
    | bad e s => cases h
    | out => cases h
  intro h
  obtain ⟨_, _, _, h⟩ := hb h
  obtain ⟨_, _, _, h⟩ := hb h
  obtain ⟨_, _, _, h⟩ := hb h
  obtain ⟨_, _, _, h⟩ := hb h
  obtain ⟨_, s5, h5, h⟩ := hb h
  obtain ⟨_, s6, h6, h⟩ := hb h
  cases h
  rfl
def pgD (p : Pg) : D := .agg [.str p.name, .list (p.vars.map vrD), .list (p.body.map smD)]
theorem nextF_kind (c : UInt8) (r : Tx) (h : (nextF (c :: r)).1 = 0) : 1 ≤ (nextF (c :: r)).2.1 := by
  unfold nextF at h ⊢
  simp only at h ⊢
  repeat' split
  all_goals simp_all
def parseF (text : Tx) : Pg × Int × Sgn :=
  if (lexP text).2.1 ≠ 0 then (⟨[], [], []⟩, (lexP text).2.1, (lexP text).2.2)
  else match programS (lexP text).1 kindN (20 * (lexP text).1.length + 19) ⟨0, 0, []⟩ with
    | .ok p _ => (p, 0, ⟨0, [], 0, 0, 0⟩)
    | .bad e _ => (⟨[], [], []⟩, e.e, ⟨0, [], 0, e.line, e.col⟩)
    | .out => (⟨[], [], []⟩, 5, ⟨0, [], 0, 0, 0⟩)
theorem lexF_ok (s : Tx) (hs : s.length ≤ 16384) : ∀ (f i : Nat) (out : List Sgn), out.length ≤ i → i ≤ s.length → s.length - i < f → (∀ (k : Nat) (t : Sgn), out[k]? = some t → t.kind ≠ 0 ∧ 1 ≤ t.line) → (lexF s f i out).2.1 = 0 → OkL (lexF s f i out).1 ∧ (lexF s f i out).1.length ≤ s.length + 1
  | 0, i, out, hl, hi, hf, ho, h => by omega
  | f + 1, i, out, hl, hi, hf, ho, h => by
    have hgl := gapC_le (s.length + 1) (s.drop i)
    unfold lexF at h ⊢
    generalize gapC (s.length + 1) (s.drop i) = g at *
    obtain ⟨n, ok⟩ := g
    simp only [List.length_drop] at hgl
    simp only at h ⊢
    cases ok with
    | false => simp at h
    | true =>
      simp only [Bool.true_eq_false, if_false] at h ⊢
      by_cases ht : s.drop (i + n) = []
      · rw [if_pos ht]
        have hp := plOf_take (s := s) (i := i + n)
        refine ⟨⟨fun k t hk => ?_, fun k t hk => ?_, by simp; omega⟩, by simp; omega⟩
        · by_cases hko : k < out.length
          · rw [List.getElem?_append_left hko] at hk
            have := ho k t hk
            simp; constructor
            · exact fun h => absurd h this.1
            · intro h; omega
          · rw [List.getElem?_append_right (by omega)] at hk
            by_cases h0 : k - out.length = 0
            · rw [h0] at hk
              simp at hk
              subst hk
              simp [here]; omega
            · rw [List.getElem?_eq_none (by simp; omega)] at hk
              cases hk
        · by_cases hko : k < out.length
          · rw [List.getElem?_append_left hko] at hk
            exact (ho k t hk).2
          · rw [List.getElem?_append_right (by omega)] at hk
            by_cases h0 : k - out.length = 0
            · rw [h0] at hk
              simp at hk
              subst hk
              exact hp.1
            · rw [List.getElem?_eq_none (by simp; omega)] at hk
              cases hk
      · rw [if_neg ht] at h ⊢
        obtain ⟨a, t, hat⟩ : ∃ a t, s.drop (i + n) = a :: t := by
          cases hc : s.drop (i + n) with
          | nil => exact absurd hc ht
          | cons a t => exact ⟨a, t, rfl⟩
        have hlen : (i + n) + (t.length + 1) = s.length := by have := congrArg List.length hat; simp at this; omega
        have hok := nextF_ok (c := a) (r := t)
        have hkind := nextF_kind a t
        rw [hat] at h ⊢
        by_cases he : (nextF (a :: t)).1 = 0
        · have hne : ¬ ((nextF (a :: t)).1 ≠ 0) := fun hh => hh he
          rw [if_neg hne] at h ⊢
          obtain ⟨hm1, hm2⟩ := hok he
          simp only [List.length_cons] at hm2
          have hp := plOf_take (s := s) (i := i + n)
          refine lexF_ok s hs f _ _ (by simp; omega) (by omega) (by omega) ?_ h
          intro k u hk
          by_cases hko : k < out.length
          · rw [List.getElem?_append_left hko] at hk
            exact ho k u hk
          · rw [List.getElem?_append_right (by omega)] at hk
            by_cases h0 : k - out.length = 0
            · rw [h0] at hk
              simp at hk
              subst hk
              exact ⟨by have := hkind he; simp only; omega, hp.1⟩
            · rw [List.getElem?_eq_none (by simp; omega)] at hk
              cases hk
        · rw [if_pos he] at h
          exact absurd h he
theorem lexP_ok {s : Tx} (h : (lexP s).2.1 = 0) : OkL (lexP s).1 ∧ (lexP s).1.length ≤ 16385 ∧ 1 ≤ (lexP s).1.length := by
  unfold lexP at h ⊢
  split at h
  · simp at h
  · rename_i hl
    rw [if_neg hl]
    have := lexF_ok s (by omega) (s.length + 1) 0 [] (by simp) (by omega) (by omega) (by simp) h
    refine ⟨this.1, by omega, ?_⟩
    obtain ⟨r, h1, h2, _⟩ := lexF_laid s _ 0 [] (by omega) h
    rw [h1]
    cases h2 <;> simp
theorem parse_run (text : Tx) : callT ctx 12 [.d (.str text)] [] = some (.ret (.tup [.d (pgD (parseF text).1), .d (.int .i64 (parseF text).2.1), .d (sgnD (parseF text).2.2)]), []) := by
  have hl := lex_run text
  rw [run12 (by simp)]
  unfold parseF
  by_cases he : (lexP text).2.1 = 0
  · obtain ⟨ok, hlen, hlen'⟩ := lexP_ok he
    rw [he] at hl
    rw [if_neg (fun h => h he)]
    generalize (lexP text).1 = L at *
    have hL : L.length < 1000000 := by omega
    have hI : Iv L ⟨0, 0, []⟩ := ⟨by simp only; omega, by simp, by simp, by simp⟩
    have hp := program_le hL ok hI (20 * L.length + 19) (by simp)
    have ht := program_tr (kindN := kindN) ok hI (f := 20 * L.length + 19) (by simp)
    simp only [pC, pB, List.map_nil, List.length_nil] at hp
    cases hps : programS L kindN (20 * L.length + 19) ⟨0, 0, []⟩ with
    | out => rw [hps] at ht; exact ht.elim
    | bad e s =>
      simp only [hps, el_bad, badK1, pC3] at hp
      have hp := hp _ rfl
      simp at hp
      have hr := rec_bad e
      simp [Tryd.f12, hasDef, isDefer, deferOf, dfv, hl, drwK_end, hp, rec_bad, pgD]
    | ok p s =>
      simp only [hps, el_ok, pC3] at hp
      have hp := hp _ rfl
      have hv := program_vars hps
      have hr := fun x y b1 c1 c2 c3 c4 c5 => rec_ok x y b1 c1 c2 c3 c4 c5 (s.vars.map vrD)
      simp at hp hr
      simp [Tryd.f12, hasDef, isDefer, deferOf, dfv, hl, drwK_end, hp, hr, pgD, hv]
  · simp [Tryd.f12, hasDef, isDefer, deferOf, dfv, hl, he, drwK_end, pgD, sgnD]
end Go.Am
end
section
namespace Go.Am
open Go Go.Proofs
variable [Inhabited Mx2]
def nb (c : UInt8) : UInt8 := if c = 32 then 10 else c
def nbs (s : Tx) : Tx := s.map nb
def noRem (s : Tx) : Prop := ∀ i : Nat, i + 1 < s.length → (s.drop i).take 2 ≠ [47, 47]
theorem noRem_drop {s : Tx} (h : noRem s) (n : Nat) : noRem (s.drop n) := by
  intro i hi
  simp only [List.length_drop] at hi
  rw [List.drop_drop]
  exact h (n + i) (by omega)
theorem noRem_head {c : UInt8} {r : Tx} (h : noRem (c :: r)) : ¬ (c = 47 ∧ r.head? = some 47) := by
  rintro ⟨rfl, h2⟩
  cases r with
  | nil => simp at h2
  | cons d r =>
    simp at h2
    subst h2
    exact h 0 (by simp) rfl
theorem nb_eq {c d : UInt8} (hd : d ≠ 10) (hd' : d ≠ 32) : nb c = d ↔ c = d := by
  unfold nb
  split
  · rename_i h; subst h
    constructor
    · intro h; exact absurd h.symm hd
    · intro h; exact absurd h.symm hd'
  · rfl
theorem nb_blank (c : UInt8) : blankB (nb c) = blankB c := by
  unfold nb
  split
  · rename_i h; subst h; decide
  · rfl
theorem nb_inner (c : UInt8) : innerB (nb c) = innerB c := by
  unfold nb
  split
  · rename_i h; subst h; decide
  · rfl
theorem nb_letter (c : UInt8) : letterB (nb c) = letterB c := by
  unfold nb
  split
  · rename_i h; subst h; decide
  · rfl
theorem nb_digit (c : UInt8) : digitB (nb c) = digitB c := by
  unfold nb
  split
  · rename_i h; subst h; decide
  · rfl
theorem nb_val (c : UInt8) : valB (nb c) = valB c := by
  unfold nb
  split
  · rename_i h; subst h; decide
  · rfl
theorem nb_id {c : UInt8} (h : c ≠ 32) : nb c = c := by unfold nb; rw [if_neg h]
theorem head_nb {r : Tx} {d : UInt8} (hd : d ≠ 10) (hd' : d ≠ 32) : (nbs r).head? = some d ↔ r.head? = some d := by
  cases r with
  | nil => simp [nbs]
  | cons c r => simp [nbs, nb_eq hd hd']
theorem findEnd_nb : ∀ r : Tx, findEnd (nbs r) = findEnd r
  | [] => rfl
  | c :: r => by
    have ih := findEnd_nb r
    have h1 := head_nb (r := r) (d := 41) (by decide) (by decide)
    have h2 := nb_eq (c := c) (d := 42) (by decide) (by decide)
    show findEnd (nb c :: nbs r) = findEnd (c :: r)
    unfold findEnd
    rw [ih]
    by_cases h : c = 42 ∧ r.head? = some 41
    · rw [if_pos h, if_pos ⟨h2.2 h.1, h1.2 h.2⟩]
    · rw [if_neg h, if_neg (fun hh => h ⟨h2.1 hh.1, h1.1 hh.2⟩)]
theorem nbs_drop (s : Tx) (n : Nat) : (nbs s).drop n = nbs (s.drop n) := by simp [nbs, List.map_drop]
theorem nbs_take (s : Tx) (n : Nat) : (nbs s).take n = nbs (s.take n) := by simp [nbs, List.map_take]
theorem nbs_len (s : Tx) : (nbs s).length = s.length := by simp [nbs]
theorem gapC_nb : ∀ (f : Nat) (r : Tx), noRem r → gapC f (nbs r) = gapC f r
  | 0, _, _ => rfl
  | f + 1, [], _ => rfl
  | f + 1, c :: r, h => by
    have ih := gapC_nb f r (by have := noRem_drop h 1; simpa using this)
    have h1 := noRem_head h
    have h47 := nb_eq (c := c) (d := 47) (by decide) (by decide)
    have h47' := head_nb (r := r) (d := 47) (by decide) (by decide)
    have h40 := nb_eq (c := c) (d := 40) (by decide) (by decide)
    have h42 := head_nb (r := r) (d := 42) (by decide) (by decide)
    have hf := findEnd_nb r.tail
    have ht : (nbs r).tail = nbs r.tail := by cases r <;> rfl
    have hd : ∀ m, (nb c :: nbs r).drop (m + 4) = nbs ((c :: r).drop (m + 4)) := fun m => by rw [← nbs_drop]; rfl
    have ih2 := fun m => gapC_nb f ((c :: r).drop (m + 4)) (noRem_drop h _)
    show gapC (f + 1) (nb c :: nbs r) = gapC (f + 1) (c :: r)
    unfold gapC
    rw [nb_blank, ih, ht, hf]
    by_cases hb : blankB c = true
    · rw [if_pos hb, if_pos hb]
    · rw [if_neg hb, if_neg hb, if_neg h1, if_neg (fun hh => h1 ⟨h47.1 hh.1, h47'.1 hh.2⟩)]
      by_cases h2 : c = 40 ∧ r.head? = some 42
      · rw [if_pos h2, if_pos ⟨h40.2 h2.1, h42.2 h2.2⟩]
        cases findEnd r.tail with
        | none => rfl
        | some m => simp only [hd, ih2]
      · rw [if_neg h2, if_neg (fun hh => h2 ⟨h40.1 hh.1, h42.1 hh.2⟩)]
theorem takeWhile_nb (p : UInt8 → Bool) (hp : ∀ c, p (nb c) = p c) : ∀ r : Tx, (nbs r).takeWhile p = nbs (r.takeWhile p)
  | [] => rfl
  | c :: r => by
    have ih := takeWhile_nb p hp r
    show (nb c :: nbs r).takeWhile p = _
    by_cases h : p c = true
    · rw [List.takeWhile_cons_of_pos (by rw [hp]; exact h), List.takeWhile_cons_of_pos h, ih]; rfl
    · rw [List.takeWhile_cons_of_neg (by rw [hp]; exact h), List.takeWhile_cons_of_neg h]; rfl
theorem nbs_id : ∀ {s : Tx}, (∀ c ∈ s, c ≠ 32) → nbs s = s
  | [], _ => rfl
  | c :: s, h => by
    show nb c :: nbs s = c :: s
    rw [nb_id (h c (by simp)), nbs_id (fun d hd => h d (by simp [hd]))]
theorem prefix_nb (w : Tx) (hw : ∀ c ∈ w, c ≠ 10 ∧ c ≠ 32) : ∀ (s : Tx), w.isPrefixOf (nbs s) = w.isPrefixOf s := by
  induction w with
  | nil => intro s; simp [List.isPrefixOf]
  | cons d w ih =>
    intro s
    cases s with
    | nil => rfl
    | cons c s =>
      show (d :: w).isPrefixOf (nb c :: nbs s) = _
      have hd := hw d (by simp)
      have h1 := nb_eq (c := c) hd.1 hd.2
      simp only [List.isPrefixOf]
      rw [ih (fun c hc => hw c (by simp [hc])) s]
      congr 1
      by_cases h : c = d
      · rw [h1.2 h, h]
      · have h' : ¬ nb c = d := fun hh => h (h1.1 hh)
        have a1 : (d == nb c) = false := by simp; exact fun hh => h' hh.symm
        have a2 : (d == c) = false := by simp; exact fun hh => h hh.symm
        rw [a1, a2]
theorem headN_nb (s : Tx) : headN (nbs s) = headN s := by
  unfold headN
  rw [prefix_nb _ (by decide), prefix_nb _ (by decide), prefix_nb _ (by decide)]
theorem valN_nb (b : Nat) : ∀ (r : Tx) (x : Nat), valN b x (nbs r) = valN b x r
  | [], x => rfl
  | c :: r, x => by
    show valN b x (nb c :: nbs r) = _
    unfold valN
    rw [nb_val, valN_nb b r]
theorem numF_nb (s : Tx) : numF (nbs s) = numF s := by
  unfold numF
  rw [headN_nb, nbs_drop, takeWhile_nb _ (fun c => by rw [nb_val])]
  generalize List.takeWhile _ (s.drop (headN s).2) = ds
  unfold numG
  rw [valN_nb]
  have h1 : nbs ds = [] ↔ ds = [] := by simp [nbs]
  have h2 : (nbs s)[(headN s).2 + (nbs ds).length]? = (s[(headN s).2 + ds.length]?).map nb := by rw [nbs_len]; simp [nbs]
  have h3 : (∃ c, (nbs s)[(headN s).2 + (nbs ds).length]? = some c ∧ (innerB c = true ∨ c = 35)) ↔ (∃ c, s[(headN s).2 + ds.length]? = some c ∧ (innerB c = true ∨ c = 35)) := by
    rw [h2]
    cases s[(headN s).2 + ds.length]? with
    | none => simp
    | some c => simp [nb_inner, nb_eq (c := c) (d := 35) (by decide) (by decide)]
  by_cases h : ds = [] ∨ ∃ c, s[(headN s).2 + ds.length]? = some c ∧ (innerB c = true ∨ c = 35)
  · rw [if_pos h, if_pos (by rcases h with h | h; exact .inl (h1.2 h); exact .inr (h3.2 h))]
  · rw [if_neg h, if_neg (fun hh => h (by rcases hh with hh | hh; exact .inl (h1.1 hh); exact .inr (h3.1 hh))), nbs_len]
theorem any_congr' {l : List Tx} {f g : Tx → Bool} (h : ∀ x ∈ l, f x = g x) : l.any f = l.any g := by
  induction l with
  | nil => rfl
  | cons x l ih => simp only [List.any_cons, h x (by simp), ih (fun y hy => h y (by simp [hy]))]
theorem signF_nb (s : Tx) : signF (nbs s) = signF s := by
  unfold signF
  have h2 : ∀ w ∈ signs2, ∀ c ∈ w, c ≠ 10 ∧ c ≠ 32 := by decide
  have h1 : ∀ c ∈ signs1, c ≠ 10 ∧ c ≠ 32 := by decide
  rw [any_congr' (f := fun p => p.isPrefixOf (nbs s)) (g := fun p => p.isPrefixOf s) (fun w hw => prefix_nb w (h2 w hw) s)]
  split
  · rfl
  · cases s with
    | nil => rfl
    | cons c r =>
      show (if nb c ∈ signs1 then 1 else 0) = if c ∈ signs1 then 1 else 0
      by_cases h : c ∈ signs1
      · rw [if_pos h, nb_id (h1 c h).2, if_pos h]
      · rw [if_neg h]
        by_cases hc : c = 32
        · subst hc; rfl
        · rw [nb_id hc, if_neg h]
theorem mem_takeWhile' {p : UInt8 → Bool} : ∀ {l : Tx} {c : UInt8}, c ∈ l.takeWhile p → p c = true
  | [], c, h => by simp at h
  | d :: l, c, h => by
    by_cases hd : p d = true
    · rw [List.takeWhile_cons_of_pos hd] at h
      rcases List.mem_cons.1 h with rfl | h
      · exact hd
      · exact mem_takeWhile' h
    · rw [List.takeWhile_cons_of_neg hd] at h; simp at h
theorem inner_ne {c : UInt8} (h : innerB c = true) : c ≠ 32 := by rintro rfl; revert h; decide
theorem word_nb (s : Tx) : (nbs s).take ((nbs s).takeWhile innerB).length = s.take (s.takeWhile innerB).length := by
  rw [takeWhile_nb _ nb_inner, nbs_len, nbs_take]
  refine nbs_id fun c hc => ?_
  have : s.take (s.takeWhile innerB).length = s.takeWhile innerB := by
    have := List.takeWhile_prefix (p := innerB) (l := s)
    exact (List.prefix_iff_eq_take.1 this).symm
  rw [this] at hc
  exact inner_ne (mem_takeWhile' hc)
theorem nextF_nb (s : Tx) : nextF (nbs s) = nextF s := by
  cases s with
  | nil => rfl
  | cons c r =>
    have hw := word_nb (c :: r)
    have hn := numF_nb (c :: r)
    have hs := signF_nb (c :: r)
    have hl : ((nbs (c :: r)).takeWhile innerB).length = ((c :: r).takeWhile innerB).length := by rw [takeWhile_nb _ nb_inner, nbs_len]
    show nextF (nb c :: nbs r) = nextF (c :: r)
    change numF (nb c :: nbs r) = _ at hn
    change signF (nb c :: nbs r) = _ at hs
    change ((nb c :: nbs r).takeWhile innerB).length = _ at hl
    change (nb c :: nbs r).take ((nb c :: nbs r).takeWhile innerB).length = _ at hw
    rw [hl] at hw
    unfold nextF
    simp only [nb_letter, nb_digit, hn, hs, hw, hl]
end Go.Am
end
section
namespace Go.Am
open Go
section
variable {α : Type}
def eqL (s : α → α → Bool) : List α → List α → Bool
  | [], [] => true
  | x :: r, y :: q => s x y && eqL s r q
  | _, _ => false
theorem eqL_len {s : α → α → Bool} : ∀ {l l' : List α}, eqL s l l' = true → l.length = l'.length
  | [], [], _ => rfl
  | [], _ :: _, h => by simp [eqL] at h
  | _ :: _, [], h => by simp [eqL] at h
  | x :: r, y :: q, h => by
    simp only [eqL, Bool.and_eq_true] at h
    simp [eqL_len h.2]
theorem eqL_eq [DecidableEq α] : ∀ (l l' : List α), eqL (fun a b => decide (a = b)) l l' = decide (l = l')
  | [], [] => by simp [eqL]
  | [], _ :: _ => by simp [eqL]
  | _ :: _, [] => by simp [eqL]
  | x :: r, y :: q => by simp [eqL, eqL_eq r q]
end
mutual
def sameE : Ex → Ex → Bool
  | .mk o n a f s _, .mk o' n' a' f' s' _ => decide (o = o') && (decide (n = n') && (decide (a = a') && (decide (f = f') && sameEs s s')))
def sameEs : List Ex → List Ex → Bool
  | [], [] => true
  | x :: r, y :: q => sameE x y && sameEs r q
  | _, _ => false
end
theorem sameEs_eq : ∀ l l' : List Ex, sameEs l l' = eqL sameE l l'
  | [], [] => by simp [sameEs, eqL]
  | [], _ :: _ => by simp [sameEs, eqL]
  | _ :: _, [] => by simp [sameEs, eqL]
  | x :: r, y :: q => by simp [sameEs, eqL, sameEs_eq r q]
mutual
def sameM : Sm → Sm → Bool
  | .mk o n t v c lb f b _, .mk o' n' t' v' c' lb' f' b' _ => decide (o = o') && (decide (n = n') && (sameE t t' && (sameE v v' && (sameEs c c' && (decide (lb = lb') && (decide (f = f') && sameBs b b'))))))
def sameMs : List Sm → List Sm → Bool
  | [], [] => true
  | x :: r, y :: q => sameM x y && sameMs r q
  | _, _ => false
def sameBs : List (List Sm) → List (List Sm) → Bool
  | [], [] => true
  | x :: r, y :: q => sameMs x y && sameBs r q
  | _, _ => false
end
theorem sameMs_eq : ∀ l l' : List Sm, sameMs l l' = eqL sameM l l'
  | [], [] => by simp [sameMs, eqL]
  | [], _ :: _ => by simp [sameMs, eqL]
  | _ :: _, [] => by simp [sameMs, eqL]
  | x :: r, y :: q => by simp [sameMs, eqL, sameMs_eq r q]
theorem sameBs_eq : ∀ l l' : List (List Sm), sameBs l l' = eqL sameMs l l'
  | [], [] => by simp [sameBs, eqL]
  | [], _ :: _ => by simp [sameBs, eqL]
  | _ :: _, [] => by simp [sameBs, eqL]
  | x :: r, y :: q => by simp [sameBs, eqL, sameBs_eq r q]
def sameV (v w : Vr) : Bool := decide (eV v = eV w)
def sameP (p q : Pg) : Bool := eqL sameV p.vars q.vars && (decide (p.name = q.name) && sameMs p.body q.body)
mutual
theorem sameE_iff : ∀ x y : Ex, sameE x y = true ↔ eE x = eE y
  | .mk o n a f s l, .mk o' n' a' f' s' l' => by
    simp only [sameE, eE, Bool.and_eq_true, decide_eq_true_eq, sameEs_iff s s', Ex.mk.injEq, and_true]
theorem sameEs_iff : ∀ l l' : List Ex, sameEs l l' = true ↔ eEs l = eEs l'
  | [], [] => by simp [sameEs, eEs]
  | [], _ :: _ => by simp [sameEs, eEs]
  | _ :: _, [] => by simp [sameEs, eEs]
  | x :: r, y :: q => by simp only [sameEs, eEs, Bool.and_eq_true, sameE_iff x y, sameEs_iff r q, List.cons.injEq]
end
mutual
theorem sameM_iff : ∀ x y : Sm, sameM x y = true ↔ eM x = eM y
  | .mk o n t v c lb f b l, .mk o' n' t' v' c' lb' f' b' l' => by
    simp only [sameM, eM, Bool.and_eq_true, decide_eq_true_eq, sameE_iff, sameEs_iff, sameBs_iff b b', Sm.mk.injEq, and_true]
theorem sameMs_iff : ∀ l l' : List Sm, sameMs l l' = true ↔ eMs l = eMs l'
  | [], [] => by simp [sameMs, eMs]
  | [], _ :: _ => by simp [sameMs, eMs]
  | _ :: _, [] => by simp [sameMs, eMs]
  | x :: r, y :: q => by simp only [sameMs, eMs, Bool.and_eq_true, sameM_iff x y, sameMs_iff r q, List.cons.injEq]
theorem sameBs_iff : ∀ l l' : List (List Sm), sameBs l l' = true ↔ eBs l = eBs l'
  | [], [] => by simp [sameBs, eBs]
  | [], _ :: _ => by simp [sameBs, eBs]
  | _ :: _, [] => by simp [sameBs, eBs]
  | x :: r, y :: q => by simp only [sameBs, eBs, Bool.and_eq_true, sameMs_iff x y, sameBs_iff r q, List.cons.injEq]
end
theorem sameVs_iff : ∀ l l' : List Vr, eqL sameV l l' = true ↔ l.map eV = l'.map eV
  | [], [] => by simp [eqL]
  | [], _ :: _ => by simp [eqL]
  | _ :: _, [] => by simp [eqL]
  | x :: r, y :: q => by simp only [eqL, Bool.and_eq_true, sameV, decide_eq_true_eq, sameVs_iff r q, List.map_cons, List.cons.injEq]
theorem sameP_iff (p q : Pg) : sameP p q = true ↔ eG p = eG q := by
  simp only [sameP, Bool.and_eq_true, decide_eq_true_eq, sameVs_iff, sameMs_iff, eG, Pg.mk.injEq, eMs_eq]
  constructor
  · rintro ⟨a, b, c⟩; exact ⟨b, a, c⟩
  · rintro ⟨b, a, c⟩; exact ⟨a, b, c⟩
theorem sameP_refl (p : Pg) : sameP p p = true := (sameP_iff p p).2 rfl
theorem sameP_symm (p q : Pg) : sameP p q = sameP q p := by
  have h1 := sameP_iff p q
  have h2 := sameP_iff q p
  cases h : sameP p q <;> cases k : sameP q p <;> simp_all
end Go.Am
end
section
namespace Go.Am
open Go Go.Proofs
variable [Inhabited Mx2]
theorem headN_text (s : Tx) : ∀ c ∈ s.take (headN s).2, c ≠ 32 := by
  have hp : ∀ (w : Tx), w.isPrefixOf s = true → s.take w.length = w := by
    intro w h
    exact (List.prefix_iff_eq_take.1 (List.isPrefixOf_iff_prefix.1 h)).symm
  unfold headN
  split
  · rename_i h; rw [show (16, 3).2 = ([49, 54, 35] : Tx).length from rfl, hp _ h]; decide
  · split
    · rename_i h; rw [show (8, 2).2 = ([56, 35] : Tx).length from rfl, hp _ h]; decide
    · split
      · rename_i h; rw [show (2, 2).2 = ([50, 35] : Tx).length from rfl, hp _ h]; decide
      · simp
theorem headN_base (s : Tx) : (headN s).1 ≤ 16 := by
  unfold headN
  repeat' split
  all_goals simp
theorem numF_text {s : Tx} (h : (numF s).2.2 = 0) : ∀ c ∈ s.take (numF s).1, c ≠ 32 := by
  unfold numF numG at h ⊢
  split
  · simp
  · rename_i hc
    rw [if_neg hc] at h
    split
    · simp
    · simp only
      rw [List.take_add]
      intro c hcm
      rcases List.mem_append.1 hcm with h1 | h1
      · exact headN_text s c h1
      · have ht : (s.drop (headN s).2).take ((s.drop (headN s).2).takeWhile (fun c => decide (valB c < (headN s).1))).length = (s.drop (headN s).2).takeWhile (fun c => decide (valB c < (headN s).1)) :=
          (List.prefix_iff_eq_take.1 (List.takeWhile_prefix _)).symm
        rw [ht] at h1
        have := mem_takeWhile' h1
        rintro rfl
        have hb := headN_base s
        have : valB 32 < (headN s).1 := by simpa using this
        have h99 : valB 32 = 99 := by decide
        omega
theorem signF_text (c : UInt8) (r : Tx) : ∀ d ∈ (c :: r).take (signF (c :: r)), d ≠ 32 := by
  have h2 : ∀ w ∈ signs2, w.length = 2 ∧ ∀ c ∈ w, c ≠ 32 := by decide
  have h1 : ∀ c ∈ signs1, c ≠ 32 := by decide
  unfold signF
  split
  · rename_i h
    obtain ⟨w, hw, hp⟩ := List.any_eq_true.1 h
    have := (List.prefix_iff_eq_take.1 (List.isPrefixOf_iff_prefix.1 hp)).symm
    rw [(h2 w hw).1] at this
    rw [this]
    exact (h2 w hw).2
  · simp only
    split
    · rename_i h
      intro d hd
      simp at hd
      subst hd
      exact h1 _ h
    · simp
theorem nextF_text (c : UInt8) (r : Tx) (h : (nextF (c :: r)).1 = 0) : ∀ d ∈ (c :: r).take (nextF (c :: r)).2.2.1, d ≠ 32 := by
  have hw : ∀ d ∈ (c :: r).take ((c :: r).takeWhile innerB).length, d ≠ 32 := by
    have : (c :: r).take ((c :: r).takeWhile innerB).length = (c :: r).takeWhile innerB := (List.prefix_iff_eq_take.1 (List.takeWhile_prefix _)).symm
    rw [this]
    exact fun d hd => inner_ne (mem_takeWhile' hd)
  have hn := numF_text (s := c :: r)
  have hs := signF_text c r
  unfold nextF at h ⊢
  simp only at h ⊢
  generalize (c :: r) = s at *
  by_cases h1 : letterB c = true
  · simp only [if_pos h1] at h ⊢
    by_cases h2 : wordB (s.take (s.takeWhile innerB).length) = true
    · simp only [if_pos h2]; exact hw
    · simp only [if_neg h2] at h ⊢
      by_cases h3 : 16 < (s.takeWhile innerB).length
      · simp only [if_pos h3] at h; cases h
      · simp only [if_neg h3]; exact hw
  · simp only [if_neg h1] at h ⊢
    by_cases h2 : digitB c = true
    · simp only [if_pos h2] at h ⊢
      by_cases h3 : (numF s).2.2 = 0
      · simp only [if_pos h3]; exact hn h3
      · simp only [if_neg h3] at h; exact absurd h h3
    · simp only [if_neg h2] at h ⊢
      by_cases h3 : signF s = 0
      · simp only [if_pos h3] at h; cases h
      · simp only [if_neg h3]; exact hs
theorem lexF_nb (s : Tx) (h : noRem s) : ∀ (f i : Nat) (out out' : List Sgn), out'.map eS = out.map eS → (lexF (nbs s) f i out').1.map eS = (lexF s f i out).1.map eS ∧ (lexF (nbs s) f i out').2.1 = (lexF s f i out).2.1
  | 0, i, out, out', ho => by simp [lexF]
  | f + 1, i, out, out', ho => by
    have hg : gapC ((nbs s).length + 1) ((nbs s).drop i) = gapC (s.length + 1) (s.drop i) := by rw [nbs_len, nbs_drop, gapC_nb _ _ (noRem_drop h i)]
    unfold lexF
    rw [hg]
    generalize gapC (s.length + 1) (s.drop i) = g
    have hd : (nbs s).drop (i + g.1) = nbs (s.drop (i + g.1)) := nbs_drop _ _
    rw [hd, nextF_nb]
    by_cases h1 : g.2 = false
    · rw [if_pos h1, if_pos h1]; exact ⟨rfl, rfl⟩
    · rw [if_neg h1, if_neg h1]
      cases hc : s.drop (i + g.1) with
      | nil => simp [nbs, ho, here, eS]
      | cons c r =>
        have h2 : ¬ nbs (c :: r) = [] := by simp [nbs]
        rw [if_neg h2, if_neg (List.cons_ne_nil c r)]
        by_cases he : (nextF (c :: r)).1 ≠ 0
        · rw [if_pos he, if_pos he]; exact ⟨rfl, rfl⟩
        · rw [if_neg he, if_neg he]
          have ht := nextF_text c r (by simpa using he)
          refine lexF_nb s h f _ _ _ ?_
          rw [List.map_append, List.map_append, ho, nbs_take, nbs_id ht]
          simp [eS]
theorem lexP_nb (s : Tx) (h : noRem s) : (lexP (nbs s)).1.map eS = (lexP s).1.map eS ∧ (lexP (nbs s)).2.1 = (lexP s).2.1 := by
  unfold lexP
  rw [nbs_len]
  split
  · exact ⟨rfl, rfl⟩
  · exact lexF_nb s h _ 0 [] [] rfl
theorem parse_nb (s : Tx) (h : noRem s) : (parseF (nbs s)).2.1 = (parseF s).2.1 ∧ eG (parseF (nbs s)).1 = eG (parseF s).1 := by
  obtain ⟨h1, h2⟩ := lexP_nb s h
  unfold parseF
  rw [h2]
  by_cases he : (lexP s).2.1 ≠ 0
  · rw [if_pos he, if_pos he]; exact ⟨rfl, rfl⟩
  · rw [if_neg he, if_neg he]
    have hl : (lexP (nbs s)).1.length = (lexP s).1.length := by
      have := congrArg List.length h1
      simpa using this
    rw [hl]
    have a := program_e (lexP (nbs s)).1 kindN (20 * (lexP s).1.length + 19) ⟨0, 0, []⟩
    have b := program_e (lexP s).1 kindN (20 * (lexP s).1.length + 19) ⟨0, 0, []⟩
    unfold PE at a b
    rw [h1, b] at a
    generalize programS (lexP (nbs s)).1 kindN (20 * (lexP s).1.length + 19) ⟨0, 0, []⟩ = x at *
    generalize programS (lexP s).1 kindN (20 * (lexP s).1.length + 19) ⟨0, 0, []⟩ = y at *
    cases x <;> cases y <;> simp only [emap] at a <;> try cases a
    · simp only [PR.ok.injEq] at a
      exact ⟨rfl, a.1.symm⟩
    · simp only [PR.bad.injEq, eR, Er.mk.injEq] at a
      exact ⟨a.1.1.symm, rfl⟩
    · exact ⟨rfl, rfl⟩
end Go.Am
end
section
namespace Go.Am
open Go Go.Proofs
variable [Inhabited Mx2]
set_option maxRecDepth 20000
theorem eqI_loop (k : Kt) (R1 R2 : Ans)
    (h1 : k .ret ⟨26, gl0, [(4, true, .d (.bool false))], []⟩ = R1) : ∀ (r1 r2 p1 p2 : List Int), p2.length = p1.length → r2.length = r1.length → (p1 ++ r1).length < 1000000000 →
    (h2 : k (.exit 0) ⟨26, gl0, [(0, true, .d (.list ((p1 ++ r1).map (fun n => D.int .i64 n)))), (1, true, .d (.list ((p2 ++ r2).map (fun n => D.int .i64 n)))), (12, true, .d (.int .i64 (p1 ++ r1).length)), (13, true, .d (.int .i64 (p1 ++ r1).length)), (14, true, .d (.bool false))], []⟩ = R2) →
    denK ctx 123 (.loop (Code.at (codeOf Tryd.f123) [1, 1, 0, 1, 0, 0])) ⟨26, gl0, [(0, true, .d (.list ((p1 ++ r1).map (fun n => D.int .i64 n)))), (1, true, .d (.list ((p2 ++ r2).map (fun n => D.int .i64 n)))), (12, true, .d (.int .i64 (p1 ++ r1).length)), (13, true, .d (.int .i64 p1.length))], []⟩ k = if r1 = r2 then R2 else R1
  | [], [], p1, p2, hp, hr, hl, h2 => by
    simp at h2
    rw [denK_loop]
    simp [Tryd.f123, h2]
  | x :: r1, y :: r2, p1, p2, hp, hr, hl, h2 => by
    have ih := eqI_loop k R1 R2 h1 r1 r2 (p1 ++ [x]) (p2 ++ [y]) (by simp [hp]) (by simpa using hr) (by simpa using hl) (by simpa using h2)
    have hr : r2.length = r1.length := by simpa using hr
    have w1 : (p1.length : Int) < p1.length + (r1.length + 1) := by omega
    have w2 : IntKind.i64.wrap ((p1.length : Int) + 1) = p1.length + 1 := wrap_id (by unfold I64; simp at hl; omega)
    rw [denK_loop]
    by_cases he : x = y
    · subst he
      simp [Tryd.f123] at ih ⊢
      simp [w1, w2, hp, hr, ih, drwK_end]
    · simp [Tryd.f123] at h1 ⊢
      simp [w1, w2, hp, hr, he, h1, drwK_end]
theorem eqI_r (l1 l2 : List Int) (hl : l1.length < 1000000000) : callT ctx 123 [.d (.list (l1.map (fun n => D.int .i64 n))), .d (.list (l2.map (fun n => D.int .i64 n)))] [] = some (.ret (.d (.bool (decide (l1 = l2)))), []) := by
  rw [run123 (by simp)]
  by_cases h : l2.length = l1.length
  · have hlp := fun k R1 R2 h1 h2 => eqI_loop k R1 R2 h1 l1 l2 [] [] rfl h (by simpa using hl) h2
    simp [Tryd.f123] at hlp ⊢
    simp [h]
    rw [hlp]
    split <;> simp [*]
  · have h' : ¬ ((l1.length : Int) = l2.length) := by omega
    have hne : ¬ l1 = l2 := fun e => h (by rw [e])
    simp [Tryd.f123, h', hne]
theorem eqX_loop (k : Kt) (R1 R2 : Ans)
    (h1 : k .ret ⟨26, gl0, [(4, true, .d (.bool false))], []⟩ = R1) : ∀ (r1 r2 p1 p2 : List Tx), p2.length = p1.length → r2.length = r1.length → (p1 ++ r1).length < 1000000000 →
    (h2 : k (.exit 0) ⟨26, gl0, [(0, true, .d (.list ((p1 ++ r1).map D.str))), (1, true, .d (.list ((p2 ++ r2).map D.str))), (12, true, .d (.int .i64 (p1 ++ r1).length)), (13, true, .d (.int .i64 (p1 ++ r1).length)), (14, true, .d (.bool false))], []⟩ = R2) →
    denK ctx 95 (.loop (Code.at (codeOf Tryd.f95) [1, 1, 0, 1, 0, 0])) ⟨26, gl0, [(0, true, .d (.list ((p1 ++ r1).map D.str))), (1, true, .d (.list ((p2 ++ r2).map D.str))), (12, true, .d (.int .i64 (p1 ++ r1).length)), (13, true, .d (.int .i64 p1.length))], []⟩ k = if r1 = r2 then R2 else R1
  | [], [], p1, p2, hp, hr, hl, h2 => by
    simp at h2
    rw [denK_loop]
    simp [Tryd.f95, h2]
  | x :: r1, y :: r2, p1, p2, hp, hr, hl, h2 => by
    have ih := eqX_loop k R1 R2 h1 r1 r2 (p1 ++ [x]) (p2 ++ [y]) (by simp [hp]) (by simpa using hr) (by simpa using hl) (by simpa using h2)
    have hr : r2.length = r1.length := by simpa using hr
    have w1 : (p1.length : Int) < p1.length + (r1.length + 1) := by omega
    have w2 : IntKind.i64.wrap ((p1.length : Int) + 1) = p1.length + 1 := wrap_id (by unfold I64; simp at hl; omega)
    rw [denK_loop]
    by_cases he : x = y
    · subst he
      simp [Tryd.f95] at ih ⊢
      simp [w1, w2, hp, hr, ih, drwK_end]
    · simp [Tryd.f95] at h1 ⊢
      simp [w1, w2, hp, hr, he, h1, drwK_end]
theorem eqX_r (l1 l2 : List Tx) (hl : l1.length < 1000000000) : callT ctx 95 [.d (.list (l1.map D.str)), .d (.list (l2.map D.str))] [] = some (.ret (.d (.bool (decide (l1 = l2)))), []) := by
  rw [run95 (by simp)]
  by_cases h : l2.length = l1.length
  · have hlp := fun k R1 R2 h1 h2 => eqX_loop k R1 R2 h1 l1 l2 [] [] rfl h (by simpa using hl) h2
    simp [Tryd.f95] at hlp ⊢
    simp [h]
    rw [hlp]
    split <;> simp [*]
  · have h' : ¬ ((l1.length : Int) = l2.length) := by omega
    have hne : ¬ l1 = l2 := fun e => h (by rw [e])
    simp [Tryd.f95, h', hne]
end Go.Am
end
section
namespace Go.Am
open Go Go.Proofs
variable [Inhabited Mx2]
set_option maxRecDepth 20000
def eqI (a b : List Int) : Bool := decide (a = b)
theorem efV_loop (k : Kt) (R1 R2 : Ans)
    (h1 : ∀ (v1 v2 : Nat) (c1 c2 : Cont), k .ret ⟨32, gl0, [(6, true, .d (.bool false))], [⟨500, v1, c1⟩, ⟨550, v2, c2⟩]⟩ = R1) : ∀ (r1 r2 p1 p2 : List Vr) (v1 v2 : Nat) (c1 c2 : Cont) , p2.length = p1.length → r2.length = r1.length → (p1 ++ r1).length < 1000000000 →
    (∀ x ∈ r1, ∀ y, callT ctx 35 [.d (vrD x), .d (vrD y)] [] = some (.ret (.d (.bool (sameV x y))), [])) →
    (h2 : ∀ (v1 v2 : Nat) (c1 c2 : Cont), k (.exit 0) ⟨32, gl0, [(1, true, .d (.list ((p2 ++ r2).map vrD))), (2, true, .fn 35 []), (15, true, .d (.list ((p1 ++ r1).map vrD))), (16, true, .d (.int .i64 (p1 ++ r1).length)), (17, true, .d (.int .i64 (p1 ++ r1).length)), (18, true, .d (.bool false))], [⟨500, v1, c1⟩, ⟨550, v2, c2⟩]⟩ = R2) →
    denK ctx 34 (.loop (Code.at (codeOf Tryd.f34) [1, 1, 0, 1, 0, 0])) ⟨32, gl0, [(1, true, .d (.list ((p2 ++ r2).map vrD))), (2, true, .fn 35 []), (15, true, .d (.list ((p1 ++ r1).map vrD))), (16, true, .d (.int .i64 (p1 ++ r1).length)), (17, true, .d (.int .i64 p1.length))], [⟨500, v1, c1⟩, ⟨550, v2, c2⟩]⟩ k = if eqL sameV r1 r2 = true then R2 else R1
  | [], [], p1, p2, v1, v2, c1, c2, hp, hr, hl, hc, h2 => by
    simp at h2
    rw [denK_loop]
    simp [Tryd.f34, h2, eqL]
  | x :: r1, y :: r2, p1, p2, v1, v2, c1, c2, hp, hr, hl, hc, h2 => by
    have ih := fun v1 v2 c1 c2 => efV_loop k R1 R2 h1 r1 r2 (p1 ++ [x]) (p2 ++ [y]) v1 v2 c1 c2 (by simp [hp]) (by simpa using hr) (by simpa using hl) (fun x hx => hc x (by simp [hx])) (by simpa using h2)
    have hr : r2.length = r1.length := by simpa using hr
    have hc := hc x (by simp) y
    have w1 : (p1.length : Int) < p1.length + (r1.length + 1) := by omega
    have w2 : IntKind.i64.wrap ((p1.length : Int) + 1) = p1.length + 1 := wrap_id (by unfold I64; simp at hl; omega)
    rw [denK_loop]
    simp only [eqL]
    by_cases he : sameV x y = true
    · rw [he] at hc
      simp [Tryd.f34, vrD, vrC] at ih hc ⊢
      simp [w1, w2, hp, hr, hc, he, ih, drwK_end, vrD, vrC]
    · have he : sameV x y = false := by simpa using he
      rw [he] at hc
      simp [Tryd.f34, vrD, vrC] at h1 hc ⊢
      simp [w1, w2, hp, hr, hc, he, h1, drwK_end, vrD, vrC]
theorem efV_r (l1 l2 : List Vr) (hl : l1.length < 1000000000) (hc : ∀ x ∈ l1, ∀ y, callT ctx 35 [.d (vrD x), .d (vrD y)] [] = some (.ret (.d (.bool (sameV x y))), [])) :
    callT ctx 34 [.d (.list (l1.map vrD)), .d (.list (l2.map vrD)), .fn 35 []] [] = some (.ret (.d (.bool (eqL sameV l1 l2))), []) := by
  rw [run34 (by simp)]
  by_cases h : l2.length = l1.length
  · have hlp := fun k R1 R2 h1 v1 v2 c1 c2 h2 => efV_loop k R1 R2 h1 l1 l2 [] [] v1 v2 c1 c2 rfl h (by simpa using hl) hc h2
    simp [Tryd.f34] at hlp ⊢
    simp [h]
    rw [hlp _ (some (.ret (.d (.bool false)), [])) (some (.ret (.d (.bool true)), [])) (by simp) _ _ _ _ (by simp)]
    by_cases he : eqL sameV l1 l2 = true
    · simp [he]
    · simp [show eqL sameV l1 l2 = false by simpa using he]
  · have h' : ¬ ((l1.length : Int) = l2.length) := by omega
    have hne : eqL sameV l1 l2 = false := by
      by_cases he : eqL sameV l1 l2 = true
      · exact absurd (eqL_len he).symm h
      · simpa using he
    simp [Tryd.f34, h', hne]
theorem efE_loop (k : Kt) (R1 R2 : Ans)
    (h1 : ∀ (v1 v2 : Nat) (c1 c2 : Cont), k .ret ⟨32, gl0, [(6, true, .d (.bool false))], [⟨500, v1, c1⟩, ⟨550, v2, c2⟩]⟩ = R1) : ∀ (r1 r2 p1 p2 : List Ex) (v1 v2 : Nat) (c1 c2 : Cont) , p2.length = p1.length → r2.length = r1.length → (p1 ++ r1).length < 1000000000 →
    (∀ x ∈ r1, ∀ y, callT ctx 91 [.d (exD x), .d (exD y)] [] = some (.ret (.d (.bool (sameE x y))), [])) →
    (h2 : ∀ (v1 v2 : Nat) (c1 c2 : Cont), k (.exit 0) ⟨32, gl0, [(1, true, .d (.list ((p2 ++ r2).map exD))), (2, true, .fn 91 []), (15, true, .d (.list ((p1 ++ r1).map exD))), (16, true, .d (.int .i64 (p1 ++ r1).length)), (17, true, .d (.int .i64 (p1 ++ r1).length)), (18, true, .d (.bool false))], [⟨500, v1, c1⟩, ⟨550, v2, c2⟩]⟩ = R2) →
    denK ctx 92 (.loop (Code.at (codeOf Tryd.f92) [1, 1, 0, 1, 0, 0])) ⟨32, gl0, [(1, true, .d (.list ((p2 ++ r2).map exD))), (2, true, .fn 91 []), (15, true, .d (.list ((p1 ++ r1).map exD))), (16, true, .d (.int .i64 (p1 ++ r1).length)), (17, true, .d (.int .i64 p1.length))], [⟨500, v1, c1⟩, ⟨550, v2, c2⟩]⟩ k = if eqL sameE r1 r2 = true then R2 else R1
  | [], [], p1, p2, v1, v2, c1, c2, hp, hr, hl, hc, h2 => by
    simp at h2
    rw [denK_loop]
    simp [Tryd.f92, h2, eqL]
  | x :: r1, y :: r2, p1, p2, v1, v2, c1, c2, hp, hr, hl, hc, h2 => by
    have ih := fun v1 v2 c1 c2 => efE_loop k R1 R2 h1 r1 r2 (p1 ++ [x]) (p2 ++ [y]) v1 v2 c1 c2 (by simp [hp]) (by simpa using hr) (by simpa using hl) (fun x hx => hc x (by simp [hx])) (by simpa using h2)
    have hr : r2.length = r1.length := by simpa using hr
    have hc := hc x (by simp) y
    have w1 : (p1.length : Int) < p1.length + (r1.length + 1) := by omega
    have w2 : IntKind.i64.wrap ((p1.length : Int) + 1) = p1.length + 1 := wrap_id (by unfold I64; simp at hl; omega)
    rw [denK_loop]
    simp only [eqL]
    by_cases he : sameE x y = true
    · rw [he] at hc
      simp [Tryd.f92, exD_A] at ih hc ⊢
      simp [w1, w2, hp, hr, hc, he, ih, drwK_end, exD_A]
    · have he : sameE x y = false := by simpa using he
      rw [he] at hc
      simp [Tryd.f92, exD_A] at h1 hc ⊢
      simp [w1, w2, hp, hr, hc, he, h1, drwK_end, exD_A]
theorem efE_r (l1 l2 : List Ex) (hl : l1.length < 1000000000) (hc : ∀ x ∈ l1, ∀ y, callT ctx 91 [.d (exD x), .d (exD y)] [] = some (.ret (.d (.bool (sameE x y))), [])) :
    callT ctx 92 [.d (.list (l1.map exD)), .d (.list (l2.map exD)), .fn 91 []] [] = some (.ret (.d (.bool (eqL sameE l1 l2))), []) := by
  rw [run92 (by simp)]
  by_cases h : l2.length = l1.length
  · have hlp := fun k R1 R2 h1 v1 v2 c1 c2 h2 => efE_loop k R1 R2 h1 l1 l2 [] [] v1 v2 c1 c2 rfl h (by simpa using hl) hc h2
    simp [Tryd.f92] at hlp ⊢
    simp [h]
    rw [hlp _ (some (.ret (.d (.bool false)), [])) (some (.ret (.d (.bool true)), [])) (by simp) _ _ _ _ (by simp)]
    by_cases he : eqL sameE l1 l2 = true
    · simp [he]
    · simp [show eqL sameE l1 l2 = false by simpa using he]
  · have h' : ¬ ((l1.length : Int) = l2.length) := by omega
    have hne : eqL sameE l1 l2 = false := by
      by_cases he : eqL sameE l1 l2 = true
      · exact absurd (eqL_len he).symm h
      · simpa using he
    simp [Tryd.f92, h', hne]
theorem efM_loop (k : Kt) (R1 R2 : Ans)
    (h1 : ∀ (v1 v2 : Nat) (c1 c2 : Cont), k .ret ⟨32, gl0, [(6, true, .d (.bool false))], [⟨500, v1, c1⟩, ⟨550, v2, c2⟩]⟩ = R1) : ∀ (r1 r2 p1 p2 : List Sm) (v1 v2 : Nat) (c1 c2 : Cont) , p2.length = p1.length → r2.length = r1.length → (p1 ++ r1).length < 1000000000 →
    (∀ x ∈ r1, ∀ y, callT ctx 58 [.d (smD x), .d (smD y)] [] = some (.ret (.d (.bool (sameM x y))), [])) →
    (h2 : ∀ (v1 v2 : Nat) (c1 c2 : Cont), k (.exit 0) ⟨32, gl0, [(1, true, .d (.list ((p2 ++ r2).map smD))), (2, true, .fn 58 []), (15, true, .d (.list ((p1 ++ r1).map smD))), (16, true, .d (.int .i64 (p1 ++ r1).length)), (17, true, .d (.int .i64 (p1 ++ r1).length)), (18, true, .d (.bool false))], [⟨500, v1, c1⟩, ⟨550, v2, c2⟩]⟩ = R2) →
    denK ctx 57 (.loop (Code.at (codeOf Tryd.f57) [1, 1, 0, 1, 0, 0])) ⟨32, gl0, [(1, true, .d (.list ((p2 ++ r2).map smD))), (2, true, .fn 58 []), (15, true, .d (.list ((p1 ++ r1).map smD))), (16, true, .d (.int .i64 (p1 ++ r1).length)), (17, true, .d (.int .i64 p1.length))], [⟨500, v1, c1⟩, ⟨550, v2, c2⟩]⟩ k = if eqL sameM r1 r2 = true then R2 else R1
  | [], [], p1, p2, v1, v2, c1, c2, hp, hr, hl, hc, h2 => by
    simp at h2
    rw [denK_loop]
    simp [Tryd.f57, h2, eqL]
  | x :: r1, y :: r2, p1, p2, v1, v2, c1, c2, hp, hr, hl, hc, h2 => by
    have ih := fun v1 v2 c1 c2 => efM_loop k R1 R2 h1 r1 r2 (p1 ++ [x]) (p2 ++ [y]) v1 v2 c1 c2 (by simp [hp]) (by simpa using hr) (by simpa using hl) (fun x hx => hc x (by simp [hx])) (by simpa using h2)
    have hr : r2.length = r1.length := by simpa using hr
    have hc := hc x (by simp) y
    have w1 : (p1.length : Int) < p1.length + (r1.length + 1) := by omega
    have w2 : IntKind.i64.wrap ((p1.length : Int) + 1) = p1.length + 1 := wrap_id (by unfold I64; simp at hl; omega)
    rw [denK_loop]
    simp only [eqL]
    by_cases he : sameM x y = true
    · rw [he] at hc
      simp [Tryd.f57, smD_A] at ih hc ⊢
      simp [w1, w2, hp, hr, hc, he, ih, drwK_end, smD_A]
    · have he : sameM x y = false := by simpa using he
      rw [he] at hc
      simp [Tryd.f57, smD_A] at h1 hc ⊢
      simp [w1, w2, hp, hr, hc, he, h1, drwK_end, smD_A]
theorem efM_r (l1 l2 : List Sm) (hl : l1.length < 1000000000) (hc : ∀ x ∈ l1, ∀ y, callT ctx 58 [.d (smD x), .d (smD y)] [] = some (.ret (.d (.bool (sameM x y))), [])) :
    callT ctx 57 [.d (.list (l1.map smD)), .d (.list (l2.map smD)), .fn 58 []] [] = some (.ret (.d (.bool (eqL sameM l1 l2))), []) := by
  rw [run57 (by simp)]
  by_cases h : l2.length = l1.length
  · have hlp := fun k R1 R2 h1 v1 v2 c1 c2 h2 => efM_loop k R1 R2 h1 l1 l2 [] [] v1 v2 c1 c2 rfl h (by simpa using hl) hc h2
    simp [Tryd.f57] at hlp ⊢
    simp [h]
    rw [hlp _ (some (.ret (.d (.bool false)), [])) (some (.ret (.d (.bool true)), [])) (by simp) _ _ _ _ (by simp)]
    by_cases he : eqL sameM l1 l2 = true
    · simp [he]
    · simp [show eqL sameM l1 l2 = false by simpa using he]
  · have h' : ¬ ((l1.length : Int) = l2.length) := by omega
    have hne : eqL sameM l1 l2 = false := by
      by_cases he : eqL sameM l1 l2 = true
      · exact absurd (eqL_len he).symm h
      · simpa using he
    simp [Tryd.f57, h', hne]
theorem efL_loop (k : Kt) (R1 R2 : Ans)
    (h1 : k .ret ⟨32, gl0, [(6, true, .d (.bool false))], []⟩ = R1) : ∀ (r1 r2 p1 p2 : List (List Int)) , p2.length = p1.length → r2.length = r1.length → (p1 ++ r1).length < 1000000000 →
    (∀ x ∈ r1, ∀ y, callT ctx 94 [.d (lbD x), .d (lbD y)] [] = some (.ret (.d (.bool (eqI x y))), [])) →
    (h2 : k (.exit 0) ⟨32, gl0, [(1, true, .d (.list ((p2 ++ r2).map lbD))), (2, true, .fn 94 []), (15, true, .d (.list ((p1 ++ r1).map lbD))), (16, true, .d (.int .i64 (p1 ++ r1).length)), (17, true, .d (.int .i64 (p1 ++ r1).length)), (18, true, .d (.bool false))], []⟩ = R2) →
    denK ctx 93 (.loop (Code.at (codeOf Tryd.f93) [1, 1, 0, 1, 0, 0])) ⟨32, gl0, [(1, true, .d (.list ((p2 ++ r2).map lbD))), (2, true, .fn 94 []), (15, true, .d (.list ((p1 ++ r1).map lbD))), (16, true, .d (.int .i64 (p1 ++ r1).length)), (17, true, .d (.int .i64 p1.length))], []⟩ k = if eqL eqI r1 r2 = true then R2 else R1
  | [], [], p1, p2, hp, hr, hl, hc, h2 => by
    simp at h2
    rw [denK_loop]
    simp [Tryd.f93, h2, eqL]
  | x :: r1, y :: r2, p1, p2, hp, hr, hl, hc, h2 => by
    have ih := fun (_ : Unit) => efL_loop k R1 R2 h1 r1 r2 (p1 ++ [x]) (p2 ++ [y]) (by simp [hp]) (by simpa using hr) (by simpa using hl) (fun x hx => hc x (by simp [hx])) (by simpa using h2)
    have hr : r2.length = r1.length := by simpa using hr
    have hc := hc x (by simp) y
    have w1 : (p1.length : Int) < p1.length + (r1.length + 1) := by omega
    have w2 : IntKind.i64.wrap ((p1.length : Int) + 1) = p1.length + 1 := wrap_id (by unfold I64; simp at hl; omega)
    rw [denK_loop]
    simp only [eqL]
    by_cases he : eqI x y = true
    · rw [he] at hc
      simp [Tryd.f93, lbD] at ih hc ⊢
      simp [w1, w2, hp, hr, hc, he, ih, drwK_end, lbD]
    · have he : eqI x y = false := by simpa using he
      rw [he] at hc
      simp [Tryd.f93, lbD] at h1 hc ⊢
      simp [w1, w2, hp, hr, hc, he, h1, drwK_end, lbD]
theorem efL_r (l1 l2 : List (List Int)) (hl : l1.length < 1000000000) (hc : ∀ x ∈ l1, ∀ y, callT ctx 94 [.d (lbD x), .d (lbD y)] [] = some (.ret (.d (.bool (eqI x y))), [])) :
    callT ctx 93 [.d (.list (l1.map lbD)), .d (.list (l2.map lbD)), .fn 94 []] [] = some (.ret (.d (.bool (eqL eqI l1 l2))), []) := by
  rw [run93 (by simp)]
  by_cases h : l2.length = l1.length
  · have hlp := fun k R1 R2 h1 h2 => efL_loop k R1 R2 h1 l1 l2 [] [] rfl h (by simpa using hl) hc h2
    simp [Tryd.f93] at hlp ⊢
    simp [h]
    rw [hlp]
    by_cases he : eqL eqI l1 l2 = true
    · simp [he]
    · simp [show eqL eqI l1 l2 = false by simpa using he]
  · have h' : ¬ ((l1.length : Int) = l2.length) := by omega
    have hne : eqL eqI l1 l2 = false := by
      by_cases he : eqL eqI l1 l2 = true
      · exact absurd (eqL_len he).symm h
      · simpa using he
    simp [Tryd.f93, h', hne]
theorem efB_loop (k : Kt) (R1 R2 : Ans)
    (h1 : k .ret ⟨32, gl0, [(6, true, .d (.bool false))], []⟩ = R1) : ∀ (r1 r2 p1 p2 : List (List Sm)) , p2.length = p1.length → r2.length = r1.length → (p1 ++ r1).length < 1000000000 →
    (∀ x ∈ r1, ∀ y, callT ctx 36 [.d (bkD x), .d (bkD y)] [] = some (.ret (.d (.bool (sameMs x y))), [])) →
    (h2 : k (.exit 0) ⟨32, gl0, [(1, true, .d (.list ((p2 ++ r2).map bkD))), (2, true, .fn 36 []), (15, true, .d (.list ((p1 ++ r1).map bkD))), (16, true, .d (.int .i64 (p1 ++ r1).length)), (17, true, .d (.int .i64 (p1 ++ r1).length)), (18, true, .d (.bool false))], []⟩ = R2) →
    denK ctx 96 (.loop (Code.at (codeOf Tryd.f96) [1, 1, 0, 1, 0, 0])) ⟨32, gl0, [(1, true, .d (.list ((p2 ++ r2).map bkD))), (2, true, .fn 36 []), (15, true, .d (.list ((p1 ++ r1).map bkD))), (16, true, .d (.int .i64 (p1 ++ r1).length)), (17, true, .d (.int .i64 p1.length))], []⟩ k = if eqL sameMs r1 r2 = true then R2 else R1
  | [], [], p1, p2, hp, hr, hl, hc, h2 => by
    simp at h2
    rw [denK_loop]
    simp [Tryd.f96, h2, eqL]
  | x :: r1, y :: r2, p1, p2, hp, hr, hl, hc, h2 => by
    have ih := fun (_ : Unit) => efB_loop k R1 R2 h1 r1 r2 (p1 ++ [x]) (p2 ++ [y]) (by simp [hp]) (by simpa using hr) (by simpa using hl) (fun x hx => hc x (by simp [hx])) (by simpa using h2)
    have hr : r2.length = r1.length := by simpa using hr
    have hc := hc x (by simp) y
    have w1 : (p1.length : Int) < p1.length + (r1.length + 1) := by omega
    have w2 : IntKind.i64.wrap ((p1.length : Int) + 1) = p1.length + 1 := wrap_id (by unfold I64; simp at hl; omega)
    rw [denK_loop]
    simp only [eqL]
    by_cases he : sameMs x y = true
    · rw [he] at hc
      simp [Tryd.f96, bkD] at ih hc ⊢
      simp [w1, w2, hp, hr, hc, he, ih, drwK_end, bkD]
    · have he : sameMs x y = false := by simpa using he
      rw [he] at hc
      simp [Tryd.f96, bkD] at h1 hc ⊢
      simp [w1, w2, hp, hr, hc, he, h1, drwK_end, bkD]
theorem efB_r (l1 l2 : List (List Sm)) (hl : l1.length < 1000000000) (hc : ∀ x ∈ l1, ∀ y, callT ctx 36 [.d (bkD x), .d (bkD y)] [] = some (.ret (.d (.bool (sameMs x y))), [])) :
    callT ctx 96 [.d (.list (l1.map bkD)), .d (.list (l2.map bkD)), .fn 36 []] [] = some (.ret (.d (.bool (eqL sameMs l1 l2))), []) := by
  rw [run96 (by simp)]
  by_cases h : l2.length = l1.length
  · have hlp := fun k R1 R2 h1 h2 => efB_loop k R1 R2 h1 l1 l2 [] [] rfl h (by simpa using hl) hc h2
    simp [Tryd.f96] at hlp ⊢
    simp [h]
    rw [hlp]
    by_cases he : eqL sameMs l1 l2 = true
    · simp [he]
    · simp [show eqL sameMs l1 l2 = false by simpa using he]
  · have h' : ¬ ((l1.length : Int) = l2.length) := by omega
    have hne : eqL sameMs l1 l2 = false := by
      by_cases he : eqL sameMs l1 l2 = true
      · exact absurd (eqL_len he).symm h
      · simpa using he
    simp [Tryd.f96, h', hne]
end Go.Am
end
section
namespace Go.Am
open Go Go.Proofs
variable [Inhabited Mx2]
set_option maxRecDepth 20000
mutual
def ltE : Ex → Prop
  | .mk _ _ _ _ s _ => s.length < 1000000000 ∧ ltEs s
def ltEs : List Ex → Prop
  | [] => True
  | x :: r => ltE x ∧ ltEs r
end
theorem ltEs_iff : ∀ l : List Ex, ltEs l ↔ ∀ x ∈ l, ltE x
  | [] => by simp [ltEs]
  | x :: r => by simp [ltEs, ltEs_iff r]
mutual
def ltM : Sm → Prop
  | .mk _ _ t v c lb f b _ => ltE t ∧ ltE v ∧ c.length < 1000000000 ∧ ltEs c ∧ lb.length < 1000000000 ∧ (∀ l ∈ lb, l.length < 1000000000) ∧ f.length < 1000000000 ∧ b.length < 1000000000 ∧ ltBs b
def ltMs : List Sm → Prop
  | [] => True
  | x :: r => ltM x ∧ ltMs r
def ltBs : List (List Sm) → Prop
  | [] => True
  | x :: r => x.length < 1000000000 ∧ ltMs x ∧ ltBs r
end
theorem ltMs_iff : ∀ l : List Sm, ltMs l ↔ ∀ x ∈ l, ltM x
  | [] => by simp [ltMs]
  | x :: r => by simp [ltMs, ltMs_iff r]
theorem ltBs_iff : ∀ l : List (List Sm), ltBs l ↔ ∀ x ∈ l, x.length < 1000000000 ∧ ltMs x
  | [] => by simp [ltBs]
  | x :: r => by simp [ltBs, ltBs_iff r, and_assoc]
theorem exD_M (x : Ex) : exD x = .agg [.int .i64 (exo x), .int .i64 (exn x), .str (exa x), .str (exf x), .list ((exs x).map exD), .int .i64 (exl x)] := exD_A x
theorem sameE_r : ∀ (x y : Ex), ltE x → callT ctx 91 [.d (exD x), .d (exD y)] [] = some (.ret (.d (.bool (sameE x y))), [])
  | .mk o n a f s l, .mk o' n' a' f' s' l', h => by
    simp only [ltE] at h
    have hs := fun x (hx : x ∈ s) y => sameE_r x y ((ltEs_iff s).1 h.2 x hx)
    have he := efE_r s s' h.1 hs
    rw [run91 (by simp)]
    simp [Tryd.f91, exD_A, he, sameE, sameEs_eq]
    grind
termination_by x => SizeOf.sizeOf x
decreasing_by all_goals (simp_wf; have := List.sizeOf_lt_of_mem hx; omega)
theorem sameLabels_r (l l' : List Int) (h : l.length < 1000000000) : callT ctx 94 [.d (lbD l), .d (lbD l')] [] = some (.ret (.d (.bool (eqI l l'))), []) := by
  have he := eqI_r l l' h
  rw [run94 (by simp)]
  simp [Tryd.f94, lbD, he, eqI]
theorem sameBlock_of (l l' : List Sm) (h : l.length < 1000000000) (hc : ∀ x ∈ l, ∀ y, callT ctx 58 [.d (smD x), .d (smD y)] [] = some (.ret (.d (.bool (sameM x y))), [])) :
    callT ctx 36 [.d (bkD l), .d (bkD l')] [] = some (.ret (.d (.bool (sameMs l l'))), []) := by
  have he := efM_r l l' h hc
  rw [run36 (by simp)]
  simp [Tryd.f36, bkD, he, sameMs_eq]
theorem sameM_r : ∀ (x y : Sm), ltM x → callT ctx 58 [.d (smD x), .d (smD y)] [] = some (.ret (.d (.bool (sameM x y))), [])
  | .mk o n t v c lb f b l, .mk o' n' t' v' c' lb' f' b' l', h => by
    simp only [ltM] at h
    obtain ⟨h1, h2, h3, h4, h5, h6, h7, h8, h9⟩ := h
    have hb := fun x (hx : x ∈ b) y => sameBlock_of x y ((ltBs_iff b).1 h9 x hx).1 (fun z hz w => sameM_r z w ((ltMs_iff x).1 ((ltBs_iff b).1 h9 x hx).2 z hz))
    have e1 := sameE_r t t' h1
    have e2 := sameE_r v v' h2
    have e3 := efE_r c c' h3 (fun x hx y => sameE_r x y ((ltEs_iff c).1 h4 x hx))
    have e4 := efL_r lb lb' h5 (fun x hx y => sameLabels_r x y (h6 x hx))
    have e5 := eqX_r f f' h7
    have e6 := efB_r b b' h8 hb
    have e7 : eqL eqI lb lb' = decide (lb = lb') := eqL_eq lb lb'
    rw [run58 (by simp)]
    simp [exD_A] at e1 e2
    simp [Tryd.f58, smD_A, e1, e2, e3, e4, e5, e6, e7, sameM, sameEs_eq, sameBs_eq]
    grind
termination_by x => SizeOf.sizeOf x
decreasing_by
  simp_wf
  have h1 := List.sizeOf_lt_of_mem hz
  have h2 := List.sizeOf_lt_of_mem hx
  omega
def ltPg (p : Pg) : Prop := p.vars.length < 1000000000 ∧ p.body.length < 1000000000 ∧ ltMs p.body
theorem sameV_r (x y : Vr) : callT ctx 35 [.d (vrD x), .d (vrD y)] [] = some (.ret (.d (.bool (sameV x y))), []) := by
  rw [run35 (by simp)]
  simp [Tryd.f35, vrD, vrC, sameV, eV]
  grind
theorem sameP_r (p q : Pg) (h : ltPg p) : callT ctx 17 [.d (.agg [.str p.name, .list (p.vars.map vrD), .list (p.body.map smD)]), .d (.agg [.str q.name, .list (q.vars.map vrD), .list (q.body.map smD)])] [] = some (.ret (.d (.bool (sameP p q))), []) := by
  have e1 := efV_r p.vars q.vars h.1 (fun x _ y => sameV_r x y)
  have e2 := sameBlock_of p.body q.body h.2.1 (fun x hx y => sameM_r x y ((ltMs_iff p.body).1 h.2.2 x hx))
  simp only [bkD] at e2
  rw [run17 (by simp)]
  simp [Tryd.f17, e1, e2, sameP]
  grind
end Go.Am
end
section
namespace Go.Am
open Go Go.Proofs
variable [Inhabited Mx2]
set_option maxRecDepth 20000
theorem r16_loop (k : Kt) (R1 R2 : Ans)
    (h1 : k .ret ⟨26, gl0, [(4, true, .d (.bool false))], []⟩ = R1) : ∀ (r1 r2 p1 p2 : List Int), p2.length = p1.length → r2.length = r1.length → (p1 ++ r1).length < 1000000000 →
    (h2 : k (.exit 0) ⟨26, gl0, [(0, true, .d (.list ((p1 ++ r1).map (fun n => D.int .i64 n)))), (1, true, .d (.list ((p2 ++ r2).map (fun n => D.int .i64 n)))), (5, true, .d (.int .i64 (p1 ++ r1).length)), (14, true, .d (.bool false))], []⟩ = R2) →
    denK ctx 60 (.loop (Code.at (codeOf Tryd.f60) [1, 1, 0, 1, 0, 0])) ⟨26, gl0, [(0, true, .d (.list ((p1 ++ r1).map (fun n => D.int .i64 n)))), (1, true, .d (.list ((p2 ++ r2).map (fun n => D.int .i64 n)))), (5, true, .d (.int .i64 p1.length))], []⟩ k = if r1 = r2 then R2 else R1
  | [], [], p1, p2, hp, hr, hl, h2 => by
    simp at h2
    rw [denK_loop]
    simp [Tryd.f60, h2]
  | x :: r1, y :: r2, p1, p2, hp, hr, hl, h2 => by
    have ih := r16_loop k R1 R2 h1 r1 r2 (p1 ++ [x]) (p2 ++ [y]) (by simp [hp]) (by simpa using hr) (by simpa using hl) (by simpa using h2)
    have hr : r2.length = r1.length := by simpa using hr
    have w1 : (p1.length : Int) < p1.length + (r1.length + 1) := by omega
    have w2 : IntKind.i64.wrap ((p1.length : Int) + 1) = p1.length + 1 := wrap_id (by unfold I64; simp at hl; omega)
    rw [denK_loop]
    by_cases he : x = y
    · subst he
      simp [Tryd.f60] at ih ⊢
      simp [w1, w2, hp, hr, ih, drwK_end]
    · simp [Tryd.f60] at h1 ⊢
      simp [w1, w2, hp, hr, he, h1, drwK_end]
theorem r16_r (l1 l2 : List Int) (hl : l1.length < 1000000000) : callT ctx 60 [.d (lbD l1), .d (lbD l2)] [] = some (.ret (.d (.bool (decide (l1 = l2)))), []) := by
  rw [run60 (by simp)]
  by_cases h : l2.length = l1.length
  · have hlp := fun k R1 R2 h1 h2 => r16_loop k R1 R2 h1 l1 l2 [] [] rfl h (by simpa using hl) h2
    simp [Tryd.f60, lbD] at hlp ⊢
    simp [h]
    rw [hlp]
    split <;> simp [*]
  · have h' : ¬ ((l1.length : Int) = l2.length) := by omega
    have hne : ¬ l1 = l2 := fun e => h (by rw [e])
    simp [Tryd.f60, h', hne, lbD]
theorem rxE_loop (k : Kt) (R1 R2 : Ans)
    (h1 : ∀ (v1 v2 : Nat) (c1 c2 : Cont), k .ret ⟨74, gl0, [(6, true, .d (.bool false))], [⟨500, v1, c1⟩, ⟨550, v2, c2⟩]⟩ = R1) : ∀ (r1 r2 p1 p2 : List Ex) (v1 v2 : Nat) (c1 c2 : Cont), p2.length = p1.length → r2.length = r1.length → (p1 ++ r1).length < 1000000000 →
    (∀ x ∈ r1, ∀ l, callT ctx 59 [.d (.list ((exs x).map exD)), .d (.list (l.map exD)), .d (.bool false)] [] = some (.ret (.d (.bool (sameEs (exs x) l))), [])) →
    (h2 : ∀ (v1 v2 : Nat) (c1 c2 : Cont), k (.exit 0) ⟨74, gl0, [(0, true, .d (.list ((p1 ++ r1).map exD))), (1, true, .d (.list ((p2 ++ r2).map exD))), (2, true, .d (.bool false)), (7, true, .d (.int .i64 (p1 ++ r1).length)), (18, true, .d (.bool false))], [⟨500, v1, c1⟩, ⟨550, v2, c2⟩]⟩ = R2) →
    denK ctx 59 (.loop (Code.at (codeOf Tryd.f59) [1, 1, 0, 1, 0, 0])) ⟨74, gl0, [(0, true, .d (.list ((p1 ++ r1).map exD))), (1, true, .d (.list ((p2 ++ r2).map exD))), (2, true, .d (.bool false)), (7, true, .d (.int .i64 p1.length))], [⟨500, v1, c1⟩, ⟨550, v2, c2⟩]⟩ k = if eqL sameE r1 r2 = true then R2 else R1
  | [], [], p1, p2, v1, v2, c1, c2, hp, hr, hl, hc, h2 => by
    simp at h2
    rw [denK_loop]
    simp [Tryd.f59, h2, eqL]
  | x :: r1, y :: r2, p1, p2, v1, v2, c1, c2, hp, hr, hl, hc, h2 => by
    have ih := fun v1 v2 c1 c2 => rxE_loop k R1 R2 h1 r1 r2 (p1 ++ [x]) (p2 ++ [y]) v1 v2 c1 c2 (by simp [hp]) (by simpa using hr) (by simpa using hl) (fun x hx => hc x (by simp [hx])) (by simpa using h2)
    have hr : r2.length = r1.length := by simpa using hr
    have hc := hc x (by simp) (exs y)
    have w1 : (p1.length : Int) < p1.length + (r1.length + 1) := by omega
    have w2 : IntKind.i64.wrap ((p1.length : Int) + 1) = p1.length + 1 := wrap_id (by unfold I64; simp at hl; omega)
    rw [denK_loop]
    simp only [eqL]
    have hs : sameE x y = (decide (exo x = exo y) && (decide (exn x = exn y) && (decide (exa x = exa y) && (decide (exf x = exf y) && sameEs (exs x) (exs y))))) := by
      cases x; cases y
      simp only [sameE, exo_mk, exn_mk, exa_mk, exf_mk, exs_mk]
      rfl
    simp only [hs]
    generalize sameEs (exs x) (exs y) = b at hc ⊢
    simp [Tryd.f59, exD_A] at ih hc h1 ⊢
    by_cases a1 : exo x = exo y
    · by_cases a2 : exn x = exn y
      · by_cases a3 : exa x = exa y
        · by_cases a4 : exf x = exf y
          · simp only [a1, a2, a3, a4] at ih
            cases b <;> simp [w1, w2, hp, hr, hc, ih, h1, drwK_end, exD_A, a1, a2, a3, a4]
          · simp [w1, w2, hp, hr, h1, drwK_end, exD_A, a1, a2, a3, a4]
        · simp [w1, w2, hp, hr, h1, drwK_end, exD_A, a1, a2, a3]
      · simp [w1, w2, hp, hr, h1, drwK_end, exD_A, a1, a2]
    · simp [w1, w2, hp, hr, h1, drwK_end, exD_A, a1]
theorem rxE_of (l1 l2 : List Ex) (hl : l1.length < 1000000000) (hc : ∀ x ∈ l1, ∀ l, callT ctx 59 [.d (.list ((exs x).map exD)), .d (.list (l.map exD)), .d (.bool false)] [] = some (.ret (.d (.bool (sameEs (exs x) l))), [])) :
    callT ctx 59 [.d (.list (l1.map exD)), .d (.list (l2.map exD)), .d (.bool false)] [] = some (.ret (.d (.bool (sameEs l1 l2))), []) := by
  rw [run59 (by simp), sameEs_eq]
  by_cases h : l2.length = l1.length
  · have hlp := fun k R1 R2 h1 v1 v2 c1 c2 h2 => rxE_loop k R1 R2 h1 l1 l2 [] [] v1 v2 c1 c2 rfl h (by simpa using hl) hc h2
    simp [Tryd.f59] at hlp ⊢
    simp [h]
    rw [hlp _ (some (.ret (.d (.bool false)), [])) (some (.ret (.d (.bool true)), [])) (by simp) _ _ _ _ (by simp)]
    by_cases he : eqL sameE l1 l2 = true
    · simp [he]
    · simp [show eqL sameE l1 l2 = false by simpa using he]
  · have h' : ¬ ((l1.length : Int) = l2.length) := by omega
    have hne : eqL sameE l1 l2 = false := by
      by_cases he : eqL sameE l1 l2 = true
      · exact absurd (eqL_len he).symm h
      · simpa using he
    simp [Tryd.f59, h', hne]
theorem rxE_one : ∀ (x : Ex), ltE x → ∀ l, callT ctx 59 [.d (.list ((exs x).map exD)), .d (.list (l.map exD)), .d (.bool false)] [] = some (.ret (.d (.bool (sameEs (exs x) l))), [])
  | .mk o n a f s ln, h, l => by
    simp only [ltE] at h
    exact rxE_of s l h.1 (fun x hx l => rxE_one x ((ltEs_iff s).1 h.2 x hx) l)
termination_by x => SizeOf.sizeOf x
decreasing_by all_goals (simp_wf; have := List.sizeOf_lt_of_mem hx; omega)
theorem rxE_r (l1 l2 : List Ex) (hl : l1.length < 1000000000) (h : ltEs l1) :
    callT ctx 59 [.d (.list (l1.map exD)), .d (.list (l2.map exD)), .d (.bool false)] [] = some (.ret (.d (.bool (sameEs l1 l2))), []) :=
  rxE_of l1 l2 hl fun x hx l => rxE_one x ((ltEs_iff l1).1 h x hx) l
end Go.Am
end
section
namespace Go.Am
open Go Go.Proofs
variable [Inhabited Mx2]
set_option maxRecDepth 20000
def bxM (x : Sm) : Cont := .box [.d (.int .i64 (smo x)), .d (.str (sma x)), .d (.int .i64 (exo (smt x))), .d (.int .i64 (exn (smt x))), .d (.str (exa (smt x))), .d (.str (exf (smt x))), .d (.list ((exs (smt x)).map exD)), .d (.int .i64 (exl (smt x))),
  .d (.int .i64 (exo (smv x))), .d (.int .i64 (exn (smv x))), .d (.str (exa (smv x))), .d (.str (exf (smv x))), .d (.list ((exs (smv x)).map exD)), .d (.int .i64 (exl (smv x))), .d (.list ((smc x).map exD)), .d (.list ((smlb x).map lbD)), .d (.list ((smf x).map .str)), .d (.list ((smb x).map bkD)), .d (.int .i64 (sml x))]
theorem rsL_loop (A B C : AV) (v1 v2 : Nat) (x y : Sm) (hlen : (smlb x).length < 1000000000) (k : Kt) (R : Ans) : ∀ (r1 r2 p1 p2 : List (List Int)), smlb x = p1 ++ r1 → smlb y = p2 ++ r2 → p2.length = p1.length → r2.length = r1.length → (hc : ∀ x ∈ r1, ∀ l, callT ctx 60 [.d (lbD x), .d (lbD l)] [] = some (.ret (.d (.bool (eqI x l))), [])) →
    ((if eqL eqI r1 r2 = true then k (.exit 2) ⟨160, gl0, [(0, true, A), (1, true, B), (2, true, .d (.bool false)), (7, true, C), (8, true, .ptr 500 v1 0), (9, true, .ptr 550 v2 0), (10, true, .d (.int .i64 (smlb x).length)), (107, true, .d (.bool false))], [⟨500, v1, bxM x⟩, ⟨550, v2, bxM y⟩]⟩ else k .ret ⟨160, gl0, [(6, true, .d (.bool false))], [⟨500, v1, bxM x⟩, ⟨550, v2, bxM y⟩]⟩) = R) →
    denK ctx 37 (.loop (Code.at (codeOf Tryd.f37) [1, 1, 0, 1, 0, 0, 1, 0, 0, 1, 1, 1, 0, 1, 0, 0])) ⟨160, gl0, [(0, true, A), (1, true, B), (2, true, .d (.bool false)), (7, true, C), (8, true, .ptr 500 v1 0), (9, true, .ptr 550 v2 0), (10, true, .d (.int .i64 p1.length))], [⟨500, v1, bxM x⟩, ⟨550, v2, bxM y⟩]⟩ k = R
  | [], [], p1, p2, ex1, ey1, hp, hr, hc, hx => by
    simp [eqL, ex1] at hx
    rw [denK_loop]
    simp [Tryd.f37, bxM, ex1] at hx ⊢
    simp [hx]
  | x' :: r1, y' :: r2, p1, p2, ex1, ey1, hp, hr, hc, hx => by
    have ih := rsL_loop A B C v1 v2 x y hlen k R r1 r2 (p1 ++ [x']) (p2 ++ [y']) (by simp [ex1]) (by simp [ey1]) (by simp [hp]) (by simpa using hr) (fun x hx => hc x (by simp [hx]))
    have hr : r2.length = r1.length := by simpa using hr
    have hc := hc x' (by simp) y'
    have w1 : (p1.length : Int) < p1.length + (r1.length + 1) := by omega
    have w2 : IntKind.i64.wrap ((p1.length : Int) + 1) = p1.length + 1 := wrap_id (by unfold I64; rw [ex1] at hlen; simp at hlen; omega)
    rw [denK_loop]
    by_cases he : eqI x' y' = true
    · rw [he] at hc
      have ih := ih (by simpa [eqL, he] using hx)
      simp [Tryd.f37, bxM, ex1, ey1, lbD] at ih hc ⊢
      simp [w1, w2, hp, hr, hc, ih, drwK_end, lbD]
    · have he : eqI x' y' = false := by simpa using he
      rw [he] at hc
      rw [if_neg (by simp [eqL, he])] at hx
      simp [Tryd.f37, bxM, ex1, ey1, lbD] at hx hc ⊢
      simp [w1, w2, hp, hr, hc, hx, drwK_end, lbD]
def eqT (a b : Tx) : Bool := decide (a = b)
theorem rsF_loop (A B C : AV) (v1 v2 : Nat) (x y : Sm) (hlen : (smf x).length < 1000000000) (k : Kt) (R : Ans) : ∀ (r1 r2 p1 p2 : List (Tx)), smf x = p1 ++ r1 → smf y = p2 ++ r2 → p2.length = p1.length → r2.length = r1.length → (hc : True) →
    ((if eqL eqT r1 r2 = true then k (.exit 4) ⟨160, gl0, [(0, true, A), (1, true, B), (2, true, .d (.bool false)), (7, true, C), (8, true, .ptr 500 v1 0), (9, true, .ptr 550 v2 0), (11, true, .d (.int .i64 (smf x).length)), (126, true, .d (.bool false))], [⟨500, v1, bxM x⟩, ⟨550, v2, bxM y⟩]⟩ else k .ret ⟨160, gl0, [(6, true, .d (.bool false))], [⟨500, v1, bxM x⟩, ⟨550, v2, bxM y⟩]⟩) = R) →
    denK ctx 37 (.loop (Code.at (codeOf Tryd.f37) [1, 1, 0, 1, 0, 0, 1, 0, 0, 1, 1, 1, 1, 0, 1, 0, 0])) ⟨160, gl0, [(0, true, A), (1, true, B), (2, true, .d (.bool false)), (7, true, C), (8, true, .ptr 500 v1 0), (9, true, .ptr 550 v2 0), (11, true, .d (.int .i64 p1.length))], [⟨500, v1, bxM x⟩, ⟨550, v2, bxM y⟩]⟩ k = R
  | [], [], p1, p2, ex1, ey1, hp, hr, hc, hx => by
    simp [eqL, ex1] at hx
    rw [denK_loop]
    simp [Tryd.f37, bxM, ex1] at hx ⊢
    simp [hx]
  | x' :: r1, y' :: r2, p1, p2, ex1, ey1, hp, hr, hc, hx => by
    have ih := rsF_loop A B C v1 v2 x y hlen k R r1 r2 (p1 ++ [x']) (p2 ++ [y']) (by simp [ex1]) (by simp [ey1]) (by simp [hp]) (by simpa using hr) trivial
    have hr : r2.length = r1.length := by simpa using hr
    have w1 : (p1.length : Int) < p1.length + (r1.length + 1) := by omega
    have w2 : IntKind.i64.wrap ((p1.length : Int) + 1) = p1.length + 1 := wrap_id (by unfold I64; rw [ex1] at hlen; simp at hlen; omega)
    rw [denK_loop]
    by_cases he : eqT x' y' = true
    · have he' : x' = y' := by simpa [eqT] using he
      subst he'
      have ih := ih (by simpa [eqL, he] using hx)
      simp [Tryd.f37, bxM, ex1, ey1] at ih ⊢
      simp [w1, w2, hp, hr, ih, drwK_end]
    · have he' : ¬ x' = y' := by simpa [eqT] using he
      rw [if_neg (by simp [eqL, he])] at hx
      simp [Tryd.f37, bxM, ex1, ey1] at hx ⊢
      simp [w1, w2, hp, hr, he', hx, drwK_end]
theorem rsB_loop (A B C : AV) (v1 v2 : Nat) (x y : Sm) (hlen : (smb x).length < 1000000000) (k : Kt) (R : Ans) : ∀ (r1 r2 p1 p2 : List (List Sm)), smb x = p1 ++ r1 → smb y = p2 ++ r2 → p2.length = p1.length → r2.length = r1.length → (hc : ∀ x ∈ r1, ∀ l, callT ctx 37 [.d (bkD x), .d (bkD l), .d (.bool false)] [] = some (.ret (.d (.bool (sameMs x l))), [])) →
    ((if eqL sameMs r1 r2 = true then k (.exit 6) ⟨160, gl0, [(0, true, A), (1, true, B), (2, true, .d (.bool false)), (7, true, C), (8, true, .ptr 500 v1 0), (9, true, .ptr 550 v2 0), (12, true, .d (.int .i64 (smb x).length)), (144, true, .d (.bool false))], [⟨500, v1, bxM x⟩, ⟨550, v2, bxM y⟩]⟩ else k .ret ⟨160, gl0, [(6, true, .d (.bool false))], [⟨500, v1, bxM x⟩, ⟨550, v2, bxM y⟩]⟩) = R) →
    denK ctx 37 (.loop (Code.at (codeOf Tryd.f37) [1, 1, 0, 1, 0, 0, 1, 0, 0, 1, 1, 1, 1, 1, 1, 0, 0])) ⟨160, gl0, [(0, true, A), (1, true, B), (2, true, .d (.bool false)), (7, true, C), (8, true, .ptr 500 v1 0), (9, true, .ptr 550 v2 0), (12, true, .d (.int .i64 p1.length))], [⟨500, v1, bxM x⟩, ⟨550, v2, bxM y⟩]⟩ k = R
  | [], [], p1, p2, ex1, ey1, hp, hr, hc, hx => by
    simp [eqL, ex1] at hx
    rw [denK_loop]
    simp [Tryd.f37, bxM, ex1] at hx ⊢
    simp [hx]
  | x' :: r1, y' :: r2, p1, p2, ex1, ey1, hp, hr, hc, hx => by
    have ih := rsB_loop A B C v1 v2 x y hlen k R r1 r2 (p1 ++ [x']) (p2 ++ [y']) (by simp [ex1]) (by simp [ey1]) (by simp [hp]) (by simpa using hr) (fun x hx => hc x (by simp [hx]))
    have hr : r2.length = r1.length := by simpa using hr
    have hc := hc x' (by simp) y'
    have w1 : (p1.length : Int) < p1.length + (r1.length + 1) := by omega
    have w2 : IntKind.i64.wrap ((p1.length : Int) + 1) = p1.length + 1 := wrap_id (by unfold I64; rw [ex1] at hlen; simp at hlen; omega)
    rw [denK_loop]
    by_cases he : sameMs x' y' = true
    · rw [he] at hc
      have ih := ih (by simpa [eqL, he] using hx)
      simp [Tryd.f37, bxM, ex1, ey1, bkD] at ih hc ⊢
      simp [w1, w2, hp, hr, hc, ih, drwK_end, bkD]
    · have he : sameMs x' y' = false := by simpa using he
      rw [he] at hc
      rw [if_neg (by simp [eqL, he])] at hx
      simp [Tryd.f37, bxM, ex1, ey1, bkD] at hx hc ⊢
      simp [w1, w2, hp, hr, hc, hx, drwK_end, bkD]
theorem sameM_ref (x y : Sm) : sameM x y = (decide (smo x = smo y) && (decide (sma x = sma y) && (sameEs [smt x, smv x] [smt y, smv y] && (sameEs (smc x) (smc y) && (eqL eqI (smlb x) (smlb y) && (eqL eqT (smf x) (smf y) && eqL sameMs (smb x) (smb y))))))) := by
  have h1 : ∀ l l' : List (List Int), eqL eqI l l' = decide (l = l') := fun l l' => eqL_eq l l'
  have h2 : ∀ l l' : List Tx, eqL eqT l l' = decide (l = l') := fun l l' => eqL_eq l l'
  cases x; cases y
  simp only [sameM, smo_mk, sma_mk, smt_mk, smv_mk, smc_mk, smlb_mk, smf_mk, smb_mk, sameEs, h1, h2, sameBs_eq, Bool.and_true, Bool.and_assoc]
  rfl
theorem eqL_nlen {α : Type} {s : α → α → Bool} {l l' : List α} (h : ¬ l.length = l'.length) : eqL s l l' = false := by
  by_cases he : eqL s l l' = true
  · exact absurd (eqL_len he) h
  · simpa using he
set_option maxHeartbeats 2000000 in
theorem rxM_loop (k : Kt) (R1 R2 : Ans)
    (h1 : ∀ (v1 v2 : Nat) (c1 c2 : Cont), k .ret ⟨160, gl0, [(6, true, .d (.bool false))], [⟨500, v1, c1⟩, ⟨550, v2, c2⟩]⟩ = R1) : ∀ (r1 r2 p1 p2 : List Sm) (v1 v2 : Nat) (c1 c2 : Cont), p2.length = p1.length → r2.length = r1.length → (p1 ++ r1).length < 1000000000 →
    (∀ x ∈ r1, ltM x) →
    (∀ x ∈ r1, ∀ b ∈ smb x, ∀ l, callT ctx 37 [.d (bkD b), .d (bkD l), .d (.bool false)] [] = some (.ret (.d (.bool (sameMs b l))), [])) →
    (h2 : ∀ (v1 v2 : Nat) (c1 c2 : Cont), k (.exit 0) ⟨160, gl0, [(0, true, .d (.list ((p1 ++ r1).map smD))), (1, true, .d (.list ((p2 ++ r2).map smD))), (2, true, .d (.bool false)), (7, true, .d (.int .i64 (p1 ++ r1).length)), (21, true, .d (.bool false))], [⟨500, v1, c1⟩, ⟨550, v2, c2⟩]⟩ = R2) →
    denK ctx 37 (.loop (Code.at (codeOf Tryd.f37) [1, 1, 0, 1, 0, 0])) ⟨160, gl0, [(0, true, .d (.list ((p1 ++ r1).map smD))), (1, true, .d (.list ((p2 ++ r2).map smD))), (2, true, .d (.bool false)), (7, true, .d (.int .i64 p1.length))], [⟨500, v1, c1⟩, ⟨550, v2, c2⟩]⟩ k = if eqL sameM r1 r2 = true then R2 else R1
  | [], [], p1, p2, v1, v2, c1, c2, hp, hr, hl, hlt, hc, h2 => by
    simp at h2
    rw [denK_loop]
    simp [Tryd.f37, h2, eqL]
  | x :: r1, y :: r2, p1, p2, v1, v2, c1, c2, hp, hr, hl, hlt, hc, h2 => by
    have ih := fun v1 v2 c1 c2 => rxM_loop k R1 R2 h1 r1 r2 (p1 ++ [x]) (p2 ++ [y]) v1 v2 c1 c2 (by simp [hp]) (by simpa using hr) (by simpa using hl) (fun x hx => hlt x (by simp [hx])) (fun x hx => hc x (by simp [hx])) (by simpa using h2)
    have hr : r2.length = r1.length := by simpa using hr
    have hc := hc x (by simp)
    have ltx : ltE (smt x) ∧ ltE (smv x) ∧ (smc x).length < 1000000000 ∧ ltEs (smc x) ∧ (smlb x).length < 1000000000 ∧ (∀ l ∈ smlb x, l.length < 1000000000) ∧ (smf x).length < 1000000000 ∧ (smb x).length < 1000000000 := by
      have := hlt x (by simp)
      cases x
      simp only [ltM] at this
      exact ⟨this.1, this.2.1, this.2.2.1, this.2.2.2.1, this.2.2.2.2.1, this.2.2.2.2.2.1, this.2.2.2.2.2.2.1, this.2.2.2.2.2.2.2.1⟩
    obtain ⟨l1, l2, l3, l4, l5, l6, l7, l8⟩ := ltx
    have e1 := rxE_r [smt x, smv x] [smt y, smv y] (by simp) (by simp [ltEs, l1, l2])
    have e2 := rxE_r (smc x) (smc y) l3 l4
    have r02 : List.range' 0 2 = [0, 1] := rfl
    have w1 : (p1.length : Int) < p1.length + (r1.length + 1) := by omega
    have w2 : IntKind.i64.wrap ((p1.length : Int) + 1) = p1.length + 1 := wrap_id (by unfold I64; simp at hl; omega)
    rw [denK_loop]
    simp only [eqL]
    simp only [sameM_ref]
    generalize sameEs [smt x, smv x] [smt y, smv y] = b1 at e1 ⊢
    generalize sameEs (smc x) (smc y) = b2 at e2 ⊢
    simp only [List.map_cons, List.map_nil] at e1
    simp [Tryd.f37, smD_A, exD_A, bxM] at ih h1 e1 ⊢
    by_cases a1 : smo x = smo y
    · by_cases a2 : sma x = sma y
      · by_cases a3 : (smlb x).length = (smlb y).length
        · by_cases a4 : (smf x).length = (smf y).length
          · by_cases a5 : (smb x).length = (smb y).length
            · have q1 := fun A B C v1 v2 k R => rsL_loop A B C v1 v2 x y l5 k R (smlb x) (smlb y) [] [] rfl rfl rfl a3.symm (fun l hl l' => r16_r l l' (l6 l hl))
              have q2 := fun A B C v1 v2 k R => rsF_loop A B C v1 v2 x y l7 k R (smf x) (smf y) [] [] rfl rfl rfl a4.symm trivial
              have q3 := fun A B C v1 v2 k R => rsB_loop A B C v1 v2 x y l8 k R (smb x) (smb y) [] [] rfl rfl rfl a5.symm hc
              simp [Tryd.f37, bxM, a1, a2] at q1 q2 q3
              simp only [a1, a2] at ih
              cases b1 with
              | false => simp [r02, w1, w2, hp, hr, h1, drwK_end, smD_A, exD_A, a1, a2, a3, a4, a5, e1]
              | true =>
                cases b2 with
                | false => simp [r02, w1, w2, hp, hr, h1, drwK_end, smD_A, exD_A, a1, a2, a3, a4, a5, e1, e2]
                | true =>
                  simp [r02, w1, w2, hp, hr, h1, drwK_end, smD_A, exD_A, a1, a2, a3, a4, a5, e1, e2]
                  rw [q1]
                  by_cases t1 : eqL eqI (smlb x) (smlb y) = true
                  · simp [r02, t1]
                    rw [q2]
                    by_cases t2 : eqL eqT (smf x) (smf y) = true
                    · simp [r02, t2]
                      rw [q3]
                      by_cases t3 : eqL sameMs (smb x) (smb y) = true
                      · simp [r02, t3, w2, ih]
                      · simp [r02, t3, h1]
                    · simp [r02, t2, h1]
                  · simp [r02, t1, h1]
            · have a5' : ¬ ((smb x).length : Int) = (smb y).length := by omega
              simp [r02, w1, w2, hp, hr, h1, drwK_end, smD_A, exD_A, a1, a2, a3, a4, a5, a5', eqL_nlen a5]
          · have a4' : ¬ ((smf x).length : Int) = (smf y).length := by omega
            simp [r02, w1, w2, hp, hr, h1, drwK_end, smD_A, exD_A, a1, a2, a3, a4, a4', eqL_nlen a4]
        · have a3' : ¬ ((smlb x).length : Int) = (smlb y).length := by omega
          simp [r02, w1, w2, hp, hr, h1, drwK_end, smD_A, exD_A, a1, a2, a3, a3', eqL_nlen a3]
      · simp [r02, w1, w2, hp, hr, h1, drwK_end, smD_A, exD_A, a1, a2]
    · simp [r02, w1, w2, hp, hr, h1, drwK_end, smD_A, exD_A, a1]
theorem rxM_of (l1 l2 : List Sm) (hl : l1.length < 1000000000) (hlt : ∀ x ∈ l1, ltM x) (hc : ∀ x ∈ l1, ∀ b ∈ smb x, ∀ l, callT ctx 37 [.d (bkD b), .d (bkD l), .d (.bool false)] [] = some (.ret (.d (.bool (sameMs b l))), [])) :
    callT ctx 37 [.d (.list (l1.map smD)), .d (.list (l2.map smD)), .d (.bool false)] [] = some (.ret (.d (.bool (sameMs l1 l2))), []) := by
  rw [run37 (by simp), sameMs_eq]
  by_cases h : l2.length = l1.length
  · have hlp := fun k R1 R2 h1 v1 v2 c1 c2 h2 => rxM_loop k R1 R2 h1 l1 l2 [] [] v1 v2 c1 c2 rfl h (by simpa using hl) hlt hc h2
    simp [Tryd.f37] at hlp ⊢
    simp [h]
    rw [hlp _ (some (.ret (.d (.bool false)), [])) (some (.ret (.d (.bool true)), [])) (by simp) _ _ _ _ (by simp)]
    by_cases he : eqL sameM l1 l2 = true
    · simp [he]
    · simp [show eqL sameM l1 l2 = false by simpa using he]
  · have h' : ¬ ((l1.length : Int) = l2.length) := by omega
    simp [Tryd.f37, h', eqL_nlen (fun e => h e.symm)]
theorem rxM_one : ∀ (x : Sm), ltM x → ∀ b ∈ smb x, ∀ l, callT ctx 37 [.d (bkD b), .d (bkD l), .d (.bool false)] [] = some (.ret (.d (.bool (sameMs b l))), [])
  | .mk o n t v c lb f b ln, h, l, hl, l' => by
    simp only [ltM] at h
    simp only [smb_mk] at hl
    have hb := (ltBs_iff b).1 h.2.2.2.2.2.2.2.2 l hl
    exact rxM_of l l' hb.1 ((ltMs_iff l).1 hb.2) (fun x hx b' hb' l'' => rxM_one x ((ltMs_iff l).1 hb.2 x hx) b' hb' l'')
termination_by x => SizeOf.sizeOf x
decreasing_by
  simp_wf
  have h1 := List.sizeOf_lt_of_mem hx
  have h2 := List.sizeOf_lt_of_mem hl
  try simp only [smb_mk] at h2
  omega
theorem rxM_r (l1 l2 : List Sm) (hl : l1.length < 1000000000) (h : ltMs l1) :
    callT ctx 37 [.d (.list (l1.map smD)), .d (.list (l2.map smD)), .d (.bool false)] [] = some (.ret (.d (.bool (sameMs l1 l2))), []) :=
  rxM_of l1 l2 hl ((ltMs_iff l1).1 h) fun x hx => rxM_one x ((ltMs_iff l1).1 h x hx)
end Go.Am
end
section
namespace Go.Am
open Go Go.Proofs
variable [Inhabited Mx2]
def endP : Tx := [69, 78, 68, 95, 80, 82, 79, 71, 82, 65, 77]
def cutL : Tx → Nat → Nat × Nat → Nat × Nat
  | [], _, a => a
  | c :: r, i, a => if (c :: r).length < 11 then a else cutL r (i + 1) (if (c :: r).take 11 = endP then (i + 11, a.2 + 1) else a)
theorem cutL_many : ∀ (r : Tx) (i : Nat) (a : Nat × Nat), a.2 ≤ (cutL r i a).2
  | [], i, a => Nat.le_refl _
  | c :: r, i, a => by
    unfold cutL
    split
    · exact Nat.le_refl _
    · refine Nat.le_trans ?_ (cutL_many r _ _)
      split <;> simp
theorem cutL_keep : ∀ (r : Tx) (i : Nat) (a : Nat × Nat), (cutL r i a).2 = a.2 → cutL r i a = a ∧ ∀ j, j + 11 ≤ r.length → (r.drop j).take 11 ≠ endP
  | [], i, a, h => ⟨rfl, fun j hj => by simp at hj⟩
  | c :: r, i, a, h => by
    unfold cutL at h ⊢
    split
    · rename_i hl
      exact ⟨rfl, fun j hj => by omega⟩
    · rename_i hl
      rw [if_neg hl] at h
      by_cases he : (c :: r).take 11 = endP
      · rw [if_pos he] at h
        have := cutL_many r (i + 1) (i + 11, a.2 + 1)
        simp only at this
        omega
      · rw [if_neg he] at h ⊢
        obtain ⟨h1, h2⟩ := cutL_keep r (i + 1) a h
        refine ⟨h1, fun j hj => ?_⟩
        cases j with
        | zero => exact he
        | succ j => simp only [List.drop_succ_cons]; exact h2 j (by simp at hj; omega)
theorem cutL_one : ∀ (r : Tx) (i l0 : Nat), (cutL r i (l0, 0)).2 = 1 → ∀ j, j + 11 ≤ r.length → (r.drop j).take 11 = endP → (cutL r i (l0, 0)).1 = i + j + 11
  | [], i, l0, h, j, hj, hd => by simp at hj
  | c :: r, i, l0, h, j, hj, hd => by
    unfold cutL at h ⊢
    split
    · rename_i hl
      omega
    · rename_i hl
      rw [if_neg hl] at h
      by_cases he : (c :: r).take 11 = endP
      · rw [if_pos he] at h ⊢
        obtain ⟨h1, h2⟩ := cutL_keep r (i + 1) (i + 11, 0 + 1) (by rw [h])
        cases j with
        | zero => rw [h1]
        | succ j =>
          simp only [List.drop_succ_cons] at hd
          exact absurd hd (h2 j (by simp at hj; omega))
      · rw [if_neg he] at h ⊢
        cases j with
        | zero => exact absurd hd he
        | succ j =>
          simp only [List.drop_succ_cons] at hd
          have := cutL_one r (i + 1) l0 h j (by simp at hj; omega) hd
          rw [this]; omega
theorem Laid.word {s : Tx} {w : Tx} (hw : w ≠ []) : ∀ {i : Nat} {r : List Sgn}, Laid s i r → ∀ t ∈ r, t.text = w → ∃ j, j + w.length ≤ s.length ∧ (s.drop j).take w.length = w
  | i, _, .fin _ h, t, ht, he => by
    simp at ht
    subst ht
    exact absurd he.symm hw
  | i, _, .sign _ j m k n r h1 h2 h3 h, t, ht, he => by
    rcases List.mem_cons.1 ht with rfl | ht
    · simp only at he
      have hl : w.length = min m (s.length - j) := by rw [← he]; simp
      refine ⟨j, by omega, ?_⟩
      have : w.length = m := by omega
      rw [this]; exact he
    · exact h.word hw t ht he
theorem parse_end {text : Tx} (h : (parseF text).2.1 = 0) : ∃ j, j + 11 ≤ text.length ∧ (text.drop j).take 11 = endP := by
  unfold parseF at h
  split at h
  · rename_i he; exact absurd (by simpa using h) he
  · rename_i he
    have he : (lexP text).2.1 = 0 := by simpa using he
    obtain ⟨ok, hlen, hlen'⟩ := lexP_ok he
    have hI : Iv (lexP text).1 ⟨0, 0, []⟩ := ⟨by simp only; omega, by simp, by simp, by simp⟩
    have ht := program_tr (kindN := kindN) ok hI (f := 20 * (lexP text).1.length + 19) (by simp)
    cases hps : programS (lexP text).1 kindN (20 * (lexP text).1.length + 19) ⟨0, 0, []⟩ with
    | out => rw [hps] at ht; exact ht.elim
    | bad e s => rw [hps] at ht h; exact absurd h ht.2
    | ok p s =>
      obtain ⟨_, i, t, h1, h2⟩ := ht.of_ok hps
      have h2 : t.text = endP := by
        simp [isW] at h2
        exact h2.2
      have := (lexP_laid he).1.word (w := endP) (by decide) t (List.mem_of_getElem? h1) h2
      exact this
theorem parse_bad {text : Tx} (h : (parseF text).2.1 ≠ 0) : (parseF text).1 = ⟨[], [], []⟩ ∧ 1 ≤ (parseF text).2.2.line := by
  unfold parseF at h ⊢
  split
  · rename_i he
    refine ⟨rfl, ?_⟩
    simp only
    unfold lexP at he ⊢
    split
    · simp
    · rename_i hl
      rw [if_neg hl] at he
      obtain ⟨_, j, hj⟩ := lexF_err text _ 0 [] (by omega) (by omega) he
      rw [hj]
      exact plOf_take.1
  · rename_i he
    rw [if_neg he] at h
    have he : (lexP text).2.1 = 0 := by simpa using he
    obtain ⟨ok, hlen, hlen'⟩ := lexP_ok he
    have hI : Iv (lexP text).1 ⟨0, 0, []⟩ := ⟨by simp only; omega, by simp, by simp, by simp⟩
    have ht := program_tr (kindN := kindN) ok hI (f := 20 * (lexP text).1.length + 19) (by simp)
    cases hps : programS (lexP text).1 kindN (20 * (lexP text).1.length + 19) ⟨0, 0, []⟩ with
    | out => rw [hps] at ht; exact ht.elim
    | bad e s => rw [hps] at ht; exact ⟨rfl, ht.1⟩
    | ok p s => rw [hps] at h; exact absurd rfl h
theorem cut_law {text : Tx} {at_ : Nat} (h1 : (cutL text 0 (0, 0)).2 = 1) (h2 : at_ < (cutL text 0 (0, 0)).1) : (parseF (text.take at_)).2.1 ≠ 0 := by
  intro h
  obtain ⟨j, hj, hd⟩ := parse_end h
  simp only [List.length_take] at hj
  have hd : (text.drop j).take 11 = endP := by
    rw [← hd, List.drop_take, List.take_take]
    congr 1
    omega
  have := cutL_one text 0 0 h1 j (by omega) hd
  omega
theorem cut_facts15 (t : Tx) : ∃ n : Nat, (if (1500 : Int) < t.length then (1500 : Int) else t.length) = (n : Int) ∧ n ≤ t.length ∧ (n : Int) ≤ t.length ∧ (t.take n).length ≤ 1500 := by
  by_cases h : 1500 < t.length
  · exact ⟨1500, by rw [if_pos (by omega)]; rfl, by omega, by omega, by simp; omega⟩
  · exact ⟨t.length, by rw [if_neg (by omega)], by omega, by omega, by simp; omega⟩
end Go.Am
end
section
namespace Go.Am
open Go Go.Proofs
variable [Inhabited Mx2]
section
variable {α β : Type}
def PQ (Q : α → Prop) (r : PM α) : Prop := match r with
  | .ok a _ => Q a
  | _ => True
theorem PQ.triv {r : PM α} : PQ (fun _ => True) r := by cases r <;> trivial
theorem PQ.out {Q : α → Prop} : PQ Q (.out : PM α) := trivial
theorem PQ.ok {Q : α → Prop} {a : α} {s : PS} (h : Q a) : PQ Q (.ok a s) := h
theorem PQ.bind {Q : α → Prop} {Q' : β → Prop} {r : PM α} {k : α → PS → PM β} (h : PQ Q r) (hk : ∀ a s, Q a → PQ Q' (k a s)) : PQ Q' (r.bind k) := by
  cases r with
  | ok a s => exact hk a s h
  | bad e s => trivial
  | out => trivial
theorem PQ.bindT {Q' : β → Prop} {r : PM α} {k : α → PS → PM β} (hk : ∀ a s, PQ Q' (k a s)) : PQ Q' (r.bind k) := PQ.bind PQ.triv fun a s _ => hk a s
theorem PQ.ite {Q : α → Prop} {c : Prop} [Decidable c] {a b : PM α} (h : c → PQ Q a) (h' : ¬ c → PQ Q b) : PQ Q (if c then a else b) := by
  split
  · exact h ‹_›
  · exact h' ‹_›
end
section
variable (L : List Sgn)
structure ShE (f : Nat) : Prop where
  level : ∀ n s, PQ ltE (levelS L f n s)
  loop : ∀ n x s, ltE x → PQ ltE (levelL L f n x s)
  unary : ∀ s, PQ ltE (unaryS L f s)
  unop : ∀ op t s, PQ ltE (unopS L f op t s)
  expr : ∀ s, PQ ltE (exprS L f s)
  index : ∀ s, PQ ltE (indexS L f s)
  factor : ∀ s, PQ ltE (factorS L f s)
theorem lt2 {op : Int} {nm : Tx} {x y : Ex} {l : Int} (hx : ltE x) (hy : ltE y) : ltE (exSub op nm [x, y] l) := by simp [exSub, ltE, ltEs, hx, hy]
theorem lt1 {op : Int} {nm : Tx} {x : Ex} {l : Int} (hx : ltE x) : ltE (exSub op nm [x] l) := by simp [exSub, ltE, ltEs, hx]
theorem lt0 {op n l : Int} {a b : Tx} : ltE (.mk op n a b [] l) := by simp [ltE, ltEs]
theorem shE : ∀ f, ShE L f
  | 0 => ⟨fun _ _ => by unfold levelS; exact PQ.out, fun _ _ _ _ => by unfold levelL; exact PQ.out, fun _ => by unfold unaryS; exact PQ.out, fun _ _ _ => by unfold unopS; exact PQ.out, fun _ => by unfold exprS; exact PQ.out, fun _ => by unfold indexS; exact PQ.out, fun _ => by unfold factorS; exact PQ.out⟩
  | f + 1 => by
    have ih := shE f
    refine ⟨?_, ?_, ?_, ?_, ?_, ?_, ?_⟩
    · intro n s
      unfold levelS
      exact PQ.ite (fun _ => ih.unary _) fun _ => PQ.ite (fun _ => PQ.bind (ih.level _ _) fun x s hx => ih.loop _ _ _ hx) fun _ => PQ.out
    · intro n x s hx
      unfold levelL
      exact PQ.bindT fun b s => PQ.ite (fun _ => PQ.bindT fun t s => PQ.bind (ih.level _ _) fun y s hy => PQ.ite (fun _ => PQ.ok (lt2 hx hy)) fun _ => ih.loop _ _ _ (lt2 hx hy)) fun _ => PQ.ok hx
    · intro s
      unfold unaryS
      exact PQ.bindT fun t s => PQ.bindT fun b s => PQ.ite (fun _ => ih.unop _ _ _) fun _ => PQ.bindT fun b s => PQ.ite (fun _ => ih.unop _ _ _) fun _ => ih.factor _
    · intro op t s
      unfold unopS
      exact PQ.bindT fun _ s => PQ.bindT fun _ s => PQ.bind (ih.unary _) fun x s hx => PQ.bindT fun _ s => PQ.ok (lt1 hx)
    · intro s
      unfold exprS
      exact ih.level _ _
    · intro s
      unfold indexS
      exact PQ.bindT fun _ s => PQ.bindT fun _ s => PQ.bind (ih.expr _) fun x s hx => PQ.bindT fun _ s => PQ.bindT fun _ s => PQ.ok hx
    · intro s
      unfold factorS
      refine PQ.bindT fun t s => PQ.ite (fun _ => PQ.bindT fun u s => PQ.ok lt0) fun _ => PQ.bindT fun b s => PQ.ite (fun _ => PQ.ok lt0) fun _ => PQ.bindT fun b s => PQ.ite (fun _ => PQ.ok lt0) fun _ => PQ.bindT fun b s => PQ.ite (fun _ => ?_) fun _ => ?_
      · exact PQ.bindT fun _ s => PQ.bindT fun _ s => PQ.bind (ih.expr _) fun x s hx => PQ.bindT fun _ s => PQ.bindT fun _ s => PQ.ok hx
      · exact PQ.bindT fun _ s => PQ.bindT fun b s => PQ.ite (fun _ => PQ.bind (ih.index _) fun x s hx => PQ.ok (lt1 hx)) fun _ => PQ.bindT fun b s => PQ.ite (fun _ => PQ.bindT fun u s => PQ.ok lt0) fun _ => PQ.ok (by simp [exVar, ltE, ltEs])
theorem labels_sh : ∀ (f : Nat) (l : List Int) (s : PS), PQ (fun l => l.length < 1000000000) (labelsS L f l s)
  | 0, l, s => by unfold labelsS; exact PQ.out
  | f + 1, l, s => by
    unfold labelsS
    exact PQ.bindT fun lo s => PQ.bindT fun b s => PQ.bindT fun hi s => PQ.ite (fun hl => PQ.bindT fun b s => PQ.ite (fun _ => labels_sh f _ _) fun _ => PQ.bindT fun _ s => PQ.ok (by simp; omega)) fun _ => PQ.out
def ltB (l : List Sm) : Prop := l.length ≤ 100000 ∧ ltMs l
def ltC (c : List Ex) : Prop := c.length ≤ 100000 ∧ ltEs c
def ltD (l : List (List Sm)) : Prop := l.length ≤ 100001 ∧ ∀ b ∈ l, ltB b
theorem ltMs_app {l : List Sm} {x : Sm} (h : ltMs l) (hx : ltM x) : ltMs (l ++ [x]) := by
  rw [ltMs_iff] at h ⊢
  intro y hy
  rcases List.mem_append.1 hy with hy | hy
  · exact h y hy
  · simp at hy; subst hy; exact hx
theorem ltB_app {l : List Sm} {x : Sm} (hl : l.length < 100000) (h : ltB l) (hx : ltM x) : ltB (l ++ [x]) := ⟨by simp; omega, ltMs_app h.2 hx⟩
theorem ltC_app {l : List Ex} {x : Ex} (hl : l.length < 100000) (h : ltC l) (hx : ltE x) : ltC (l ++ [x]) := by
  refine ⟨by simp; omega, ?_⟩
  have h := h.2
  rw [ltEs_iff] at h ⊢
  intro y hy
  rcases List.mem_append.1 hy with hy | hy
  · exact h y hy
  · simp at hy; subst hy; exact hx
theorem ltD_app {l : List (List Sm)} {x : List Sm} (hl : l.length ≤ 100000) (h : ltD l) (hx : ltB x) : ltD (l ++ [x]) := by
  refine ⟨by simp; omega, fun y hy => ?_⟩
  rcases List.mem_append.1 hy with hy | hy
  · exact h.2 y hy
  · simp at hy; subst hy; exact hx
theorem ltD_b {l : List (List Sm)} (h : ltD l) : l.length < 1000000000 ∧ ltBs l := ⟨by have := h.1; omega, (ltBs_iff l).2 fun b hb => ⟨by have := (h.2 b hb).1; omega, (h.2 b hb).2⟩⟩
theorem ltC_b {l : List Ex} (h : ltC l) : l.length < 1000000000 ∧ ltEs l := ⟨by have := h.1; omega, h.2⟩
theorem ltD1 {b : List Sm} (h : ltB b) : ltD [b] := ⟨by simp, by simpa using h⟩
theorem ltx0 : ltE ex0 := by simp [ex0, ltE, ltEs]
structure ShS (f : Nat) : Prop where
  block : ∀ w s, PQ ltB (blockS L f w s)
  blockL : ∀ w l s, ltB l → PQ ltB (blockL L f w l s)
  stmt : ∀ s, PQ ltM (stmtS L f s)
  opn : ∀ s, PQ ltM (openS L f s)
  branches : ∀ s, PQ ltM (branchesS L f s)
  branchesL : ∀ c l s, ltC c → ltD l → l.length = c.length → PQ ltM (branchesL L f c l s)
  cases : ∀ s, PQ ltM (casesS L f s)
  casesL : ∀ v c l s, ltE v → (c.length ≤ 100000 ∧ ∀ x ∈ c, x.length < 1000000000) → ltD l → l.length ≤ 100000 → PQ ltM (casesL L f v c l s)
  caseL : ∀ l s, ltB l → PQ ltB (caseL L f l s)
  counted : ∀ s, PQ ltM (countedS L f s)
  call : ∀ n s, PQ ltM (callS L f n s)
  callL : ∀ n c l s, c.length ≤ 100000 → ltC l → PQ ltM (callL L f n c l s)
theorem shS : ∀ f, ShS L f
  | 0 => ⟨fun _ _ => by unfold blockS; exact PQ.out, fun _ _ _ _ => by unfold Go.Am.blockL; exact PQ.out, fun _ => by unfold stmtS; exact PQ.out, fun _ => by unfold openS; exact PQ.out, fun _ => by unfold branchesS; exact PQ.out, fun _ _ _ _ _ _ => by unfold Go.Am.branchesL; exact PQ.out, fun _ => by unfold casesS; exact PQ.out, fun _ _ _ _ _ _ _ _ => by unfold Go.Am.casesL; exact PQ.out, fun _ _ _ => by unfold Go.Am.caseL; exact PQ.out, fun _ => by unfold countedS; exact PQ.out, fun _ _ => by unfold callS; exact PQ.out, fun _ _ _ _ _ _ => by unfold Go.Am.callL; exact PQ.out⟩
  | f + 1 => by
    have ih := shS f
    have ihE := (shE L f).expr
    have ihX := (shE L f).index
    have nilB : ltB [] := ⟨by simp, by simp [ltMs]⟩
    have nilC : ltC [] := ⟨by simp, by simp [ltEs]⟩
    have nilD : ltD [] := ⟨by simp, by simp⟩
    refine ⟨?_, ?_, ?_, ?_, ?_, ?_, ?_, ?_, ?_, ?_, ?_, ?_⟩
    · intro w s
      unfold blockS
      exact ih.blockL _ _ _ nilB
    · intro w l s hl
      unfold Go.Am.blockL
      exact PQ.bindT fun b s => PQ.ite (fun _ => PQ.ok hl) fun _ => PQ.bind (ih.stmt _) fun x s hx => PQ.ite (fun h => ih.blockL _ _ _ (ltB_app h hl hx)) fun _ => PQ.out
    · intro s
      unfold stmtS
      refine PQ.bindT fun t s => PQ.bindT fun _ s => PQ.bind (ih.opn _) fun x s hx => PQ.bindT fun _ s => PQ.bindT fun _ s => PQ.ok ?_
      cases x
      exact hx
    · intro s
      unfold openS
      refine PQ.bindT fun b s => PQ.ite (fun _ => ih.branches _) fun _ => PQ.bindT fun b s => PQ.ite (fun _ => ih.cases _) fun _ => PQ.bindT fun b s => PQ.ite (fun _ => ih.counted _) fun _ => PQ.bindT fun b s => PQ.ite (fun _ => ?_) fun _ => PQ.bindT fun b s => PQ.ite (fun _ => ?_) fun _ => PQ.bindT fun b s => PQ.ite (fun _ => PQ.ok ?_) fun _ => PQ.bindT fun b s => PQ.ite (fun _ => PQ.ok ?_) fun _ => ?_
      · exact PQ.bind (ihE _) fun v s hv => PQ.bindT fun _ s => PQ.bind (ih.block _ _) fun l s hl => PQ.bindT fun _ s => PQ.ok (by have := ltD_b (ltD1 hl); simp [ltM, ltx0, hv, ltEs, this])
      · exact PQ.bind (ih.block _ _) fun l s hl => PQ.bindT fun _ s => PQ.bind (ihE _) fun v s hv => PQ.bindT fun _ s => PQ.ok (by have := ltD_b (ltD1 hl); simp [ltM, ltx0, hv, ltEs, this])
      · simp [smOp, ltM, ltx0, ltEs, ltBs]
      · simp [smOp, ltM, ltx0, ltEs, ltBs]
      · refine PQ.bindT fun nm s => PQ.bindT fun b s => PQ.ite (fun _ => ih.call _ _) fun _ => PQ.bindT fun b s => PQ.bind (Q := ltE) (PQ.ite (fun _ => PQ.bind (ihX _) fun x s hx => PQ.ok (lt1 hx)) fun _ => PQ.ok (by simp [exVar, ltE, ltEs])) fun to s ht => PQ.bindT fun _ s => PQ.bind (ihE _) fun v s hv => PQ.ok ?_
        simp [ltM, ht, hv, ltEs, ltBs]
    · intro s
      unfold branchesS
      exact ih.branchesL _ _ _ nilC nilD rfl
    · intro c l s hc hl he
      unfold Go.Am.branchesL
      refine PQ.bind (ihE _) fun x s hx => PQ.bindT fun _ s => PQ.bind (ih.block _ _) fun b s hb => PQ.ite (fun h => PQ.bindT fun m s => PQ.ite (fun _ => ih.branchesL _ _ _ (ltC_app h.1 hc hx) (ltD_app (by omega) hl hb) (by simp [he])) fun _ => PQ.bindT fun m s => PQ.bind (Q := fun l => l.length < 1000000000 ∧ ltBs l) ?_ fun l2 s hl2 => PQ.bindT fun _ s => PQ.ok ?_) fun _ => PQ.out
      · have h1 := ltD_app (by omega) hl hb
        refine PQ.ite (fun _ => PQ.bind (ih.block _ _) fun z s hz => PQ.ok (ltD_b (ltD_app (by simp; omega) h1 hz))) fun _ => PQ.ok (ltD_b h1)
      · have := ltC_b (ltC_app h.1 hc hx)
        have h2 := this.1
        simp only [ltM, ltx0, true_and]
        exact ⟨this.1, this.2, by simp, by simp, by simp, hl2.1, hl2.2⟩
    · intro s
      unfold casesS
      exact PQ.bind (ihE _) fun v s hv => PQ.bindT fun _ s => ih.casesL _ _ _ _ hv (by simp) nilD (by simp)
    · intro v c l s hv hc hl hll
      unfold Go.Am.casesL
      refine PQ.bindT fun b s => PQ.ite (fun _ => PQ.bind (labels_sh L _ _ _) fun x s hx => PQ.bind (ih.caseL _ _ nilB) fun b s hb => PQ.ite (fun h => ih.casesL _ _ _ _ hv ⟨by simp; omega, ?_⟩ (ltD_app hll hl hb) (by simp; omega)) fun _ => PQ.out) fun _ => PQ.bindT fun m s => PQ.bind (Q := fun l => l.length < 1000000000 ∧ ltBs l) ?_ fun l2 s hl2 => PQ.bindT fun _ s => PQ.ok ?_
      · intro y hy
        rcases List.mem_append.1 hy with hy | hy
        · exact hc.2 y hy
        · simp at hy; subst hy; exact hx
      · exact PQ.ite (fun _ => PQ.bind (ih.block _ _) fun z s hz => PQ.ite (fun h => PQ.ok (ltD_b (ltD_app hll hl hz))) fun _ => PQ.out) fun _ => PQ.ok (ltD_b hl)
      · simp only [ltM, ltx0, true_and]
        exact ⟨hv, by simp, by simp [ltEs], by have := hc.1; omega, hc.2, by simp, hl2.1, hl2.2⟩
    · intro l s hl
      unfold Go.Am.caseL
      exact PQ.bindT fun b s => PQ.ite (fun _ => PQ.ok hl) fun _ => PQ.bind (ih.stmt _) fun x s hx => PQ.ite (fun h => ih.caseL _ _ (ltB_app h hl hx)) fun _ => PQ.out
    · intro s
      unfold countedS
      refine PQ.bindT fun nm s => PQ.bindT fun _ s => PQ.bind (ihE _) fun a s ha => PQ.bindT fun _ s => PQ.bind (ihE _) fun b s hb => PQ.bindT fun t s => PQ.bindT fun m s => PQ.bind (Q := ltE) (PQ.ite (fun _ => ihE _) fun _ => PQ.ok lt0) fun c s hc => PQ.bindT fun _ s => PQ.bind (ih.block _ _) fun l s hl => PQ.bindT fun _ s => PQ.ok ?_
      have := ltD_b (ltD1 hl)
      simp [ltM, ltx0, ltEs, ha, hb, hc, this]
    · intro n s
      unfold callS
      exact PQ.bindT fun b s => PQ.ite (fun _ => PQ.ok (by simp [ltM, ltx0, ltEs, ltBs])) fun _ => ih.callL _ _ _ _ (by simp) nilC
    · intro n c l s hc hl
      unfold Go.Am.callL
      refine PQ.bindT fun t s => PQ.bindT fun _ s => PQ.bind (ihE _) fun x s hx => PQ.ite (fun h => PQ.bindT fun b s => PQ.ite (fun _ => ih.callL _ _ _ _ (by simp; omega) (ltC_app h.2 hl hx)) fun _ => PQ.bindT fun _ s => PQ.ok ?_) fun _ => PQ.out
      have := ltC_b (ltC_app h.2 hl hx)
      simp only [ltM, ltx0, true_and]
      exact ⟨this.1, this.2, by simp, by simp, by simp; omega, by simp, by simp [ltBs]⟩
theorem program_sh {kn : Tx → Int} {f : Nat} {s : PS} : PQ (fun p => p.body.length < 1000000000 ∧ ltMs p.body) (programS L kn f s) := by
  unfold programS
  exact PQ.bindT fun _ s => PQ.bindT fun nm s => PQ.bindT fun _ s => PQ.bind ((shS L f).block _ _) fun l s hl => PQ.bindT fun _ s => PQ.bindT fun _ s => PQ.ok ⟨by have := hl.1; simp only; omega, hl.2⟩
end
theorem parse_sh (text : Tx) : ltPg (parseF text).1 := by
  unfold parseF
  split
  · exact ⟨by simp, by simp, by simp [ltMs]⟩
  · rename_i he
    have he : (lexP text).2.1 = 0 := by simpa using he
    obtain ⟨ok, hlen, hlen'⟩ := lexP_ok he
    have hI : Iv (lexP text).1 ⟨0, 0, []⟩ := ⟨by simp only; omega, by simp, by simp, by simp⟩
    have ht := program_tr (kindN := kindN) ok hI (f := 20 * (lexP text).1.length + 19) (by simp)
    have hq := program_sh (lexP text).1 (kn := kindN) (f := 20 * (lexP text).1.length + 19) (s := ⟨0, 0, []⟩)
    cases hps : programS (lexP text).1 kindN (20 * (lexP text).1.length + 19) ⟨0, 0, []⟩ with
    | out => exact ⟨by simp, by simp, by simp [ltMs]⟩
    | bad e s => exact ⟨by simp, by simp, by simp [ltMs]⟩
    | ok p s =>
      rw [hps] at hq
      have h1 := (ht.of_ok hps).1
      exact ⟨by simp only; omega, hq.1, hq.2⟩
end Go.Am
end
section
namespace Go.Am
open Go Go.Proofs
variable [Inhabited Mx2]
set_option maxRecDepth 20000
theorem awk18 : parseF [80, 82, 79, 71, 82, 65, 77, 32, 112, 32, 86, 65, 82, 32, 97, 32, 58, 32, 73, 78, 84, 32, 58, 61, 32, 45, 51, 59, 32, 69, 78, 68, 95, 86, 65, 82, 32, 97, 32, 58, 61, 32, 97, 32, 43, 32, 49, 59, 32, 69, 78, 68, 95, 80, 82, 79, 71, 82, 65, 77] = (⟨[112], [⟨[97], 1, 0, false, 0, 0, -3, 1⟩], [.mk 1 [] (.mk 3 0 [97] [] [] 1) (.mk 8 0 [] [] [.mk 3 0 [97] [] [] 1, .mk 1 1 [] [] [] 1] 1) [] [] [] [] 1]⟩, 0, ⟨0, [], 0, 0, 0⟩) := by kernel_rfl
theorem awake18_run : callT ctx 11 [] [] = some (.ret (.d (.bool true)), []) := by
  rw [run11 (by simp)]
  simp [Tryd.f11, parse_run, awk18, pgD, sgnD, smD_A, exD_A, vrD, vrC]
end Go.Am
end
section
namespace Go.Am
open Go Go.Proofs
variable [Inhabited Mx2]
set_option maxRecDepth 20000
def bxV (v : Vr) : Cont := .box [.d (.str v.name), .d (.int .i64 v.ty), .d (.int .i64 v.sec), .d (.bool v.arr), .d (.int .i64 v.lo), .d (.int .i64 v.hi), .d (.int .i64 v.init), .d (.int .i64 v.line)]
set_option maxHeartbeats 2000000 in
theorem rV_loop (nm nm' : Tx) (B B' : AV) (k : Kt) (R1 R2 : Ans)
    (V V' : List Vr)
    (h1 : ∀ (v1 v2 : Nat) (c1 c2 : Cont), k .ret ⟨54, gl0, [(6, true, .d (.bool false))], [⟨250, 1, .box [.d (.str nm), .d (.list (V.map vrD)), B]⟩, ⟨300, 1, .box [.d (.str nm'), .d (.list (V'.map vrD)), B']⟩, ⟨500, v1, c1⟩, ⟨550, v2, c2⟩]⟩ = R1) : ∀ (r1 r2 p1 p2 : List Vr) (v1 v2 : Nat) (c1 c2 : Cont), V = p1 ++ r1 → V' = p2 ++ r2 → p2.length = p1.length → r2.length = r1.length → (p1 ++ r1).length < 1000000000 →
    (h2 : ∀ (v1 v2 : Nat) (c1 c2 : Cont), k (.exit 0) ⟨54, gl0, [(2, true, .d (.bool false)), (3, true, .ptr 250 1 0), (4, true, .ptr 300 1 0), (7, true, .d (.int .i64 V.length)), (28, true, .d (.bool false))], [⟨250, 1, .box [.d (.str nm), .d (.list (V.map vrD)), B]⟩, ⟨300, 1, .box [.d (.str nm'), .d (.list (V'.map vrD)), B']⟩, ⟨500, v1, c1⟩, ⟨550, v2, c2⟩]⟩ = R2) →
    denK ctx 18 (.loop (Code.at (codeOf Tryd.f18) [1, 1, 0, 1, 0, 0])) ⟨54, gl0, [(2, true, .d (.bool false)), (3, true, .ptr 250 1 0), (4, true, .ptr 300 1 0), (7, true, .d (.int .i64 p1.length))], [⟨250, 1, .box [.d (.str nm), .d (.list (V.map vrD)), B]⟩, ⟨300, 1, .box [.d (.str nm'), .d (.list (V'.map vrD)), B']⟩, ⟨500, v1, c1⟩, ⟨550, v2, c2⟩]⟩ k = if eqL sameV r1 r2 = true then R2 else R1
  | [], [], p1, p2, v1, v2, c1, c2, e1, e2, hp, hr, hl, h2 => by
    subst e1
    rw [denK_loop]
    simp [Tryd.f18, eqL] at h2 ⊢
    simp [h2]
  | x :: r1, y :: r2, p1, p2, v1, v2, c1, c2, e1, e2, hp, hr, hl, h2 => by
    have ih := fun v1 v2 c1 c2 => rV_loop nm nm' B B' k R1 R2 V V' h1 r1 r2 (p1 ++ [x]) (p2 ++ [y]) v1 v2 c1 c2 (by simp [e1]) (by simp [e2]) (by simp [hp]) (by simpa using hr) (by simpa using hl) h2
    have hr : r2.length = r1.length := by simpa using hr
    have w1 : (p1.length : Int) < p1.length + (r1.length + 1) := by omega
    have w2 : IntKind.i64.wrap ((p1.length : Int) + 1) = p1.length + 1 := wrap_id (by unfold I64; simp at hl; omega)
    have r02 : List.range' 0 2 = [0, 1] := rfl
    rw [denK_loop]
    simp only [eqL]
    by_cases he : sameV x y = true
    · have hv := he
      simp [sameV, eV] at hv
      simp [Tryd.f18, e1, e2, vrD, vrC] at ih ⊢
      simp only [hv] at ih
      simp [r02, w1, w2, hp, hr, ih, he, hv, drwK_end, vrD, vrC]
    · have hv := he
      simp [sameV, eV] at hv
      simp [Tryd.f18, e1, e2, vrD, vrC] at h1 ⊢
      by_cases b1 : x.name = y.name
      · by_cases b2 : x.ty = y.ty
        · by_cases b3 : x.sec = y.sec
          · by_cases b4 : x.arr = y.arr
            · by_cases b5 : x.lo = y.lo
              · by_cases b6 : x.hi = y.hi
                · by_cases b7 : x.init = y.init
                  · exact absurd b7 (hv b1 b2 b3 b4 b5 b6)
                  · simp only [b1, b2, b3, b4, b5, b6] at h1
                    simp [r02, w1, w2, hp, hr, h1, he, drwK_end, vrD, vrC, b1, b2, b3, b4, b5, b6, b7]
                · simp only [b1, b2, b3, b4, b5] at h1
                  simp [r02, w1, w2, hp, hr, h1, he, drwK_end, vrD, vrC, b1, b2, b3, b4, b5, b6]
              · simp only [b1, b2, b3, b4] at h1
                simp [r02, w1, w2, hp, hr, h1, he, drwK_end, vrD, vrC, b1, b2, b3, b4, b5]
            · simp only [b1, b2, b3] at h1
              simp [r02, w1, w2, hp, hr, h1, he, drwK_end, vrD, vrC, b1, b2, b3, b4]
          · simp only [b1, b2] at h1
            simp [r02, w1, w2, hp, hr, h1, he, drwK_end, vrD, vrC, b1, b2, b3]
        · simp only [b1] at h1
          simp [r02, w1, w2, hp, hr, h1, he, drwK_end, vrD, vrC, b1, b2]
      · simp [r02, w1, w2, hp, hr, h1, he, drwK_end, vrD, vrC, b1]
theorem refSame_r (p q : Pg) (h : ltPg p) : callT ctx 18 [.d (.agg [.str p.name, .list (p.vars.map vrD), .list (p.body.map smD)]), .d (.agg [.str q.name, .list (q.vars.map vrD), .list (q.body.map smD)]), .d (.bool false)] [] = some (.ret (.d (.bool (sameP p q))), []) := by
  have hm := rxM_r p.body q.body h.2.1 h.2.2
  rw [run18 (by simp)]
  unfold sameP
  by_cases hn : p.name = q.name
  · by_cases hv : q.vars.length = p.vars.length
    · have hlp := fun B B' k R1 R2 h1 v1 v2 c1 c2 h2 => rV_loop p.name q.name B B' k R1 R2 p.vars q.vars h1 p.vars q.vars [] [] v1 v2 c1 c2 rfl rfl rfl hv (by simpa using h.1) h2
      simp [Tryd.f18, hn] at hlp ⊢
      simp [hv]
      rw [hlp _ _ _ (some (.ret (.d (.bool false)), [])) (some (.ret (.d (.bool (sameMs p.body q.body))), [])) (by simp) _ _ _ _ (by simp [hm])]
      by_cases he : eqL sameV p.vars q.vars = true
      · simp [he]
      · simp [show eqL sameV p.vars q.vars = false by simpa using he]
    · have hv' : ¬ ((p.vars.length : Int) = q.vars.length) := by omega
      simp [Tryd.f18, hn, hv', eqL_nlen (fun e => hv e.symm)]
  · simp [Tryd.f18, hn]
end Go.Am
end
section
namespace Go.Am
open Go Go.Proofs
variable [Inhabited Mx2]
set_option maxRecDepth 20000
theorem rem_loop (s : Tx) (hs : s.length ≤ 1500) (M : Mem) (k : Kt) (R : Ans)
    (h1 : k .ret ⟨71, gl0, [(2, true, .d (.bool true))], M⟩ = R)
    (h2 : noRem s → ∀ i : Int, k (.exit 0) ⟨71, gl0, [(0, true, .d (.str s)), (3, true, .d (.int .i64 i)), (23, true, .d (.bool false))], M⟩ = R) :
    ∀ (d i : Nat), i + d = s.length → (∀ j : Nat, j < i → (s.drop j).take 2 ≠ [47, 47]) →
    denK ctx 8 (.loop (Code.at (codeOf Tryd.f8) [1, 1, 1, 0, 1, 0, 0])) ⟨71, gl0, [(0, true, .d (.str s)), (3, true, .d (.int .i64 i))], M⟩ k = R
  | 0, i, hi, hj => by
    have hw : IntKind.i64.wrap ((i : Int) + 1) = (i : Int) + 1 := wrap_id (by unfold I64; omega)
    have hn : ¬ ((i : Int) + 1 < s.length) := by omega
    have h2 := h2 (fun j h => hj j (by omega)) i
    rw [denK_loop]
    simp [Tryd.f8, hw, hn, h2]
  | d + 1, i, hi, hj => by
    have hw : IntKind.i64.wrap ((i : Int) + 1) = (i : Int) + 1 := wrap_id (by unfold I64; omega)
    have hw2 : IntKind.i64.wrap ((i : Int) + 2) = (i : Int) + 2 := wrap_id (by unfold I64; omega)
    rw [denK_loop]
    by_cases hn : i + 1 < s.length
    · have hn' : (i : Int) + 1 < s.length := by omega
      have ha : ((i : Int) ≤ (i : Int) + 2) := by omega
      have hb : (i : Int) + 2 ≤ s.length := by omega
      have hb' : i + 2 ≤ s.length := by omega
      have hz : (0 : Int) ≤ (i : Int) + 2 := by omega
      have hn2 : ((i : Int) + 2).toNat = i + 2 := by omega
      have hsl : (s.take (i + 2)).drop i = (s.drop i).take 2 := by rw [List.drop_take]; congr 1; omega
      by_cases he : (s.drop i).take 2 = [47, 47]
      · simp [Tryd.f8, hw, hw2, hn, hn', ha, hb, hb', hz, hn2, hsl, he, h1]
      · have ih := rem_loop s hs M k R h1 h2 d (i + 1) (by omega) (fun j hj' => by
          by_cases h : j = i
          · subst h; exact he
          · exact hj j (by omega))
        simp [Tryd.f8] at ih ⊢
        simp [hw, hw2, hn, hn', ha, hb, hb', hz, hn2, hsl, he, ih]
    · have hn' : ¬ ((i : Int) + 1 < s.length) := by omega
      have h2 := h2 (fun j h => hj j (by omega)) i
      simp [Tryd.f8, hw, hn', h2]
theorem nb_loop (M : Mem) (k : Kt) (R : Ans) (s : Tx) (hs : s.length ≤ 1500)
    (h2 : k (.exit 2) ⟨71, gl0, [(0, true, .d (.str s)), (4, true, .d (.str (nbs s))), (5, true, .d (.int .i64 s.length)), (35, true, .d (.bool false))], M⟩ = R) :
    ∀ (r p : Tx), s = p ++ r →
    denK ctx 8 (.loop (Code.at (codeOf Tryd.f8) [1, 1, 1, 1, 1, 0, 1, 0, 0])) ⟨71, gl0, [(0, true, .d (.str s)), (4, true, .d (.str (nbs p))), (5, true, .d (.int .i64 p.length))], M⟩ k = R
  | [], p, e => by
    obtain rfl : s = p := by simpa using e
    rw [denK_loop]
    simp [Tryd.f8, h2]
  | c :: r, p, e => by
    have ih := nb_loop M k R s hs h2 r (p ++ [c]) (by simp [e])
    have hl : s.length = p.length + (r.length + 1) := by rw [e]; simp
    have hw : IntKind.i64.wrap ((p.length : Int) + 1) = (p.length : Int) + 1 := wrap_id (by unfold I64; omega)
    have hn : (p.length : Int) < s.length := by omega
    have hn' : p.length < s.length := by omega
    have hat : strAt s p.length = c := by rw [e]; simp [strAt]
    have ha : (p.length : Int) ≤ (p.length : Int) + 1 := by omega
    have hb : (p.length : Int) + 1 ≤ s.length := by omega
    have hb' : p.length + 1 ≤ s.length := by omega
    have hz : (0 : Int) ≤ (p.length : Int) + 1 := by omega
    have hn2 : ((p.length : Int) + 1).toNat = p.length + 1 := by omega
    have hsl : (s.take (p.length + 1)).drop p.length = [c] := by rw [e]; simp [List.drop_take]
    have hlen : (nbs p).length + 1 ≤ 4611686018427387904 := by rw [nbs_len]; omega
    rw [denK_loop]
    by_cases h : c = 32
    · subst h
      simp [Tryd.f8, nbs, nb] at ih ⊢
      simp [nbs] at hlen
      simp [hw, hn, hn', hat, hlen, ih]
    · have h' : ¬ ((c.toNat : Int) = 32) := fun e => h (UInt8.toNat_inj.1 (show c.toNat = (32 : UInt8).toNat by have : (32 : UInt8).toNat = 32 := rfl; omega))
      simp [Tryd.f8, nbs, nb, h] at ih ⊢
      simp [nbs] at hlen
      simp [hw, hn, hn', hat, h', ha, hb, hb', hz, hn2, hsl, hlen, ih]
theorem treeLines_run (t : Tx) : callT ctx 8 [.d (.str t)] [] = some (.ret (.d (.bool true)), []) := by
  obtain ⟨n, hn1, hn2, hn3, hsl⟩ := cut_facts15 t
  obtain ⟨s, hs⟩ : ∃ s, t.take n = s := ⟨_, rfl⟩
  rw [hs] at hsl
  have haw := awake18_run
  have hp := parse_run
  have e1 := sameP_r (parseF s).1 (parseF (nbs s)).1 (parse_sh s)
  have l1 := fun M k R h1 h2 => rem_loop s hsl M k R h1 h2 s.length 0 (by omega) (by simp)
  have l2 := fun M k R h2 => nb_loop M k R s hsl h2 s [] rfl
  rw [run8 (by simp)]
  simp [Tryd.f8, nbs] at l1 l2 ⊢
  simp [drwK_end, haw, hn1, hn2, hn3, hs]
  rw [l1]
  · simp
  intro hr i
  obtain ⟨a1, a2⟩ := parse_nb s hr
  rw [(sameP_iff _ _).2 a2.symm] at e1
  simp
  rw [l2]
  simp [nbs] at a1 e1
  simp [hp, pgD, sgnD, a1, e1]
end Go.Am
end

/-
  Texts of one proof, one behind the other.
-/
import Derived.Test.YtecknaklaleloaaDoorP7
import Derived.ProofKit
import Derived.ChangeArms
import Derived.ChangeCalls
import Derived.Test.YtecknaklaleloaaDoorProg
import Derived.Shelf.Lays
import Derived.KernelRfl
import Derived.Shelf.Strings.Search3
import Derived.Shelf.Strings.Prefix
import Derived.LaidLaws
import Derived.SizedLaws
import Derived.Handed
import Derived.Shelf.Vars
set_option linter.all false
section
namespace Go.Am
open Go Go.Proofs
variable [Inhabited Mx2]
set_option maxRecDepth 20000
def bxE (x : Ex) : Cont := .box [.d (.int .i64 (exo x)), .d (.int .i64 (exn x)), .d (.str (exa x)), .d (.str (exf x)), .d (.list ((exs x).map exD)), .d (.int .i64 (exl x))]
def bx0 : Cont := .box [.d (.int .i64 0), .d (.int .i64 0), .d (.str []), .d (.str []), .lit (.slice none 0 0), .d (.int .i64 0)]
def lvD : AV := .d (.list (lvT.map fun l => .list (l.map .str)))
section
variable {L : List Sgn} {cl : CallFn} {f : Nat} (hL : L.length < 1000000) (F : FamE L cl f)
include hL F
theorem level_loop (n : Nat) (hn : n < 6) (k : Kt) (R : Ex → PS → Ans) (B : Er → PS → Ans)
    (hp : ∀ env e s r, k (.panic 67 (fD e)) ⟨43, gl0, env, pM L s ++ r⟩ = B e s)
    (hx : ∀ x s v c E, (E = [(25, true, .d (.bool false))] ∨ E = [(41, true, .d (.bool true))]) → Le (R x s) (k (.exit 0) ⟨43, gl0, [(0, true, .ptr 0 0 0), (1, true, .d (.int .i64 n)), (4, true, .ptr 300 1 0), (5, true, lvD), (6, true, .ptr 400 1 0)] ++ E, pM L s ++ [⟨300, 1, bx0⟩, ⟨400, 1, bxE x⟩, ⟨450, v, c⟩]⟩)) :
    ∀ (j : Nat), j ≤ f → ∀ (x : Ex) (s : PS) (v : Nat) (c : Cont) (X : Env), (X = [] ∨ X = [(41, true, .d (.bool false))]) →
    Le ((levelL L j n x s).el R B) (denK (ctx.over cl) 164 (.loop (Code.at (codeOf Tryd.f164) [1, 1, 1, 1, 0, 0, 0])) ⟨43, gl0, [(0, true, .ptr 0 0 0), (1, true, .d (.int .i64 n)), (4, true, .ptr 300 1 0), (5, true, lvD), (6, true, .ptr 400 1 0)] ++ X, pM L s ++ [⟨300, 1, bx0⟩, ⟨400, 1, bxE x⟩, ⟨450, v, c⟩]⟩ k)
  | 0, hj, x, s, v, c, X, hX => by unfold levelL; exact Le.none
  | j + 1, hj, x, s, v, c, X, hX => by
    have ih := fun x s v c => level_loop n hn k R B hp hx j (by omega) x s v c _ (.inr rfl)
    have e1 := F.out 82 (by decide)
    have e2 := F.out 80 (by decide)
    have e3 := F.out 176 (by decide)
    have hw : IntKind.i64.wrap ((n : Int) + 1) = (n : Int) + 1 := wrap_id (by unfold I64; omega)
    have hlen : lvT.length = 6 := rfl
    have hlt : ∀ n, n < 6 → (lvT.getD n []).length < 1000000 := by decide
    have hc := contains_r (L := L) (s := s) (lvT.getD n []) (hlt n hn)
    have hn' : n < lvT.length := by rw [hlen]; exact hn
    have hget : lvT.getD n [] = lvT[n]'hn' := by rw [List.getD_eq_getElem?_getD, List.getElem?_eq_getElem hn']; rfl
    rw [hget] at hc
    rw [denK_loop]
    unfold levelL
    rw [hget]
    simp only [lvD] at hp hx ih ⊢
    generalize hws : lvT[n]'hn' = ws at *
    cases ha : anyS L ws s with
    | out => exact Le.none
    | bad e s1 =>
      apply Le.of_eq
      simp [ha, badKB] at hc
      simp [Tryd.f164, pM] at hp ⊢
      rcases hX with rfl | rfl <;> simp [hc, hp, e1, hlen, hn, hws]
    | ok b s1 =>
      simp only [bind_ok]
      simp [ha, pC2B] at hc
      cases b with
      | false =>
        have hx := hx x s1 v c _ (.inl rfl)
        simp [Tryd.f164, pM] at hx ⊢
        rcases hX with rfl | rfl <;> simpa [hc, e1, hlen, hn, hws] using hx
      | true =>
        have ht := take_r (L := L) (s := s1) hL
        cases hts : takeS L s1 with
        | out => exact Le.none
        | bad e s2 =>
          apply Le.of_eq
          simp [hts, badKB] at ht
          simp [Tryd.f164, pM] at hp ⊢
          rcases hX with rfl | rfl <;> simp [hc, ht, hp, e1, e2, hlen, hn, hws]
        | ok t s2 =>
          simp [hts, pC2B] at ht
          have hl := F.level (n + 1) s2
          simp only [bind_ok, if_true]
          rcases (monE L j f (by omega)).level (n + 1) s2 with hj | hj
          · rw [hj]; exact Le.none
          rw [← hj] at hl
          simp only [pCB, pC2B, badKB] at hl
          simp at hl
          cases hls : levelS L j (n + 1) s2 with
          | out => exact Le.none
          | bad e s3 =>
            apply Le.of_eq
            simp [hls] at hl
            simp [Tryd.f164, pM, bxE] at hp ⊢
            rcases hX with rfl | rfl <;> simp [hc, ht, hl, hw, hp, e1, e2, e3, hlen, hn, hws, operator_r, drwK_end]
          | ok y s3 =>
            simp [hls, exD_A] at hl
            have ih := ih (exSub (opI t.text) [] [x, y] t.line) s3
            have hx := hx (exSub (opI t.text) [] [x, y] t.line) s3
            simp only [bind_ok]
            simp [Tryd.f164, pM, bxE, exSub, exD_A] at hx ih ⊢
            have h02 : List.range' 0 2 = [0, 1] := rfl
            have hn3 : ((n : Int) = 3) = (n = 3) := by simp; omega
            rcases hX with rfl | rfl <;> simp [hc, ht, hl, hw, e1, e2, e3, hlen, hn, hws, operator_r, drwK_end, h02, hn3]
            all_goals
              by_cases h3 : n = 3
              · simp only [if_pos h3, el_ok]
                exact (hx _ _).2
              · simp only [if_neg h3]
                exact ih _ _
end
end Go.Am
end
section
namespace Go.Am
open Go Go.Proofs
variable [Inhabited Mx2]
set_option maxRecDepth 20000
section
variable {L : List Sgn} {s : PS} {cl : CallFn} {f : Nat} (hL : L.length < 1000000) (F : FamE L cl f)
include hL F
theorem level_f (n : Nat) : Le ((levelS L (f + 1) n s).el (fun x s => some (.ret (.d (exD x)), pC2 L s)) (badK L)) (callT ctx 164 [.ptr 0 0 0, .d (.int .i64 n)] (pC L s)) := by
  have e4 := F.out 174 (by decide)
  have hlv := levels_r
  have hlen : lvT.length = 6 := rfl
  refine Le.trans ?_ (ov164 F.le (by simp [pC]))
  unfold levelS
  by_cases h6 : n = 6
  · subst h6
    have hu := F.unary s
    simp only [pCB, pC2B, badKB] at hu
    apply Le.of_eq
    simp [Tryd.f164, drwK_end, exD_A, pCB, pC2B, badKB, hlv, e4, hu, hlen]
  · rw [if_neg h6]
    by_cases hn : n < 6
    · rw [if_pos hn]
      have hl := F.level (n + 1) s
      have hw : IntKind.i64.wrap ((n : Int) + 1) = (n : Int) + 1 := wrap_id (by unfold I64; omega)
      have h6' : ¬ ((n : Int) = 6) := by omega
      have hlp := fun k R B hp hx x s v c => level_loop hL F n hn k R B hp hx f (Nat.le_refl f) x s v c [] (.inl rfl)
      simp only [pCB, pC2B, badKB] at hl
      simp at hl
      simp only [el_bind]
      simp [Tryd.f164, pM, lvD, bxE, bx0] at hlp ⊢
      simp [drwK_end, exD_A, pCB, pC2B, badKB, hlv, e4, hl, hw, h6', hlen]
      refine Le.el (fun x s => ?_) fun e s => Le.refl _
      refine hlp _ _ _ ?_ ?_ _ _ _ _
      · intro env e s r
        simp
      · intro x s v c
        constructor <;> (apply Le.of_eq; simp [drwK_end, exD_A])
    · rw [if_neg hn]; exact Le.none
end
end Go.Am
end
section
namespace Go.Am
open Go Go.Proofs
variable [Inhabited Mx2]
set_option maxRecDepth 20000
section
variable {L : List Sgn} (hL : L.length < 1000000)
include hL
theorem labels_loop (k : Kt) (R : List Int → PS → Ans) (B : Er → PS → Ans)
    (hp : ∀ env e s r, k (.panic 67 (fD e)) ⟨24, gl0, env, pM L s ++ r⟩ = B e s)
    (hx : ∀ l s v, Le ((mustS L [58] s).el (fun _ s => R l s) B) (k (.exit 0) ⟨24, gl0, [(0, true, .ptr 0 0 0), (3, true, .vec 250 v 0 l.length), (20, true, .d (.bool true))], pM L s ++ [⟨250, v, .vec 1 (l.map fun n => .int .i64 n)⟩]⟩)) :
    ∀ (f : Nat) (l : List Int) (s : PS) (v : Nat) (X : Env), (X = [] ∨ X = [(20, true, .d (.bool false))]) →
    Le ((labelsS L f l s).el R B) (denK ctx 163 (.loop (Code.at (codeOf Tryd.f163) [1, 1, 0, 0, 0])) ⟨24, gl0, [(0, true, .ptr 0 0 0), (3, true, .vec 250 v 0 l.length)] ++ X, pM L s ++ [⟨250, v, .vec 1 (l.map fun n => .int .i64 n)⟩]⟩ k)
  | 0, l, s, v, X, hX => Le.none
  | f + 1, l, s, v, X, hX => by
    have ih := fun lo hi s v => labels_loop k R B hp hx f (l ++ [lo, hi]) s v _ (.inr rfl)
    have hx := fun lo hi => hx (l ++ [lo, hi])
    rw [denK_loop]
    unfold labelsS
    simp only [el_bind]
    by_cases hl : l.length < 100000
    · have h3 : (l.length + 2) * 8 ≤ 140737488355328 ∧ l.length ≤ 4611686018427387902 := by omega
      simp [Tryd.f163, pM] at hp ih hx ⊢
      rcases hX with rfl | rfl
      all_goals
        simp [signed_r hL, may_r hL, hp, hl, h3, pC2B, badKB, drwK_end]
        refine Le.el (fun lo s => Le.el (fun b s => Le.ite (fun hb => Le.el (fun hi s => Le.el (fun b s => Le.ite (fun hb => ?_) fun hb => ?_) fun _ _ => Le.refl _) fun _ _ => Le.refl _) fun hb => Le.el (fun b s => Le.ite (fun hb => ?_) fun hb => ?_) fun _ _ => Le.refl _) fun _ _ => Le.refl _) fun _ _ => Le.refl _
        · exact ih _ _ _ _
        · exact hx _ _ _ _
        · exact ih _ _ _ _
        · exact hx _ _ _ _
    · simp [Tryd.f163, pM] at hp ⊢
      rcases hX with rfl | rfl
      all_goals
        simp [signed_r hL, may_r hL, hp, hl, pC2B, badKB, drwK_end]
        refine Le.el (fun lo s => Le.el (fun b s => Le.ite (fun hb => Le.el (fun hi s => Le.none) fun _ _ => Le.refl _) fun hb => Le.none) fun _ _ => Le.refl _) fun _ _ => Le.refl _
theorem labels_le (f : Nat) (s : PS) : Le ((labelsS L f [] s).el (fun l s => some (.ret (.d (lbD l)), pC2 L s)) (badK L)) (callT ctx 163 [.ptr 0 0 0] (pC L s)) := by
  have hl := fun k R B hp hx v => labels_loop hL k R B hp hx f [] s v [] (.inl rfl)
  rw [run163 (by simp [pC])]
  simp [Tryd.f163, pM] at hl ⊢
  simp [pCB]
  refine hl _ _ _ ?_ ?_ _
  · intro env e s r
    simp [badKB]
  · intro l s v
    simp [must_r hL, pC2B, badKB, lbD]
    exact Le.refl _
end
end Go.Am
end
section
namespace Go.Am
open Go Go.Proofs
variable [Inhabited Mx2]
set_option maxRecDepth 20000
/-- What the calls of the statements' functions give. -/
structure FamS (L : List Sgn) (cl : CallFn) (f : Nat) : Prop where
  E : FamE L cl f
  block : ∀ ws s, ws.length < 1000 → cl 52 [.ptr 0 0 0, .d (.list (ws.map .str))] (pC L s) = (blockS L f ws s).el (fun l s => some (.ret (.d (.list (l.map smD))), pC2 L s)) (badK L)
  stmt : ∀ s, cl 84 [.ptr 0 0 0] (pC L s) = (stmtS L f s).el (fun x s => some (.ret (.d (smD x)), pC2 L s)) (badK L)
  opn : ∀ s, cl 117 [.ptr 0 0 0] (pC L s) = (openS L f s).el (fun x s => some (.ret (.d (smD x)), pC2 L s)) (badK L)
  branches : ∀ s, cl 145 [.ptr 0 0 0] (pC L s) = (branchesS L f s).el (fun x s => some (.ret (.d (smD x)), pC2 L s)) (badK L)
  cases : ∀ s, cl 146 [.ptr 0 0 0] (pC L s) = (casesS L f s).el (fun x s => some (.ret (.d (smD x)), pC2 L s)) (badK L)
  counted : ∀ s, cl 147 [.ptr 0 0 0] (pC L s) = (countedS L f s).el (fun x s => some (.ret (.d (smD x)), pC2 L s)) (badK L)
  call : ∀ nm s, cl 149 [.ptr 0 0 0, .d (.str nm)] (pC L s) = (callS L f nm s).el (fun x s => some (.ret (.d (smD x)), pC2 L s)) (badK L)
section
variable {L : List Sgn} {s : PS} {cl : CallFn} {f : Nat} (hL : L.length < 1000000) (F : FamS L cl f)
include hL F
theorem stmt_f : Le ((stmtS L (f + 1) s).el (fun x s => some (.ret (.d (smD x)), pC2 L s)) (badK L)) (callT ctx 84 [.ptr 0 0 0] (pC L s)) := by
  have h := F.opn
  have e1 := F.E.out 116 (by decide)
  have e2 := F.E.out 49 (by decide)
  have e3 := F.E.out 118 (by decide)
  have e4 := F.E.out 79 (by decide)
  have hsm : ∀ (x : Sm) (l : Int), smAt l x = .mk (smo x) (sma x) (smt x) (smv x) (smc x) (smlb x) (smf x) (smb x) l := fun x l => by cases x; rfl
  simp only [pCB, pC2B, badKB] at h
  refine Le.trans (Le.of_eq ?_) (ov84 F.E.le (by simp [pC]))
  unfold stmtS
  simp [Tryd.f84, drwK_end, smD_A, hsm, pCB, pC2B, badKB, h, e1, e2, e3, e4, in_r hL, must_r hL, out_r hL, now_r]
theorem block_loop (ws : List Tx) (hws : ws.length < 1000) (k : Kt) (R : List Sm → PS → Ans) (B : Er → PS → Ans)
    (hp : ∀ env e s r, k (.panic 67 (fD e)) ⟨17, gl0, env, pM L s ++ r⟩ = B e s)
    (hx : ∀ l s v, Le (R l s) (k (.exit 0) ⟨17, gl0, [(0, true, .ptr 0 0 0), (1, true, .d (.list (ws.map .str))), (5, true, .vec 350 v 0 l.length), (10, true, .d (.bool false))], pM L s ++ [⟨350, v, .vec 19 (l.map smD)⟩]⟩)) :
    ∀ (j : Nat), j ≤ f → ∀ (l : List Sm) (s : PS) (v : Nat),
    Le ((blockL L j ws l s).el R B) (denK (ctx.over cl) 52 (.loop (Code.at (codeOf Tryd.f52) [1, 1, 0, 0, 0])) ⟨17, gl0, [(0, true, .ptr 0 0 0), (1, true, .d (.list (ws.map .str))), (5, true, .vec 350 v 0 l.length)], pM L s ++ [⟨350, v, .vec 19 (l.map smD)⟩]⟩ k)
  | 0, hj, l, s, v => by unfold blockL; exact Le.none
  | j + 1, hj, l, s, v => by
    have ih := fun x s v => block_loop ws hws k R B hp hx j (by omega) (l ++ [x]) s v
    have e1 := F.E.out 82 (by decide)
    have hc := contains_r (L := L) (s := s) ws (by omega)
    have hx := hx l
    rw [denK_loop]
    unfold blockL
    cases ha : anyS L ws s with
    | out => exact Le.none
    | bad e s1 =>
      apply Le.of_eq
      simp [ha, badKB] at hc
      simp [Tryd.f52, pM] at hp ⊢
      simp [hc, hp, e1]
    | ok b s1 =>
      simp only [bind_ok]
      simp [ha, pC2B] at hc
      cases b with
      | true =>
        have hx := hx s1 v
        simp [Tryd.f52, pM] at hx ⊢
        simpa [hc, e1] using hx
      | false =>
        have hl := F.stmt s1
        simp only [Bool.false_eq_true, if_false]
        rcases (monS L j f (by omega)).stmt s1 with hj | hj
        · rw [hj]; exact Le.none
        rw [← hj] at hl
        simp only [pCB, pC2B, badKB] at hl
        cases hls : stmtS L j s1 with
        | out => exact Le.none
        | bad e s3 =>
          apply Le.of_eq
          simp [hls] at hl
          simp [Tryd.f52, pM] at hp ⊢
          simp [hc, hl, hp, e1]
        | ok x s3 =>
          by_cases hlen : l.length < 100000
          · have h3 : (l.length + 1) * 288 ≤ 140737488355328 ∧ l.length ≤ 4611686018427387903 := by omega
            have ih := ih x s3
            simp [hls, smD_A] at hl
            simp only [bind_ok, if_pos hlen]
            simp [Tryd.f52, pM, smD_A] at ih ⊢
            simp [hc, hl, e1, h3, drwK_end]
            simpa using ih _
          · simp only [bind_ok, if_neg hlen]; exact Le.none
theorem block_f (ws : List Tx) (hws : ws.length < 1000) : Le ((blockS L (f + 1) ws s).el (fun l s => some (.ret (.d (.list (l.map smD))), pC2 L s)) (badK L)) (callT ctx 52 [.ptr 0 0 0, .d (.list (ws.map .str))] (pC L s)) := by
  have hl := fun k R B hp hx v => block_loop hL F ws hws k R B hp hx f (Nat.le_refl f) [] s v
  refine Le.trans ?_ (ov52 F.E.le (by simp [pC]))
  unfold blockS
  simp [Tryd.f52, pM] at hl ⊢
  simp [pCB]
  refine hl _ _ _ ?_ ?_ _
  · intro env e s r
    simp [badKB]
  · intro l s v
    simp [pC2B]
    exact Le.refl _
theorem counted_f : Le ((countedS L (f + 1) s).el (fun x s => some (.ret (.d (smD x)), pC2 L s)) (badK L)) (callT ctx 147 [.ptr 0 0 0] (pC L s)) := by
  have h := F.E.expr
  have h' := fun s => F.block [[69, 78, 68, 95, 70, 79, 82]] s (by decide)
  have e1 := F.E.out 77 (by decide)
  have e2 := F.E.out 49 (by decide)
  have e3 := F.E.out 50 (by decide)
  have e4 := F.E.out 79 (by decide)
  simp only [pCB, pC2B, badKB] at h h'
  refine Le.trans (Le.of_eq ?_) (ov147 F.E.le (by simp [pC]))
  unfold countedS
  simp at h'
  simp [Tryd.f147, drwK_end, range02, exD_A, smD_A, bkD, ex0, pCB, pC2B, badKB, h, h', e1, e2, e3, e4, may_r hL, must_r hL, kind_r hL, now_r]
theorem open_f : Le ((openS L (f + 1) s).el (fun x s => some (.ret (.d (smD x)), pC2 L s)) (badK L)) (callT ctx 117 [.ptr 0 0 0] (pC L s)) := by
  have h := F.E.expr
  have h2 := F.E.index
  have h' := F.block
  have h3 := F.branches
  have h4 := F.cases
  have h5 := F.counted
  have h6 := F.call
  have e1 := F.E.out 77 (by decide)
  have e2 := F.E.out 49 (by decide)
  have e3 := F.E.out 50 (by decide)
  have e4 := F.E.out 83 (by decide)
  simp only [pCB, pC2B, badKB] at h h' h2 h3 h4 h5 h6
  refine Le.trans (Le.of_eq ?_) (ov117 F.E.le (by simp [pC]))
  unfold openS
  have b1 := fun s => h' [[69, 78, 68, 95, 87, 72, 73, 76, 69]] s (by decide)
  have b2 := fun s => h' [[85, 78, 84, 73, 76]] s (by decide)
  simp at b1 b2
  simp [Tryd.f117, drwK_end, range02, exD_A, smD_A, bkD, ex0, exVar, exSub, smOp, pCB, pC2B, badKB, h, h2, h3, h4, h5, h6, b1, b2, e1, e2, e3, e4, may_r hL, must_r hL, kind_r hL, is_r]
end
end Go.Am
end
section
namespace Go.Am
open Go Go.Proofs
variable [Inhabited Mx2]
set_option maxRecDepth 20000
def bxS0 : Cont := .box [.d (.int .i64 0), .d (.str []), .d (.int .i64 0), .d (.int .i64 0), .d (.str []), .d (.str []), .lit (.slice none 0 0), .d (.int .i64 0), .d (.int .i64 0), .d (.int .i64 0), .d (.str []), .d (.str []), .lit (.slice none 0 0), .d (.int .i64 0), .lit (.slice none 0 0), .lit (.slice none 0 0), .lit (.slice none 0 0), .lit (.slice none 0 0), .d (.int .i64 0)]
/-- What stands behind the last ELSIF. -/
def elseW (L : List Sgn) (f : Nat) (c : List Ex) (l : List (List Sm)) (s : PS) : PM Sm := (mayS L [69, 76, 83, 69] s).bind fun m s => (if m = true then (blockS L f [[69, 78, 68, 95, 73, 70]] s).bind fun z s => .ok (l ++ [z]) s else .ok l s).bind fun l s => (mustS L [69, 78, 68, 95, 73, 70] s).bind fun _ s => .ok (.mk 2 [] ex0 ex0 c [] [] l 0) s
def branchesW (L : List Sgn) (f j : Nat) (c : List Ex) (l : List (List Sm)) (s : PS) : PM Sm :=
  (exprS L f s).bind fun x s => (mustS L [84, 72, 69, 78] s).bind fun _ s => (blockS L f [[69, 76, 83, 73, 70], [69, 76, 83, 69], [69, 78, 68, 95, 73, 70]] s).bind fun b s =>
    if c.length < 100000 ∧ l.length < 100000 then (mayS L [69, 76, 83, 73, 70] s).bind fun m s => if m = true then branchesL L j (c ++ [x]) (l ++ [b]) s else elseW L f (c ++ [x]) (l ++ [b]) s
    else .out
theorem branchesL_le {L : List Sgn} {f j : Nat} (hj : j ≤ f) (c : List Ex) (l : List (List Sm)) (s : PS) : (branchesL L (j + 1) c l s).le (branchesW L f j c l s) := by
  have h1 := (monE L j f hj).expr
  have h2 := (monS L j f hj).block
  unfold branchesL branchesW elseW
  repeat' with_reducible (first | exact h1 _ | exact h2 _ _ | exact PR.le.refl _ | refine PR.le.bind ?_ (fun _ _ => ?_) | refine PR.le.ite ?_ ?_)
section
variable {L : List Sgn} {s : PS} {cl : CallFn} {f : Nat} (hL : L.length < 1000000) (F : FamS L cl f)
def brM (L : List Sgn) (s : PS) (c : List Ex) (l : List (List Sm)) (v1 v2 : Nat) : List Ent := pM L s ++ [⟨200, 1, bxS0⟩, ⟨250, 1, .box [.d (.int .i64 2), .d (.str []), .d (.int .i64 0), .d (.int .i64 0), .d (.str []), .d (.str []), .lit (.slice none 0 0), .d (.int .i64 0), .d (.int .i64 0), .d (.int .i64 0), .d (.str []), .d (.str []), .lit (.slice none 0 0), .d (.int .i64 0), .vec 251 v1 0 c.length, .lit (.slice none 0 0), .lit (.slice none 0 0), .vec 252 v2 0 l.length, .d (.int .i64 0)]⟩, ⟨251, v1, .vec 6 (c.map exD)⟩, ⟨252, v2, .vec 1 (l.map bkD)⟩]
include hL F
theorem branches_loop (k : Kt) (R : Sm → PS → Ans) (B : Er → PS → Ans)
    (hp : ∀ env e s r, k (.panic 67 (fD e)) ⟨38, gl0, env, pM L s ++ r⟩ = B e s)
    (hx : ∀ c l s v1 v2, c.length ≤ 100000 → l.length ≤ 100000 → Le ((elseW L f c l s).el R B) (k (.exit 0) ⟨38, gl0, [(0, true, .ptr 0 0 0), (2, true, .ptr 200 1 0), (3, true, .ptr 250 1 0), (24, true, .d (.bool true))], brM L s c l v1 v2⟩)) :
    ∀ (j : Nat), j ≤ f → ∀ (c : List Ex) (l : List (List Sm)) (s : PS) (v1 v2 : Nat) (X : Env), c.length ≤ 100000 → l.length ≤ 100000 → (X = [] ∨ X = [(24, true, .d (.bool false))]) →
    Le ((branchesL L j c l s).el R B) (denK (ctx.over cl) 145 (.loop (Code.at (codeOf Tryd.f145) [1, 1, 0, 0, 0])) ⟨38, gl0, [(0, true, .ptr 0 0 0), (2, true, .ptr 200 1 0), (3, true, .ptr 250 1 0)] ++ X, brM L s c l v1 v2⟩ k)
  | 0, hj, c, l, s, v1, v2, X, hc, hl, hX => by unfold branchesL; exact Le.none
  | j + 1, hj, c, l, s, v1, v2, X, hc, hl, hX => by
    have ih := fun x b s v1 v2 h1 h2 => branches_loop k R B hp hx j (by omega) (c ++ [x]) (l ++ [b]) s v1 v2 _ h1 h2 (.inr rfl)
    have e1 := F.E.out 77 (by decide)
    have e2 := F.E.out 49 (by decide)
    have h1 := F.E.expr
    have h2 := fun s => F.block [[69, 76, 83, 73, 70], [69, 76, 83, 69], [69, 78, 68, 95, 73, 70]] s (by decide)
    simp only [pCB, pC2B, badKB] at h1 h2
    refine Le.trans (branchesL_le (f := f) (show j ≤ f by omega) c l s).el ?_
    rw [denK_loop]
    unfold branchesW
    simp only [el_bind]
    simp at h2
    have h3 : (c.length + 1) * 80 ≤ 140737488355328 ∧ c.length ≤ 4611686018427387903 := by omega
    have h4 : (l.length + 1) * 24 ≤ 140737488355328 ∧ l.length ≤ 4611686018427387903 := by omega
    by_cases hlen : c.length < 100000 ∧ l.length < 100000
    · have hx := fun x b s v1 v2 => hx (c ++ [x]) (l ++ [b]) s v1 v2 (by simp; omega) (by simp; omega)
      have ih := fun x b s v1 v2 => ih x b s v1 v2 (by simp; omega) (by simp; omega)
      simp [Tryd.f145, pM, brM, bxS0, exD_A, bkD] at hp ih hx ⊢
      rcases hX with rfl | rfl
      all_goals
        simp [may_r hL, must_r hL, hp, hlen, h1, h2, h3, h4, e1, e2, pC2B, badKB, drwK_end, range02, exD_A, bkD]
        refine Le.el (fun x s => Le.el (fun _ s => Le.el (fun b s => Le.el (fun m s => Le.ite (fun hb => ?_) fun hb => ?_) fun _ _ => Le.refl _) fun _ _ => Le.refl _) fun _ _ => Le.refl _) fun _ _ => Le.refl _
        · exact ih _ _ _ _ _
        · exact hx _ _ _ _ _
    · simp only [if_neg hlen]
      simp [Tryd.f145, pM, brM, bxS0, exD_A, bkD] at hp ⊢
      rcases hX with rfl | rfl
      all_goals
        simp [may_r hL, must_r hL, hp, h1, h2, h3, h4, e1, e2, pC2B, badKB, drwK_end, range02, exD_A, bkD]
        exact Le.el (fun x s => Le.el (fun _ s => Le.el (fun b s => Le.none) fun _ _ => Le.refl _) fun _ _ => Le.refl _) fun _ _ => Le.refl _
theorem branches_f : Le ((branchesS L (f + 1) s).el (fun x s => some (.ret (.d (smD x)), pC2 L s)) (badK L)) (callT ctx 145 [.ptr 0 0 0] (pC L s)) := by
  have hl := fun k R B hp hx v1 v2 => branches_loop hL F k R B hp hx f (Nat.le_refl f) [] [] s v1 v2 [] (by simp) (by simp) (.inl rfl)
  have e1 := F.E.out 77 (by decide)
  have e2 := F.E.out 49 (by decide)
  have h2 := fun s => F.block [[69, 78, 68, 95, 73, 70]] s (by decide)
  simp only [pCB, pC2B, badKB] at h2
  refine Le.trans ?_ (ov145 F.E.le (by simp [pC]))
  unfold branchesS
  simp at h2
  simp [Tryd.f145, pM, brM, bxS0] at hl ⊢
  simp [pCB, drwK_end]
  refine hl _ _ _ ?_ ?_ _ _
  · intro env e s r
    simp [badKB]
  · intro c l s v1 v2 hc hl
    have h3 : (l.length + 1) * 24 ≤ 140737488355328 ∧ l.length ≤ 4611686018427387903 := by omega
    apply Le.of_eq
    simp [elseW, may_r hL, must_r hL, e1, e2, h2, h3, pC2B, badKB, drwK_end, range02, smD_A, ex0, bkD]
end
end Go.Am
end
section
namespace Go.Am
open Go Go.Proofs
variable [Inhabited Mx2]
set_option maxRecDepth 20000
def callE (L : List Sgn) (nm : Tx) (c : List Tx) (l : List Ex) (s : PS) : PM Sm := (mustS L [41] s).bind fun _ s => .ok (.mk 9 nm ex0 ex0 l [] c [] 0) s
def callW (L : List Sgn) (f j : Nat) (nm : Tx) (c : List Tx) (l : List Ex) (s : PS) : PM Sm :=
  (kindS L 1 s).bind fun t s => (mustS L [58, 61] s).bind fun _ s => (exprS L f s).bind fun x s =>
    if c.length < 100000 ∧ l.length < 100000 then (mayS L [44] s).bind fun b s => if b = true then callL L j nm (c ++ [t.text]) (l ++ [x]) s else callE L nm (c ++ [t.text]) (l ++ [x]) s else .out
theorem callL_le {L : List Sgn} {f j : Nat} (hj : j ≤ f) (nm : Tx) (c : List Tx) (l : List Ex) (s : PS) : (callL L (j + 1) nm c l s).le (callW L f j nm c l s) := by
  have h1 := (monE L j f hj).expr
  unfold callL callW callE
  repeat' with_reducible (first | exact h1 _ | exact PR.le.refl _ | refine PR.le.bind ?_ (fun _ _ => ?_) | refine PR.le.ite ?_ ?_)
section
variable {L : List Sgn} {s : PS} {cl : CallFn} {f : Nat} (hL : L.length < 1000000) (F : FamS L cl f)
def caM (L : List Sgn) (s : PS) (nm : Tx) (c : List Tx) (l : List Ex) (v1 v2 : Nat) : List Ent := pM L s ++ [⟨300, 1, bxS0⟩, ⟨350, 1, .box [.d (.int .i64 9), .d (.str nm), .d (.int .i64 0), .d (.int .i64 0), .d (.str []), .d (.str []), .lit (.slice none 0 0), .d (.int .i64 0), .d (.int .i64 0), .d (.int .i64 0), .d (.str []), .d (.str []), .lit (.slice none 0 0), .d (.int .i64 0), .vec 351 v1 0 l.length, .lit (.slice none 0 0), .vec 352 v2 0 c.length, .lit (.slice none 0 0), .d (.int .i64 0)]⟩, ⟨351, v1, .vec 6 (l.map exD)⟩, ⟨352, v2, .vec 1 (c.map .str)⟩]
include hL F
theorem call_loop (nm : Tx) (k : Kt) (R : Sm → PS → Ans) (B : Er → PS → Ans)
    (hp : ∀ env e s r, k (.panic 67 (fD e)) ⟨34, gl0, env, pM L s ++ r⟩ = B e s)
    (hx : ∀ c l s v1 v2, c.length ≤ 100000 → l.length ≤ 100000 → Le ((callE L nm c l s).el R B) (k (.exit 0) ⟨34, gl0, [(0, true, .ptr 0 0 0), (4, true, .ptr 300 1 0), (5, true, .ptr 350 1 0), (30, true, .d (.bool true))], caM L s nm c l v1 v2⟩)) :
    ∀ (j : Nat), j ≤ f → ∀ (c : List Tx) (l : List Ex) (s : PS) (v1 v2 : Nat) (X : Env), c.length ≤ 100000 → l.length ≤ 100000 → (X = [(9, true, .d (.bool false))] ∨ X = [(30, true, .d (.bool false))]) →
    Le ((callL L j nm c l s).el R B) (denK (ctx.over cl) 149 (.loop (Code.at (codeOf Tryd.f149) [1, 1, 1, 0, 0, 0])) ⟨34, gl0, [(0, true, .ptr 0 0 0), (4, true, .ptr 300 1 0), (5, true, .ptr 350 1 0)] ++ X, caM L s nm c l v1 v2⟩ k)
  | 0, hj, c, l, s, v1, v2, X, hc, hl, hX => by unfold callL; exact Le.none
  | j + 1, hj, c, l, s, v1, v2, X, hc, hl, hX => by
    have ih := fun x b s v1 v2 h1 h2 => call_loop nm k R B hp hx j (by omega) (c ++ [x]) (l ++ [b]) s v1 v2 _ h1 h2 (.inr rfl)
    have e1 := F.E.out 77 (by decide)
    have e2 := F.E.out 49 (by decide)
    have e3 := F.E.out 50 (by decide)
    have h1 := F.E.expr
    simp only [pCB, pC2B, badKB] at h1
    refine Le.trans (callL_le (f := f) (show j ≤ f by omega) nm c l s).el ?_
    rw [denK_loop]
    unfold callW
    simp only [el_bind]
    have h3 : (l.length + 1) * 80 ≤ 140737488355328 ∧ l.length ≤ 4611686018427387903 := by omega
    have h4 : (c.length + 1) * 16 ≤ 140737488355328 ∧ c.length ≤ 4611686018427387903 := by omega
    by_cases hlen : c.length < 100000 ∧ l.length < 100000
    · have hx := fun x b s v1 v2 => hx (c ++ [x]) (l ++ [b]) s v1 v2 (by simp; omega) (by simp; omega)
      have ih := fun x b s v1 v2 => ih x b s v1 v2 (by simp; omega) (by simp; omega)
      simp [Tryd.f149, pM, caM, bxS0, exD_A] at hp ih hx ⊢
      rcases hX with rfl | rfl
      all_goals
        simp [may_r hL, must_r hL, kind_r hL, hp, hlen, h1, h3, h4, e1, e2, e3, pC2B, badKB, drwK_end, range02, exD_A]
        refine Le.el (fun x s => Le.el (fun _ s => Le.el (fun b s => Le.el (fun m s => Le.ite (fun hb => ?_) fun hb => ?_) fun _ _ => Le.refl _) fun _ _ => Le.refl _) fun _ _ => Le.refl _) fun _ _ => Le.refl _
        · exact ih _ _ _ _ _
        · exact hx _ _ _ _ _
    · simp only [if_neg hlen]
      simp [Tryd.f149, pM, caM, bxS0, exD_A] at hp ⊢
      rcases hX with rfl | rfl
      all_goals
        simp [may_r hL, must_r hL, kind_r hL, hp, h1, h3, h4, e1, e2, e3, pC2B, badKB, drwK_end, range02, exD_A]
        exact Le.el (fun x s => Le.el (fun _ s => Le.el (fun b s => Le.none) fun _ _ => Le.refl _) fun _ _ => Le.refl _) fun _ _ => Le.refl _
theorem call_f (nm : Tx) : Le ((callS L (f + 1) nm s).el (fun x s => some (.ret (.d (smD x)), pC2 L s)) (badK L)) (callT ctx 149 [.ptr 0 0 0, .d (.str nm)] (pC L s)) := by
  have hl := fun k R B hp hx s v1 v2 => call_loop hL F nm k R B hp hx f (Nat.le_refl f) [] [] s v1 v2 _ (by simp) (by simp) (.inl rfl)
  have e1 := F.E.out 77 (by decide)
  have e2 := F.E.out 49 (by decide)
  refine Le.trans ?_ (ov149 F.E.le (by simp [pC]))
  unfold callS
  simp only [el_bind]
  simp [Tryd.f149, pM, caM, bxS0] at hl ⊢
  simp [pCB, pC2B, badKB, drwK_end, range02, may_r hL, e1, smD_A, ex0]
  refine Le.el (fun b s => Le.ite (fun hb => Le.refl _) fun hb => ?_) fun _ _ => Le.refl _
  refine hl _ _ _ ?_ ?_ _ _ _
  · intro env e s r
    simp
  · intro c l s v1 v2 hc hl
    apply Le.of_eq
    simp [callE, must_r hL, e2, pC2B, badKB, drwK_end, range02, smD_A, ex0]
end
end Go.Am
end
section
namespace Go.Am
open Go Go.Proofs
variable [Inhabited Mx2]
set_option maxRecDepth 20000
/-- What stands behind the last block of a CASE. -/
def caseE (L : List Sgn) (f : Nat) (v : Ex) (c : List (List Int)) (l : List (List Sm)) (s : PS) : PM Sm :=
  (mayS L [69, 76, 83, 69] s).bind fun m s => (if m = true then (blockS L f [[69, 78, 68, 95, 67, 65, 83, 69]] s).bind fun z s => .ok (l ++ [z]) s else .ok l s).bind fun l s => (mustS L [69, 78, 68, 95, 67, 65, 83, 69] s).bind fun _ s => .ok (.mk 3 [] ex0 v [] c [] l 0) s
def casesW (L : List Sgn) (f j : Nat) (v : Ex) (c : List (List Int)) (l : List (List Sm)) (s : PS) : PM Sm :=
  (labelledS L s).bind fun b s =>
    if b = true then (labelsS L f [] s).bind fun x s => (caseL L f [] s).bind fun b s => if c.length < 100000 ∧ l.length < 100000 then casesL L j v (c ++ [x]) (l ++ [b]) s else .out
    else caseE L f v c l s
theorem casesL_le {L : List Sgn} {f j : Nat} (hj : j ≤ f) (v : Ex) (c : List (List Int)) (l : List (List Sm)) (s : PS) : (casesL L (j + 1) v c l s).le (casesW L f j v c l s) := by
  have h1 := (monS L j f hj).caseL
  have h2 := (monS L j f hj).block
  have h3 := fun l s => monLabels L j f l s hj
  unfold casesL casesW caseE
  by_cases hl : l.length < 100000
  · simp only [if_pos hl]
    repeat' with_reducible (first | exact h1 _ _ | exact h2 _ _ | exact h3 _ _ | exact PR.le.refl _ | refine PR.le.bind ?_ (fun _ _ => ?_) | refine PR.le.ite ?_ ?_)
  · simp only [if_neg hl]
    refine PR.le.bind (PR.le.refl _) fun b s => PR.le.ite (PR.le.bind (h3 _ _) fun x s => PR.le.bind (h1 _ _) fun b s => PR.le.ite (PR.le.refl _) (PR.le.refl _)) (PR.le.bind (PR.le.refl _) fun m s => PR.le.bind (PR.le.ite ?_ (PR.le.refl _)) fun _ _ => PR.le.refl _)
    cases hb : blockS L j [[69, 78, 68, 95, 67, 65, 83, 69]] s with
    | ok a s => exact PR.le.out _
    | out => exact PR.le.out _
    | bad e s1 =>
      rcases h2 [[69, 78, 68, 95, 67, 65, 83, 69]] s with h | h
      · rw [hb] at h; cases h
      · rw [← h, hb]; exact PR.le.refl _
def caseW (L : List Sgn) (f j : Nat) (l : List Sm) (s : PS) : PM (List Sm) := (endCaseS L s).bind fun b s => if b = true then .ok l s else (stmtS L f s).bind fun x s => if l.length < 100000 then caseL L j (l ++ [x]) s else .out
theorem caseL_le {L : List Sgn} {f j : Nat} (hj : j ≤ f) (l : List Sm) (s : PS) : (caseL L (j + 1) l s).le (caseW L f j l s) := by
  have h1 := (monS L j f hj).stmt
  unfold caseL caseW
  exact PR.le.bind (PR.le.refl _) fun _ _ => PR.le.ite (PR.le.refl _) (PR.le.bind (h1 _) fun _ _ => PR.le.refl _)
section
variable {L : List Sgn} {s : PS} {cl : CallFn} {f : Nat} (hL : L.length < 1000000) (F : FamS L cl f)
def csM (L : List Sgn) (s : PS) (x : Ex) (c : List (List Int)) (l : List (List Sm)) (v1 v2 v3 : Nat) (c3 : Cont) : List Ent := pM L s ++ [⟨200, 1, bxS0⟩, ⟨250, 1, .box [.d (.int .i64 3), .d (.str []), .d (.int .i64 0), .d (.int .i64 0), .d (.str []), .d (.str []), .lit (.slice none 0 0), .d (.int .i64 0), .d (.int .i64 (exo x)), .d (.int .i64 (exn x)), .d (.str (exa x)), .d (.str (exf x)), .d (.list ((exs x).map exD)), .d (.int .i64 (exl x)), .lit (.slice none 0 0), .vec 251 v1 0 c.length, .lit (.slice none 0 0), .vec 252 v2 0 l.length, .d (.int .i64 0)]⟩, ⟨251, v1, .vec 1 (c.map lbD)⟩, ⟨252, v2, .vec 1 (l.map bkD)⟩, ⟨300, v3, c3⟩]
theorem endCase_bind {β : Type} (k : Bool → PS → PM β) (s : PS) : (endCaseS L s).bind k = (labelledS L s).bind fun b s => if b = true then k true s else (isS L [69, 76, 83, 69] s).bind fun b s => if b = true then k true s else (isS L [69, 78, 68, 95, 67, 65, 83, 69] s).bind k := by
  unfold endCaseS
  cases labelledS L s with
  | out => rfl
  | bad e s => rfl
  | ok b s =>
    simp only [bind_ok]
    cases b with
    | true => rfl
    | false =>
      simp only [Bool.false_eq_true, if_false]
      cases isS L [69, 76, 83, 69] s with
      | out => rfl
      | bad e s => rfl
      | ok b s => cases b <;> rfl
include hL F
theorem case_loop (x : Ex) (c : List (List Int)) (l0 : List (List Sm)) (v1 v2 : Nat) (k : Kt) (R : List Sm → PS → Ans) (B : Er → PS → Ans)
    (hp : ∀ env e s r, k (.panic 67 (fD e)) ⟨56, gl0, env, pM L s ++ r⟩ = B e s)
    (hx : ∀ l s v, l.length ≤ 100000 → Le (R l s) (k (.exit 2) ⟨56, gl0, [(0, true, .ptr 0 0 0), (2, true, .ptr 200 1 0), (3, true, .ptr 250 1 0), (4, true, .d (.list (l.map smD))), (31, true, .d (.bool false))], csM L s x c l0 v1 v2 v .dead⟩)) :
    ∀ (j : Nat), j ≤ f → ∀ (l : List Sm) (s : PS) (v : Nat), l.length ≤ 100000 →
    Le ((caseL L j l s).el R B) (denK (ctx.over cl) 146 (.loop (Code.at (codeOf Tryd.f146) [1, 1, 1, 0, 0, 0, 1, 0, 1, 1, 0, 0, 0])) ⟨56, gl0, [(0, true, .ptr 0 0 0), (2, true, .ptr 200 1 0), (3, true, .ptr 250 1 0), (4, true, .vec 300 v 0 l.length)], csM L s x c l0 v1 v2 v (.vec 19 (l.map smD))⟩ k)
  | 0, hj, l, s, v, hl => by unfold caseL; exact Le.none
  | j + 1, hj, l, s, v, hl => by
    have ih := fun y s v h => case_loop x c l0 v1 v2 k R B hp hx j (by omega) (l ++ [y]) s v h
    have e1 := F.E.out 162 (by decide)
    have e2 := F.E.out 83 (by decide)
    have h1 := F.stmt
    simp only [pCB, pC2B, badKB] at h1
    refine Le.trans (caseL_le (f := f) (show j ≤ f by omega) l s).el ?_
    unfold caseW
    rw [endCase_bind]
    rw [denK_loop]
    simp only [el_bind]
    have h3 : (l.length + 1) * 288 ≤ 140737488355328 ∧ l.length ≤ 4611686018427387903 := by omega
    have hx := fun s v => hx l s v hl
    by_cases hlen : l.length < 100000
    · have ih := fun y s v => ih y s v (by simp; omega)
      simp [Tryd.f146, pM, csM, bxS0, exD_A, smD_A] at hp ih hx ⊢
      simp [labelled_r hL, is_r, hp, hlen, h1, h3, e1, e2, pC2B, badKB, drwK_end, range02, exD_A, smD_A]
      refine Le.el (fun b s => Le.ite (fun hb => hx _ _) fun hb => Le.el (fun b s => Le.ite (fun hb => hx _ _) fun hb => Le.el (fun b s => Le.ite (fun hb => hx _ _) fun hb => Le.el (fun y s => ?_) fun _ _ => Le.refl _) fun _ _ => Le.refl _) fun _ _ => Le.refl _) fun _ _ => Le.refl _
      exact ih _ _ _
    · simp only [if_neg hlen]
      simp [Tryd.f146, pM, csM, bxS0, exD_A, smD_A] at hp hx ⊢
      simp [labelled_r hL, is_r, hp, h1, h3, e1, e2, pC2B, badKB, drwK_end, range02, exD_A, smD_A]
      refine Le.el (fun b s => Le.ite (fun hb => hx _ _) fun hb => Le.el (fun b s => Le.ite (fun hb => hx _ _) fun hb => Le.el (fun b s => Le.ite (fun hb => hx _ _) fun hb => Le.el (fun y s => ?_) fun _ _ => Le.refl _) fun _ _ => Le.refl _) fun _ _ => Le.refl _) fun _ _ => Le.refl _
      exact Le.none
theorem cases_loop (x : Ex) (k : Kt) (R : Sm → PS → Ans) (B : Er → PS → Ans)
    (hp : ∀ env e s r, k (.panic 67 (fD e)) ⟨56, gl0, env, pM L s ++ r⟩ = B e s)
    (hx : ∀ c l s v1 v2 v3 c3, c.length ≤ 100000 → l.length ≤ 100000 → Le ((caseE L f x c l s).el R B) (k (.exit 0) ⟨56, gl0, [(0, true, .ptr 0 0 0), (2, true, .ptr 200 1 0), (3, true, .ptr 250 1 0), (11, true, .d (.bool false))], csM L s x c l v1 v2 v3 c3⟩)) :
    ∀ (j : Nat), j ≤ f → ∀ (c : List (List Int)) (l : List (List Sm)) (s : PS) (v1 v2 v3 : Nat) (c3 : Cont), c.length ≤ 100000 → l.length ≤ 100000 →
    Le ((casesL L j x c l s).el R B) (denK (ctx.over cl) 146 (.loop (Code.at (codeOf Tryd.f146) [1, 1, 1, 0, 0, 0])) ⟨56, gl0, [(0, true, .ptr 0 0 0), (2, true, .ptr 200 1 0), (3, true, .ptr 250 1 0)], csM L s x c l v1 v2 v3 c3⟩ k)
  | 0, hj, c, l, s, v1, v2, v3, c3, hc, hl => by unfold casesL; exact Le.none
  | j + 1, hj, c, l, s, v1, v2, v3, c3, hc, hl => by
    have ih := fun y b s v1 v2 v3 c3 h1 h2 => cases_loop x k R B hp hx j (by omega) (c ++ [y]) (l ++ [b]) s v1 v2 v3 c3 h1 h2
    have hcl := fun y v1 v2 k R B hp hx s v => case_loop hL F x (c ++ [y]) l v1 v2 k R B hp hx f (Nat.le_refl f) [] s v (by simp)
    have e1 := F.E.out 162 (by decide)
    have e2 := F.E.out 163 (by decide)
    refine Le.trans (casesL_le (f := f) (show j ≤ f by omega) x c l s).el ?_
    unfold casesW
    rw [denK_loop]
    have h3 : (c.length + 1) * 24 ≤ 140737488355328 ∧ c.length ≤ 4611686018427387903 := by omega
    have h4 : (l.length + 1) * 24 ≤ 140737488355328 ∧ l.length ≤ 4611686018427387903 := by omega
    have hlr := labelled_r (L := L) (s := s) hL
    cases hls : labelledS L s with
    | out => exact Le.none
    | bad e s1 =>
      apply Le.of_eq
      simp [hls, badKB] at hlr
      simp [Tryd.f146, pM, csM, bxS0] at hp ⊢
      simp [hlr, hp, e1]
    | ok b s1 =>
      simp only [bind_ok]
      simp [hls, pC2B] at hlr
      cases b with
      | false =>
        have hx := hx c l s1 v1 v2 v3 c3 hc hl
        simp [Tryd.f146, pM, csM, bxS0] at hx ⊢
        simpa [hlr, e1] using hx
      | true =>
        have hlb := labels_le hL f s1
        simp only [if_true]
        cases hbs : labelsS L f [] s1 with
        | out => exact Le.none
        | bad e s2 =>
          apply Le.of_eq
          simp only [hbs, el_bad, pCB, badKB] at hlb
          have hlb := hlb _ rfl
          simp [Tryd.f146, pM, csM, bxS0] at hp ⊢
          simp [hlr, hlb, hp, e1, e2, drwK_end, range02]
        | ok y s2 =>
          simp only [hbs, el_ok, pCB, pC2B] at hlb
          have hlb := hlb _ rfl
          have ih := ih y
          simp only [bind_ok, el_bind]
          simp [Tryd.f146, pM, csM, bxS0, bkD] at hp ih hcl ⊢
          simp [hlr, hlb, e1, e2, drwK_end, range02, h3, h4]
          refine hcl _ _ _ _ _ _ ?_ ?_ _ _
          · intro env e s r
            simp [hp]
          · intro b s v hb
            by_cases hlen : c.length < 100000 ∧ l.length < 100000
            · have ih := fun s v1 v2 v3 c3 => ih b s v1 v2 v3 c3 (by omega) (by omega)
              simp [hlen, h4, drwK_end, bkD]
              simpa using ih _ _ _ _ _
            · rw [if_neg hlen]; exact Le.none
theorem cases_f : Le ((casesS L (f + 1) s).el (fun x s => some (.ret (.d (smD x)), pC2 L s)) (badK L)) (callT ctx 146 [.ptr 0 0 0] (pC L s)) := by
  have hl := fun x k R B hp hx s v1 v2 v3 c3 => cases_loop hL F x k R B hp hx f (Nat.le_refl f) [] [] s v1 v2 v3 c3 (by simp) (by simp)
  have e1 := F.E.out 77 (by decide)
  have e2 := F.E.out 49 (by decide)
  have h1 := F.E.expr
  have h2 := fun s => F.block [[69, 78, 68, 95, 67, 65, 83, 69]] s (by decide)
  simp only [pCB, pC2B, badKB] at h1 h2
  refine Le.trans ?_ (ov146 F.E.le (by simp [pC]))
  unfold casesS
  simp only [el_bind]
  simp at h2
  simp [Tryd.f146, pM, csM, bxS0] at hl ⊢
  simp [pCB, pC2B, badKB, drwK_end, range02, must_r hL, e2, h1, exD_A]
  refine Le.el (fun x s => Le.el (fun _ s => ?_) fun _ _ => Le.refl _) fun _ _ => Le.refl _
  refine hl _ _ _ _ ?_ ?_ _ _ _ _ _
  · intro env e s r
    simp
  · intro c l s v1 v2 v3 c3 hc hl
    have h3 : (l.length + 1) * 24 ≤ 140737488355328 ∧ l.length ≤ 4611686018427387903 := by omega
    apply Le.of_eq
    simp [caseE, may_r hL, must_r hL, e1, e2, h2, h3, pC2B, badKB, drwK_end, range02, smD_A, ex0, bkD]
end
end Go.Am
end
section
namespace Go.Am
open Go Go.Proofs
variable [Inhabited Mx2]
set_option maxRecDepth 20000
def retE (L : List Sgn) (x : Ex) (s : PS) : Ans := some (.ret (.d (exD x)), pC2 L s)
def retS (L : List Sgn) (x : Sm) (s : PS) : Ans := some (.ret (.d (smD x)), pC2 L s)
def retB (L : List Sgn) (l : List Sm) (s : PS) : Ans := some (.ret (.d (.list (l.map smD))), pC2 L s)
/-- The calls of the parser's functions that call one another. -/
inductive TA where
  | level (n : Nat) (s : PS)
  | unary (s : PS)
  | factor (s : PS)
  | index (s : PS)
  | expr (s : PS)
  | block (ws : List Tx) (s : PS)
  | stmt (s : PS)
  | opn (s : PS)
  | branches (s : PS)
  | cases (s : PS)
  | counted (s : PS)
  | call (nm : Tx) (s : PS)
def TA.fid : TA → FuncId
  | .level .. => 164
  | .unary .. => 175
  | .factor .. => 181
  | .index .. => 150
  | .expr .. => 148
  | .block .. => 52
  | .stmt .. => 84
  | .opn .. => 117
  | .branches .. => 145
  | .cases .. => 146
  | .counted .. => 147
  | .call .. => 149
def TA.args : TA → List AV
  | .level n _ => [.ptr 0 0 0, .d (.int .i64 n)]
  | .block ws _ => [.ptr 0 0 0, .d (.list (ws.map .str))]
  | .call nm _ => [.ptr 0 0 0, .d (.str nm)]
  | _ => [.ptr 0 0 0]
def TA.st : TA → PS
  | .level _ s => s
  | .unary s => s
  | .factor s => s
  | .index s => s
  | .expr s => s
  | .block _ s => s
  | .stmt s => s
  | .opn s => s
  | .branches s => s
  | .cases s => s
  | .counted s => s
  | .call _ s => s
def TA.ans (L : List Sgn) (f : Nat) : TA → Ans
  | .level n s => (levelS L f n s).el (retE L) (badK L)
  | .unary s => (unaryS L f s).el (retE L) (badK L)
  | .factor s => (factorS L f s).el (retE L) (badK L)
  | .index s => (indexS L f s).el (retE L) (badK L)
  | .expr s => (exprS L f s).el (retE L) (badK L)
  | .block ws s => if ws.length < 1000 then (blockS L f ws s).el (retB L) (badK L) else none
  | .stmt s => (stmtS L f s).el (retS L) (badK L)
  | .opn s => (openS L f s).el (retS L) (badK L)
  | .branches s => (branchesS L f s).el (retS L) (badK L)
  | .cases s => (casesS L f s).el (retS L) (badK L)
  | .counted s => (countedS L f s).el (retS L) (badK L)
  | .call nm s => (callS L f nm s).el (retS L) (badK L)
theorem vrDs_inj : ∀ {l l' : List Vr}, l.map vrD = l'.map vrD → l = l'
  | [], [], _ => rfl
  | [], _ :: _, h => by simp at h
  | _ :: _, [], h => by simp at h
  | a :: l, b :: l', h => by
    simp only [List.map_cons, List.cons.injEq] at h
    rw [vrD_inj h.1, vrDs_inj h.2]
theorem strs_inj : ∀ {l l' : List Tx}, l.map D.str = l'.map D.str → l = l'
  | [], [], _ => rfl
  | [], _ :: _, h => by simp at h
  | _ :: _, [], h => by simp at h
  | a :: l, b :: l', h => by
    simp only [List.map_cons, List.cons.injEq, D.str.injEq] at h
    rw [h.1, strs_inj h.2]
theorem pC_inj {L : List Sgn} {s s' : PS} (h : pC L s = pC L s') : s = s' := by
  simp only [pC, pB, List.cons.injEq, Cont.box.injEq, Cont.vec.injEq, AV.d.injEq, D.int.injEq, true_and, and_true] at h
  obtain ⟨⟨h1, h2, _⟩, h3⟩ := h
  cases s; cases s'
  simp only at h1 h2 h3
  have h3 := vrDs_inj h3
  have h1 := Int.ofNat.inj h1
  subst h1 h2 h3
  rfl
theorem ans_inj {L : List Sgn} : ∀ (t t' : TA), t.fid = t'.fid → t.args = t'.args → t.st = t'.st → t = t'
  | t, t', h1, h2, h3 => by
    cases t <;> cases t' <;> simp [TA.fid] at h1 <;> simp only [TA.st] at h3 <;> subst h3 <;> try rfl
    · simp only [TA.args, List.cons.injEq, AV.d.injEq, D.int.injEq, true_and, and_true] at h2
      obtain rfl := Int.ofNat.inj h2; rfl
    · simp only [TA.args, List.cons.injEq, AV.d.injEq, D.list.injEq, true_and, and_true] at h2
      rw [strs_inj h2]
    · simp [TA.args] at h2
      subst h2; rfl
theorem parser_le {L : List Sgn} (hL : L.length < 1000000) (f : Nat) (t : TA) : Le (t.ans L f) (callT ctx t.fid t.args (pC L t.st)) := by
  intro r hr
  refine recur (X := ctx) TA.fid TA.args (fun t => pC L t.st) (fun f t => t.ans L f) ?_ ?_ ?_ f t r hr
  · intro t
    cases t <;> simp [TA.ans, levelS, unaryS, factorS, indexS, exprS, blockS, stmtS, openS, branchesS, casesS, countedS, callS]
  · intro t t' h1 h2 h3 f
    rw [ans_inj (L := L) t t' h1 h2 (pC_inj h3)]
  · intro f cl h1 h2 h3 t r hr
    have E : FamE L cl f := by
      refine ⟨h1, ?_, fun n s => h2 (.level n s), fun s => h2 (.unary s), fun s => h2 (.factor s), fun s => h2 (.index s), fun s => h2 (.expr s)⟩
      intro g hg
      funext a c
      refine h3 g (fun t => ?_) a c
      intro he
      subst he
      revert hg
      cases t <;> simp only [TA.fid] <;> decide
    have F : FamS L cl f := by
      refine ⟨E, fun ws s hw => ?_, fun s => h2 (.stmt s), fun s => h2 (.opn s), fun s => h2 (.branches s), fun s => h2 (.cases s), fun s => h2 (.counted s), fun nm s => h2 (.call nm s)⟩
      have := h2 (.block ws s)
      simp only [TA.ans, if_pos hw] at this
      exact this
    cases t with
    | level n s => exact level_f hL E n r hr
    | unary s => exact unary_f hL E r hr
    | factor s => exact factor_f hL E r hr
    | index s => exact index_f hL E r hr
    | expr s => exact expr_f hL E r hr
    | block ws s =>
      by_cases hw : ws.length < 1000
      · simp only [TA.ans, if_pos hw] at hr
        exact block_f hL F ws hw r hr
      · simp only [TA.ans, if_neg hw] at hr
        cases hr
    | stmt s => exact stmt_f hL F r hr
    | opn s => exact open_f hL F r hr
    | branches s => exact branches_f hL F r hr
    | cases s => exact cases_f hL F r hr
    | counted s => exact counted_f hL F r hr
    | call nm s => exact call_f hL F nm r hr
end Go.Am
end
section
namespace Go.Am
open Go Go.Proofs
variable [Inhabited Mx2]
set_option maxRecDepth 20000
theorem Tr.of_ok {α : Type} {r : PM α} {Q : α → PS → Prop} (h : Tr r Q) {a : α} {s : PS} (e : r = .ok a s) : Q a s := by subst e; exact h
section
variable {L : List Sgn} {s : PS} (hL : L.length < 1000000)
include hL
theorem program_le (hOk : OkL L) (hI : Iv L s) (f : Nat) (hf : 20 * (L.length - s.at_) + 19 ≤ f) : Le ((programS L kindN f s).el (fun p s => some (.ret (.agg [.d (.str p.name), .vec 1 1 0 s.vars.length, .d (.list (p.body.map smD))]), pC3 L s)) (badK1 L)) (callT ctx 25 [.ptr 0 0 0] (pC L s)) := by
  rw [run25 (by simp [pC])]
  unfold programS
  have m1 := must_r (L := L) (s := s) hL [80, 82, 79, 71, 82, 65, 77]
  cases h1 : mustS L [80, 82, 79, 71, 82, 65, 77] s with
  | out => exact Le.none
  | bad e s1 =>
    apply Le.of_eq
    simp [h1, badKB] at m1
    simp [Tryd.f25, pCB, badK1, pC3, m1]
  | ok u s1 =>
    simp [h1, pC2B] at m1
    have m2 := kind_r (L := L) (s := s1) hL 1
    have i1 := ((must_tr hOk hI).of_ok h1).1
    have := i1.lt
    have := i1.iv.at_
    simp only [bind_ok]
    cases h2 : kindS L 1 s1 with
    | out => exact Le.none
    | bad e s2 =>
      apply Le.of_eq
      simp [h2, badKB] at m2
      simp [Tryd.f25, pCB, badK1, pC3, m1, m2]
    | ok nm s2 =>
      simp [h2, pC2B] at m2
      have m3 := sections_le (L := L) hL f s2
      have i2 := ((kind_trS hOk (by decide) i1.iv).of_ok h2).1
      have := i2.lt
      have := i2.iv.at_
      simp only [bind_ok]
      cases h3 : sectionsS L kindN f s2 with
      | out => exact Le.none
      | bad e s3 =>
        apply Le.of_eq
        simp only [h3, el_bad, badK1, pC3] at m3
        have m3 := m3 _ rfl
        simp [Tryd.f25, pCB, badK1, pC3, m1, m2, m3]
      | ok u s3 =>
        simp only [h3, el_ok, pC3] at m3
        have m3 := m3 _ rfl
        have i3 := (sections_tr hOk f s2 i2.iv (by omega)).of_ok h3
        have := i3.at_
        have m4 := parser_le (L := L) hL f (.block [[69, 78, 68, 95, 80, 82, 79, 71, 82, 65, 77]] s3)
        simp only [bind_ok]
        simp only [TA.ans, TA.fid, TA.args, TA.st, pCB, retB, pC2B, badKB] at m4
        rw [if_pos (by decide)] at m4
        cases h4 : blockS L f [[69, 78, 68, 95, 80, 82, 79, 71, 82, 65, 77]] s3 with
        | out => exact Le.none
        | bad e s4 =>
          apply Le.of_eq
          simp only [h4, el_bad] at m4
          have m4 := m4 _ rfl
          simp at m4
          simp [Tryd.f25, pCB, badK1, pC3, m1, m2, m3, m4]
        | ok l s4 =>
          simp only [h4, el_ok] at m4
          have m4 := m4 _ rfl
          simp at m4
          have i4 := ((allS hOk f).block _ s3 i3.iv (by omega)).of_ok h4
          have m5 := must_r (L := L) (s := s4) hL [69, 78, 68, 95, 80, 82, 79, 71, 82, 65, 77]
          simp only [bind_ok]
          apply Le.of_eq
          cases h5 : mustS L [69, 78, 68, 95, 80, 82, 79, 71, 82, 65, 77] s4 with
          | out => have := must_tr (w := [69, 78, 68, 95, 80, 82, 79, 71, 82, 65, 77]) hOk i4.iv; rw [h5] at this; exact this.elim
          | bad e s5 =>
            simp [h5, badKB] at m5
            simp [Tryd.f25, pCB, badK1, pC2B, pC3, m1, m2, m3, m4, m5]
          | ok u s5 =>
            have i5 := ((must_tr hOk i4.iv).of_ok h5).1
            simp [h5, pC2B] at m5
            have m6 := kind_r (L := L) (s := s5) hL 0
            simp only [bind_ok]
            cases h6 : kindS L 0 s5 with
            | out => have := kind_tr (k := 0) hOk i5.iv; rw [h6] at this; exact this.elim
            | bad e s6 =>
              simp [h6, badKB] at m6
              simp [Tryd.f25, pCB, badK1, pC2B, pC3, m1, m2, m3, m4, m5, m6]
            | ok u s6 =>
              have i6 := ((kind_tr hOk i5.iv).of_ok h6).1
              have hv : s6.vars = s3.vars := by rw [i6.vars, i5.vars, i4.vars]
              simp [h6, pC2B] at m6
              simp [Tryd.f25, pCB, pC2B, pC3, m1, m2, m3, m4, m5, m6, hv]
end
end Go.Am
end
section
namespace Go.Am
open Go
abbrev AnsT := Option (Out × List (Nat × Cont))
theorem hoistB (c : Prop) [Decidable c] (a b : Bool) (l : List (Nat × Cont)) : (if c then (some (Out.ret (.d (.bool a)), l) : AnsT) else some (Out.ret (.d (.bool b)), l)) = some (Out.ret (.d (.bool (if c then a else b))), l) := by split <;> rfl
theorem retB_iff (a b : Bool) (l : List (Nat × Cont)) : (some (Out.ret (.d (.bool a)), l) : AnsT) = some (Out.ret (.d (.bool b)), l) ↔ (a = true ↔ b = true) := by
  cases a <;> cases b <;> simp
theorem hoistI (c : Prop) [Decidable c] (k : IntKind) (a b : Int) (l : List (Nat × Cont)) : (if c then (some (Out.ret (.d (.int k a)), l) : AnsT) else some (Out.ret (.d (.int k b)), l)) = some (Out.ret (.d (.int k (if c then a else b))), l) := by split <;> rfl
theorem hoistT (c : Prop) [Decidable c] (a b : List AV) (l : List (Nat × Cont)) : (if c then (some (Out.ret (.tup a), l) : AnsT) else some (Out.ret (.tup b), l)) = some (Out.ret (.tup (if c then a else b)), l) := by split <;> rfl
end Go.Am
end
section
namespace Go.Am
open Go Go.Proofs
variable [Inhabited Mx2]
set_option maxRecDepth 20000
theorem wrap8_id {n : Int} (h1 : 0 ≤ n) (h2 : n ≤ 255) : IntKind.u8.wrap n = n := by
  simp [IntKind.wrap, IntKind.bits, IntKind.signed]
  omega
theorem letter_run (c : UInt8) : callT ctx 70 [.d (.int .u8 c.toNat)] [] = some (.ret (.d (.bool (letterB c))), []) := by
  rw [run70 (by simp)]
  simp [Tryd.f70, drwK_end]
  grind [letterB]
theorem digit_run (c : UInt8) : callT ctx 74 [.d (.int .u8 c.toNat)] [] = some (.ret (.d (.bool (digitB c))), []) := by
  rw [run74 (by simp)]
  simp [Tryd.f74, drwK_end]
  grind [digitB]
theorem inner_run (c : UInt8) : callT ctx 72 [.d (.int .u8 c.toNat)] [] = some (.ret (.d (.bool (innerB c))), []) := by
  rw [run72 (by simp)]
  simp [Tryd.f72, drwK_end, letter_run, digit_run]
  simp only [hoistB, retB_iff]
  grind [innerB]
theorem value_run (c : UInt8) : callT ctx 112 [.d (.int .u8 c.toNat)] [] = some (.ret (.d (.int .i64 (valB c))), []) := by
  rw [run112 (by simp)]
  simp [Tryd.f112, drwK_end, digit_run]
  have hc : c.toNat < 256 := c.toNat_lt
  have w : ∀ y : Int, -9223372036854775808 ≤ y → y ≤ 9223372036854775807 → IntKind.i64.wrap y = y := fun y h1 h2 => wrap_id ⟨h1, h2⟩
  have w8 : ∀ y : Int, 0 ≤ y → y ≤ 255 → IntKind.u8.wrap y = y := fun y h1 h2 => wrap8_id h1 h2
  grind [valB, digitB]
end Go.Am
end
section
namespace Go.Am
open Go Go.Proofs
variable [Inhabited Mx2]
set_option maxRecDepth 20000
theorem strAt_eq {s : Tx} {i : Nat} (h : i < s.length) : strAt s i = s[i] := by simp [strAt, h]
theorem u8_eq (c : UInt8) (n : Nat) (hn : n < 256) : ((c.toNat : Int) = n) ↔ c = UInt8.ofNat n := by
  constructor
  · intro h
    have h : c.toNat = n := by omega
    rw [← h]; simp
  · rintro rfl
    simp; omega
@[simp] def rBox (s : Tx) (i : Nat) : Cont := .box [.d (.str s), .d (.int .i64 i), .d (.int .i64 (plOf (s.take i)).1), .d (.int .i64 (plOf (s.take i)).2)]
theorem rest_run (s : Tx) (i : Nat) (h : i ≤ s.length) : callT ctx 46 [.ptr 0 0 0] [rBox s i] = some (.ret (.d (.str (s.drop i))), [(0, rBox s i)]) := by
  rw [run46 (by simp)]
  simp [Tryd.f46, drwK_end, h]
theorem skip_loop (s : Tx) (i n : Nat) (h : i + n ≤ s.length) (hs : s.length ≤ 100000) (k : Kt) : ∀ (r j : Nat), j + r = n →
    denK ctx 48 (.loop (Code.at (codeOf Tryd.f48) [1, 0, 0])) ⟨42, gl0, [(0, true, .ptr 0 0 0), (4, true, .d (.int .i64 n)), (5, true, .d (.int .i64 j))], [⟨0, 0, rBox s (i + j)⟩]⟩ k =
      k (.exit 0) ⟨42, gl0, [(0, true, .ptr 0 0 0), (4, true, .d (.int .i64 n)), (5, true, .d (.int .i64 n)), (6, true, .d (.bool false))], [⟨0, 0, rBox s (i + n)⟩]⟩
  | 0, j, hj => by
    have hj : j = n := by omega
    subst hj
    rw [denK_loop]
    simp [Tryd.f48]
  | r + 1, j, hj => by
    have ih := skip_loop s i n h hs k r (j + 1) (by omega)
    have hlt : i + j < s.length := by omega
    have hb := plOf_take (s := s) (i := i + j)
    have hsu := plOf_succ hlt
    rw [show i + (j + 1) = i + j + 1 by omega] at ih
    generalize hp : plOf (s.take (i + j)) = p at *
    generalize hq : plOf (s.take (i + j + 1)) = q at *
    obtain ⟨l, c⟩ := p
    obtain ⟨l2, c2⟩ := q
    simp only at hb
    have w1 : IntKind.i64.wrap (c + 1) = c + 1 := wrap_id (by unfold I64; omega)
    have w2 : IntKind.i64.wrap (l + 1) = l + 1 := wrap_id (by unfold I64; omega)
    have w3 : IntKind.i64.wrap ((i : Int) + j + 1) = (i : Int) + j + 1 := wrap_id (by unfold I64; omega)
    have w4 : IntKind.i64.wrap ((j : Int) + 1) = (j : Int) + 1 := wrap_id (by unfold I64; omega)
    have hjn : j < n := by omega
    rw [denK_loop]
    simp [Tryd.f48, hp, hq] at ih ⊢
    have h0 : (0 : Int) ≤ (i : Int) + j := by omega
    have ht : ((i : Int) + j).toNat = i + j := by omega
    have hst := strAt_eq hlt
    have h10 := u8_eq s[i + j] 10 (by omega)
    simp at h10
    unfold plStep at hsu
    by_cases hc : s[i + j] = 10
    · rw [if_pos hc] at hsu
      cases hsu
      simp [hjn, w1, w2, w3, w4, hlt, drwK_end, h0, ht, hst, hc, ih]
    · rw [if_neg hc] at hsu
      cases hsu
      simp [hjn, w1, w2, w3, w4, hlt, drwK_end, h0, ht, hst, h10, hc, ih]
theorem skip_run (s : Tx) (i n : Nat) (h : i + n ≤ s.length) (hs : s.length ≤ 100000) : callT ctx 48 [.ptr 0 0 0, .d (.int .i64 n)] [rBox s i] = some (.ret (.tup []), [(0, rBox s (i + n))]) := by
  have hl := fun k => skip_loop s i n h hs k n 0 (by omega)
  rw [run48 (by simp)]
  simp [Tryd.f48] at hl ⊢
  simp [hl]
end Go.Am
end
section
namespace Go.Am
open Go Go.Proofs
variable [Inhabited Mx2]
set_option maxRecDepth 20000
theorem indexByte_run (t : Tx) (c : UInt8) : callT ctx 68 [.d (.str t), .d (.int .u8 c.toNat)] [] = some (.ret (.d (.int .i64 (Go.Lib.indexByte t c))), []) := by
  rw [run68 (by simp)]
  simp [Tryd.f68, drwK_end]
set_option maxHeartbeats 1000000 in
theorem gap_loop (s : Tx) (hs : s.length ≤ 100000) (k : Kt) (R : Ans) : ∀ (f i : Nat), i ≤ s.length → s.length - i < f →
    (k .ret ⟨51, gl0, [(2, true, .d (.bool (gapC f (s.drop i)).2))], [⟨0, 0, rBox s (i + (gapC f (s.drop i)).1)⟩]⟩ = R) →
    denK ctx 45 (.loop (Code.at (codeOf Tryd.f45) [1, 0, 0])) ⟨51, gl0, [(0, true, .ptr 0 0 0)], [⟨0, 0, rBox s i⟩]⟩ k = R
  | 0, i, hi, hf, hk => by omega
  | f + 1, i, hi, hf, hk => by
    have hr := rest_run s i hi
    cases ht : s.drop i with
    | nil =>
      rw [ht] at hr hk
      simp [gapC] at hr hk
      rw [denK_loop]
      simp [Tryd.f45, hr, hk, drwK_end]
    | cons c r =>
      have hlen : i + (r.length + 1) = s.length := by have := congrArg List.length ht; simp at this; omega
      have hb1 := indexByte_run (c :: r) 10
      rw [indexByte_line] at hb1
      rw [ht] at hr hk
      unfold gapC at hk
      have hst : strAt (c :: r) 0 = c := rfl
      have hlb := lineN_le (c :: r)
      by_cases h1 : blankB c = true
      · rw [if_pos h1] at hk
        have hsk := skip_run s i 1 (by omega) hs
        have hd : s.drop (i + 1) = r := by rw [← List.tail_drop, ht]; rfl
        have ih := gap_loop s hs k R f (i + 1) (by omega) (by omega) (by rw [hd, show i + 1 + (gapC f r).1 = i + (1 + (gapC f r).1) by omega]; exact hk)
        simp [blankB] at h1
        rw [denK_loop]
        simp [Tryd.f45] at hr hsk ih ⊢
        rcases h1 with (h1 | h1) | h1 <;> simp [hr, hst, h1, hsk, ih, drwK_end]
      rw [if_neg h1] at hk
      have n1 : ¬ (c.toNat : Int) = 32 := fun h => h1 (by simp [blankB]; omega)
      have n2 : ¬ (c.toNat : Int) = 10 := fun h => h1 (by simp [blankB]; omega)
      have n3 : ¬ (c.toNat : Int) = 9 := fun h => h1 (by simp [blankB]; omega)
      have p1 := hasPrefix2 47 47 c r
      have p2 := hasPrefix2 40 42 c r
      by_cases h2 : c = 47 ∧ r.head? = some 47
      · rw [if_pos h2] at hk
        have p1 : Go.Lib.hasPrefix (c :: r) [47, 47] = true := by rw [p1]; simp [h2]
        have hsk := skip_run s i (lineN (c :: r)) (by simp at hlb; omega) hs
        have hd : s.drop (i + lineN (c :: r)) = (c :: r).drop (lineN (c :: r)) := by rw [← List.drop_drop, ht]
        have hpos : 0 < lineN (c :: r) := by simp [lineN, h2.1]
        have ih := gap_loop s hs k R f (i + lineN (c :: r)) (by simp at hlb; omega) (by omega) (by rw [hd, Nat.add_assoc]; exact hk)
        generalize lineN (c :: r) = n at *
        rw [denK_loop]
        by_cases hl : n < (c :: r).length
        · rw [if_pos hl] at hb1
          have hnn : ¬ ((n : Int) < 0) := by omega
          simp [Tryd.f45] at hr hsk ih hb1 ⊢
          simp [hr, hst, n1, n2, n3, p1, hb1, hnn, hsk, ih, drwK_end]
        · rw [if_neg hl] at hb1
          have hn : n = r.length + 1 := by simp at hl hlb; omega
          subst hn
          simp [Tryd.f45] at hr hsk ih hb1 ⊢
          simp [hr, hst, n1, n2, n3, p1, hb1, hsk, ih, drwK_end]
      rw [if_neg h2] at hk
      have p1 : Go.Lib.hasPrefix (c :: r) [47, 47] = false := by rw [p1]; simpa using h2
      by_cases h3 : c = 40 ∧ r.head? = some 42
      · rw [if_pos h3] at hk
        have p2 : Go.Lib.hasPrefix (c :: r) [40, 42] = true := by rw [p2]; simp [h3]
        have hi2 := index_end r.tail
        have h2l : (2 : Int) ≤ (r.length : Int) + 1 := by cases r with | nil => simp at h3 | cons d r => simp; omega
        have hb : r.length - 1 < 4294967281 := by omega
        cases hf2 : findEnd r.tail with
        | none =>
          rw [hf2] at hk hi2
          simp at hk hi2 hr
          rw [denK_loop]
          simp [Tryd.f45]
          simp [hr, hst, n1, n2, n3, p1, p2, h2l, hb, hi2, hk, drwK_end]
        | some m =>
          rw [hf2] at hk hi2
          have hm := findEnd_le hf2
          have hmt : r.tail.length = r.length - 1 := by simp
          have hsk := skip_run s i (m + 4) (by omega) hs
          have hd : s.drop (i + (m + 4)) = (c :: r).drop (m + 4) := by rw [← List.drop_drop, ht]
          have ih := gap_loop s hs k R f (i + (m + 4)) (by omega) (by omega) (by rw [hd, Nat.add_assoc]; exact hk)
          have hnn : ¬ ((m : Int) < 0) := by omega
          have w1 : IntKind.i64.wrap ((m : Int) + 4) = m + 4 := wrap_id (by unfold I64; omega)
          rw [denK_loop]
          simp [Tryd.f45] at hr hsk ih hi2 ⊢
          simp [hr, hst, n1, n2, n3, p1, p2, h2l, hb, hi2, hnn, w1, hsk, ih, drwK_end]
      rw [if_neg h3] at hk
      have p2 : Go.Lib.hasPrefix (c :: r) [40, 42] = false := by rw [p2]; simpa using h3
      simp at hk hr
      rw [denK_loop]
      simp [Tryd.f45]
      simp [hr, hst, n1, n2, n3, p1, p2, hk, drwK_end]
theorem gap_run (s : Tx) (i : Nat) (hi : i ≤ s.length) (hs : s.length ≤ 100000) (f : Nat) (hf : s.length - i < f) :
    callT ctx 45 [.ptr 0 0 0] [rBox s i] = some (.ret (.d (.bool (gapC f (s.drop i)).2)), [(0, rBox s (i + (gapC f (s.drop i)).1))]) := by
  have hl := fun k R => gap_loop s hs k R f i hi hf
  rw [run45 (by simp)]
  simp [Tryd.f45] at hl ⊢
  rw [hl]
  simp
end Go.Am
end
section
namespace Go.Am
open Go Go.Proofs
variable [Inhabited Mx2]
set_option maxRecDepth 20000
theorem number1_run (c : UInt8) (b : Int) : callT ctx 111 [.d (.int .u8 c.toNat), .ptr 0 0 0] [.box [.d (.int .i64 b)]] = some (.ret (.d (.bool (decide ((valB c : Int) < b)))), [(0, .box [.d (.int .i64 b)])]) := by
  rw [run111 (by simp)]
  simp [Tryd.f111, drwK_end, value_run]
theorem whileA_loop (s : Tx) (hs : s.length ≤ 100000) (k : Kt) : ∀ (r n : Nat), n + r = s.length →
    denK ctx 71 (.loop (Code.at (codeOf Tryd.f71) [1, 1, 0, 0, 0])) ⟨20, gl0, [(0, true, .d (.str s)), (1, true, .fn 72 []), (5, true, .d (.int .i64 n))], []⟩ k =
      k (.exit 0) ⟨20, gl0, [(0, true, .d (.str s)), (1, true, .fn 72 []), (5, true, .d (.int .i64 (n + ((s.drop n).takeWhile innerB).length : Nat))), (16, true, .d (.bool false))], []⟩
  | 0, n, hn => by
    have hn : n = s.length := by omega
    subst hn
    rw [denK_loop]
    simp [Tryd.f71]
  | r + 1, n, hn => by
    have hlt : n < s.length := by omega
    have ih := whileA_loop s hs k r (n + 1) (by omega)
    have w1 : IntKind.i64.wrap ((n : Int) + 1) = (n : Int) + 1 := wrap_id (by unfold I64; omega)
    have hst := strAt_eq hlt
    have hin := inner_run s[n]
    have hd : s.drop n = s[n] :: s.drop (n + 1) := List.drop_eq_getElem_cons hlt
    rw [hd, List.takeWhile_cons]
    rw [denK_loop]
    cases hq : innerB s[n] with
    | true =>
      rw [hq] at hin
      have e : n + 1 + (List.takeWhile innerB (s.drop (n + 1))).length = n + ((List.takeWhile innerB (s.drop (n + 1))).length + 1) := by omega
      rw [e] at ih
      simp [Tryd.f71] at ih hin ⊢
      simp [hlt, hst, hin, w1, ih]
    | false =>
      rw [hq] at hin
      simp [Tryd.f71] at hin ⊢
      simp [hlt, hst, hin]
theorem whileA_run (s : Tx) (hs : s.length ≤ 100000) : callT ctx 71 [.d (.str s), .fn 72 []] [] = some (.ret (.d (.int .i64 (s.takeWhile innerB).length)), []) := by
  have hl := fun k => whileA_loop s hs k s.length 0 (by omega)
  rw [run71 (by simp)]
  simp [Tryd.f71] at hl ⊢
  simp [hl]
theorem whileB_loop (s : Tx) (hs : s.length ≤ 100000) (b : Nat) (k : Kt) : ∀ (r n : Nat), n + r = s.length →
    denK ctx 71 (.loop (Code.at (codeOf Tryd.f71) [1, 1, 0, 0, 0])) ⟨20, gl0, [(0, true, .d (.str s)), (1, true, .fn 111 [.ptr 0 0 0]), (5, true, .d (.int .i64 n))], [⟨0, 0, .box [.d (.int .i64 b)]⟩]⟩ k =
      k (.exit 0) ⟨20, gl0, [(0, true, .d (.str s)), (1, true, .fn 111 [.ptr 0 0 0]), (5, true, .d (.int .i64 (n + ((s.drop n).takeWhile (fun c => decide (valB c < b))).length : Nat))), (16, true, .d (.bool false))], [⟨0, 0, .box [.d (.int .i64 b)]⟩]⟩
  | 0, n, hn => by
    have hn : n = s.length := by omega
    subst hn
    rw [denK_loop]
    simp [Tryd.f71]
  | r + 1, n, hn => by
    have hlt : n < s.length := by omega
    have ih := whileB_loop s hs b k r (n + 1) (by omega)
    have w1 : IntKind.i64.wrap ((n : Int) + 1) = (n : Int) + 1 := wrap_id (by unfold I64; omega)
    have hst := strAt_eq hlt
    have hin := number1_run s[n] b
    have hd : s.drop n = s[n] :: s.drop (n + 1) := List.drop_eq_getElem_cons hlt
    rw [hd, List.takeWhile_cons]
    rw [denK_loop]
    by_cases hq : valB s[n] < b
    · have e : n + 1 + (List.takeWhile (fun c => decide (valB c < b)) (s.drop (n + 1))).length = n + ((List.takeWhile (fun c => decide (valB c < b)) (s.drop (n + 1))).length + 1) := by omega
      rw [e] at ih
      simp [Tryd.f71, hq] at ih hin ⊢
      simp [hlt, hst, hin, w1, ih]
    · simp [Tryd.f71, hq] at hin ⊢
      simp [hlt, hst, hin]
theorem whileB_run (s : Tx) (hs : s.length ≤ 100000) (b : Nat) : callT ctx 71 [.d (.str s), .fn 111 [.ptr 0 0 0]] [.box [.d (.int .i64 b)]] =
    some (.ret (.d (.int .i64 (s.takeWhile (fun c => decide (valB c < b))).length)), [(0, .box [.d (.int .i64 b)])]) := by
  have hl := fun k => whileB_loop s hs b k s.length 0 (by omega)
  rw [run71 (by simp)]
  simp [Tryd.f71] at hl ⊢
  simp [hl]
end Go.Am
end
section
namespace Go.Am
open Go Go.Proofs
variable [Inhabited Mx2]
set_option maxRecDepth 20000
theorem valB_le (c : UInt8) : valB c ≤ 99 := by
  unfold valB digitB
  split
  · rename_i h; simp at h; omega
  · split <;> omega
set_option maxHeartbeats 1000000 in
theorem num_loop (s : Tx) (hs : s.length ≤ 100000) (b : Nat) (hb : 2 ≤ b ∧ b ≤ 16) (n v : Nat) (ct : Cont) (hn : n ≤ s.length) (k : Kt) (R : Ans) : ∀ (rest : Tx) (i x : Nat), (s.drop i).take rest.length = rest → i + rest.length = n → x ≤ 9223372036854775807 →
    (match valN b x rest with
      | none => k .ret ⟨83, gl0, [(2, true, .d (.int .i64 0)), (3, true, .d (.int .i64 0)), (4, true, .d (.int .i64 2))], [⟨350, 1, .box [.d (.int .i64 b)]⟩, ⟨500, v, ct⟩]⟩
      | some y => k (.exit 2) ⟨83, gl0, [(0, true, .d (.str s)), (5, true, .ptr 350 1 0), (9, true, .d (.int .i64 n)), (10, true, .d (.int .i64 y)), (11, true, .d (.int .i64 n)), (63, true, .d (.bool false))], [⟨350, 1, .box [.d (.int .i64 b)]⟩, ⟨500, v, ct⟩]⟩) = R →
    denK ctx 75 (.loop (Code.at (codeOf Tryd.f75) [1, 1, 1, 1, 1, 1, 0, 1, 0, 0])) ⟨83, gl0, [(0, true, .d (.str s)), (5, true, .ptr 350 1 0), (9, true, .d (.int .i64 n)), (10, true, .d (.int .i64 x)), (11, true, .d (.int .i64 i))], [⟨350, 1, .box [.d (.int .i64 b)]⟩, ⟨500, v, ct⟩]⟩ k = R
  | [], i, x, ht, hi, hx, hR => by
    have hi : i = n := by simpa using hi
    subst hi
    simp [valN] at hR
    rw [denK_loop]
    simp [Tryd.f75, hR]
  | c :: rest, i, x, ht, hi, hx, hR => by
    simp only [List.length_cons] at hi ht
    have hlt : i < s.length := by omega
    have hin : i < n := by omega
    have hd : s.drop i = s[i] :: s.drop (i + 1) := List.drop_eq_getElem_cons hlt
    rw [hd, List.take_succ_cons] at ht
    have hc : s[i] = c := (List.cons.inj ht).1
    have ht2 := (List.cons.inj ht).2
    have hst := strAt_eq hlt
    have hv := value_run c
    have hvl := valB_le c
    have w1 : IntKind.i64.wrap ((i : Int) + 1) = (i : Int) + 1 := wrap_id (by unfold I64; omega)
    have w2 : IntKind.i64.wrap (9223372036854775807 - (valB c : Int)) = ((9223372036854775807 - valB c : Nat) : Int) := by rw [wrap_id (by unfold I64; omega)]; omega
    have hqb : (9223372036854775807 - valB c) / b ≤ 9223372036854775807 := Nat.le_trans (Nat.div_le_self _ _) (Nat.sub_le _ _)
    have w3 : IntKind.i64.wrap (((9223372036854775807 - valB c : Nat) : Int) / (b : Int)) = (((9223372036854775807 - valB c) / b : Nat) : Int) := by
      rw [← Int.natCast_ediv]
      generalize (9223372036854775807 - valB c) / b = z at hqb
      exact wrap_id (by unfold I64; omega)
    have hb0 : b ≠ 0 := by omega
    unfold valN at hR
    rw [denK_loop]
    by_cases ho : (9223372036854775807 - valB c) / b < x
    · have ho' : ((9223372036854775807 - valB c : Nat) : Int) / (b : Int) < x := by rw [← Int.natCast_ediv]; exact Int.ofNat_lt.2 ho
      rw [if_pos ho] at hR
      simp at hR hv
      simp [Tryd.f75]
      simp [hin, hlt, hst, hc, hv, w2, w3, hb0, ho', hR]
    · have ho' : ¬ (((9223372036854775807 - valB c : Nat) : Int) / (b : Int) < x) := by rw [← Int.natCast_ediv]; exact fun h => ho (Int.ofNat_lt.1 h)
      rw [if_neg ho] at hR
      have hm : x * b ≤ 9223372036854775807 - valB c := by
        have h1 : x ≤ (9223372036854775807 - valB c) / b := by omega
        have := Nat.mul_le_mul_right b h1
        have h2 := Nat.div_mul_le_self (9223372036854775807 - valB c) b
        omega
      have hm2 : (x : Int) * (b : Int) = ((x * b : Nat) : Int) := by simp
      have w4 : IntKind.i64.wrap ((x : Int) * b) = ((x * b : Nat) : Int) := by rw [hm2]; exact wrap_id (by unfold I64; omega)
      have w5 : IntKind.i64.wrap (((x * b : Nat) : Int) + valB c) = ((x * b + valB c : Nat) : Int) := by rw [wrap_id (by unfold I64; omega)]; simp
      have ih := num_loop s hs b hb n v ct hn k R rest (i + 1) (x * b + valB c) ht2 (by omega) (by omega) hR
      generalize hxb : x * b + valB c = xb at *
      generalize x * b = xm at *
      simp [Tryd.f75] at ih ⊢
      simp [hin, hlt, hst, hc, hv, w1, w2, w3, w4, w5, hb0, ho', ih]
theorem pre_head {a : UInt8} {p s : Tx} (h : (a :: p).isPrefixOf s = true) : s.head? = some a ∧ p.length + 1 ≤ s.length := by
  have h' := List.isPrefixOf_iff_prefix.1 h
  refine ⟨?_, by simpa using h'.length_le⟩
  obtain ⟨t, rfl⟩ := h'
  rfl
theorem head_cases (s : Tx) : (Go.Lib.hasPrefix s [50, 35] = true ∧ Go.Lib.hasPrefix s [56, 35] = false ∧ Go.Lib.hasPrefix s [49, 54, 35] = false ∧ headN s = (2, 2) ∧ 2 ≤ s.length) ∨
    (Go.Lib.hasPrefix s [50, 35] = false ∧ Go.Lib.hasPrefix s [56, 35] = true ∧ Go.Lib.hasPrefix s [49, 54, 35] = false ∧ headN s = (8, 2) ∧ 2 ≤ s.length) ∨
    (Go.Lib.hasPrefix s [50, 35] = false ∧ Go.Lib.hasPrefix s [56, 35] = false ∧ Go.Lib.hasPrefix s [49, 54, 35] = true ∧ headN s = (16, 3) ∧ 3 ≤ s.length) ∨
    (Go.Lib.hasPrefix s [50, 35] = false ∧ Go.Lib.hasPrefix s [56, 35] = false ∧ Go.Lib.hasPrefix s [49, 54, 35] = false ∧ headN s = (10, 0) ∧ 0 ≤ s.length) := by
  unfold Go.Lib.hasPrefix headN
  have x1 : ([50, 35] : Tx).isPrefixOf s = true → ([56, 35] : Tx).isPrefixOf s = true → False := fun h g => by
    have h := (pre_head h).1; have g := (pre_head g).1; rw [h] at g; revert g; decide
  have x2 : ([50, 35] : Tx).isPrefixOf s = true → ([49, 54, 35] : Tx).isPrefixOf s = true → False := fun h g => by
    have h := (pre_head h).1; have g := (pre_head g).1; rw [h] at g; revert g; decide
  have x3 : ([56, 35] : Tx).isPrefixOf s = true → ([49, 54, 35] : Tx).isPrefixOf s = true → False := fun h g => by
    have h := (pre_head h).1; have g := (pre_head g).1; rw [h] at g; revert g; decide
  have l1 : ([50, 35] : Tx).isPrefixOf s = true → 2 ≤ s.length := fun h => (pre_head h).2
  have l2 : ([56, 35] : Tx).isPrefixOf s = true → 2 ≤ s.length := fun h => (pre_head h).2
  have l3 : ([49, 54, 35] : Tx).isPrefixOf s = true → 3 ≤ s.length := fun h => (pre_head h).2
  cases h2 : ([50, 35] : Tx).isPrefixOf s <;> cases h8 : ([56, 35] : Tx).isPrefixOf s <;> cases h16 : ([49, 54, 35] : Tx).isPrefixOf s <;> simp_all
set_option maxHeartbeats 2000000 in
theorem number_run (s : Tx) (hs : s.length ≤ 100000) : callT ctx 75 [.d (.str s)] [] = some (.ret (.tup [.d (.int .i64 (numF s).1), .d (.int .i64 (numF s).2.1), .d (.int .i64 (numF s).2.2)]), []) := by
  obtain ⟨b, h, hbh, hb, hhl⟩ : ∃ b h, headN s = (b, h) ∧ (2 ≤ b ∧ b ≤ 16) ∧ h ≤ s.length := by
    rcases head_cases s with ⟨_, _, _, e, hl⟩ | ⟨_, _, _, e, hl⟩ | ⟨_, _, _, e, hl⟩ | ⟨_, _, _, e, hl⟩ <;> exact ⟨_, _, e, by omega, by omega⟩
  have hw := whileB_run (s.drop h) (by simp; omega) b
  obtain ⟨ds, hds⟩ : ∃ ds, ds = (s.drop h).takeWhile (fun c => decide (valB c < b)) := ⟨_, rfl⟩
  rw [← hds] at hw
  have hdl : ds.length ≤ s.length - h := by
    have := (List.takeWhile_prefix (fun c => decide (valB c < b)) (l := s.drop h)).length_le
    rw [← hds] at this; simpa using this
  have hdt : (s.drop h).take ds.length = ds := by
    rw [hds]; exact List.prefix_iff_eq_take.1 (List.takeWhile_prefix _) |>.symm
  obtain ⟨n, hn⟩ : ∃ n, n = h + ds.length := ⟨_, rfl⟩
  have hns : n ≤ s.length := by omega
  have hloop := fun v ct k R => num_loop s hs b hb n v ct hns k R ds h 0 hdt hn.symm (by omega)
  have wn : IntKind.i64.wrap ((h : Int) + ds.length) = (n : Int) := by rw [wrap_id (by unfold I64; omega)]; omega
  have hn0 : ¬ ((n : Int) < 0) := by omega
  have hn1 : (0 : Int) ≤ n := by omega
  obtain ⟨F, hF⟩ : ∃ F : Nat × Nat × Nat, F = numG s b h ds := ⟨_, rfl⟩
  have hFF : numF s = F := by unfold numF; rw [hF, hbh]; simp only [← hds]
  rw [hFF]
  have c1 : IntKind.i64.wrap 1 = 1 := wrap_id (by unfold I64; omega)
  have c2 : IntKind.i64.wrap 2 = 2 := wrap_id (by unfold I64; omega)
  have c3 : IntKind.i64.wrap 3 = 3 := wrap_id (by unfold I64; omega)
  have r3 : List.range' 0 3 = [0, 1, 2] := rfl
  have key : ∀ (v : Nat) (ct : Cont) (k : Kt), n ≠ h → (n < s.length → innerB (strAt s n) = false ∧ strAt s n ≠ 35) →
      (∀ x, k (.exit 2) ⟨83, gl0, [(0, true, .d (.str s)), (5, true, .ptr 350 1 0), (9, true, .d (.int .i64 n)), (10, true, .d (.int .i64 x)), (11, true, .d (.int .i64 n)), (63, true, .d (.bool false))], [⟨350, 1, .box [.d (.int .i64 b)]⟩, ⟨500, v, ct⟩]⟩ = some (.ret (.tup [.d (.int .i64 n), .d (.int .i64 x), .d (.int .i64 0)]), [])) →
      (k .ret ⟨83, gl0, [(2, true, .d (.int .i64 0)), (3, true, .d (.int .i64 0)), (4, true, .d (.int .i64 2))], [⟨350, 1, .box [.d (.int .i64 b)]⟩, ⟨500, v, ct⟩]⟩ = some (.ret (.tup [.d (.int .i64 0), .d (.int .i64 0), .d (.int .i64 2)]), [])) →
      denK ctx 75 (.loop (Code.at (codeOf Tryd.f75) [1, 1, 1, 1, 1, 1, 0, 1, 0, 0])) ⟨83, gl0, [(0, true, .d (.str s)), (5, true, .ptr 350 1 0), (9, true, .d (.int .i64 n)), (10, true, .d (.int .i64 (0 : Nat))), (11, true, .d (.int .i64 h))], [⟨350, 1, .box [.d (.int .i64 b)]⟩, ⟨500, v, ct⟩]⟩ k =
        some (.ret (.tup [.d (.int .i64 F.1), .d (.int .i64 F.2.1), .d (.int .i64 F.2.2)]), []) := by
    intro v ct k h1 h2 h3 h4
    have hne : ¬ (ds = [] ∨ ∃ c, s[h + ds.length]? = some c ∧ (innerB c = true ∨ c = 35)) := by
      rintro (hc | ⟨c, hc, hc2⟩)
      · exact h1 (by rw [hn, hc]; rfl)
      · rw [← hn] at hc
        obtain ⟨hlt, hcc⟩ := List.getElem?_eq_some_iff.1 hc
        have h5 := h2 hlt
        rw [strAt_eq hlt, hcc] at h5
        rcases hc2 with hc2 | hc2
        · rw [h5.1] at hc2; cases hc2
        · exact h5.2 hc2
    unfold numG at hF
    rw [if_neg hne, ← hn] at hF
    refine hloop v ct k _ ?_
    cases hv : valN b 0 ds with
    | none => rw [hv] at hF; rw [hF]; exact h4
    | some x => rw [hv] at hF; rw [hF]; exact h3 x
  have err : ∀ c, n < s.length → strAt s n = c → (innerB c = true ∨ c = 35) → F = (0, 0, 5) := by
    intro c hlt hc hc2
    unfold numG at hF
    rw [hF, if_pos (.inr ⟨c, by rw [← hn, List.getElem?_eq_getElem hlt, ← strAt_eq hlt, hc], hc2⟩)]
  have err2 : n = h → F = (0, 0, 5) := by
    intro he
    unfold numG at hF
    rw [hF, if_pos (.inl (List.length_eq_zero_iff.1 (by omega)))]
  have hinr := inner_run (strAt s n)
  have h35 := u8_eq (strAt s n) 35 (by omega)
  simp at h35
  clear hF hloop
  rw [run75 (by simp)]
  rcases head_cases s with ⟨p1, p2, p3, e, hl⟩ | ⟨p1, p2, p3, e, hl⟩ | ⟨p1, p2, p3, e, hl⟩ | ⟨p1, p2, p3, e, hl⟩
  all_goals
    obtain ⟨h', hh'⟩ : ∃ h' : Nat, h' = h := ⟨_, rfl⟩
    rw [hbh] at e
    cases e
    have hlI := Int.ofNat_le.2 hl
    simp [Tryd.f75] at hw wn hlI key err2
    simp [Tryd.f75, r3]
    iterate 4 (rw [denK_loop]; simp [p1, p2, p3, c1, c2, c3, drwK_end])
    simp [hl, hlI, hw, wn]
    by_cases hnh : n = h'
    · have hFe := err2 (hnh.trans hh')
      rw [hh'] at hnh
      simp [hnh, hFe]
    · have hnI : ¬ ((n : Int) = (h' : Int)) := by omega
      rw [hh'] at hnI hnh
      simp at hnI
      by_cases hlt : n < s.length
      · cases hin : innerB (strAt s n)
        · rw [hin] at hinr
          by_cases h35' : strAt s n = 35
          · have hFe := err _ hlt h35' (.inr rfl)
            rw [h35'] at hinr
            simp at hinr
            simp [hnI, hlt, hinr, h35', hFe]
          · have h35n : ¬ ((strAt s n).toNat : Int) = 35 := fun h => h35' (h35.1 h)
            simp [hnI, hlt, hinr, h35n]
            exact key _ _ _ hnh (fun _ => ⟨hin, h35'⟩) (fun x => by simp) (by simp)
        · have hFe := err _ hlt rfl (.inl hin)
          rw [hin] at hinr
          simp [hnI, hlt, hinr, hFe]
      · simp [hnI, hlt]
        exact key _ _ _ hnh (fun h => absurd h hlt) (fun x => by simp) (by simp)
end Go.Am
end
section
namespace Go.Am
open Go Go.Proofs
variable [Inhabited Mx2]
set_option maxRecDepth 20000
def idxR (s : Tx) : Nat → List Tx → Int
  | _, [] => -1
  | i, x :: r => if s = x then (i : Int) else idxR s (i + 1) r
theorem idxR_mem (s : Tx) : ∀ (l : List Tx) (i : Nat), decide (0 ≤ idxR s i l) = decide (s ∈ l)
  | [], i => by simp [idxR]
  | x :: r, i => by
    have := idxR_mem s r (i + 1)
    unfold idxR
    by_cases h : s = x
    · simp [h]
    · simp only [if_neg h, this]; simp [h]
theorem strIdx_loop (l : List Tx) (hl : l.length ≤ 1000) (s : Tx) (k : Kt) (R : Ans) : ∀ (rest : List Tx) (i : Nat), l.drop i = rest → i + rest.length = l.length →
    ((if 0 ≤ idxR s i rest then k .ret ⟨19, gl0, [(4, true, .d (.int .i64 (idxR s i rest)))], []⟩ else k (.exit 0) ⟨19, gl0, [(0, true, .d (.list (l.map .str))), (1, true, .d (.str s)), (7, true, .d (.int .i64 l.length)), (8, true, .d (.int .i64 l.length)), (9, true, .d (.bool false))], []⟩) = R) →
    denK ctx 139 (.loop (Code.at (codeOf Tryd.f139) [1, 0, 1, 0, 0])) ⟨19, gl0, [(0, true, .d (.list (l.map .str))), (1, true, .d (.str s)), (7, true, .d (.int .i64 l.length)), (8, true, .d (.int .i64 i))], []⟩ k = R
  | [], i, hd, hi, h => by
    have hi : i = l.length := by simpa using hi
    subst hi
    rw [denK_loop]
    simp [idxR] at h
    simp [Tryd.f139, h]
  | x :: rest, i, hd, hi, h => by
    have hlt : i < l.length := by simp at hi; omega
    have hx : l[i] = x := by
      have := congrArg (·[0]?) hd
      simp at this
      simpa [hlt] using this
    have w1 : IntKind.i64.wrap ((i : Int) + 1) = (i : Int) + 1 := wrap_id (by unfold I64; omega)
    unfold idxR at h
    rw [denK_loop]
    by_cases hs : s = x
    · simp [hs] at h
      simp [Tryd.f139]
      simp [hlt, hx, hs, h]
    · rw [if_neg hs] at h
      have ih := strIdx_loop l hl s k R rest (i + 1) (by rw [← List.tail_drop, hd]; rfl) (by simp at hi; omega) h
      simp [Tryd.f139] at ih ⊢
      simp [hlt, hx, hs, w1, ih]
theorem idxR_neg (s : Tx) : ∀ (l : List Tx) (i : Nat), ¬ 0 ≤ idxR s i l → idxR s i l = -1
  | [], i, _ => rfl
  | x :: r, i, h => by
    unfold idxR at h ⊢
    split
    · rename_i hs; rw [if_pos hs] at h; omega
    · rename_i hs; rw [if_neg hs] at h; exact idxR_neg s r (i + 1) h
theorem strIdx_run (l : List Tx) (hl : l.length ≤ 1000) (s : Tx) : callT ctx 139 [.d (.list (l.map .str)), .d (.str s)] [] = some (.ret (.d (.int .i64 (idxR s 0 l))), []) := by
  have hlo := fun k R h => strIdx_loop l hl s k R l 0 rfl (by simp) h
  rw [run139 (by simp)]
  simp [Tryd.f139] at hlo ⊢
  rw [hlo]
  split
  · simp
  · rename_i h; simp [idxR_neg s l 0 h]
theorem contains_run (l : List Tx) (hl : l.length ≤ 1000) (s : Tx) : callT ctx 109 [.d (.list (l.map .str)), .d (.str s)] [] = some (.ret (.d (.bool (decide (s ∈ l)))), []) := by
  have h := strIdx_run l hl s
  rw [run109 (by simp)]
  simp [Tryd.f109, h, ← idxR_mem s l 0]
theorem fields_run : callT ctx 110 [.d (.str wordsT)] [] = some (.ret (.d (.list (wordsL.map .str))), []) := callT_of 300 (by kernel_rfl)
theorem word_run (s : Tx) : callT ctx 73 [.d (.str s)] [] = some (.ret (.d (.bool (wordB s))), []) := by
  have hf := fields_run
  have hc := contains_run wordsL (by decide) s
  unfold wordsT at hf
  generalize wordsL.map D.str = W at hf hc
  rw [run73 (by simp)]
  simp [Tryd.f73, hf, hc, wordB]
theorem indexByte_mem (c : UInt8) : ∀ (l : Tx), 0 ≤ Go.Lib.indexByte l c ↔ c ∈ l
  | [] => by simp [Go.Lib.indexByte]
  | b :: r => by
    have ih := indexByte_mem c r
    have hg := Go.Lib.indexByte_ge r c
    unfold Go.Lib.indexByte
    by_cases h : b = c
    · simp [h]
    · have h' : ¬ c = b := fun e => h e.symm
      simp only [beq_iff_eq, h, if_false, List.mem_cons, h', false_or, ← ih]
      split <;> omega
theorem signF_eq (c : UInt8) (r : Tx) : signF (c :: r) = if Go.Lib.hasPrefix (c :: r) [58, 61] = true then 2 else if Go.Lib.hasPrefix (c :: r) [60, 61] = true then 2 else if Go.Lib.hasPrefix (c :: r) [62, 61] = true then 2 else if Go.Lib.hasPrefix (c :: r) [60, 62] = true then 2 else if Go.Lib.hasPrefix (c :: r) [46, 46] = true then 2 else if 0 ≤ Go.Lib.indexByte signs1 c then 1 else 0 := by
  have hm := indexByte_mem c signs1
  unfold signF signs2 Go.Lib.hasPrefix
  simp only [List.any_cons, List.any_nil, Bool.or_false, Bool.or_eq_true, hm]
  grind
theorem sign_run (c : UInt8) (r : Tx) : callT ctx 76 [.d (.str (c :: r))] [] = some (.ret (.d (.int .i64 (signF (c :: r)))), []) := by
  have r5 : List.range' 0 5 = [0, 1, 2, 3, 4] := rfl
  have c1 : IntKind.i64.wrap 1 = 1 := wrap_id (by unfold I64; omega)
  have c2 : IntKind.i64.wrap 2 = 2 := wrap_id (by unfold I64; omega)
  have c3 : IntKind.i64.wrap 3 = 3 := wrap_id (by unfold I64; omega)
  have c4 : IntKind.i64.wrap 4 = 4 := wrap_id (by unfold I64; omega)
  have c5 : IntKind.i64.wrap 5 = 5 := wrap_id (by unfold I64; omega)
  have hb := indexByte_run signs1 c
  rw [run76 (by simp)]
  simp [Tryd.f76, r5]
  iterate 6 (try (rw [denK_loop]; simp [c1, c2, c3, c4, c5, drwK_end]))
  have hst : strAt (c :: r) 0 = c := rfl
  rw [signF_eq]
  unfold signs1 at hb ⊢
  simp [hst, hb]
  grind
end Go.Am
end
section
namespace Go.Am
open Go Go.Proofs
variable [Inhabited Mx2]
set_option maxRecDepth 20000
theorem numF_le (s : Tx) : (numF s).1 ≤ s.length := by
  unfold numF numG
  rcases head_cases s with ⟨_, _, _, e, hl⟩ | ⟨_, _, _, e, hl⟩ | ⟨_, _, _, e, hl⟩ | ⟨_, _, _, e, hl⟩
  all_goals
    rw [e]
    simp only
    split
    · simp
    · split
      · simp
      · rename_i x _
        simp only
        have := (List.takeWhile_prefix (fun c => decide (valB c < (headN s).1)) (l := s.drop (headN s).2)).length_le
        rw [e] at this
        simp only [List.length_drop] at this
        omega
theorem signF_le (c : UInt8) (r : Tx) : signF (c :: r) ≤ (c :: r).length := by
  unfold signF
  split
  · rename_i h
    simp only [signs2, List.any_cons, List.any_nil, Bool.or_false, Bool.or_eq_true] at h
    rcases h with h | h | h | h | h <;> exact (pre_head h).2
  · simp only
    split <;> simp
set_option maxHeartbeats 1000000 in
theorem next_run (c : UInt8) (r : Tx) (hs : (c :: r).length ≤ 100000) (line col : Int) : callT ctx 47 [.d (.str (c :: r)), .d (sgnD ⟨0, [], 0, line, col⟩)] [] =
    some (.ret (.tup [.d (sgnD ⟨(nextF (c :: r)).2.1, (c :: r).take (nextF (c :: r)).2.2.1, (nextF (c :: r)).2.2.2, line, col⟩), .d (.int .i64 (nextF (c :: r)).1)]), []) := by
  have hst : strAt (c :: r) 0 = c := rfl
  have hl := letter_run c
  have hd := digit_run c
  have hw := whileA_run (c :: r) hs
  have hnr := number_run (c :: r) hs
  have hsg := sign_run c r
  have hwle : ((c :: r).takeWhile innerB).length ≤ (c :: r).length := (List.takeWhile_prefix _).length_le
  have hnle := numF_le (c :: r)
  have hsle := signF_le c r
  have hwd := word_run ((c :: r).take ((c :: r).takeWhile innerB).length)
  unfold nextF
  generalize hn1 : ((c :: r).takeWhile innerB).length = n1 at *
  generalize hn2 : signF (c :: r) = n2 at *
  generalize hF : numF (c :: r) = F at *
  obtain ⟨n, x, e⟩ := F
  simp only at hnr hnle
  rw [run47 (by simp)]
  simp only [List.length_cons] at hwle hnle hsle
  cases h1 : letterB c with
  | true =>
    rw [h1] at hl
    cases h2 : wordB ((c :: r).take n1) with
    | true =>
      rw [h2] at hwd
      simp [Tryd.f47, drwK_end, hst, hl, hw, hwle, hwd, h1, h2]
    | false =>
      rw [h2] at hwd
      by_cases h3 : 16 < n1
      · simp [Tryd.f47, drwK_end, hst, hl, hw, hwle, hwd, h1, h2, h3]
        omega
      · simp [Tryd.f47, drwK_end, hst, hl, hw, hwle, hwd, h1, h2, h3]
        omega
  | false =>
    rw [h1] at hl
    cases h2 : digitB c with
    | true =>
      rw [h2] at hd
      by_cases h3 : e = 0
      · simp [Tryd.f47, drwK_end, hst, hl, hd, hnr, hnle, h1, h2, h3]
      · simp [Tryd.f47, drwK_end, hst, hl, hd, hnr, hnle, h1, h2, h3]
    | false =>
      rw [h2] at hd
      by_cases h3 : n2 = 0
      · simp [Tryd.f47, drwK_end, hst, hl, hd, hsg, hsle, h1, h2, h3]
      · simp [Tryd.f47, drwK_end, hst, hl, hd, hsg, hsle, h1, h2, h3]
end Go.Am
end
section
namespace Go.Am
open Go Go.Proofs
variable [Inhabited Mx2]
set_option maxRecDepth 20000
theorem numF_pos {s : Tx} (h : (numF s).2.2 = 0) : 1 ≤ (numF s).1 := by
  unfold numF numG at h ⊢
  split
  · rename_i hc; rw [if_pos hc] at h; simp at h
  · rename_i hc
    rw [if_neg hc] at h
    split
    · rename_i hv; rw [hv] at h; simp at h
    · simp only
      simp only [not_or] at hc
      have := List.length_pos_iff.2 hc.1
      omega
theorem nextF_ok {c : UInt8} {r : Tx} (h : (nextF (c :: r)).1 = 0) : 1 ≤ (nextF (c :: r)).2.2.1 ∧ (nextF (c :: r)).2.2.1 ≤ (c :: r).length := by
  have hwle : ((c :: r).takeWhile innerB).length ≤ (c :: r).length := (List.takeWhile_prefix _).length_le
  have hnle := numF_le (c :: r)
  have hsle := signF_le c r
  have hlp : letterB c = true → 1 ≤ ((c :: r).takeWhile innerB).length := by
    intro hl
    have : innerB c = true := by unfold innerB; rw [hl]; rfl
    simp [this]
  have hnp := numF_pos (s := c :: r)
  unfold nextF at h ⊢
  simp only at h ⊢
  generalize ((c :: r).takeWhile innerB).length = n1 at *
  generalize signF (c :: r) = n2 at *
  generalize numF (c :: r) = F at *
  by_cases h1 : letterB c = true
  · simp only [if_pos h1] at h ⊢
    have := hlp h1
    split at h
    · rename_i hw; rw [if_pos hw]; exact ⟨this, hwle⟩
    · rename_i hw
      rw [if_neg hw]
      split at h
      · simp at h
      · rename_i h16; rw [if_neg h16]; exact ⟨this, hwle⟩
  · simp only [if_neg h1] at h ⊢
    by_cases h2 : digitB c = true
    · simp only [if_pos h2] at h ⊢
      split at h
      · rename_i he; rw [if_pos he]; exact ⟨hnp he, hnle⟩
      · rename_i he; exact absurd h he
    · simp only [if_neg h2] at h ⊢
      split at h
      · simp at h
      · rename_i he; rw [if_neg he]; exact ⟨by simp only; omega, hsle⟩
set_option maxHeartbeats 1000000 in
theorem lex_loop (s : Tx) (hs : s.length ≤ 16384) : ∀ (f i : Nat) (out : List Sgn) (v4 v5 v55 : Nat) (c5 c55 : Cont), i ≤ s.length → s.length - i < f → out.length ≤ i →
    denK ctx 23 (.loop (Code.at (codeOf Tryd.f23) [1, 1, 1, 1, 0, 0])) ⟨62, gl0, [(4, true, .ptr 300 1 0), (5, true, .ptr 950 1 0), (6, true, .vec 400 v4 0 out.length)],
      [⟨200, 1, .vec 5 []⟩, ⟨300, 1, .box [.d (.int .i64 0), .d (.str []), .d (.int .i64 0), .d (.int .i64 0), .d (.int .i64 0)]⟩, ⟨400, v4, .vec 5 (out.map sgnD)⟩, ⟨500, v5, c5⟩, ⟨550, v55, c55⟩, ⟨950, 1, rBox s i⟩]⟩
      (blkK 0 (finK Tryd.prog fp23 0 [.tmp 2, .tmp 3, .cell 4 29])) = some (.ret (.tup [.d (.list ((lexF s f i out).1.map sgnD)), .d (.int .i64 (lexF s f i out).2.1), .d (sgnD (lexF s f i out).2.2)]), [])
  | 0, i, out, v4, v5, v55, c5, c55, hi, hf, ho => by omega
  | f + 1, i, out, v4, v5, v55, c5, c55, hi, hf, ho => by
    have hg := gap_run s i hi (by omega) (s.length + 1) (by omega)
    have hgl := gapC_le (s.length + 1) (s.drop i)
    unfold lexF
    generalize gapC (s.length + 1) (s.drop i) = g at *
    obtain ⟨n, ok⟩ := g
    simp only [List.length_drop] at hgl
    simp only at hg ⊢
    obtain ⟨j, hj⟩ : ∃ j, j = i + n := ⟨_, rfl⟩
    have hjl : j ≤ s.length := by omega
    have hcast : ((i + n : Nat) : Int) = (i : Int) + n := by omega
    rw [← hj] at hg ⊢
    have hr := rest_run s j hjl
    generalize hp : plOf (s.take j) = p at *
    obtain ⟨l, c⟩ := p
    rw [denK_loop]
    cases ok with
    | false =>
      simp [hp] at hg
      simp [Tryd.f23, drwK_end, hg, here]
    | true =>
      simp only [Bool.true_eq_false, if_false]
      cases ht : s.drop j with
      | nil =>
        rw [ht] at hr
        simp [hp] at hg hr
        have g1 : (out.length + 1) * 48 ≤ 140737488355328 ∧ out.length ≤ 4611686018427387903 := by omega
        simp [Tryd.f23, drwK_end, hg, hr, here, g1]
      | cons a r =>
        rw [ht] at hr
        have hlen : j + (r.length + 1) = s.length := by have := congrArg List.length ht; simp at this; omega
        have hn := next_run a r (by simp; omega) l c
        have hok := nextF_ok (c := a) (r := r)
        have hne : ¬ (a :: r = []) := by simp
        simp only [if_neg hne]
        generalize nextF (a :: r) = F at *
        obtain ⟨e, kd, m, x⟩ := F
        simp only at hn hok ⊢
        simp [hp] at hg hr
        have g1 : (out.length + 1) * 48 ≤ 140737488355328 ∧ out.length ≤ 4611686018427387903 := by omega
        by_cases he : e = 0
        · subst he
          obtain ⟨hm1, hm2⟩ := hok rfl
          simp only [List.length_cons] at hm2
          have hsk := skip_run s j m (by omega) (by omega)
          have ih := fun v4 v5 v55 c5 c55 => lex_loop s hs f (j + m) (out ++ [⟨kd, (a :: r).take m, x, l, c⟩]) v4 v5 v55 c5 c55 (by omega) (by omega) (by simp; omega)
          have hmin : min m (r.length + 1) = m := by omega
          have hminI : ((min m (r.length + 1) : Nat) : Int) = m := by rw [hmin]
          simp at hn
          simp [Tryd.f23, hp] at ih hsk ⊢
          simp [drwK_end, hg, hr, hn, g1, hmin, hsk, ih]
        · simp at hn
          have heI : ¬ ((e : Int) = 0) := by omega
          simp [Tryd.f23, drwK_end, hg, hr, hn, he, heI, here]
theorem lex_run (s : Tx) : callT ctx 23 [.d (.str s)] [] = some (.ret (.tup [.d (.list ((lexP s).1.map sgnD)), .d (.int .i64 (lexP s).2.1), .d (sgnD (lexP s).2.2)]), []) := by
  rw [run23 (by simp)]
  unfold lexP
  by_cases h : 16384 < s.length
  · have hI : (16384 : Int) < s.length := by omega
    simp [Tryd.f23, drwK_end, h, hI]
  · have hI : ¬ ((16384 : Int) < s.length) := by omega
    have hl := fun v4 v5 v55 c5 c55 => lex_loop s (by omega) (s.length + 1) 0 [] v4 v5 v55 c5 c55 (by omega) (by omega) (by simp)
    rw [if_neg h]
    generalize lexF s (s.length + 1) 0 [] = L at *
    have hp : plOf [] = (1, 1) := rfl
    simp [Tryd.f23, hp] at hl
    simp [Tryd.f23, drwK_end, h, hI]
    exact hl _ _ _ _ _
end Go.Am
end
section
namespace Go.Am
open Go Go.Proofs
variable [Inhabited Mx2]
def ltP (p q : Int × Int) : Prop := p.1 < q.1 ∨ (p.1 = q.1 ∧ p.2 < q.2)
theorem ltP_step (p : Int × Int) (c : UInt8) : ltP p (plStep p c) := by
  unfold ltP plStep
  split
  · left; simp only; omega
  · right; simp only; exact ⟨trivial, by omega⟩
theorem ltP_trans {p q r : Int × Int} (h : ltP p q) (k : ltP q r) : ltP p r := by
  unfold ltP at *; omega
theorem plOf_lt {s : Tx} : ∀ (d i : Nat), i + d + 1 ≤ s.length → ltP (plOf (s.take i)) (plOf (s.take (i + d + 1)))
  | 0, i, h => by
    rw [plOf_succ (show i + 0 < s.length by omega)]
    exact ltP_step _ _
  | d + 1, i, h => by
    have := plOf_lt (s := s) d i (by omega)
    rw [plOf_succ (show i + (d + 1) < s.length by omega)]
    exact ltP_trans this (ltP_step _ _)
theorem plOf_ne {s : Tx} {i j : Nat} (h : i < j) (hj : j ≤ s.length) : ¬ ((plOf (s.take j)).1 = (plOf (s.take i)).1 ∧ (plOf (s.take j)).2 = (plOf (s.take i)).2) := by
  have := plOf_lt (s := s) (j - i - 1) i (by omega)
  rw [show i + (j - i - 1) + 1 = j by omega] at this
  unfold ltP at this
  omega
/-- Signs that stand one behind the other, from a place on, the end behind them. -/
inductive Laid (s : Tx) : Nat → List Sgn → Prop
  | fin (i : Nat) (h : i ≤ s.length) : Laid s i [here (plOf (s.take s.length))]
  | sign (i j m : Nat) (k n : Int) (r : List Sgn) (h1 : i ≤ j) (h2 : j + m ≤ s.length) (h3 : 1 ≤ m) (h : Laid s (j + m) r) :
      Laid s i (⟨k, (s.drop j).take m, n, (plOf (s.take j)).1, (plOf (s.take j)).2⟩ :: r)
theorem Laid.weaken {s : Tx} {i i' : Nat} {r : List Sgn} (h : Laid s i r) (hi : i' ≤ i) : Laid s i' r := by
  cases h with
  | fin _ h => exact .fin i' (by omega)
  | sign _ j m k n r h1 h2 h3 h => exact .sign i' j m k n r (by omega) h2 h3 h
theorem Laid.step {s : Tx} {i : Nat} {t : Sgn} {r : List Sgn} (h : Laid s i (t :: r)) (hi : i ≤ s.length) :
    (¬ (t.line = (plOf (s.take i)).1 ∧ t.col = (plOf (s.take i)).2) ∧ i < s.length ∧ Laid s (i + 1) (t :: r)) ∨
    ((t.line = (plOf (s.take i)).1 ∧ t.col = (plOf (s.take i)).2) ∧ t.text.length ≤ s.length - i ∧ (s.drop i).take t.text.length = t.text ∧ ((i < s.length ∧ Laid s (i + 1) r) ∨ (i = s.length ∧ r = []))) := by
  cases h with
  | fin _ h =>
    by_cases he : i = s.length
    · subst he
      right
      simp [here]
    · left
      have hlt : i < s.length := by omega
      exact ⟨plOf_ne hlt (Nat.le_refl _), hlt, .fin _ (by omega)⟩
  | sign _ j m k n r h1 h2 h3 h =>
    by_cases he : i = j
    · subst he
      right
      have hl : ((s.drop i).take m).length = m := by simp; omega
      refine ⟨⟨rfl, rfl⟩, ?_, ?_, .inl ⟨by omega, h.weaken (by omega)⟩⟩
      · simp only [hl]; omega
      · simp only [hl]
    · left
      have hlt : i < j := by omega
      exact ⟨plOf_ne hlt (by omega), by omega, .sign _ j m k n r (by omega) h2 h3 h⟩
theorem lexF_laid (s : Tx) : ∀ (f i : Nat) (out : List Sgn), i ≤ s.length → (lexF s f i out).2.1 = 0 → ∃ r, (lexF s f i out).1 = out ++ r ∧ Laid s i r ∧ (lexF s f i out).2.2 = ⟨0, [], 0, 0, 0⟩
  | 0, i, out, hi, h => by simp [lexF] at h
  | f + 1, i, out, hi, h => by
    have hgl := gapC_le (s.length + 1) (s.drop i)
    unfold lexF at h ⊢
    generalize gapC (s.length + 1) (s.drop i) = g at *
    obtain ⟨n, ok⟩ := g
    simp only [List.length_drop] at hgl
    simp only at h ⊢
    cases ok with
    | false => simp at h
    | true =>
      simp only [Bool.true_eq_false, if_false] at h ⊢
      by_cases ht : s.drop (i + n) = []
      · rw [if_pos ht]
        have hj : i + n = s.length := by
          have := congrArg List.length ht
          simp at this; omega
        exact ⟨_, rfl, by rw [hj]; exact .fin i hi, rfl⟩
      · rw [if_neg ht] at h ⊢
        obtain ⟨a, t, hat⟩ : ∃ a t, s.drop (i + n) = a :: t := by
          cases hc : s.drop (i + n) with
          | nil => exact absurd hc ht
          | cons a t => exact ⟨a, t, rfl⟩
        have hlen : (i + n) + (t.length + 1) = s.length := by have := congrArg List.length hat; simp at this; omega
        have hok := nextF_ok (c := a) (r := t)
        rw [hat] at h ⊢
        by_cases he : (nextF (a :: t)).1 = 0
        · have hne : ¬ ((nextF (a :: t)).1 ≠ 0) := fun hh => hh he
          rw [if_neg hne] at h ⊢
          obtain ⟨hm1, hm2⟩ := hok he
          simp only [List.length_cons] at hm2
          obtain ⟨r, h1, h2, h3⟩ := lexF_laid s f (i + n + (nextF (a :: t)).2.2.1) _ (by omega) h
          refine ⟨_ :: r, by rw [h1, List.append_assoc]; rfl, ?_, h3⟩
          have := Laid.sign (s := s) i (i + n) (nextF (a :: t)).2.2.1 (nextF (a :: t)).2.1 (nextF (a :: t)).2.2.2 r (by omega) (by omega) hm1 h2
          rw [hat] at this
          exact this
        · rw [if_pos he] at h
          exact absurd h he
theorem lexP_laid {s : Tx} (h : (lexP s).2.1 = 0) : Laid s 0 (lexP s).1 ∧ (lexP s).2.2 = ⟨0, [], 0, 0, 0⟩ := by
  unfold lexP at h ⊢
  split at h
  · simp at h
  · rename_i hl
    rw [if_neg hl]
    obtain ⟨r, h1, h2, h3⟩ := lexF_laid s _ 0 [] (by omega) h
    rw [h1]
    exact ⟨h2, h3⟩
theorem lexF_err (s : Tx) : ∀ (f i : Nat) (out : List Sgn), s.length - i < f → i ≤ s.length → (lexF s f i out).2.1 ≠ 0 → (lexF s f i out).1 = [] ∧ ∃ j, (lexF s f i out).2.2 = here (plOf (s.take j))
  | 0, i, out, hf, _, h => by omega
  | f + 1, i, out, hf, hi, h => by
    have hgl := gapC_le (s.length + 1) (s.drop i)
    unfold lexF at h ⊢
    generalize gapC (s.length + 1) (s.drop i) = g at *
    obtain ⟨n, ok⟩ := g
    simp only [List.length_drop] at hgl
    simp only at h ⊢
    cases ok with
    | false => exact ⟨rfl, _, rfl⟩
    | true =>
      simp only [Bool.true_eq_false, if_false] at h ⊢
      by_cases ht : s.drop (i + n) = []
      · rw [if_pos ht] at h; simp at h
      · rw [if_neg ht] at h ⊢
        obtain ⟨a, t, hat⟩ : ∃ a t, s.drop (i + n) = a :: t := by
          cases hc : s.drop (i + n) with
          | nil => exact absurd hc ht
          | cons a t => exact ⟨a, t, rfl⟩
        have hlen : (i + n) + (t.length + 1) = s.length := by have := congrArg List.length hat; simp at this; omega
        have hok := nextF_ok (c := a) (r := t)
        rw [hat] at h ⊢
        by_cases he : (nextF (a :: t)).1 = 0
        · have hne : ¬ ((nextF (a :: t)).1 ≠ 0) := fun hh => hh he
          rw [if_neg hne] at h ⊢
          obtain ⟨hm1, hm2⟩ := hok he
          simp only [List.length_cons] at hm2
          exact lexF_err s f _ _ (by omega) (by omega) h
        · rw [if_pos he]
          exact ⟨rfl, _, rfl⟩
end Go.Am
end
section
namespace Go.Am
open Go Go.Proofs
variable [Inhabited Mx2]
set_option maxRecDepth 20000
theorem rec_bad (e : Er) (a : List AV) (b : AV) (c : List AV) (ha : a.length = 3) (hc : c.length = 5) : recT ctx 24 [.ptr 0 0 0, .ptr 1 0 0, .ptr 2 0 0, .ifc 67 (fD e)] [.box a, .box [b], .box c] = some (.ret (.tup []), [(0, .box [.d (.str []), .lit (.slice none 0 0), .lit (.slice none 0 0)]), (0, .box [.d (.int .i64 e.e)]), (0, .box [.d (.int .i64 0), .d (.str []), .d (.int .i64 0), .d (.int .i64 e.line), .d (.int .i64 e.col)])]) := by
  obtain ⟨a1, a2, a3, rfl⟩ : ∃ a1 a2 a3, a = [a1, a2, a3] := by
    match a, ha with
    | [a1, a2, a3], _ => exact ⟨a1, a2, a3, rfl⟩
  obtain ⟨c1, c2, c3, c4, c5, rfl⟩ : ∃ c1 c2 c3 c4 c5, c = [c1, c2, c3, c4, c5] := by
    match c, hc with
    | [c1, c2, c3, c4, c5], _ => exact ⟨c1, c2, c3, c4, c5, rfl⟩
  rw [run24 (by rfl) (by rfl) (by simp)]
  simp [Tryd.f24]
  erw [denRK_reg rfl]
  simp [fD, drwK_end]
theorem rec_ok (x y b1 c1 c2 c3 c4 c5 : D) (rows : List D) : recT ctx 24 [.ptr 0 0 0, .ptr 1 0 0, .ptr 2 0 0, .lit .nilIface] [.box [.d x, .vec 3 0 0 rows.length, .d y], .box [.d b1], .box [.d c1, .d c2, .d c3, .d c4, .d c5], .vec 8 rows] =
    some (.ret (.tup []), [(0, .box [.d x, .vec 3 1 0 rows.length, .d y]), (0, .box [.d b1]), (0, .box [.d c1, .d c2, .d c3, .d c4, .d c5]), (1, .vec 8 rows)]) := by
  rw [run24 (by rfl) (by rfl) (by simp)]
  simp [Tryd.f24]
  erw [denRK_reg rfl]
  simp
theorem program_vars {L : List Sgn} {kn : Tx → Int} {f : Nat} {s s' : PS} {p : Pg} (h : programS L kn f s = .ok p s') : p.vars = s'.vars := by
  unfold programS at h
  revert h
  have hb : ∀ {α β : Type} {r : PM α} {k : α → PS → PM β} {b : β} {s' : PS}, r.bind k = .ok b s' → ∃ a s, r = .ok a s ∧ k a s = .ok b s' := by
    intro α β r k b s' h
    cases r with
    | ok a s => exact ⟨a, s, rfl, h⟩
    | bad e s => cases h
    | out => cases h
  intro h
  obtain ⟨_, _, _, h⟩ := hb h
  obtain ⟨_, _, _, h⟩ := hb h
  obtain ⟨_, _, _, h⟩ := hb h
  obtain ⟨_, _, _, h⟩ := hb h
  obtain ⟨_, s5, h5, h⟩ := hb h
  obtain ⟨_, s6, h6, h⟩ := hb h
  cases h
  rfl
def pgD (p : Pg) : D := .agg [.str p.name, .list (p.vars.map vrD), .list (p.body.map smD)]
theorem nextF_kind (c : UInt8) (r : Tx) (h : (nextF (c :: r)).1 = 0) : 1 ≤ (nextF (c :: r)).2.1 := by
  unfold nextF at h ⊢
  simp only at h ⊢
  repeat' split
  all_goals simp_all
/-- What Parse gives. -/
def parseF (text : Tx) : Pg × Int × Sgn :=
  if (lexP text).2.1 ≠ 0 then (⟨[], [], []⟩, (lexP text).2.1, (lexP text).2.2)
  else match programS (lexP text).1 kindN (20 * (lexP text).1.length + 19) ⟨0, 0, []⟩ with
    | .ok p _ => (p, 0, ⟨0, [], 0, 0, 0⟩)
    | .bad e _ => (⟨[], [], []⟩, e.e, ⟨0, [], 0, e.line, e.col⟩)
    | .out => (⟨[], [], []⟩, 5, ⟨0, [], 0, 0, 0⟩)
theorem lexF_ok (s : Tx) (hs : s.length ≤ 16384) : ∀ (f i : Nat) (out : List Sgn), out.length ≤ i → i ≤ s.length → s.length - i < f → (∀ (k : Nat) (t : Sgn), out[k]? = some t → t.kind ≠ 0 ∧ 1 ≤ t.line) → (lexF s f i out).2.1 = 0 → OkL (lexF s f i out).1 ∧ (lexF s f i out).1.length ≤ s.length + 1
  | 0, i, out, hl, hi, hf, ho, h => by omega
  | f + 1, i, out, hl, hi, hf, ho, h => by
    have hgl := gapC_le (s.length + 1) (s.drop i)
    unfold lexF at h ⊢
    generalize gapC (s.length + 1) (s.drop i) = g at *
    obtain ⟨n, ok⟩ := g
    simp only [List.length_drop] at hgl
    simp only at h ⊢
    cases ok with
    | false => simp at h
    | true =>
      simp only [Bool.true_eq_false, if_false] at h ⊢
      by_cases ht : s.drop (i + n) = []
      · rw [if_pos ht]
        have hp := plOf_take (s := s) (i := i + n)
        refine ⟨⟨fun k t hk => ?_, fun k t hk => ?_, by simp; omega⟩, by simp; omega⟩
        · by_cases hko : k < out.length
          · rw [List.getElem?_append_left hko] at hk
            have := ho k t hk
            simp; constructor
            · exact fun h => absurd h this.1
            · intro h; omega
          · rw [List.getElem?_append_right (by omega)] at hk
            by_cases h0 : k - out.length = 0
            · rw [h0] at hk
              simp at hk
              subst hk
              simp [here]; omega
            · rw [List.getElem?_eq_none (by simp; omega)] at hk
              cases hk
        · by_cases hko : k < out.length
          · rw [List.getElem?_append_left hko] at hk
            exact (ho k t hk).2
          · rw [List.getElem?_append_right (by omega)] at hk
            by_cases h0 : k - out.length = 0
            · rw [h0] at hk
              simp at hk
              subst hk
              exact hp.1
            · rw [List.getElem?_eq_none (by simp; omega)] at hk
              cases hk
      · rw [if_neg ht] at h ⊢
        obtain ⟨a, t, hat⟩ : ∃ a t, s.drop (i + n) = a :: t := by
          cases hc : s.drop (i + n) with
          | nil => exact absurd hc ht
          | cons a t => exact ⟨a, t, rfl⟩
        have hlen : (i + n) + (t.length + 1) = s.length := by have := congrArg List.length hat; simp at this; omega
        have hok := nextF_ok (c := a) (r := t)
        have hkind := nextF_kind a t
        rw [hat] at h ⊢
        by_cases he : (nextF (a :: t)).1 = 0
        · have hne : ¬ ((nextF (a :: t)).1 ≠ 0) := fun hh => hh he
          rw [if_neg hne] at h ⊢
          obtain ⟨hm1, hm2⟩ := hok he
          simp only [List.length_cons] at hm2
          have hp := plOf_take (s := s) (i := i + n)
          refine lexF_ok s hs f _ _ (by simp; omega) (by omega) (by omega) ?_ h
          intro k u hk
          by_cases hko : k < out.length
          · rw [List.getElem?_append_left hko] at hk
            exact ho k u hk
          · rw [List.getElem?_append_right (by omega)] at hk
            by_cases h0 : k - out.length = 0
            · rw [h0] at hk
              simp at hk
              subst hk
              exact ⟨by have := hkind he; simp only; omega, hp.1⟩
            · rw [List.getElem?_eq_none (by simp; omega)] at hk
              cases hk
        · rw [if_pos he] at h
          exact absurd h he
theorem lexP_ok {s : Tx} (h : (lexP s).2.1 = 0) : OkL (lexP s).1 ∧ (lexP s).1.length ≤ 16385 ∧ 1 ≤ (lexP s).1.length := by
  unfold lexP at h ⊢
  split at h
  · simp at h
  · rename_i hl
    rw [if_neg hl]
    have := lexF_ok s (by omega) (s.length + 1) 0 [] (by simp) (by omega) (by omega) (by simp) h
    refine ⟨this.1, by omega, ?_⟩
    obtain ⟨r, h1, h2, _⟩ := lexF_laid s _ 0 [] (by omega) h
    rw [h1]
    cases h2 <;> simp
theorem parse_run (text : Tx) : callT ctx 12 [.d (.str text)] [] = some (.ret (.tup [.d (pgD (parseF text).1), .d (.int .i64 (parseF text).2.1), .d (sgnD (parseF text).2.2)]), []) := by
  have hl := lex_run text
  rw [run12 (by simp)]
  unfold parseF
  by_cases he : (lexP text).2.1 = 0
  · obtain ⟨ok, hlen, hlen'⟩ := lexP_ok he
    rw [he] at hl
    rw [if_neg (fun h => h he)]
    generalize (lexP text).1 = L at *
    have hL : L.length < 1000000 := by omega
    have hI : Iv L ⟨0, 0, []⟩ := ⟨by simp only; omega, by simp, by simp, by simp⟩
    have hp := program_le hL ok hI (20 * L.length + 19) (by simp)
    have ht := program_tr (kindN := kindN) ok hI (f := 20 * L.length + 19) (by simp)
    simp only [pC, pB, List.map_nil, List.length_nil] at hp
    cases hps : programS L kindN (20 * L.length + 19) ⟨0, 0, []⟩ with
    | out => rw [hps] at ht; exact ht.elim
    | bad e s =>
      simp only [hps, el_bad, badK1, pC3] at hp
      have hp := hp _ rfl
      simp at hp
      have hr := rec_bad e
      simp [Tryd.f12, hasDef, isDefer, deferOf, dfv, hl, drwK_end, hp, rec_bad, pgD]
    | ok p s =>
      simp only [hps, el_ok, pC3] at hp
      have hp := hp _ rfl
      have hv := program_vars hps
      have hr := fun x y b1 c1 c2 c3 c4 c5 => rec_ok x y b1 c1 c2 c3 c4 c5 (s.vars.map vrD)
      simp at hp hr
      simp [Tryd.f12, hasDef, isDefer, deferOf, dfv, hl, drwK_end, hp, hr, pgD, hv]
  · simp [Tryd.f12, hasDef, isDefer, deferOf, dfv, hl, he, drwK_end, pgD, sgnD]
end Go.Am
end
section
namespace Go.Am
open Go Go.Proofs
variable [Inhabited Mx2]
def endP : Tx := [69, 78, 68, 95, 80, 82, 79, 71, 82, 65, 77]
/-- Where a word stands last, and how often, from a place on. -/
def cutL : Tx → Nat → Nat × Nat → Nat × Nat
  | [], _, a => a
  | c :: r, i, a => if (c :: r).length < 11 then a else cutL r (i + 1) (if (c :: r).take 11 = endP then (i + 11, a.2 + 1) else a)
theorem cutL_many : ∀ (r : Tx) (i : Nat) (a : Nat × Nat), a.2 ≤ (cutL r i a).2
  | [], i, a => Nat.le_refl _
  | c :: r, i, a => by
    unfold cutL
    split
    · exact Nat.le_refl _
    · refine Nat.le_trans ?_ (cutL_many r _ _)
      split <;> simp
theorem cutL_keep : ∀ (r : Tx) (i : Nat) (a : Nat × Nat), (cutL r i a).2 = a.2 → cutL r i a = a ∧ ∀ j, j + 11 ≤ r.length → (r.drop j).take 11 ≠ endP
  | [], i, a, h => ⟨rfl, fun j hj => by simp at hj⟩
  | c :: r, i, a, h => by
    unfold cutL at h ⊢
    split
    · rename_i hl
      exact ⟨rfl, fun j hj => by omega⟩
    · rename_i hl
      rw [if_neg hl] at h
      by_cases he : (c :: r).take 11 = endP
      · rw [if_pos he] at h
        have := cutL_many r (i + 1) (i + 11, a.2 + 1)
        simp only at this
        omega
      · rw [if_neg he] at h ⊢
        obtain ⟨h1, h2⟩ := cutL_keep r (i + 1) a h
        refine ⟨h1, fun j hj => ?_⟩
        cases j with
        | zero => exact he
        | succ j => simp only [List.drop_succ_cons]; exact h2 j (by simp at hj; omega)
/-- Where it stands but once, each place is the last one. -/
theorem cutL_one : ∀ (r : Tx) (i l0 : Nat), (cutL r i (l0, 0)).2 = 1 → ∀ j, j + 11 ≤ r.length → (r.drop j).take 11 = endP → (cutL r i (l0, 0)).1 = i + j + 11
  | [], i, l0, h, j, hj, hd => by simp at hj
  | c :: r, i, l0, h, j, hj, hd => by
    unfold cutL at h ⊢
    split
    · rename_i hl
      omega
    · rename_i hl
      rw [if_neg hl] at h
      by_cases he : (c :: r).take 11 = endP
      · rw [if_pos he] at h ⊢
        obtain ⟨h1, h2⟩ := cutL_keep r (i + 1) (i + 11, 0 + 1) (by rw [h])
        cases j with
        | zero => rw [h1]
        | succ j =>
          simp only [List.drop_succ_cons] at hd
          exact absurd hd (h2 j (by simp at hj; omega))
      · rw [if_neg he] at h ⊢
        cases j with
        | zero => exact absurd hd he
        | succ j =>
          simp only [List.drop_succ_cons] at hd
          have := cutL_one r (i + 1) l0 h j (by simp at hj; omega) hd
          rw [this]; omega
theorem Laid.word {s : Tx} {w : Tx} (hw : w ≠ []) : ∀ {i : Nat} {r : List Sgn}, Laid s i r → ∀ t ∈ r, t.text = w → ∃ j, j + w.length ≤ s.length ∧ (s.drop j).take w.length = w
  | i, _, .fin _ h, t, ht, he => by
    simp at ht
    subst ht
    exact absurd he.symm hw
  | i, _, .sign _ j m k n r h1 h2 h3 h, t, ht, he => by
    rcases List.mem_cons.1 ht with rfl | ht
    · simp only at he
      have hl : w.length = min m (s.length - j) := by rw [← he]; simp
      refine ⟨j, by omega, ?_⟩
      have : w.length = m := by omega
      rw [this]; exact he
    · exact h.word hw t ht he
/-- A text that is a program has END_PROGRAM in it. -/
theorem parse_end {text : Tx} (h : (parseF text).2.1 = 0) : ∃ j, j + 11 ≤ text.length ∧ (text.drop j).take 11 = endP := by
  unfold parseF at h
  split at h
  · rename_i he; exact absurd (by simpa using h) he
  · rename_i he
    have he : (lexP text).2.1 = 0 := by simpa using he
    obtain ⟨ok, hlen, hlen'⟩ := lexP_ok he
    have hI : Iv (lexP text).1 ⟨0, 0, []⟩ := ⟨by simp only; omega, by simp, by simp, by simp⟩
    have ht := program_tr (kindN := kindN) ok hI (f := 20 * (lexP text).1.length + 19) (by simp)
    cases hps : programS (lexP text).1 kindN (20 * (lexP text).1.length + 19) ⟨0, 0, []⟩ with
    | out => rw [hps] at ht; exact ht.elim
    | bad e s => rw [hps] at ht h; exact absurd h ht.2
    | ok p s =>
      obtain ⟨_, i, t, h1, h2⟩ := ht.of_ok hps
      have h2 : t.text = endP := by
        simp [isW] at h2
        exact h2.2
      have := (lexP_laid he).1.word (w := endP) (by decide) t (List.mem_of_getElem? h1) h2
      exact this
theorem parse_bad {text : Tx} (h : (parseF text).2.1 ≠ 0) : (parseF text).1 = ⟨[], [], []⟩ ∧ 1 ≤ (parseF text).2.2.line := by
  unfold parseF at h ⊢
  split
  · rename_i he
    refine ⟨rfl, ?_⟩
    simp only
    unfold lexP at he ⊢
    split
    · simp
    · rename_i hl
      rw [if_neg hl] at he
      obtain ⟨_, j, hj⟩ := lexF_err text _ 0 [] (by omega) (by omega) he
      rw [hj]
      exact plOf_take.1
  · rename_i he
    rw [if_neg he] at h
    have he : (lexP text).2.1 = 0 := by simpa using he
    obtain ⟨ok, hlen, hlen'⟩ := lexP_ok he
    have hI : Iv (lexP text).1 ⟨0, 0, []⟩ := ⟨by simp only; omega, by simp, by simp, by simp⟩
    have ht := program_tr (kindN := kindN) ok hI (f := 20 * (lexP text).1.length + 19) (by simp)
    cases hps : programS (lexP text).1 kindN (20 * (lexP text).1.length + 19) ⟨0, 0, []⟩ with
    | out => rw [hps] at ht; exact ht.elim
    | bad e s => rw [hps] at ht; exact ⟨rfl, ht.1⟩
    | ok p s => rw [hps] at h; exact absurd rfl h
theorem cut_law {text : Tx} {at_ : Nat} (h1 : (cutL text 0 (0, 0)).2 = 1) (h2 : at_ < (cutL text 0 (0, 0)).1) : (parseF (text.take at_)).2.1 ≠ 0 := by
  intro h
  obtain ⟨j, hj, hd⟩ := parse_end h
  simp only [List.length_take] at hj
  have hd : (text.drop j).take 11 = endP := by
    rw [← hd, List.drop_take, List.take_take]
    congr 1
    omega
  have := cutL_one text 0 0 h1 j (by omega) hd
  omega
/-- A text of which no more than 1500 bytes are looked at. -/
theorem cut_facts15 (t : Tx) : ∃ n : Nat, (if (1500 : Int) < t.length then (1500 : Int) else t.length) = (n : Int) ∧ n ≤ t.length ∧ (n : Int) ≤ t.length ∧ (t.take n).length ≤ 1500 := by
  by_cases h : 1500 < t.length
  · exact ⟨1500, by rw [if_pos (by omega)]; rfl, by omega, by omega, by simp; omega⟩
  · exact ⟨t.length, by rw [if_neg (by omega)], by omega, by omega, by simp; omega⟩
end Go.Am
end
section
namespace Go.Am
open Go Go.Proofs
variable [Inhabited Mx2]
section
variable {α β : Type}
def PQ (Q : α → Prop) (r : PM α) : Prop := match r with
  | .ok a _ => Q a
  | _ => True
theorem PQ.triv {r : PM α} : PQ (fun _ => True) r := by cases r <;> trivial
theorem PQ.out {Q : α → Prop} : PQ Q (.out : PM α) := trivial
theorem PQ.ok {Q : α → Prop} {a : α} {s : PS} (h : Q a) : PQ Q (.ok a s) := h
theorem PQ.bind {Q : α → Prop} {Q' : β → Prop} {r : PM α} {k : α → PS → PM β} (h : PQ Q r) (hk : ∀ a s, Q a → PQ Q' (k a s)) : PQ Q' (r.bind k) := by
  cases r with
  | ok a s => exact hk a s h
  | bad e s => trivial
  | out => trivial
theorem PQ.bindT {Q' : β → Prop} {r : PM α} {k : α → PS → PM β} (hk : ∀ a s, PQ Q' (k a s)) : PQ Q' (r.bind k) := PQ.bind PQ.triv fun a s _ => hk a s
theorem PQ.ite {Q : α → Prop} {c : Prop} [Decidable c] {a b : PM α} (h : c → PQ Q a) (h' : ¬ c → PQ Q b) : PQ Q (if c then a else b) := by
  split
  · exact h ‹_›
  · exact h' ‹_›
end
section
variable (L : List Sgn)
structure ShE (f : Nat) : Prop where
  level : ∀ n s, PQ ltE (levelS L f n s)
  loop : ∀ n x s, ltE x → PQ ltE (levelL L f n x s)
  unary : ∀ s, PQ ltE (unaryS L f s)
  unop : ∀ op t s, PQ ltE (unopS L f op t s)
  expr : ∀ s, PQ ltE (exprS L f s)
  index : ∀ s, PQ ltE (indexS L f s)
  factor : ∀ s, PQ ltE (factorS L f s)
theorem lt2 {op : Int} {nm : Tx} {x y : Ex} {l : Int} (hx : ltE x) (hy : ltE y) : ltE (exSub op nm [x, y] l) := by simp [exSub, ltE, ltEs, hx, hy]
theorem lt1 {op : Int} {nm : Tx} {x : Ex} {l : Int} (hx : ltE x) : ltE (exSub op nm [x] l) := by simp [exSub, ltE, ltEs, hx]
theorem lt0 {op n l : Int} {a b : Tx} : ltE (.mk op n a b [] l) := by simp [ltE, ltEs]
theorem shE : ∀ f, ShE L f
  | 0 => ⟨fun _ _ => by unfold levelS; exact PQ.out, fun _ _ _ _ => by unfold levelL; exact PQ.out, fun _ => by unfold unaryS; exact PQ.out, fun _ _ _ => by unfold unopS; exact PQ.out, fun _ => by unfold exprS; exact PQ.out, fun _ => by unfold indexS; exact PQ.out, fun _ => by unfold factorS; exact PQ.out⟩
  | f + 1 => by
    have ih := shE f
    refine ⟨?_, ?_, ?_, ?_, ?_, ?_, ?_⟩
    · intro n s
      unfold levelS
      exact PQ.ite (fun _ => ih.unary _) fun _ => PQ.ite (fun _ => PQ.bind (ih.level _ _) fun x s hx => ih.loop _ _ _ hx) fun _ => PQ.out
    · intro n x s hx
      unfold levelL
      exact PQ.bindT fun b s => PQ.ite (fun _ => PQ.bindT fun t s => PQ.bind (ih.level _ _) fun y s hy => PQ.ite (fun _ => PQ.ok (lt2 hx hy)) fun _ => ih.loop _ _ _ (lt2 hx hy)) fun _ => PQ.ok hx
    · intro s
      unfold unaryS
      exact PQ.bindT fun t s => PQ.bindT fun b s => PQ.ite (fun _ => ih.unop _ _ _) fun _ => PQ.bindT fun b s => PQ.ite (fun _ => ih.unop _ _ _) fun _ => ih.factor _
    · intro op t s
      unfold unopS
      exact PQ.bindT fun _ s => PQ.bindT fun _ s => PQ.bind (ih.unary _) fun x s hx => PQ.bindT fun _ s => PQ.ok (lt1 hx)
    · intro s
      unfold exprS
      exact ih.level _ _
    · intro s
      unfold indexS
      exact PQ.bindT fun _ s => PQ.bindT fun _ s => PQ.bind (ih.expr _) fun x s hx => PQ.bindT fun _ s => PQ.bindT fun _ s => PQ.ok hx
    · intro s
      unfold factorS
      refine PQ.bindT fun t s => PQ.ite (fun _ => PQ.bindT fun u s => PQ.ok lt0) fun _ => PQ.bindT fun b s => PQ.ite (fun _ => PQ.ok lt0) fun _ => PQ.bindT fun b s => PQ.ite (fun _ => PQ.ok lt0) fun _ => PQ.bindT fun b s => PQ.ite (fun _ => ?_) fun _ => ?_
      · exact PQ.bindT fun _ s => PQ.bindT fun _ s => PQ.bind (ih.expr _) fun x s hx => PQ.bindT fun _ s => PQ.bindT fun _ s => PQ.ok hx
      · exact PQ.bindT fun _ s => PQ.bindT fun b s => PQ.ite (fun _ => PQ.bind (ih.index _) fun x s hx => PQ.ok (lt1 hx)) fun _ => PQ.bindT fun b s => PQ.ite (fun _ => PQ.bindT fun u s => PQ.ok lt0) fun _ => PQ.ok (by simp [exVar, ltE, ltEs])
theorem labels_sh : ∀ (f : Nat) (l : List Int) (s : PS), PQ (fun l => l.length < 1000000000) (labelsS L f l s)
  | 0, l, s => by unfold labelsS; exact PQ.out
  | f + 1, l, s => by
    unfold labelsS
    exact PQ.bindT fun lo s => PQ.bindT fun b s => PQ.bindT fun hi s => PQ.ite (fun hl => PQ.bindT fun b s => PQ.ite (fun _ => labels_sh f _ _) fun _ => PQ.bindT fun _ s => PQ.ok (by simp; omega)) fun _ => PQ.out
def ltB (l : List Sm) : Prop := l.length ≤ 100000 ∧ ltMs l
def ltC (c : List Ex) : Prop := c.length ≤ 100000 ∧ ltEs c
def ltD (l : List (List Sm)) : Prop := l.length ≤ 100001 ∧ ∀ b ∈ l, ltB b
theorem ltMs_app {l : List Sm} {x : Sm} (h : ltMs l) (hx : ltM x) : ltMs (l ++ [x]) := by
  rw [ltMs_iff] at h ⊢
  intro y hy
  rcases List.mem_append.1 hy with hy | hy
  · exact h y hy
  · simp at hy; subst hy; exact hx
theorem ltB_app {l : List Sm} {x : Sm} (hl : l.length < 100000) (h : ltB l) (hx : ltM x) : ltB (l ++ [x]) := ⟨by simp; omega, ltMs_app h.2 hx⟩
theorem ltC_app {l : List Ex} {x : Ex} (hl : l.length < 100000) (h : ltC l) (hx : ltE x) : ltC (l ++ [x]) := by
  refine ⟨by simp; omega, ?_⟩
  have h := h.2
  rw [ltEs_iff] at h ⊢
  intro y hy
  rcases List.mem_append.1 hy with hy | hy
  · exact h y hy
  · simp at hy; subst hy; exact hx
theorem ltD_app {l : List (List Sm)} {x : List Sm} (hl : l.length ≤ 100000) (h : ltD l) (hx : ltB x) : ltD (l ++ [x]) := by
  refine ⟨by simp; omega, fun y hy => ?_⟩
  rcases List.mem_append.1 hy with hy | hy
  · exact h.2 y hy
  · simp at hy; subst hy; exact hx
theorem ltD_b {l : List (List Sm)} (h : ltD l) : l.length < 1000000000 ∧ ltBs l := ⟨by have := h.1; omega, (ltBs_iff l).2 fun b hb => ⟨by have := (h.2 b hb).1; omega, (h.2 b hb).2⟩⟩
theorem ltC_b {l : List Ex} (h : ltC l) : l.length < 1000000000 ∧ ltEs l := ⟨by have := h.1; omega, h.2⟩
theorem ltD1 {b : List Sm} (h : ltB b) : ltD [b] := ⟨by simp, by simpa using h⟩
theorem ltx0 : ltE ex0 := by simp [ex0, ltE, ltEs]
structure ShS (f : Nat) : Prop where
  block : ∀ w s, PQ ltB (blockS L f w s)
  blockL : ∀ w l s, ltB l → PQ ltB (blockL L f w l s)
  stmt : ∀ s, PQ ltM (stmtS L f s)
  opn : ∀ s, PQ ltM (openS L f s)
  branches : ∀ s, PQ ltM (branchesS L f s)
  branchesL : ∀ c l s, ltC c → ltD l → l.length = c.length → PQ ltM (branchesL L f c l s)
  cases : ∀ s, PQ ltM (casesS L f s)
  casesL : ∀ v c l s, ltE v → (c.length ≤ 100000 ∧ ∀ x ∈ c, x.length < 1000000000) → ltD l → l.length ≤ 100000 → PQ ltM (casesL L f v c l s)
  caseL : ∀ l s, ltB l → PQ ltB (caseL L f l s)
  counted : ∀ s, PQ ltM (countedS L f s)
  call : ∀ n s, PQ ltM (callS L f n s)
  callL : ∀ n c l s, c.length ≤ 100000 → ltC l → PQ ltM (callL L f n c l s)
theorem shS : ∀ f, ShS L f
  | 0 => ⟨fun _ _ => by unfold blockS; exact PQ.out, fun _ _ _ _ => by unfold Go.Am.blockL; exact PQ.out, fun _ => by unfold stmtS; exact PQ.out, fun _ => by unfold openS; exact PQ.out, fun _ => by unfold branchesS; exact PQ.out, fun _ _ _ _ _ _ => by unfold Go.Am.branchesL; exact PQ.out, fun _ => by unfold casesS; exact PQ.out, fun _ _ _ _ _ _ _ _ => by unfold Go.Am.casesL; exact PQ.out, fun _ _ _ => by unfold Go.Am.caseL; exact PQ.out, fun _ => by unfold countedS; exact PQ.out, fun _ _ => by unfold callS; exact PQ.out, fun _ _ _ _ _ _ => by unfold Go.Am.callL; exact PQ.out⟩
  | f + 1 => by
    have ih := shS f
    have ihE := (shE L f).expr
    have ihX := (shE L f).index
    have nilB : ltB [] := ⟨by simp, by simp [ltMs]⟩
    have nilC : ltC [] := ⟨by simp, by simp [ltEs]⟩
    have nilD : ltD [] := ⟨by simp, by simp⟩
    refine ⟨?_, ?_, ?_, ?_, ?_, ?_, ?_, ?_, ?_, ?_, ?_, ?_⟩
    · intro w s
      unfold blockS
      exact ih.blockL _ _ _ nilB
    · intro w l s hl
      unfold Go.Am.blockL
      exact PQ.bindT fun b s => PQ.ite (fun _ => PQ.ok hl) fun _ => PQ.bind (ih.stmt _) fun x s hx => PQ.ite (fun h => ih.blockL _ _ _ (ltB_app h hl hx)) fun _ => PQ.out
    · intro s
      unfold stmtS
      refine PQ.bindT fun t s => PQ.bindT fun _ s => PQ.bind (ih.opn _) fun x s hx => PQ.bindT fun _ s => PQ.bindT fun _ s => PQ.ok ?_
      cases x
      exact hx
    · intro s
      unfold openS
      refine PQ.bindT fun b s => PQ.ite (fun _ => ih.branches _) fun _ => PQ.bindT fun b s => PQ.ite (fun _ => ih.cases _) fun _ => PQ.bindT fun b s => PQ.ite (fun _ => ih.counted _) fun _ => PQ.bindT fun b s => PQ.ite (fun _ => ?_) fun _ => PQ.bindT fun b s => PQ.ite (fun _ => ?_) fun _ => PQ.bindT fun b s => PQ.ite (fun _ => PQ.ok ?_) fun _ => PQ.bindT fun b s => PQ.ite (fun _ => PQ.ok ?_) fun _ => ?_
      · exact PQ.bind (ihE _) fun v s hv => PQ.bindT fun _ s => PQ.bind (ih.block _ _) fun l s hl => PQ.bindT fun _ s => PQ.ok (by have := ltD_b (ltD1 hl); simp [ltM, ltx0, hv, ltEs, this])
      · exact PQ.bind (ih.block _ _) fun l s hl => PQ.bindT fun _ s => PQ.bind (ihE _) fun v s hv => PQ.bindT fun _ s => PQ.ok (by have := ltD_b (ltD1 hl); simp [ltM, ltx0, hv, ltEs, this])
      · simp [smOp, ltM, ltx0, ltEs, ltBs]
      · simp [smOp, ltM, ltx0, ltEs, ltBs]
      · refine PQ.bindT fun nm s => PQ.bindT fun b s => PQ.ite (fun _ => ih.call _ _) fun _ => PQ.bindT fun b s => PQ.bind (Q := ltE) (PQ.ite (fun _ => PQ.bind (ihX _) fun x s hx => PQ.ok (lt1 hx)) fun _ => PQ.ok (by simp [exVar, ltE, ltEs])) fun to s ht => PQ.bindT fun _ s => PQ.bind (ihE _) fun v s hv => PQ.ok ?_
        simp [ltM, ht, hv, ltEs, ltBs]
    · intro s
      unfold branchesS
      exact ih.branchesL _ _ _ nilC nilD rfl
    · intro c l s hc hl he
      unfold Go.Am.branchesL
      refine PQ.bind (ihE _) fun x s hx => PQ.bindT fun _ s => PQ.bind (ih.block _ _) fun b s hb => PQ.ite (fun h => PQ.bindT fun m s => PQ.ite (fun _ => ih.branchesL _ _ _ (ltC_app h.1 hc hx) (ltD_app (by omega) hl hb) (by simp [he])) fun _ => PQ.bindT fun m s => PQ.bind (Q := fun l => l.length < 1000000000 ∧ ltBs l) ?_ fun l2 s hl2 => PQ.bindT fun _ s => PQ.ok ?_) fun _ => PQ.out
      · have h1 := ltD_app (by omega) hl hb
        refine PQ.ite (fun _ => PQ.bind (ih.block _ _) fun z s hz => PQ.ok (ltD_b (ltD_app (by simp; omega) h1 hz))) fun _ => PQ.ok (ltD_b h1)
      · have := ltC_b (ltC_app h.1 hc hx)
        have h2 := this.1
        simp only [ltM, ltx0, true_and]
        exact ⟨this.1, this.2, by simp, by simp, by simp, hl2.1, hl2.2⟩
    · intro s
      unfold casesS
      exact PQ.bind (ihE _) fun v s hv => PQ.bindT fun _ s => ih.casesL _ _ _ _ hv (by simp) nilD (by simp)
    · intro v c l s hv hc hl hll
      unfold Go.Am.casesL
      refine PQ.bindT fun b s => PQ.ite (fun _ => PQ.bind (labels_sh L _ _ _) fun x s hx => PQ.bind (ih.caseL _ _ nilB) fun b s hb => PQ.ite (fun h => ih.casesL _ _ _ _ hv ⟨by simp; omega, ?_⟩ (ltD_app hll hl hb) (by simp; omega)) fun _ => PQ.out) fun _ => PQ.bindT fun m s => PQ.bind (Q := fun l => l.length < 1000000000 ∧ ltBs l) ?_ fun l2 s hl2 => PQ.bindT fun _ s => PQ.ok ?_
      · intro y hy
        rcases List.mem_append.1 hy with hy | hy
        · exact hc.2 y hy
        · simp at hy; subst hy; exact hx
      · exact PQ.ite (fun _ => PQ.bind (ih.block _ _) fun z s hz => PQ.ite (fun h => PQ.ok (ltD_b (ltD_app hll hl hz))) fun _ => PQ.out) fun _ => PQ.ok (ltD_b hl)
      · simp only [ltM, ltx0, true_and]
        exact ⟨hv, by simp, by simp [ltEs], by have := hc.1; omega, hc.2, by simp, hl2.1, hl2.2⟩
    · intro l s hl
      unfold Go.Am.caseL
      exact PQ.bindT fun b s => PQ.ite (fun _ => PQ.ok hl) fun _ => PQ.bind (ih.stmt _) fun x s hx => PQ.ite (fun h => ih.caseL _ _ (ltB_app h hl hx)) fun _ => PQ.out
    · intro s
      unfold countedS
      refine PQ.bindT fun nm s => PQ.bindT fun _ s => PQ.bind (ihE _) fun a s ha => PQ.bindT fun _ s => PQ.bind (ihE _) fun b s hb => PQ.bindT fun t s => PQ.bindT fun m s => PQ.bind (Q := ltE) (PQ.ite (fun _ => ihE _) fun _ => PQ.ok lt0) fun c s hc => PQ.bindT fun _ s => PQ.bind (ih.block _ _) fun l s hl => PQ.bindT fun _ s => PQ.ok ?_
      have := ltD_b (ltD1 hl)
      simp [ltM, ltx0, ltEs, ha, hb, hc, this]
    · intro n s
      unfold callS
      exact PQ.bindT fun b s => PQ.ite (fun _ => PQ.ok (by simp [ltM, ltx0, ltEs, ltBs])) fun _ => ih.callL _ _ _ _ (by simp) nilC
    · intro n c l s hc hl
      unfold Go.Am.callL
      refine PQ.bindT fun t s => PQ.bindT fun _ s => PQ.bind (ihE _) fun x s hx => PQ.ite (fun h => PQ.bindT fun b s => PQ.ite (fun _ => ih.callL _ _ _ _ (by simp; omega) (ltC_app h.2 hl hx)) fun _ => PQ.bindT fun _ s => PQ.ok ?_) fun _ => PQ.out
      have := ltC_b (ltC_app h.2 hl hx)
      simp only [ltM, ltx0, true_and]
      exact ⟨this.1, this.2, by simp, by simp, by simp; omega, by simp, by simp [ltBs]⟩
theorem program_sh {kn : Tx → Int} {f : Nat} {s : PS} : PQ (fun p => p.body.length < 1000000000 ∧ ltMs p.body) (programS L kn f s) := by
  unfold programS
  exact PQ.bindT fun _ s => PQ.bindT fun nm s => PQ.bindT fun _ s => PQ.bind ((shS L f).block _ _) fun l s hl => PQ.bindT fun _ s => PQ.bindT fun _ s => PQ.ok ⟨by have := hl.1; simp only; omega, hl.2⟩
end
theorem parse_sh (text : Tx) : ltPg (parseF text).1 := by
  unfold parseF
  split
  · exact ⟨by simp, by simp, by simp [ltMs]⟩
  · rename_i he
    have he : (lexP text).2.1 = 0 := by simpa using he
    obtain ⟨ok, hlen, hlen'⟩ := lexP_ok he
    have hI : Iv (lexP text).1 ⟨0, 0, []⟩ := ⟨by simp only; omega, by simp, by simp, by simp⟩
    have ht := program_tr (kindN := kindN) ok hI (f := 20 * (lexP text).1.length + 19) (by simp)
    have hq := program_sh (lexP text).1 (kn := kindN) (f := 20 * (lexP text).1.length + 19) (s := ⟨0, 0, []⟩)
    cases hps : programS (lexP text).1 kindN (20 * (lexP text).1.length + 19) ⟨0, 0, []⟩ with
    | out => exact ⟨by simp, by simp, by simp [ltMs]⟩
    | bad e s => exact ⟨by simp, by simp, by simp [ltMs]⟩
    | ok p s =>
      rw [hps] at hq
      have h1 := (ht.of_ok hps).1
      exact ⟨by simp only; omega, hq.1, hq.2⟩
end Go.Am
end
section
namespace Go.Am
open Go Go.Proofs
variable [Inhabited Mx2]
set_option maxRecDepth 20000
theorem awk18 : parseF [80, 82, 79, 71, 82, 65, 77, 32, 112, 32, 86, 65, 82, 32, 97, 32, 58, 32, 73, 78, 84, 32, 58, 61, 32, 45, 51, 59, 32, 69, 78, 68, 95, 86, 65, 82, 32, 97, 32, 58, 61, 32, 97, 32, 43, 32, 49, 59, 32, 69, 78, 68, 95, 80, 82, 79, 71, 82, 65, 77] = (⟨[112], [⟨[97], 1, 0, false, 0, 0, -3, 1⟩], [.mk 1 [] (.mk 3 0 [97] [] [] 1) (.mk 8 0 [] [] [.mk 3 0 [97] [] [] 1, .mk 1 1 [] [] [] 1] 1) [] [] [] [] 1]⟩, 0, ⟨0, [], 0, 0, 0⟩) := by kernel_rfl
theorem awake18_run : callT ctx 11 [] [] = some (.ret (.d (.bool true)), []) := by
  rw [run11 (by simp)]
  simp [Tryd.f11, parse_run, awk18, pgD, sgnD, smD_A, exD_A, vrD, vrC]
end Go.Am
end
section
namespace Go.Am
open Go Go.Proofs
variable [Inhabited Mx2]
set_option maxRecDepth 20000
def bxV (v : Vr) : Cont := .box [.d (.str v.name), .d (.int .i64 v.ty), .d (.int .i64 v.sec), .d (.bool v.arr), .d (.int .i64 v.lo), .d (.int .i64 v.hi), .d (.int .i64 v.init), .d (.int .i64 v.line)]
set_option maxHeartbeats 2000000 in
theorem rV_loop (nm nm' : Tx) (B B' : AV) (k : Kt) (R1 R2 : Ans)
    (V V' : List Vr)
    (h1 : ∀ (v1 v2 : Nat) (c1 c2 : Cont), k .ret ⟨54, gl0, [(6, true, .d (.bool false))], [⟨250, 1, .box [.d (.str nm), .d (.list (V.map vrD)), B]⟩, ⟨300, 1, .box [.d (.str nm'), .d (.list (V'.map vrD)), B']⟩, ⟨500, v1, c1⟩, ⟨550, v2, c2⟩]⟩ = R1) : ∀ (r1 r2 p1 p2 : List Vr) (v1 v2 : Nat) (c1 c2 : Cont), V = p1 ++ r1 → V' = p2 ++ r2 → p2.length = p1.length → r2.length = r1.length → (p1 ++ r1).length < 1000000000 →
    (h2 : ∀ (v1 v2 : Nat) (c1 c2 : Cont), k (.exit 0) ⟨54, gl0, [(2, true, .d (.bool false)), (3, true, .ptr 250 1 0), (4, true, .ptr 300 1 0), (7, true, .d (.int .i64 V.length)), (28, true, .d (.bool false))], [⟨250, 1, .box [.d (.str nm), .d (.list (V.map vrD)), B]⟩, ⟨300, 1, .box [.d (.str nm'), .d (.list (V'.map vrD)), B']⟩, ⟨500, v1, c1⟩, ⟨550, v2, c2⟩]⟩ = R2) →
    denK ctx 18 (.loop (Code.at (codeOf Tryd.f18) [1, 1, 0, 1, 0, 0])) ⟨54, gl0, [(2, true, .d (.bool false)), (3, true, .ptr 250 1 0), (4, true, .ptr 300 1 0), (7, true, .d (.int .i64 p1.length))], [⟨250, 1, .box [.d (.str nm), .d (.list (V.map vrD)), B]⟩, ⟨300, 1, .box [.d (.str nm'), .d (.list (V'.map vrD)), B']⟩, ⟨500, v1, c1⟩, ⟨550, v2, c2⟩]⟩ k = if eqL sameV r1 r2 = true then R2 else R1
  | [], [], p1, p2, v1, v2, c1, c2, e1, e2, hp, hr, hl, h2 => by
    subst e1
    rw [denK_loop]
    simp [Tryd.f18, eqL] at h2 ⊢
    simp [h2]
  | x :: r1, y :: r2, p1, p2, v1, v2, c1, c2, e1, e2, hp, hr, hl, h2 => by
    have ih := fun v1 v2 c1 c2 => rV_loop nm nm' B B' k R1 R2 V V' h1 r1 r2 (p1 ++ [x]) (p2 ++ [y]) v1 v2 c1 c2 (by simp [e1]) (by simp [e2]) (by simp [hp]) (by simpa using hr) (by simpa using hl) h2
    have hr : r2.length = r1.length := by simpa using hr
    have w1 : (p1.length : Int) < p1.length + (r1.length + 1) := by omega
    have w2 : IntKind.i64.wrap ((p1.length : Int) + 1) = p1.length + 1 := wrap_id (by unfold I64; simp at hl; omega)
    have r02 : List.range' 0 2 = [0, 1] := rfl
    rw [denK_loop]
    simp only [eqL]
    by_cases he : sameV x y = true
    · have hv := he
      simp [sameV, eV] at hv
      simp [Tryd.f18, e1, e2, vrD, vrC] at ih ⊢
      simp only [hv] at ih
      simp [r02, w1, w2, hp, hr, ih, he, hv, drwK_end, vrD, vrC]
    · have hv := he
      simp [sameV, eV] at hv
      simp [Tryd.f18, e1, e2, vrD, vrC] at h1 ⊢
      by_cases b1 : x.name = y.name
      · by_cases b2 : x.ty = y.ty
        · by_cases b3 : x.sec = y.sec
          · by_cases b4 : x.arr = y.arr
            · by_cases b5 : x.lo = y.lo
              · by_cases b6 : x.hi = y.hi
                · by_cases b7 : x.init = y.init
                  · exact absurd b7 (hv b1 b2 b3 b4 b5 b6)
                  · simp only [b1, b2, b3, b4, b5, b6] at h1
                    simp [r02, w1, w2, hp, hr, h1, he, drwK_end, vrD, vrC, b1, b2, b3, b4, b5, b6, b7]
                · simp only [b1, b2, b3, b4, b5] at h1
                  simp [r02, w1, w2, hp, hr, h1, he, drwK_end, vrD, vrC, b1, b2, b3, b4, b5, b6]
              · simp only [b1, b2, b3, b4] at h1
                simp [r02, w1, w2, hp, hr, h1, he, drwK_end, vrD, vrC, b1, b2, b3, b4, b5]
            · simp only [b1, b2, b3] at h1
              simp [r02, w1, w2, hp, hr, h1, he, drwK_end, vrD, vrC, b1, b2, b3, b4]
          · simp only [b1, b2] at h1
            simp [r02, w1, w2, hp, hr, h1, he, drwK_end, vrD, vrC, b1, b2, b3]
        · simp only [b1] at h1
          simp [r02, w1, w2, hp, hr, h1, he, drwK_end, vrD, vrC, b1, b2]
      · simp [r02, w1, w2, hp, hr, h1, he, drwK_end, vrD, vrC, b1]
theorem refSame_r (p q : Pg) (h : ltPg p) : callT ctx 18 [.d (.agg [.str p.name, .list (p.vars.map vrD), .list (p.body.map smD)]), .d (.agg [.str q.name, .list (q.vars.map vrD), .list (q.body.map smD)]), .d (.bool false)] [] = some (.ret (.d (.bool (sameP p q))), []) := by
  have hm := rxM_r p.body q.body h.2.1 h.2.2
  rw [run18 (by simp)]
  unfold sameP
  by_cases hn : p.name = q.name
  · by_cases hv : q.vars.length = p.vars.length
    · have hlp := fun B B' k R1 R2 h1 v1 v2 c1 c2 h2 => rV_loop p.name q.name B B' k R1 R2 p.vars q.vars h1 p.vars q.vars [] [] v1 v2 c1 c2 rfl rfl rfl hv (by simpa using h.1) h2
      simp [Tryd.f18, hn] at hlp ⊢
      simp [hv]
      rw [hlp _ _ _ (some (.ret (.d (.bool false)), [])) (some (.ret (.d (.bool (sameMs p.body q.body))), [])) (by simp) _ _ _ _ (by simp [hm])]
      by_cases he : eqL sameV p.vars q.vars = true
      · simp [he]
      · simp [show eqL sameV p.vars q.vars = false by simpa using he]
    · have hv' : ¬ ((p.vars.length : Int) = q.vars.length) := by omega
      simp [Tryd.f18, hn, hv', eqL_nlen (fun e => hv e.symm)]
  · simp [Tryd.f18, hn]
end Go.Am
end
section
namespace Go.Am
open Go Go.Proofs
variable [Inhabited Mx2]
set_option maxRecDepth 20000
theorem treeSame_run (a b : Tx) : callT ctx 7 [.d (.str a), .d (.str b)] [] = some (.ret (.d (.bool true)), []) := by
  obtain ⟨n, hn1, hn2, hn3, hsl⟩ := cut_facts15 a
  obtain ⟨s, hs⟩ : ∃ s, a.take n = s := ⟨_, rfl⟩
  rw [hs] at hsl
  obtain ⟨n', hn1', hn2', hn3', hsl'⟩ := cut_facts15 b
  obtain ⟨s', hs'⟩ : ∃ s', b.take n' = s' := ⟨_, rfl⟩
  rw [hs'] at hsl'
  have haw := awake18_run
  have hp := parse_run
  have e1 := sameP_r (parseF s).1 (parseF s').1 (parse_sh s)
  have e2 := refSame_r (parseF s).1 (parseF s').1 (parse_sh s)
  have e3 := sameP_r (parseF s).1 (parseF s).1 (parse_sh s)
  have e4 := sameP_r (parseF s').1 (parseF s).1 (parse_sh s')
  rw [sameP_refl] at e3
  rw [sameP_symm] at e4
  rw [run7 (by simp)]
  simp [Tryd.f7, drwK_end, haw, hn1, hn2, hn3, hs, hn1', hn2', hn3', hs', hp, pgD, sgnD, e1, e2, e3, e4]
end Go.Am
end
section
namespace Go.Am
open Go Go.ChangeShapes Go.WideShapes Go.RowKit

def tiles (P : Program) (ok : TypeId → Bool) : List Field → Nat → Nat → Bool
  | [], o, tot => o == tot
  | f :: r, o, tot => f.offset == o && ok f.type && tiles P ok r (o + P.cellsOf f.type) tot
/-- Types whose readings are data: no pointer in them. -/
def plainT (P : Program) : Nat → TypeId → Bool
  | 0, _ => false
  | n + 1, t => match P.underlying t with
    | some .bool | some (.int _) | some .string => P.cellsOf t == 1
    | some (.slice e) => P.cellsOf t == 1 && plainT P n e && decide (1 ≤ P.cellsOf e)
    | some (.struct fs) => tiles P (plainT P n) fs.toList 0 (P.cellsOf t)
    | _ => false
def typed (P : Program) : Nat → TypeId → D → Prop
  | 0, _, _ => False
  | n + 1, t, d => match P.underlying t with
    | some .bool => ∃ b, d = .bool b
    | some (.int k) => ∃ z, d = .int k z ∧ (Lit.int k z).wf = true
    | some .string => ∃ s, d = .str s ∧ s.length ≤ maxLen
    | some (.slice e) => ∃ xs, d = .list xs ∧ xs.length ≤ maxLen ∧ ∀ x ∈ xs, typed P n e x
    | some (.struct fs) => ∃ ys : List D, d = .agg (ys.flatMap D.cells) ∧ ys.length = fs.size ∧ ∀ (i : Nat) (f : Field) (y : D), fs[i]? = some f → ys[i]? = some y → typed P n f.type y
    | _ => False

def Reads (w : World) (F : Nat → Prop) (d : D) (cs : List Value) : Prop :=
  d.cells.length = cs.length ∧ (∀ u ∈ cs, cell1 u = true) ∧ ∀ (i : Nat) c u, d.cells[i]? = some c → cs[i]? = some u → DRel w F c u ∧ c.flat = true

theorem Reads.one {w F d v} (h : DRel w F d v) (hf : d.flat = true) (hc : d.cells = [d]) : Reads w F d [v] := by
  refine ⟨by rw [hc]; rfl, fun u hu => ?_, fun i c u h1 h2 => ?_⟩
  · simp at hu; subst hu; exact h.one hf
  · rw [hc] at h1
    cases i with
    | zero => simp at h1 h2; subst h1; subst h2; exact ⟨h, hf⟩
    | succ i => simp at h1
/-- A value with these cells, and what it is. -/
def shaped (d : D) (cs : List Value) : Value :=
  match d with
  | .agg _ => .agg cs.toArray
  | _ => cs.headD undef
theorem Reads.rel {w F d cs} (h : Reads w F d cs) : DRel w F d (shaped d cs) := by
  obtain ⟨h1, h2, h3⟩ := h
  have key : d.flat = true → d.cells = [d] → DRel w F d (cs.headD undef) := by
    intro hf hc
    rw [hc] at h1 h3
    match cs, h1 with
    | [u], _ => exact (h3 0 d u rfl rfl).1
  cases d with
  | agg ds => exact DRel.ofCells h1 h2 (fun i c v hc hv => (h3 i c v hc hv).1)
  | _ => exact key rfl rfl
theorem Reads.shaped_cells {w F d cs} (h : Reads w F d cs) : (shaped d cs).cells.toList = cs := by
  obtain ⟨h1, h2, h3⟩ := h
  have key : d.cells = [d] → (cs.headD undef).cells.toList = cs := by
    intro hc
    rw [hc] at h1
    match cs, h1, h2 with
    | [u], _, h2 => simp only [List.headD]; rw [cells_of_cell1 (h2 u (by simp))]
  cases d with
  | agg ds => simp [shaped, Value.cells]
  | _ => exact key rfl

theorem cells?_get {w : World} {base : Nat} {a : Addr} {n : Nat} {cs : List Value} (h : w.cells? base a n = some cs) : cs.length = n ∧ ∀ j, j < n → w.cell? (a.add j) = cs[j]? := by
  unfold World.cells? at h
  split at h
  · exact ⟨by simpa using mapM_some_length h, fun j hj => mapM_some_get h j j (by simp [hj])⟩
  · cases h
theorem add_add {b off n j : Nat} : (Addr.add (Addr.add ⟨b, off, none⟩ n) j) = ⟨b, off + n + j, none⟩ := by
  unfold Addr.add
  split <;> split <;> simp_all
theorem cell?_lt {w : World} {a : Addr} {c : Value} (h : w.cell? a = some c) : a.block < w.heap.size ∧ a.spot = none := by
  unfold World.cell? at h
  split at h
  · rename_i hh
    refine ⟨(Array.getElem?_eq_some_iff.1 hh).1, ?_⟩
    split at h
    · cases h
    · rename_i hs; simpa using hs
  · cases h

/-- The fields of a struct, laid end to end. -/
theorem reads_fields {P : Program} {w : World} {F : Nat → Prop} {n : Nat} {cs : List Value} {ok : TypeId → Bool} : ∀ (fs : List Field) (o : Nat), tiles P ok fs o cs.length = true →
    (∀ f ∈ fs, ok f.type = true → ∃ d, typed P n f.type d ∧ Reads w F d ((cs.drop f.offset).take (P.cellsOf f.type)) ∧ d.cells.length = P.cellsOf f.type) →
    ∃ ys : List D, ys.length = fs.length ∧ (∀ (i : Nat) (f : Field) (y : D), fs[i]? = some f → ys[i]? = some y → typed P n f.type y) ∧ o ≤ cs.length ∧ Reads w F (.agg (ys.flatMap D.cells)) (cs.drop o)
  | [], o, ht, _ => by
    simp only [tiles, beq_iff_eq] at ht
    subst ht
    exact ⟨[], rfl, fun i f y hf => by simp at hf, Nat.le_refl _, by simp [D.cells], by simp, fun i c u h1 => by simp [D.cells] at h1⟩
  | f :: r, o, ht, hf => by
    simp only [tiles, Bool.and_eq_true, beq_iff_eq] at ht
    obtain ⟨⟨rfl, hok⟩, hr⟩ := ht
    obtain ⟨ys, h1, h2, h3, h4⟩ := reads_fields r _ hr (fun f' h' => hf f' (by simp [h']))
    obtain ⟨d, hd, hR, hl⟩ := hf f (by simp) hok
    refine ⟨d :: ys, by simp [h1], fun i f' y hi hy => ?_, by omega, ?_⟩
    · cases i with
      | zero => simp at hi hy; subst hi; subst hy; exact hd
      | succ i => simp at hi hy; exact h2 i f' y hi hy
    · have hsplit : cs.drop f.offset = (cs.drop f.offset).take (P.cellsOf f.type) ++ cs.drop (f.offset + P.cellsOf f.type) := by
        rw [← List.drop_drop, List.take_append_drop]
      obtain ⟨a1, a2, a3⟩ := hR
      obtain ⟨b1, b2, b3⟩ := h4
      have hcells : (D.agg ((d :: ys).flatMap D.cells)).cells = d.cells ++ (D.agg (ys.flatMap D.cells)).cells := by simp [D.cells]
      rw [hsplit]
      unfold Reads
      rw [hcells]
      refine ⟨by simp only [List.length_append, a1, b1], fun u hu => ?_, fun i c u hc hu => ?_⟩
      · rcases List.mem_append.1 hu with hu | hu
        · exact a2 u hu
        · exact b2 u hu
      · by_cases hi : i < d.cells.length
        · rw [List.getElem?_append_left hi] at hc
          rw [List.getElem?_append_left (by omega)] at hu
          exact a3 i c u hc hu
        · rw [List.getElem?_append_right (by omega)] at hc
          rw [List.getElem?_append_right (by omega)] at hu
          rw [← a1] at hu
          exact b3 _ c u hc hu

section
variable {H : Type} {enc : TypeId × Value → H} {P : Program} {w : World} {base : Nat} {sp : Nat → Bool} {held : Bool}

theorem read_data : ∀ (n : Nat) (m : Nat) (t : TypeId) (cs : List Value) (x : DataW H × List MemPlace), plainT P n t = true → DataW.trod enc P w base sp held m t cs = some x →
    ∃ d, typed P n t d ∧ Reads w (fun _ => False) d cs ∧ d.cells.length = P.cellsOf t
  | 0, _, _, _, _, hp, _ => by cases hp
  | n + 1, m, t, cs, x, hp, hx => by
    simp only [plainT] at hp
    simp only [typed]
    cases ht : P.underlying t with
    | none => rw [ht] at hp; cases hp
    | some u =>
      rw [ht] at hp
      cases u with
      | bool =>
        obtain ⟨b, rfl, _⟩ := DataW.trod_bool ht hx
        exact ⟨.bool b, ⟨b, rfl⟩, Reads.one (.bool b) rfl rfl, by simp at hp; simp [D.cells, hp]⟩
      | int k =>
        obtain ⟨z, rfl, _, hw⟩ := DataW.trod_int ht hx
        exact ⟨.int k z, ⟨z, rfl, hw⟩, Reads.one (.int k z) rfl rfl, by simp at hp; simp [D.cells, hp]⟩
      | string =>
        obtain ⟨s, rfl, _, hw⟩ := DataW.trod_string ht hx
        exact ⟨.str s.data.toList, ⟨_, rfl, by simpa using hw⟩, Reads.one (.str s _ rfl) rfl rfl, by simp at hp; simp [D.cells, hp]⟩
      | slice e =>
        simp only [Bool.and_eq_true, beq_iff_eq, decide_eq_true_eq] at hp
        obtain ⟨⟨h1, h2⟩, h3⟩ := hp
        rcases DataW.trod_slice ht hx with ⟨rfl, _⟩ | ⟨a, len, cap, elems, rest, m', rfl, rfl, _, hb, hlc, hcm, hel, hget, _⟩
        · exact ⟨.list [], ⟨[], rfl, by simp, by simp⟩, Reads.one (.nil none 0 (fun _ => rfl)) rfl rfl, by simp [D.cells, h1]⟩
        · have hq : ∀ i, ∃ p : D × Value, i < len → typed P n e p.1 ∧ DRel w (fun _ => False) p.1 p.2 ∧ p.1.size = P.cellsOf e ∧ a.block < w.heap.size ∧ a.spot = none ∧
              ∀ j c, p.2.cells[j]? = some c → w.cell? ⟨a.block, a.off + i * P.cellsOf e + j, none⟩ = some c := by
            intro i
            by_cases hi : i < len
            · have h4 := hget i hi
              have h5 : ∃ y, elems[i]? = some y := ⟨elems[i]'(by omega), by simp [show i < elems.length by omega]⟩
              obtain ⟨y, hy⟩ := h5
              rw [hy] at h4
              simp only [Option.bind_eq_some_iff] at h4
              obtain ⟨cs', hcs, hy'⟩ := h4
              obtain ⟨d, hd, hR, hl⟩ := read_data n m' e cs' y h2 hy'
              obtain ⟨g1, g2⟩ := cells?_get hcs
              have g3 : a.block < w.heap.size ∧ a.spot = none := by
                have h0 : ∃ i0, i0 < len ∧ i0 = 0 := ⟨0, by omega, rfl⟩
                have h40 := hget 0 (by omega)
                have h50 : ∃ y, elems[0]? = some y := ⟨elems[0]'(by omega), by simp [show 0 < elems.length by omega]⟩
                obtain ⟨y0, hy0⟩ := h50
                rw [hy0] at h40
                simp only [Option.bind_eq_some_iff] at h40
                obtain ⟨cs0, hcs0, _⟩ := h40
                obtain ⟨g01, g02⟩ := cells?_get hcs0
                have h6 := g02 0 (by omega)
                have h7 : ∃ c, cs0[0]? = some c := ⟨cs0[0]'(by omega), by simp [show 0 < cs0.length by omega]⟩
                obtain ⟨c, hc⟩ := h7
                rw [hc] at h6
                have h8 := cell?_lt h6
                simpa [Addr.add] using h8
              refine ⟨⟨d, shaped d cs'⟩, fun _ => ⟨hd, hR.rel, by rw [← D.cells_length]; exact hl, g3.1, g3.2, fun j c hj => ?_⟩⟩
              have h6 := hR.shaped_cells
              have h7 : cs'[j]? = some c := by rw [← h6]; simpa using hj
              have hjl : j < P.cellsOf e := by
                have := (List.getElem?_eq_some_iff.1 h7).1
                omega
              have h8 := g2 j hjl
              obtain ⟨ab, ao, ae⟩ := a
              obtain rfl : ae = none := g3.2
              rw [add_add] at h8
              rw [h8]; exact h7
            · exact ⟨⟨.bool false, undef⟩, fun h => absurd h hi⟩
          obtain ⟨f, hf⟩ := Classical.axiomOfChoice hq
          refine ⟨.list ((List.range len).map fun i => (f i).1), ⟨_, rfl, by simp; omega, fun x hx => ?_⟩, Reads.one ?_ rfl rfl, by simp [D.cells, h1]⟩
          · simp only [List.mem_map, List.mem_range] at hx
            obtain ⟨i, hi, rfl⟩ := hx
            exact (hf i hi).1
          · by_cases hl : len = 0
            · subst hl
              exact .nil (some a) cap (fun h => by cases h)
            · have h0 := hf 0 (by omega)
              obtain ⟨ab, ao, ae⟩ := a
              obtain rfl : ae = none := h0.2.2.2.2.1
              have hlen : ((List.range len).map fun i => (f i).1).length = len := by simp
              have := DRel.list (w := w) (F := fun _ => False) ((List.range len).map fun i => (f i).1) ab ao cap (P.cellsOf e) (fun i => (f i).2) (by rw [hlen]; exact hlc) h0.2.2.2.1 (fun h => h)
                (fun d hd => by
                  simp only [List.mem_map, List.mem_range] at hd
                  obtain ⟨i, hi, rfl⟩ := hd
                  exact (hf i hi).2.2.1)
                (fun i d hd => by
                  simp only [List.getElem?_map, Option.map_eq_some_iff] at hd
                  obtain ⟨i', hi', rfl⟩ := hd
                  have := List.getElem?_eq_some_iff.1 hi'
                  obtain ⟨hi2, hi3⟩ := this
                  simp at hi2 hi3
                  subst hi3
                  exact (hf _ hi2).2.1)
                (fun i j c hi hj => by
                  rw [hlen] at hi
                  exact (hf i hi).2.2.2.2.2 j c hj)
              rw [hlen] at this
              exact this
      | struct fs =>
        obtain ⟨xs, m', rfl, _, hl, hxs, hget⟩ := DataW.trod_struct ht hx
        simp only at hp
        rw [← hl] at hp
        obtain ⟨ys, h1, h2, _, h4⟩ := reads_fields (n := n) (w := w) (F := fun _ => False) fs.toList 0 hp (fun f hf hok => by
          obtain ⟨i, hi, he⟩ := List.mem_iff_getElem.1 hf
          have h5 := hget i f (by simp at hi he; simp [hi, he])
          have h6 : ∃ y, xs[i]? = some y := ⟨xs[i]'(by simp at hi; omega), by simp [show i < xs.length by simp at hi; omega]⟩
          obtain ⟨y, hy⟩ := h6
          rw [hy] at h5
          exact read_data n m' f.type _ y hok h5)
        refine ⟨.agg (ys.flatMap D.cells), ⟨ys, rfl, by simpa using h1, fun i f y hi hy => h2 i f y (by simpa using hi) hy⟩, by simpa using h4, ?_⟩
        have := h4.1
        rw [this]; simpa using hl
      | _ => cases hp
end
end Go.Am
end
section
namespace Go.Am
open Go Go.ChangeShapes Go.WideShapes Go.RowKit

section
variable {H : Type} {enc : TypeId × Value → H} {P : Program} {w : World} {base : Nat} {sp : Nat → Bool} {held : Bool}

theorem arg_rel {n : Nat} {t : TypeId} {v : Value} {d : DataW H} {ps : List MemPlace} {b0 : Nat} (hp : plainT P n t = true) (hv : Value.okWide P w .any b0 t v) (h : DataW.Trod enc P w base sp held t v d ps) :
    ∃ x, typed P n t x ∧ DRel w (fun _ => False) x v := by
  obtain ⟨m, hm⟩ := h
  obtain ⟨x, hx, hR, _⟩ := read_data n m t _ _ hp hm
  refine ⟨x, hx, ?_⟩
  have h1 := hR.rel
  cases n with
  | zero => cases hp
  | succ n =>
    simp only [plainT] at hp
    simp only [typed] at hx
    cases ht : P.underlying t with
    | none => rw [ht] at hp; cases hp
    | some u =>
      rw [ht] at hp hx
      cases u with
      | bool => obtain ⟨b, rfl⟩ := okWide_bool ht hv; obtain ⟨y, rfl⟩ := hx; exact h1
      | int k => obtain ⟨b, rfl⟩ := okWide_int ht hv; obtain ⟨y, rfl, _⟩ := hx; exact h1
      | string => obtain ⟨b, rfl⟩ := okWide_string ht hv; obtain ⟨y, rfl, _⟩ := hx; exact h1
      | slice e => obtain ⟨a, len, cap, rfl⟩ := okWide_slice ht hv; obtain ⟨y, rfl, _⟩ := hx; exact h1
      | struct fs =>
        simp only [Value.okWide, ht] at hv
        obtain ⟨cs, rfl, _⟩ := hv
        obtain ⟨ys, rfl, _⟩ := hx
        simpa [shaped, Value.cells] using h1
      | _ => cases hp

theorem args_rel {n b0 : Nat} : ∀ {ts : List TypeId} {vs : List Value} {ds : List (DataW H)} {ps : List MemPlace}, DataW.TrodAll enc P w base sp held ts vs ds ps → (∀ t ∈ ts, plainT P n t = true) →
    (∀ (j : Nat) t v, ts[j]? = some t → vs[j]? = some v → Value.okWide P w .any b0 t v) →
    ∃ xs : List D, xs.length = vs.length ∧ xs.length = ts.length ∧ (∀ (i : Nat) t x, ts[i]? = some t → xs[i]? = some x → typed P n t x) ∧ ∀ (i : Nat) x v, xs[i]? = some x → vs[i]? = some v → DRel w (fun _ => False) x v
  | [], [], [], _, _, _, _ => ⟨[], rfl, rfl, fun i t x h => by simp at h, fun i x v h => by simp at h⟩
  | t :: ts, v :: vs, d :: ds, ps, h, hp, hv => by
    obtain ⟨p, q, h1, h2, _⟩ := h
    obtain ⟨x, hx, hr⟩ := arg_rel (hp t (by simp)) (hv 0 t v rfl rfl) h1
    obtain ⟨xs, g1, g2, g3, g4⟩ := args_rel h2 (fun t ht => hp t (by simp [ht])) (fun j t v h3 h4 => hv (j + 1) t v (by simpa using h3) (by simpa using h4))
    refine ⟨x :: xs, by simp [g1], by simp [g2], fun i t' x' h3 h4 => ?_, fun i x' v' h3 h4 => ?_⟩
    · cases i with
      | zero => simp at h3 h4; subst h3; subst h4; exact hx
      | succ i => simp at h3 h4; exact g3 i t' x' h3 h4
    · cases i with
      | zero => simp at h3 h4; subst h3; subst h4; exact hr
      | succ i => simp at h3 h4; exact g4 i x' v' h3 h4
  | [], _ :: _, _, _, h, _, _ => by cases h
  | [], [], _ :: _, _, h, _, _ => by cases h
  | _ :: _, [], _, _, h, _, _ => by cases h
  | _ :: _, _ :: _, [], _, h, _, _ => by cases h

theorem trodAll_stays (hl : laidOutB P = true) {W W' : World} (hb : Below W.heap.size W W') : ∀ {ts : List TypeId} {vs : List Value} {ds : List (DataW H)} {ps : List MemPlace}, DataW.TrodAll enc P W 0 (fun _ => true) true ts vs ds ps →
    (∀ t ∈ ts, P.readableRec t = true ∧ t < P.types.size) → (∀ x ∈ ps, x.block < W.heap.size) → DataW.TrodAll enc P W' 0 (fun b => decide (b < W.heap.size)) true ts vs ds ps
  | [], [], [], _, h, _, _ => h
  | t :: ts, v :: vs, d :: ds, ps, h, hp, hlt => by
    obtain ⟨p, q, h1, h2, rfl⟩ := h
    exact ⟨p, q, Below.trod hl (hp t (by simp)).1 (hp t (by simp)).2 h1 hb (fun x hx => hlt x (by simp [hx])), trodAll_stays hl hb h2 (fun t ht => hp t (by simp [ht])) (fun x hx => hlt x (by simp [hx])), rfl⟩
  | [], _ :: _, _, _, h, _, _ => by cases h
  | [], [], _ :: _, _, h, _, _ => by cases h
  | _ :: _, [], _, _, h, _, _ => by cases h
  | _ :: _, _ :: _, [], _, h, _, _ => by cases h
end

section
variable {P : Program} {n : Nat} {t : TypeId} {d : D}
def fieldsT (P : Program) (n : Nat) : List Field → List D → Prop
  | [], ds => ds = []
  | f :: r, ds => ∃ y ds', typed P n f.type y ∧ fieldsT P n r ds' ∧ ds = y.cells ++ ds'
theorem fieldsT_of : ∀ {fs : List Field} {ys : List D}, ys.length = fs.length → (∀ (i : Nat) (f : Field) (y : D), fs[i]? = some f → ys[i]? = some y → typed P n f.type y) → fieldsT P n fs (ys.flatMap D.cells)
  | [], [], _, _ => rfl
  | f :: fs, y :: ys, h, hf => ⟨y, ys.flatMap D.cells, hf 0 f y rfl rfl, fieldsT_of (by simpa using h) (fun i f y h1 h2 => hf (i + 1) f y (by simpa using h1) (by simpa using h2)), by simp⟩
theorem typed_int {k : IntKind} (ht : P.underlying t = some (.int k)) (h : typed P (n + 1) t d) : ∃ z, d = .int k z ∧ (Lit.int k z).wf = true := by simpa only [typed, ht] using h
theorem typed_bool (ht : P.underlying t = some .bool) (h : typed P (n + 1) t d) : ∃ b, d = .bool b := by simpa only [typed, ht] using h
theorem typed_string (ht : P.underlying t = some .string) (h : typed P (n + 1) t d) : ∃ s, d = .str s ∧ s.length ≤ maxLen := by simpa only [typed, ht] using h
theorem typed_slice {e : TypeId} (ht : P.underlying t = some (.slice e)) (h : typed P (n + 1) t d) : ∃ xs, d = .list xs ∧ xs.length ≤ maxLen ∧ ∀ x ∈ xs, typed P n e x := by simpa only [typed, ht] using h
theorem typed_struct {fs : Array Field} (ht : P.underlying t = some (.struct fs)) (h : typed P (n + 1) t d) : ∃ ds, d = .agg ds ∧ fieldsT P n fs.toList ds := by
  simp only [typed, ht] at h
  obtain ⟨ys, rfl, h1, h2⟩ := h
  exact ⟨_, rfl, fieldsT_of (by simpa using h1) (fun i f y h3 h4 => h2 i f y (by simpa using h3) h4)⟩
end
def ctxB (X : Ctx) : Bool :=
  (List.range X.P.funcs.size).all (fun g => match X.P.funcs[g]? with | some fn => fn.name != "runtime.NumGoroutine" && (match fn.body with | some c => codeDst X g fn.ntmps c | none => true) | none => true) && X.P.follows .mixedOrders && X.ov.isNone
def OrcOk (X : Ctx) (g : FuncId) (h : List AV → Option AV) : Prop := callable X.P g = true ∧ ∀ (avs : List AV) (a : AV), h avs = some a → ∀ (φ : Phi) (F : Nat → Prop) (w : World) (vs : Array Value), GlobRel w F X.gl → (∀ b, F b → b < w.heap.size) → avs.length = vs.size →
    (∀ (i : Nat) x v, avs[i]? = some x → vs[i]? = some v → AVRel φ w F x v) → Calls X.P g vs w fun e w' => ∃ v, e = .returned v ∧ Below w.heap.size w w' ∧ AVRel φ w' F a v
theorem OrcOk.lift {X : Ctx} {g : FuncId} {h : List D → Option D} (hh : callable X.P g = true ∧ ∀ (ds : List D) (d : D), h ds = some d → ∀ (F : Nat → Prop) (w : World) (vs : Array Value), GlobRel w F X.gl → (∀ b, F b → b < w.heap.size) → ds.length = vs.size →
    (∀ (i : Nat) x v, ds[i]? = some x → vs[i]? = some v → DRel w F x v) → Calls X.P g vs w fun e w' => ∃ v, e = .returned v ∧ Below w.heap.size w w' ∧ DRel w' F d v) : OrcOk X g (liftO h) := by
  refine ⟨hh.1, fun avs a ha φ F w vs hgl hFb hl hr => ?_⟩
  unfold liftO at ha
  cases hds : toDs avs with
  | none => rw [hds] at ha; cases ha
  | some ds =>
    rw [hds] at ha
    obtain ⟨d, hd, rfl⟩ := Option.map_eq_some_iff.1 ha
    have he := toDs_eq hds
    subst he
    refine (hh.2 ds d hd F w vs hgl hFb (by simpa using hl) (fun i x v hx hv => ?_)).mono ?_
    · have := hr i (.d x) v (by simp [hx]) hv
      cases this with | d _ _ h => exact h
    · rintro e w' ⟨v, rfl, hb, hv⟩
      exact ⟨v, rfl, hb, .d _ _ hv⟩
theorem CtxOk.of {X : Ctx} (h : ctxB X = true) (ho : ∀ g h, X.orc g = some h → OrcOk X g h) : CtxOk X := by
  simp only [ctxB, Bool.and_eq_true, List.all_eq_true, List.mem_range] at h
  have key : ∀ (g : FuncId) (fn : Func), X.P.funcs[g]? = some fn → fn.name ≠ "runtime.NumGoroutine" ∧ (match fn.body with | some c => codeDst X g fn.ntmps c | none => true) = true := by
    intro g fn hg
    have h1 := h.1.1 g (Array.getElem?_eq_some_iff.1 hg).1
    rw [hg] at h1
    simpa using h1
  refine ⟨by simpa using h.2, fun g fn hg => (key g fn hg).1, fun g fn c hg hb => ?_, h.1.2, ho⟩
  have := (key g fn hg).2
  rw [hb] at this
  exact this

theorem list_map_of {α : Type} {f : α → D} : ∀ {xs : List D}, (∀ x ∈ xs, ∃ r, x = f r) → ∃ rs : List α, xs = rs.map f
  | [], _ => ⟨[], rfl⟩
  | x :: xs, h => by
    obtain ⟨r, rfl⟩ := h x (by simp)
    obtain ⟨rs, rfl⟩ := list_map_of (xs := xs) (fun y hy => h y (by simp [hy]))
    exact ⟨r :: rs, rfl⟩

def fr0 : Fr := ⟨fun _ => False, []⟩
/-- A call at data alone: it ends as the evaluator says; nothing old has turned. -/
theorem law_calls {X : Ctx} (hX : CtxOk X) {f : FuncId} {b : Bool} {xs : List D} (hc : callT X f (xs.map .d) [] = some (.ret (.d (.bool b)), [])) {W : World} {args : Array Value} (hl : xs.length = args.size)
    (hr : ∀ (i : Nat) x v, xs[i]? = some x → args[i]? = some v → DRel W (fun _ => False) x v) (hg : GlobRel W (fun _ => False) X.gl) :
    Calls X.P f args W fun e W' => e = .returned (.bool b) ∧ Below W.heap.size W W' := by
  have h := (callT_ok hX f _ _ _ _ hc).2
  have hF : ∀ b, Fo fr0 (fun _ => none) (inM 0 []) b → False := by
    intro b hb
    rcases hb with hb | ⟨e, he, _⟩
    · exact hb
    · simp [inM] at he
  refine (h (fun _ => none) fr0 W args ⟨by simp [inM], fun k L hL => by simp at hL, fun e he => by simp [inM] at he, fun e he => by simp [inM] at he, fun b ⟨e, he, _⟩ => by simp [inM] at he, fun b hb => hb.elim⟩
    (hg.mono (fun _ _ _ => rfl) (Nat.le_refl _) (fun b _ hb => hF b hb)) (by simpa using hl) (fun i x v hx hv => ?_)).mono ?_
  · simp only [List.getElem?_map, Option.map_eq_some_iff] at hx
    obtain ⟨d, hd, rfl⟩ := hx
    exact .d d v ((hr i d v hd hv).mono (fun _ _ _ => rfl) (Nat.le_refl _) (fun b _ hb => hF b hb))
  · rintro e W' ⟨φ', m', out, ⟨rfl, rfl⟩, hm, hk, ho⟩
    refine ⟨?_, hk.os, hk.tape, hk.output, hk.size, fun k hk' => hk.old k hk' (fun ⟨e, he, _⟩ => by simp [inM] at he)⟩
    cases e with
    | returned v =>
      simp only [OutRel] at ho
      cases ho with
      | d x v h => cases h; rfl
    | _ => exact ho.elim

section
variable {H : Type} {enc : TypeId × Value → H}
/-- The contract of a law's row. -/
theorem law_contract {X : Ctx} (hX : CtxOk X) {f : FuncId} {fn : Func} {s : ChangeSpec} {apart fresh handsOn : Bool} {n : Nat} {tb : TypeId}
    (hlaid : laidOutB X.P = true) (hts : (fn.params.toList.all fun t => X.P.readableRec t && decide (t < X.P.types.size) && plainT X.P n t) = true)
    (hres : fn.resultTypes = #[tb]) (htb : X.P.underlying tb = some .bool) (hvars : s.vars = [])
    (hspec : ∀ ds : List (DataW H), ds.length = fn.params.size → s.fn H ds = { results := [.lit (.bool true)], args := ds })
    {W : World} {base : Nat} {args : Array Value} {ds gs : List (DataW H)} {before : List MemPlace}
    (hval : ∀ (j : Nat) t v, fn.params[j]? = some t → args[j]? = some v → Value.okWide X.P W .any base t v)
    (hW : DataW.Whole enc X.P fn.params.toList s.vars apart W args.toList ds gs before) (hg : GlobRel W (fun _ => False) X.gl)
    (hrun : ∀ xs : List D, xs.length = fn.params.size → (∀ (i : Nat) t x, fn.params[i]? = some t → xs[i]? = some x → typed X.P n t x) → callT X f (xs.map .d) [] = some (.ret (.d (.bool true)), [])) :
    Calls X.P f args W fun e W' => ∃ v, e = .returned v ∧ s.post enc X.P fn apart fresh handsOn false W args v W' := by
  have hW' := hW
  obtain ⟨p, q, hA, hV, rfl, hfz, hnd⟩ := hW
  rw [hvars] at hV
  obtain ⟨rfl, rfl⟩ : gs = [] ∧ q = [] := by
    cases gs with
    | nil => exact ⟨rfl, hV⟩
    | cons g r => exact absurd hV (by intro h; cases h)
  simp only [List.all_eq_true, Bool.and_eq_true, decide_eq_true_eq] at hts
  obtain ⟨xs, h1, h2, h3, h4⟩ := args_rel (n := n) (b0 := base) hA (fun t ht => (hts t ht).2) (fun j t v ht hv => hval j t v (by simpa using ht) (by simpa using hv))
  have hlen := trodAll_length hA
  refine (law_calls hX (hrun xs (by simpa using h2) (fun i t x ht hx => h3 i t x (by simpa using ht) hx)) (by simpa using h1) (fun i x v hx hv => h4 i x v hx (by simpa using hv)) hg).mono ?_
  rintro e W' ⟨rfl, hb⟩
  have hlt : ∀ x ∈ p, x.block < W.heap.size := fun x hx => by simpa using hW'.lt x (by simpa using hx)
  have hs : s.fn H (ds ++ []) = { results := [.lit (.bool true)], args := ds } := by
    rw [List.append_nil]; exact hspec ds (by simpa using hlen.2)
  refine ⟨_, rfl, ds, [], p ++ [], [], p, [], hW', ?_, ?_, ?_, hb.frame _, fun h => by cases h⟩
  · rw [hs, hres]
    exact trodAll_mk1 (shut_bool htb true)
  · rw [hs]
    exact trodAll_stays hlaid hb hA (fun t ht => (hts t ht).1) hlt
  · rw [hs, hvars]
    rfl
end
end Go.Am
end
section
namespace Go.Am
open Go
set_option maxRecDepth 20000
def rhoF : Nat → Nat
  | 99 => 67
  | 143 => 69
  | 206 => 106
  | 217 => 107
  | 219 => 108
  | 224 => 137
  | 225 => 136
  | 266 => 135
  | 267 => 138
  | 314 => 157
  | _ => 0
def rhoT : Nat → Nat
  | 3 => 3
  | 4 => 4
  | 5 => 5
  | 9 => 9
  | 46 => 196
  | 51 => 193
  | 146 => 214
  | _ => 0
def rhoG : Nat → Nat
  | 1 => 1
  | _ => 0
def rho : Go.Shelf.Ren := ⟨rhoF, rhoT, rhoG⟩
theorem lays143 : Go.Proofs.Lays.n143 Go.Proofs.Tryd.prog rho where
  mixed := by kernel_rfl
  f143 := by kernel_rfl
  f217 := by kernel_rfl
  f219 := by kernel_rfl
  f224 := by kernel_rfl
  f225 := by kernel_rfl
  f266 := by kernel_rfl
  f267 := by kernel_rfl
  f314 := by kernel_rfl
  t3 := by kernel_rfl
  a3 := by intro w; kernel_rfl
  z3 := by intro w; kernel_rfl
  v3 := by intro w; kernel_rfl
  t4 := by kernel_rfl
  a4 := by intro w; kernel_rfl
  z4 := by intro w; kernel_rfl
  v4 := by intro w; kernel_rfl
  t5 := by kernel_rfl
  a5 := by intro w; kernel_rfl
  z5 := by intro w; kernel_rfl
  v5 := by intro w; kernel_rfl
  t9 := by kernel_rfl
  a9 := by intro w; kernel_rfl
  z9 := by intro w; kernel_rfl
  v9 := by intro w; kernel_rfl
  t46 := by kernel_rfl
  a46 := by intro w; kernel_rfl
  z46 := by intro w; kernel_rfl
  v46 := by intro w; kernel_rfl
  t51 := by kernel_rfl
  a51 := by intro w; kernel_rfl
  z51 := by intro w; kernel_rfl
  v51 := by intro w; kernel_rfl
  t146 := by kernel_rfl
  a146 := by intro w; kernel_rfl
  z146 := by intro w; kernel_rfl
  v146 := by intro w; kernel_rfl
  g1 := by kernel_rfl
theorem lays217 : Go.Proofs.Lays.n217 Go.Proofs.Tryd.prog rho where
  mixed := by kernel_rfl
  f217 := by kernel_rfl
  f266 := by kernel_rfl
  t3 := by kernel_rfl
  a3 := by intro w; kernel_rfl
  z3 := by intro w; kernel_rfl
  v3 := by intro w; kernel_rfl
  t5 := by kernel_rfl
  a5 := by intro w; kernel_rfl
  z5 := by intro w; kernel_rfl
  v5 := by intro w; kernel_rfl
  t9 := by kernel_rfl
  a9 := by intro w; kernel_rfl
  z9 := by intro w; kernel_rfl
  v9 := by intro w; kernel_rfl
theorem lays99 : Go.Proofs.Lays.n99 Go.Proofs.Tryd.prog rho where
  mixed := by kernel_rfl
  f99 := by kernel_rfl
  f206 := by kernel_rfl
  t3 := by kernel_rfl
  a3 := by intro w; kernel_rfl
  z3 := by intro w; kernel_rfl
  v3 := by intro w; kernel_rfl
  t4 := by kernel_rfl
  a4 := by intro w; kernel_rfl
  z4 := by intro w; kernel_rfl
  v4 := by intro w; kernel_rfl
  t9 := by kernel_rfl
  a9 := by intro w; kernel_rfl
  z9 := by intro w; kernel_rfl
  v9 := by intro w; kernel_rfl
end Go.Am
end
section
namespace Go.Am
open Go Go.Proofs
variable [Inhabited Mx2]
set_option maxRecDepth 20000
theorem callable_of {P : Program} {g : FuncId} {fn : Func} (hf : P.funcs[g]? = some fn) (hb : fn.body.isSome = true) (hn : (fn.name == "runtime.NumGoroutine") = false) : callable P g = true := by
  unfold callable; rw [hf]; simp only [hb, hn]; rfl
theorem dstr_of {w F s v} (h : DRel w F (.str s) v) : ∃ b : ByteArray, v = .string b ∧ b.data.toList = s := by
  cases h with
  | str b s h => exact ⟨b, rfl, h⟩
theorem dint_of {w F k n v} (h : DRel w F (.int k n) v) : v = .int k n := by cases h; rfl
theorem two_args {ds : List D} {a b : D} {w F} {vs : Array Value} (hd : ds = [a, b]) (hl : ds.length = vs.size) (hr : ∀ (i : Nat) x v, ds[i]? = some x → vs[i]? = some v → DRel w F x v) :
    ∃ x y, vs = #[x, y] ∧ DRel w F a x ∧ DRel w F b y := by
  subst hd
  obtain ⟨l⟩ := vs
  match l, hl with
  | [x, y], _ => exact ⟨x, y, rfl, hr 0 a x rfl rfl, hr 1 b y rfl rfl⟩
theorem mx_cell {w : World} {F} (hg : GlobRel w F gl0) : ∃ m, w.cell? ⟨1, 0, none⟩ = some (.int .i64 m) := by
  obtain ⟨_, _, x', h1, h2⟩ := hg (1, .int .i64 (id (α := Int) (default : Mx2))) (by simp [gl0])
  generalize id (α := Int) (default : Mx2) = z at h1
  obtain rfl := dint_of h1
  exact ⟨z, h2 0 _ (by simp [Value.cells])⟩
theorem hp_ok : OrcOk ctx 67 (liftO hpO) := by
  refine OrcOk.lift ⟨callable_of Tryd.func67 (by kernel_rfl) (by kernel_rfl), fun ds d hd F w vs hg hFb hl hr => ?_⟩
  unfold hpO at hd
  split at hd
  · rename_i s p
    obtain ⟨x, y, rfl, h1, h2⟩ := two_args rfl hl hr
    obtain ⟨a, rfl, rfl⟩ := dstr_of h1
    obtain ⟨b, rfl, rfl⟩ := dstr_of h2
    refine (Any.strings_HasPrefix lays99 a b w).mono ?_
    rintro e w' ⟨rfl, rfl⟩
    cases hd
    exact ⟨_, rfl, Go.RowKit.Below.refl _ _, .bool _⟩
  · cases hd
theorem ib_ok : OrcOk ctx 107 (liftO ibO) := by
  refine OrcOk.lift ⟨callable_of Tryd.func107 (by kernel_rfl) (by kernel_rfl), fun ds d hd F w vs hg hFb hl hr => ?_⟩
  unfold ibO at hd
  split at hd
  · rename_i s p
    obtain ⟨x, y, rfl, h1, h2⟩ := two_args rfl hl hr
    obtain ⟨a, rfl, rfl⟩ := dstr_of h1
    obtain rfl := dint_of h2
    refine (Any.stringslite_IndexByte lays217 a _ w).mono ?_
    rintro e w' ⟨rfl, rfl⟩
    cases hd
    exact ⟨_, rfl, Go.RowKit.Below.refl _ _, .int _ _⟩
  · cases hd
theorem idx_ok : OrcOk ctx 69 (liftO idxO) := by
  refine OrcOk.lift ⟨callable_of Tryd.func69 (by kernel_rfl) (by kernel_rfl), fun ds d hd F w vs hg hFb hl hr => ?_⟩
  unfold idxO at hd
  split at hd
  · rename_i s p
    split at hd
    · rename_i hs
      obtain ⟨x, y, rfl, h1, h2⟩ := two_args rfl hl hr
      obtain ⟨a, rfl, rfl⟩ := dstr_of h1
      obtain ⟨b, rfl, rfl⟩ := dstr_of h2
      obtain ⟨m, hm⟩ := mx_cell hg
      refine (Any.strings_Index lays143 a b m w (by simpa using hs) hm).mono ?_
      rintro e w' ⟨rfl, rfl⟩
      cases hd
      exact ⟨_, rfl, Go.RowKit.Below.refl _ _, .int _ _⟩
    · cases hd
  · cases hd
theorem orcs_ok : ∀ g h, ctx.orc g = some h → OrcOk ctx g h := by
  intro g h hg
  have hg' : orc0 g = some h := hg
  unfold orc0 at hg'
  split at hg'
  all_goals first | (cases hg'; first | exact hp_ok | exact ib_ok | exact idx_ok) | cases hg'
end Go.Am
end
section
namespace Go.Am
open Go

theorem laid_mem {P : Program} {w : World} {n : String} {d : DataW Unit} : ∀ {l : List (String × DataW Unit)} {ps : List MemPlace}, DataW.LaidVars P w l ps → (n, d) ∈ l →
    ∃ g t cs fuel p, P.globalNamed n = some g ∧ (P.globals[g]?).map (·.type) = some t ∧ w.var? P n = some cs ∧ DataW.trod (fun _ => ()) P w 0 (fun _ => true) false fuel t cs.toList = some (d, p)
  | [], _, _, hm => by simp at hm
  | (n', d') :: r, ps, ⟨g, t, cs, fuel, p, q, h1, h2, h3, h4, h5, _⟩, hm => by
    rcases List.mem_cons.1 hm with hm | hm
    · cases hm
      exact ⟨g, t, cs, fuel, p, h1, h2, h3, h4⟩
    · exact laid_mem h5 hm

/-- An array of numbers, read. -/
theorem trod_ints {H : Type} {enc : TypeId × Value → H} {P : Program} {w : World} {base : Nat} {sp : Nat → Bool} {held : Bool} {fuel : Nat} {t e : TypeId} {n : Nat} {k : IntKind} {cs : List Value} {ds : List (DataW H)} {p : List MemPlace}
    (ha : P.underlying t = some (.array n e)) (he : P.underlying e = some (.int k)) (hc : P.cellsOf e = 1) (h : DataW.trod enc P w base sp held fuel t cs = some (.agg ds, p)) :
    cs.length = P.cellsOf t ∧ ds.length = n ∧ ∀ i, i < n → ∃ z, cs[i]? = some (.int k z) ∧ ds[i]? = some (.lit (.int k z)) := by
  cases fuel with
  | zero => simp [DataW.trod] at h
  | succ m =>
    unfold DataW.trod at h
    rw [ha] at h
    simp only at h
    split at h
    · rename_i hl
      simp only [Option.map_eq_some_iff, Prod.mk.injEq, DataW.agg.injEq] at h
      obtain ⟨xs, hx, rfl, _⟩ := h
      have h1 : xs.length = n := by simpa using mapM_some_length hx
      refine ⟨hl, by simpa using h1, fun i hi => ?_⟩
      have h2 := mapM_some_get hx i i (by simp [hi])
      have h3 : i < xs.length := by omega
      have h4 : xs[i]? = some xs[i] := by simp [h3]
      rw [h4, hc] at h2
      obtain ⟨z, h5, h6, _⟩ := DataW.trod_int he h2
      refine ⟨z, ?_, by simp [h4, h6]⟩
      have h7 := congrArg (·[0]?) h5
      simpa [List.getElem?_take, List.getElem?_drop] using h7
    · cases h

/-- A table of numbers that the row lists: its cells. -/
theorem glob_of_laid {P : Program} {W : World} {l : List (String × DataW Unit)} {name : String} {g : Nat} {t e : TypeId} {n : Nat} {k : IntKind} {zs : List Int}
    (hl : laidMet P l W) (hm : (name, DataW.agg (zs.map fun z => .lit (.int k z))) ∈ l) (hg : P.globalNamed name = some g) (ht : (P.globals[g]?).map (·.type) = some t)
    (ha : P.underlying t = some (.array n e)) (he : P.underlying e = some (.int k)) (hc : P.cellsOf e = 1) (hn : 0 < n) (hct : P.cellsOf t = n) :
    (g < W.heap.size ∧ ∀ cs, D.agg (zs.map fun z => .int k z) = .agg cs → ∃ cur e fz, W.heap[g]? = some (.cells cur e fz) ∧ cur.size = cs.length) ∧ ∃ x', DRel W (fun _ => False) (.agg (zs.map fun z => .int k z)) x' ∧ ∀ (i : Nat) (c : Value), x'.cells[i]? = some c → W.cell? ⟨g, i, none⟩ = some c := by
  obtain ⟨ps, hv, _⟩ := hl
  obtain ⟨g', t', cs, fuel, p, h1, h2, h3, h4⟩ := laid_mem hv hm
  obtain rfl := Option.some.inj (hg.symm.trans h1)
  obtain rfl := Option.some.inj (ht.symm.trans h2)
  obtain ⟨h50, h5, h6⟩ := trod_ints ha he hc h4
  rw [hct] at h50
  simp at h5
  have h7 : ∀ i z, zs[i]? = some z → W.cell? ⟨g, i, none⟩ = some (.int k z) := by
    intro i z hz
    have hi : i < n := by
      have := (List.getElem?_eq_some_iff.1 hz).1
      omega
    obtain ⟨z', h8, h9⟩ := h6 i hi
    simp [hz] at h9
    subst h9
    rw [World.var?_cell hg h3 i]
    simpa using h8
  refine ⟨⟨?_, ?_⟩, .agg (zs.map fun z => Value.int k z).toArray, ?_, ?_⟩
  · have hz : ∃ z, zs[0]? = some z := ⟨zs[0]'(by omega), by simp [show 0 < zs.length by omega]⟩
    obtain ⟨z, hz⟩ := hz
    exact (cell?_lt (h7 0 z hz)).1
  · rintro cs' hcs'
    obtain rfl := D.agg.inj hcs'
    unfold World.var? at h3
    rw [hg] at h3
    simp only [Option.bind_some] at h3
    split at h3
    · rename_i cur e' fz hh
      cases h3
      exact ⟨_, _, _, hh, by simp at h5 h50 ⊢; omega⟩
    · cases h3
  · refine DRel.ofCells (by simp) (fun v hv => ?_) (fun i c v hc' hv => ?_)
    · simp at hv
      obtain ⟨z, _, rfl⟩ := hv
      rfl
    · simp only [List.getElem?_map, Option.map_eq_some_iff] at hc' hv
      obtain ⟨z, hz, rfl⟩ := hc'
      obtain ⟨z', hz', rfl⟩ := hv
      rw [hz] at hz'
      cases hz'
      exact .int k z
  · intro i c hi
    simp [Value.cells] at hi
    obtain ⟨z, hz, rfl⟩ := hi
    exact h7 i z hz
end Go.Am
end
section
namespace Go.Am
open Go
variable {H : Type} {enc : TypeId × Value → H}
theorem handed_of {a : Assume} {C : Checked} {os : Os} {f : FuncId} {fn : Func} {s : ChangeSpec} {conds : List PathCond} {apart fresh handsOn again : Bool} {X : World → Array Value → Prop}
    (hX : ∀ (w w' : World) (args : Array Value), w.heap = w'.heap → X w args → X w' args)
    (own : ownKnob C.prog.godebug = none) (started : os.Started) (noInit : C.prog.inits.idxOf? f = none) (hfn : C.prog.funcs[f]? = some fn)
    (witness : ∃ (w : World) (tape : Tape) (i : Input), w.os = os ∧ (w.forCall tape i).Shaped C.prog ∧ i.vars = [] ∧ Input.okWide C.prog (w.forCall tape i) .any w.heap.size f i ∧
      ((s.pre enc C.prog fn conds apart (w.forCall tape i).memory i.args ∧ X (w.forCall tape i).memory i.args) ∧ sizedMet enc C.prog fn (OpenSpec.ofChange s) apart (w.forCall tape i).memory i.args) ∧ a.holds C.prog (lone (Frame.enter C.prog f i.args .normal) [] (w.forCall tape i)))
    (contract : ∀ (W : World) (base : Nat) (args : Array Value) (ds gs : List (DataW H)) (before : List MemPlace),
      (∀ (j : Nat) t v, fn.params[j]? = some t → args[j]? = some v → Value.okWide C.prog W .any base t v) →
      DataW.Whole enc C.prog fn.params.toList s.vars apart W args.toList ds gs before → X W args → W.ShapedOpen C.prog →
      Calls C.prog f args W fun e W' => ∃ v, e = .returned v ∧ s.post enc C.prog fn apart fresh handsOn again W args v W') :
    ReturnsInHanded a C os f .any (fun w args => (s.pre enc C.prog fn conds apart w args ∧ X w args) ∧ sizedMet enc C.prog fn (OpenSpec.ofChange s) apart w args) (s.post enc C.prog fn apart fresh handsOn again) := by
  refine returnsInHanded_of_calls own started noInit witness ?_
  intro w tape i _ hsh _ hok hpre _
  obtain ⟨_, _, _, fn', hfn', _, _, _, _, hval⟩ := hok
  have e : fn' = fn := Option.some.inj (hfn'.symm.trans hfn)
  subst e
  obtain ⟨⟨⟨ds, gs, before, hw, hc⟩, hx⟩, hz⟩ := hpre
  have hw' := DataW.Whole.of_heap (w' := w.forCall tape i) (by rfl) hw
  refine (contract (w.forCall tape i) w.heap.size i.args ds gs before hval hw' (hX _ _ _ (by rfl) hx) hsh).mono fun e W' ⟨v, he, hp⟩ => ?_
  subst he
  exact ChangeSpec.post_blind hp
end Go.Am
end

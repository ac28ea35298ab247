/-
  The tied card of KindsRight in its second form is proved: where the program that is given holds at most 1048576 values and letters, the law returns true and leaves its argument as it was. Conditions: those of the row itself (the listed package variables start as the program lays them; the bound).
-/
import Derived.Test.YtpgcdbhjmlcfaaaGreatDoorP8
import Derived.Test.YtpgcdbhjmlcfaaaGreatDoorRows
import Derived.Test.YtpgcdbhjmlcfaaaGreatDoorCards
import Derived.Test.YtpgcdbhjmlcfaaaGreatDoorTie
import Derived.JoinedOf
import Derived.LaidMore
import Derived.LaidHandle
import Derived.SevenTiedAt
set_option linter.all false
namespace Go.Proofs.YtpgcdbhjmlcfaaaGreatDoor
open Go Go.Am
set_option maxRecDepth 100000
theorem Tryz.own : ownKnob Tryz.prog.godebug = none := by kernel_rfl
theorem Tryz.laidOut : laidOutB Tryz.prog = true := by kernel_rfl
theorem ctx_ok [Inhabited Mx2] : CtxOk ctx := CtxOk.of (by kernel_rfl) orcs_ok
theorem door_met (os : Os) (args : Array Value) : laidMetH Tryz.prog Rows.kindsRightUptoRow.laid ((World.doorLaid Tryz.prog 33 os).forCall (fun _ _ => 0) ⟨#[], args, []⟩).memory :=
 laidMetH_of_parts3 (fuel := 8) (laidMet_of_run' 8 (by kernel_rfl) (by kernel_rfl)) (by kernel_rfl) (by kernel_rfl)
mutual
theorem bulk_le {H : Type} : ∀ d : DataW H, bulkW d ≤ Rows.uptoBulk d
 | .lit l => by cases l <;> simp [bulkW, Rows.uptoBulk]
 | .nil => by simp [bulkW, Rows.uptoBulk]
 | .ptr d => by simp [bulkW, Rows.uptoBulk]
 | .slice e s => by
  have h := bulks_le e
  simp only [bulkW, Rows.uptoBulk]; omega
 | .agg p => by
  have h := bulks_le p
  simp only [bulkW, Rows.uptoBulk]; omega
 | .iface t d => by simp [bulkW, Rows.uptoBulk]
 | .map es => by simp [bulkW, Rows.uptoBulk]
 | .held h => by simp [bulkW, Rows.uptoBulk]
theorem bulks_le {H : Type} : ∀ l : List (DataW H), bulkWs l ≤ Rows.uptoBulkAll l
 | [] => Nat.le_refl _
 | d :: r => by
  have h1 := bulk_le d
  have h2 := bulks_le r
  simp only [bulkWs, Rows.uptoBulkAll]; omega
end
theorem bulkWs_app {H : Type} : ∀ a b : List (DataW H), bulkWs a ≤ bulkWs (a ++ b)
 | [], b => Nat.zero_le _
 | x :: a, b => by
  have := bulkWs_app a b
  simp only [List.cons_append, bulkWs]; omega
theorem small_bulk {H : Type} {l : List (DataW H)} (hk : Rows.uptoSmall H l = true) : bulkWs l ≤ 1048576 := by
 have h : Rows.uptoBulkAll l ≤ 1048576 := of_decide_eq_true hk
 have := bulks_le l
 omega
theorem space_in : ("strings.asciiSpace", DataW.agg (tab0.map fun z => .lit (.int .u8 z))) ∈ (Rows.kindsRightUptoRow.laid : List (String × DataW Unit)) := by
 have h : (Rows.kindsRightUptoRow.laid : List (String × DataW Unit)) = [("unicode.White_Space", Rows.laid_unicode_White_Space), ("strings.asciiSpace", DataW.agg (tab0.map fun z => .lit (.int .u8 z)))] := by kernel_rfl
 rw [h]
 exact List.mem_cons_of_mem _ (List.mem_singleton.2 rfl)
theorem mx_of {W : World} (h : W.ShapedOpen Tryz.prog) : ∃ m, W.cell? ⟨2, 0, none⟩ = some (.int .i64 m) :=
 cell_of_shapedOpen_int (t := 3) (zero := #[.int .i64 0]) h (of_decide_eq_true (by kernel_rfl)) (by kernel_rfl) rfl (by kernel_rfl) (by kernel_rfl) (by kernel_rfl)
theorem glob_ok {W : World} (hL : laidMetH Tryz.prog Rows.kindsRightUptoRow.laid W) (m : Int) (hm : W.cell? ⟨2, 0, none⟩ = some (.int .i64 m)) : GlobRel W (fun _ => False) (@ctx ⟨m⟩).gl := by
 rw [MakeChecks.laidMetH_plain _ _ _ (by kernel_rfl)] at hL
 intro x hx
 have hx' : x ∈ [((0 : Nat), D.agg (tab0.map fun z => .int .u8 z)), (2, .int .i64 m)] := hx
 simp only [List.mem_cons, List.not_mem_nil, or_false] at hx'
 rcases hx' with rfl | rfl
 · obtain ⟨a, b⟩ := glob_of_laid (name := "strings.asciiSpace") (n := 256) (e := 5) (t := 271) (g := 0) (k := .u8) (zs := tab0) hL space_in (by kernel_rfl) (by kernel_rfl) (by kernel_rfl) (by kernel_rfl) (by kernel_rfl) (by decide) (by kernel_rfl)
   exact ⟨a, id, b⟩
 · refine ⟨⟨(cell?_lt hm).1, fun _ h => by cases h⟩, id, .int .i64 m, .int _ _, fun i c hi => ?_⟩
   match i, hi with
   | 0, hi => simp [Value.cells] at hi; subst hi; exact hm
   | i + 1, hi => simp [Value.cells] at hi
theorem kindsRight_lifted (os : Os) (started : os.Started) (H : Type) (enc : TypeId × Value → H) (F : Stop.Interp) :
 ReturnsInHanded {} Tryz.checked os 5 .any (fun w args => ((Rows.OpenSpec.upto Rows.kindsRightSpec).pre enc Tryz.prog Tryz.f5 [] false w args ∧ laidMetH Tryz.prog Rows.kindsRightUptoRow.laid w) ∧ sizedMet enc Tryz.prog Tryz.f5 (Rows.OpenSpec.upto Rows.kindsRightSpec) false w args)
  (((Rows.OpenSpec.upto Rows.kindsRightSpec).at F).post enc Tryz.prog Tryz.f5 false true false false) := by
 refine handed_ofU (C := Tryz.checked) (s := Rows.OpenSpec.upto Rows.kindsRightSpec) (k := Rows.uptoSmall) rfl (X := fun w _ => laidMetH Tryz.prog Rows.kindsRightUptoRow.laid w) (fun _ _ _ hh h => h.of_heap hh) Tryz.own started (by kernel_rfl) Tryz.func5
  (witness_shapedV (enc := enc) (C := Tryz.checked) (os := os) (s := Rows.OpenSpec.upto Rows.kindsRightSpec) (k := Rows.uptoSmall) rfl (X := fun w _ => laidMetH Tryz.prog Rows.kindsRightUptoRow.laid w) false (World.doorLaid Tryz.prog 33 os)
   #[.agg #[.string .empty, .slice none 0 0, .slice none 0 0]] 8 rfl (World.shaped_of_RefB (by kernel_rfl) (by kernel_rfl)) (by kernel_rfl) (by kernel_rfl) (by kernel_rfl) (door_met os _)) ?_
 intro W base args ds gs before hval hW hkk hL hsh
 obtain ⟨m, hm⟩ := mx_of hsh
 letI : Inhabited Mx2 := ⟨m⟩
 have hbulk := small_bulk hkk
 refine law_contractW (X := ctx) ctx_ok (s := Rows.kindsRightSpec) (L := [25, 9, 22, 23, 49, 3, 4, 2, 121, 116, 114, 117, 51, 118, 119]) (tb := 4) (by kernel_rfl) Tryz.laidOut (by kernel_rfl) (by kernel_rfl) Tryz.underlying4 rfl ?_ hval hW (glob_ok hL m hm) ?_
 · intro ds hds
   match ds, hds with
   | [d1], _ => rfl
 · intro xs hxs hty hwt0
   have hwt : wtDs xs ≤ 1048576 := by
    have : bulkWs ds ≤ bulkWs (ds ++ gs) := bulkWs_app ds gs
    omega
   match xs, hxs with
   | [x1], _ =>
    obtain ⟨n, hx⟩ := hty 0 25 x1 (by kernel_rfl) rfl
    obtain ⟨p, rfl, _⟩ := pg_typed hx
    obtain ⟨h1, h2, h3⟩ := pg_light (p := p) (by simp only [wtDs] at hwt; omega)
    exact kindsRight_go h1 h2 h3 aw20_r
set_option maxHeartbeats 40000000 in
theorem kindsRight_closed : joinedFacts Tryz.pinned.checked.prog 5 Tryz.f5 (Rows.OpenSpec.upto Rows.kindsRightSpec).bare Rows.kindsRightUptoRow = true := by
 unfold joinedFacts
 simp only [Bool.and_eq_true]
 repeat' apply And.intro
 all_goals (as_aux_lemma => kernel_rfl)
theorem kindsRight_holds : Rows.KindsRightUptoSaid :=
 OpenClaim.holds_of_cond 5 Tryz.f5 rfl rfl rfl rfl rfl rfl rfl ⟨rfl, rfl, rfl, rfl, rfl⟩ rfl rfl rfl rfl rfl (by as_aux_lemma => kernel_rfl) Tryz.func5 kindsRight_closed
  (of_decide_eq_true (by as_aux_lemma => kernel_rfl)) (by unfold Func.isWrapper; first | (rw [if_pos (by decide +kernel)]; kernel_rfl) | (rw [if_neg (by decide +kernel)]; exact ⟨rfl, rfl⟩))
  (fun os started H enc _ F => kindsRight_lifted os started H enc F)
theorem kindsRight_card_holds : Rows.KindsRightUptoCardSaid :=
 Claim7.holds_tied_plain_at .later [] _ _ _ _
  kindsRight_holds (fun _ h => by cases h) (by as_aux_lemma => kernel_rfl) (fun _ h => by cases h) kindsRightUpto_row_tie rfl ⟨rfl, rfl⟩ (by as_aux_lemma => kernel_rfl) rfl
  (fun f fn hf hfn => by
   obtain rfl : f = 5 := Option.some.inj ((show Tryz.prog.funcNamed "servitor/servitorlaw20.KindsRight" = some 5 by kernel_rfl).symm.trans hf) |>.symm
   obtain rfl : fn = Tryz.f5 := (Option.some.inj (Tryz.func5.symm.trans hfn)).symm
   exact ⟨by as_aux_lemma => kernel_rfl, fun j t ht => by
    rw [Tryz.params5] at ht
    match j, ht with
    | 0, ht => (obtain rfl : t = 25 := by simpa using ht.symm); exact (show Tryz.prog.wantsStandIn 25 = false by kernel_rfl)
    | j + 1, ht => simp at ht⟩)
  (by as_aux_lemma => kernel_rfl)
#print axioms kindsRight_card_holds
end Go.Proofs.YtpgcdbhjmlcfaaaGreatDoor

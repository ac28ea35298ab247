/-
  The tied card of KindsNames in its second form is proved: where the program and the number that are given hold at most 1048576 values and letters, the law returns true and leaves its arguments as they were. Conditions: those of the row itself (the listed package variables start as the program lays them; the bound).
-/
import Derived.Test.YtpgcdbhjmlcfaaaGreatDoorP8
import Derived.Test.YtpgcdbhjmlcfaaaGreatDoorRows
import Derived.Test.YtpgcdbhjmlcfaaaGreatDoorCards
import Derived.Test.YtpgcdbhjmlcfaaaGreatDoorTie
import Derived.JoinedOf
import Derived.LaidMore
import Derived.LaidHandle
import Derived.SevenTiedAt
set_option linter.all false
namespace Go.Proofs.YtpgcdbhjmlcfaaaGreatDoor
open Go Go.Am
set_option maxRecDepth 100000
theorem Tryz.own : ownKnob Tryz.prog.godebug = none := by kernel_rfl
theorem Tryz.laidOut : laidOutB Tryz.prog = true := by kernel_rfl
theorem ctx_ok [Inhabited Mx2] : CtxOk ctx := CtxOk.of (by kernel_rfl) orcs_ok
theorem door_met (os : Os) (args : Array Value) : laidMetH Tryz.prog Rows.kindsNamesUptoRow.laid ((World.doorLaid Tryz.prog 33 os).forCall (fun _ _ => 0) ⟨#[], args, []⟩).memory :=
 laidMetH_of_parts3 (fuel := 8) (laidMet_of_run' 8 (by kernel_rfl) (by kernel_rfl)) (by kernel_rfl) (by kernel_rfl)
mutual
theorem bulk_le {H : Type} : ∀ d : DataW H, bulkW d ≤ Rows.uptoBulk d
 | .lit l => by cases l <;> simp [bulkW, Rows.uptoBulk]
 | .nil => by simp [bulkW, Rows.uptoBulk]
 | .ptr d => by simp [bulkW, Rows.uptoBulk]
 | .slice e s => by
  have h := bulks_le e
  simp only [bulkW, Rows.uptoBulk]; omega
 | .agg p => by
  have h := bulks_le p
  simp only [bulkW, Rows.uptoBulk]; omega
 | .iface t d => by simp [bulkW, Rows.uptoBulk]
 | .map es => by simp [bulkW, Rows.uptoBulk]
 | .held h => by simp [bulkW, Rows.uptoBulk]
theorem bulks_le {H : Type} : ∀ l : List (DataW H), bulkWs l ≤ Rows.uptoBulkAll l
 | [] => Nat.le_refl _
 | d :: r => by
  have h1 := bulk_le d
  have h2 := bulks_le r
  simp only [bulkWs, Rows.uptoBulkAll]; omega
end
theorem bulkWs_app {H : Type} : ∀ a b : List (DataW H), bulkWs a ≤ bulkWs (a ++ b)
 | [], b => Nat.zero_le _
 | x :: a, b => by
  have := bulkWs_app a b
  simp only [List.cons_append, bulkWs]; omega
theorem small_bulk {H : Type} {l : List (DataW H)} (hk : Rows.uptoSmall H l = true) : bulkWs l ≤ 1048576 := by
 have h : Rows.uptoBulkAll l ≤ 1048576 := of_decide_eq_true hk
 have := bulks_le l
 omega
theorem space_in : ("strings.asciiSpace", DataW.agg (tab0.map fun z => .lit (.int .u8 z))) ∈ (Rows.kindsNamesUptoRow.laid : List (String × DataW Unit)) := by
 have h : (Rows.kindsNamesUptoRow.laid : List (String × DataW Unit)) = [("unicode.White_Space", Rows.laid_unicode_White_Space), ("strings.asciiSpace", DataW.agg (tab0.map fun z => .lit (.int .u8 z)))] := by kernel_rfl
 rw [h]
 exact List.mem_cons_of_mem _ (List.mem_singleton.2 rfl)
theorem mx_of {W : World} (h : W.ShapedOpen Tryz.prog) : ∃ m, W.cell? ⟨2, 0, none⟩ = some (.int .i64 m) :=
 cell_of_shapedOpen_int (t := 3) (zero := #[.int .i64 0]) h (of_decide_eq_true (by kernel_rfl)) (by kernel_rfl) rfl (by kernel_rfl) (by kernel_rfl) (by kernel_rfl)
theorem glob_ok {W : World} (hL : laidMetH Tryz.prog Rows.kindsNamesUptoRow.laid W) (m : Int) (hm : W.cell? ⟨2, 0, none⟩ = some (.int .i64 m)) : GlobRel W (fun _ => False) (@ctx ⟨m⟩).gl := by
 rw [MakeChecks.laidMetH_plain _ _ _ (by kernel_rfl)] at hL
 intro x hx
 have hx' : x ∈ [((0 : Nat), D.agg (tab0.map fun z => .int .u8 z)), (2, .int .i64 m)] := hx
 simp only [List.mem_cons, List.not_mem_nil, or_false] at hx'
 rcases hx' with rfl | rfl
 · obtain ⟨a, b⟩ := glob_of_laid (name := "strings.asciiSpace") (n := 256) (e := 5) (t := 271) (g := 0) (k := .u8) (zs := tab0) hL space_in (by kernel_rfl) (by kernel_rfl) (by kernel_rfl) (by kernel_rfl) (by kernel_rfl) (by decide) (by kernel_rfl)
   exact ⟨a, id, b⟩
 · refine ⟨⟨(cell?_lt hm).1, fun _ h => by cases h⟩, id, .int .i64 m, .int _ _, fun i c hi => ?_⟩
   match i, hi with
   | 0, hi => simp [Value.cells] at hi; subst hi; exact hm
   | i + 1, hi => simp [Value.cells] at hi
theorem kindsNames_lifted (os : Os) (started : os.Started) (H : Type) (enc : TypeId × Value → H) (F : Stop.Interp) :
 ReturnsInHanded {} Tryz.checked os 6 .any (fun w args => ((Rows.OpenSpec.upto Rows.kindsNamesSpec).pre enc Tryz.prog Tryz.f6 [] false w args ∧ laidMetH Tryz.prog Rows.kindsNamesUptoRow.laid w) ∧ sizedMet enc Tryz.prog Tryz.f6 (Rows.OpenSpec.upto Rows.kindsNamesSpec) false w args)
  (((Rows.OpenSpec.upto Rows.kindsNamesSpec).at F).post enc Tryz.prog Tryz.f6 false true false false) := by
 refine handed_ofU (C := Tryz.checked) (s := Rows.OpenSpec.upto Rows.kindsNamesSpec) (k := Rows.uptoSmall) rfl (X := fun w _ => laidMetH Tryz.prog Rows.kindsNamesUptoRow.laid w) (fun _ _ _ hh h => h.of_heap hh) Tryz.own started (by kernel_rfl) Tryz.func6
  (witness_shapedV (enc := enc) (C := Tryz.checked) (os := os) (s := Rows.OpenSpec.upto Rows.kindsNamesSpec) (k := Rows.uptoSmall) rfl (X := fun w _ => laidMetH Tryz.prog Rows.kindsNamesUptoRow.laid w) false (World.doorLaid Tryz.prog 33 os)
   #[.agg #[.string .empty, .slice none 0 0, .slice none 0 0], .int .i64 0] 8 rfl (World.shaped_of_RefB (by kernel_rfl) (by kernel_rfl)) (by kernel_rfl) (by kernel_rfl) (by kernel_rfl) (door_met os _)) ?_
 intro W base args ds gs before hval hW hkk hL hsh
 obtain ⟨m, hm⟩ := mx_of hsh
 letI : Inhabited Mx2 := ⟨m⟩
 have hbulk := small_bulk hkk
 refine law_contractW (X := ctx) ctx_ok (s := Rows.kindsNamesSpec) (L := [25, 9, 22, 23, 49, 3, 4, 2, 121, 116, 114, 117, 51, 118, 119]) (tb := 4) (by kernel_rfl) Tryz.laidOut (by kernel_rfl) (by kernel_rfl) Tryz.underlying4 rfl ?_ hval hW (glob_ok hL m hm) ?_
 · intro ds hds
   match ds, hds with
   | [d1, d2], _ => rfl
 · intro xs hxs hty hwt0
   have hwt : wtDs xs ≤ 1048576 := by
    have : bulkWs ds ≤ bulkWs (ds ++ gs) := bulkWs_app ds gs
    omega
   match xs, hxs with
   | [x1, x2], _ =>
    obtain ⟨n, hx⟩ := hty 0 25 x1 (by kernel_rfl) rfl
    obtain ⟨p, rfl, _⟩ := pg_typed hx
    obtain ⟨n2, hx2⟩ := hty 1 3 x2 (by kernel_rfl) rfl
    obtain ⟨kk, rfl, hkk⟩ := tq_int Tryz.underlying3 hx2
    obtain ⟨h1, h2, h3⟩ := pg_light (p := p) (by simp only [wtDs] at hwt; omega)
    exact kindsNames_go h1 h2 h3 (by unfold I64; unfold i64B at hkk; simpa using hkk)
set_option maxHeartbeats 40000000 in
theorem kindsNames_closed : joinedFacts Tryz.pinned.checked.prog 6 Tryz.f6 (Rows.OpenSpec.upto Rows.kindsNamesSpec).bare Rows.kindsNamesUptoRow = true := by
 unfold joinedFacts
 simp only [Bool.and_eq_true]
 repeat' apply And.intro
 all_goals (as_aux_lemma => kernel_rfl)
theorem kindsNames_holds : Rows.KindsNamesUptoSaid :=
 OpenClaim.holds_of_cond 6 Tryz.f6 rfl rfl rfl rfl rfl rfl rfl ⟨rfl, rfl, rfl, rfl, rfl⟩ rfl rfl rfl rfl rfl (by as_aux_lemma => kernel_rfl) Tryz.func6 kindsNames_closed
  (of_decide_eq_true (by as_aux_lemma => kernel_rfl)) (by unfold Func.isWrapper; first | (rw [if_pos (by decide +kernel)]; kernel_rfl) | (rw [if_neg (by decide +kernel)]; exact ⟨rfl, rfl⟩))
  (fun os started H enc _ F => kindsNames_lifted os started H enc F)
theorem kindsNames_card_holds : Rows.KindsNamesUptoCardSaid :=
 Claim7.holds_tied_plain_at .later [] _ _ _ _
  kindsNames_holds (fun _ h => by cases h) (by as_aux_lemma => kernel_rfl) (fun _ h => by cases h) kindsNamesUpto_row_tie rfl ⟨rfl, rfl⟩ (by as_aux_lemma => kernel_rfl) rfl
  (fun f fn hf hfn => by
   obtain rfl : f = 6 := Option.some.inj ((show Tryz.prog.funcNamed "servitor/servitorlaw20.KindsNames" = some 6 by kernel_rfl).symm.trans hf) |>.symm
   obtain rfl : fn = Tryz.f6 := (Option.some.inj (Tryz.func6.symm.trans hfn)).symm
   exact ⟨by as_aux_lemma => kernel_rfl, fun j t ht => by
    rw [Tryz.params6] at ht
    match j, ht with
    | 0, ht => (obtain rfl : t = 25 := by simpa using ht.symm); exact (show Tryz.prog.wantsStandIn 25 = false by kernel_rfl)
    | 1, ht => (obtain rfl : t = 3 := by simpa using ht.symm); exact (show Tryz.prog.wantsStandIn 3 = false by kernel_rfl)
    | j + 2, ht => simp at ht⟩)
  (by as_aux_lemma => kernel_rfl)
#print axioms kindsNames_card_holds
end Go.Proofs.YtpgcdbhjmlcfaaaGreatDoor

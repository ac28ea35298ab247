/-
  The tied card of TreeLines is proved: the law returns true for every input and leaves its arguments as they were. Conditions: those of the row itself (the listed package variables start as the program lays them).
-/
import Derived.Test.YtecknaklaleloaaDoorP9
import Derived.Test.YtecknaklaleloaaDoorRows
import Derived.Test.YtecknaklaleloaaDoorCards
import Derived.Test.YtecknaklaleloaaDoorTie
import Derived.JoinedOf
import Derived.LaidMore
import Derived.LaidHandle
import Derived.SevenTiedAt
set_option linter.all false
namespace Go.Proofs.YtecknaklaleloaaDoor
open Go Go.Am
set_option maxRecDepth 100000
theorem Tryd.own : ownKnob Tryd.prog.godebug = none := by kernel_rfl
theorem Tryd.laidOut : laidOutB Tryd.prog = true := by kernel_rfl
theorem ctx_ok [Inhabited Mx2] : CtxOk ctx := CtxOk.of (by kernel_rfl) orcs_ok
theorem door_met (os : Os) (args : Array Value) : laidMetH Tryd.prog Rows.treeLinesRow.laid ((World.doorLaid Tryd.prog 96 os).forCall (fun _ _ => 0) ⟨#[], args, []⟩).memory :=
  laidMetH_of_parts3 (fuel := 8) (laidMet_of_run' 8 (by kernel_rfl) (by kernel_rfl)) (by kernel_rfl) (by kernel_rfl)
theorem space_in : ("strings.asciiSpace", DataW.agg (tab0.map fun z => .lit (.int .u8 z))) ∈ (Rows.treeLinesRow.laid : List (String × DataW Unit)) := by
  have h : (Rows.treeLinesRow.laid : List (String × DataW Unit)) = [("unicode.White_Space", Rows.laid_unicode_White_Space), ("strings.asciiSpace", DataW.agg (tab0.map fun z => .lit (.int .u8 z)))] := by kernel_rfl
  rw [h]
  exact List.mem_cons_of_mem _ (List.mem_singleton.2 rfl)
theorem mx_of {W : World} (h : W.ShapedOpen Tryd.prog) : ∃ m, W.cell? ⟨1, 0, none⟩ = some (.int .i64 m) :=
  cell_of_shapedOpen_int (t := 3) (zero := #[.int .i64 0]) h (of_decide_eq_true (by kernel_rfl)) (by kernel_rfl) rfl (by kernel_rfl) (by kernel_rfl) (by kernel_rfl)
theorem glob_ok {W : World} (hL : laidMetH Tryd.prog Rows.treeLinesRow.laid W) (m : Int) (hm : W.cell? ⟨1, 0, none⟩ = some (.int .i64 m)) : GlobRel W (fun _ => False) (@ctx ⟨m⟩).gl := by
  rw [MakeChecks.laidMetH_plain _ _ _ (by kernel_rfl)] at hL
  intro x hx
  have hx' : x ∈ [((2 : Nat), D.agg (tab0.map fun z => .int .u8 z)), (1, .int .i64 m)] := hx
  simp only [List.mem_cons, List.not_mem_nil, or_false] at hx'
  rcases hx' with rfl | rfl
  · obtain ⟨a, b⟩ := glob_of_laid (name := "strings.asciiSpace") (n := 256) (e := 5) (t := 203) (g := 2) (k := .u8) (zs := tab0) hL space_in (by kernel_rfl) (by kernel_rfl) (by kernel_rfl) (by kernel_rfl) (by kernel_rfl) (by decide) (by kernel_rfl)
    exact ⟨a, id, b⟩
  · refine ⟨⟨(cell?_lt hm).1, fun _ h => by cases h⟩, id, .int .i64 m, .int _ _, fun i c hi => ?_⟩
    match i, hi with
    | 0, hi => simp [Value.cells] at hi; subst hi; exact hm
    | i + 1, hi => simp [Value.cells] at hi
theorem treeLines_lifted (os : Os) (started : os.Started) (H : Type) (enc : TypeId × Value → H) :
    ReturnsInHanded {} Tryd.checked os 8 .any (fun w args => (Rows.treeLinesSpec.pre enc Tryd.prog Tryd.f8 [] false w args ∧ laidMetH Tryd.prog Rows.treeLinesRow.laid w) ∧ sizedMet enc Tryd.prog Tryd.f8 (OpenSpec.ofChange Rows.treeLinesSpec) false w args)
      (Rows.treeLinesSpec.post enc Tryd.prog Tryd.f8 false true false false) := by
  refine handed_of (C := Tryd.checked) (X := fun w _ => laidMetH Tryd.prog Rows.treeLinesRow.laid w) (fun _ _ _ hh h => h.of_heap hh) Tryd.own started (by kernel_rfl) Tryd.func8
    (ChangeSpec.witness_shaped (enc := enc) (C := Tryd.checked) (os := os) (X := fun w _ => laidMetH Tryd.prog Rows.treeLinesRow.laid w) false (World.doorLaid Tryd.prog 96 os)
      #[.string .empty] 8 rfl (World.shaped_of_RefB (by kernel_rfl) (by kernel_rfl)) (by kernel_rfl) (by kernel_rfl) (by kernel_rfl) (door_met os _)) ?_
  intro W base args ds gs before hval hW hL hsh
  obtain ⟨m, hm⟩ := mx_of hsh
  letI : Inhabited Mx2 := ⟨m⟩
  refine law_contract (X := ctx) ctx_ok (n := 5) (tb := 4) Tryd.laidOut (by kernel_rfl) (by kernel_rfl) Tryd.underlying4 rfl ?_ hval hW (glob_ok hL m hm) ?_
  · intro ds hds
    match ds, hds with
    | [d1], _ => rfl
  · intro xs hxs hty
    match xs, hxs with
    | [x1], _ =>
      obtain ⟨s, rfl, _⟩ := typed_string Tryd.underlying9 (hty 0 9 x1 (by kernel_rfl) rfl)
      exact treeLines_run s
theorem treeLines_holds : Rows.TreeLinesSaid :=
  OpenClaim.holds_of_wide 8 Tryd.f8 rfl rfl rfl rfl rfl rfl rfl ⟨rfl, rfl, rfl, rfl, rfl⟩ rfl rfl rfl rfl rfl (by kernel_rfl) Tryd.func8 (by kernel_rfl)
    (of_decide_eq_true (by kernel_rfl)) (by unfold Func.isWrapper; first | (rw [if_pos (by decide +kernel)]; kernel_rfl) | (rw [if_neg (by decide +kernel)]; exact ⟨rfl, rfl⟩))
    (fun os started H enc _ => treeLines_lifted os started H enc)
theorem treeLines_card_holds : Rows.TreeLinesCardSaid :=
  Claim7.holds_tied_plain_at .later [] [.listed, .data] true Rows.treeLinesCard.stood.harness true
    treeLines_holds (fun _ h => by cases h) (by kernel_rfl) (fun _ h => by cases h) treeLines_row_tie rfl ⟨rfl, rfl⟩ (by kernel_rfl) rfl
    (fun f fn hf hfn => by
      obtain rfl : f = 8 := Option.some.inj ((show Tryd.prog.funcNamed "servitor/servitorlaw18.TreeLines" = some 8 by kernel_rfl).symm.trans hf) |>.symm
      obtain rfl : fn = Tryd.f8 := (Option.some.inj (Tryd.func8.symm.trans hfn)).symm
      exact ⟨by kernel_rfl, fun j t ht => by
        rw [Tryd.params8] at ht
        match j, ht with
        | 0, ht => (obtain rfl : t = 9 := by simpa using ht.symm); exact (show Tryd.prog.wantsStandIn 9 = false by kernel_rfl)
        | j + 1, ht => simp at ht⟩)
    (by kernel_rfl)
#print axioms treeLines_card_holds
end Go.Proofs.YtecknaklaleloaaDoor

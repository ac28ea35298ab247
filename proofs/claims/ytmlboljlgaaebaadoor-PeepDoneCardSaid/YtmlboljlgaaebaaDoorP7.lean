/-
  The tied card of PeepDone is proved: the law returns true for every input and leaves its argument as it was. Conditions: those of the row itself (the listed package variables start as the program lays them).
-/
import Derived.Test.YtmlboljlgaaebaaDoorP6
import Derived.Test.YtmlboljlgaaebaaDoorRows
import Derived.Test.YtmlboljlgaaebaaDoorCards
import Derived.Test.YtmlboljlgaaebaaDoorTie
import Derived.JoinedOf
import Derived.LaidMore
import Derived.LaidHandle
import Derived.SevenTiedAt
set_option linter.all false
namespace Go.Proofs.YtmlboljlgaaebaaDoor
open Go Go.Am
set_option maxRecDepth 100000

theorem Tryd.own : ownKnob Tryd.prog.godebug = none := by kernel_rfl
theorem Tryd.laidOut : laidOutB Tryd.prog = true := by kernel_rfl
theorem ctx_ok : CtxOk ctx := CtxOk.of (by kernel_rfl) orcs_ok
theorem door_met (os : Os) (args : Array Value) : laidMetH Tryd.prog Rows.peepDoneRow.laid ((World.doorLaid Tryd.prog 33 os).forCall (fun _ _ => 0) ⟨#[], args, []⟩).memory :=
  laidMetH_of_parts3 (fuel := 8) (laidMet_of_run' 8 (by kernel_rfl) (by kernel_rfl)) (by kernel_rfl) (by kernel_rfl)
theorem insp_typed {n : Nat} {x : D} (hx : typed Tryd.prog (n + 2) 31 x) : ∃ i : Ins, x = insD i := by
  obtain ⟨ds, rfl, y0, d0, h0, ⟨y1, d1, h1, ⟨y2, d2, h2, ⟨y3, d3, h3, ⟨y4, d4, h4, rfl, rfl⟩, rfl⟩, rfl⟩, rfl⟩, rfl⟩ := typed_struct Tryd.underlying31 hx
  obtain ⟨o, rfl, _⟩ := typed_int Tryd.underlying3 h0
  obtain ⟨a, rfl, ha⟩ := typed_int Tryd.underlying3 h1
  obtain ⟨b, rfl, hb⟩ := typed_int Tryd.underlying3 h2
  obtain ⟨n, rfl, hn⟩ := typed_int Tryd.underlying2 h3
  obtain ⟨m, rfl, hm⟩ := typed_int Tryd.underlying2 h4
  exact ⟨⟨o, a, b, n, m⟩, rfl⟩
theorem codep_typed {x : D} (hx : typed Tryd.prog 5 24 x) : ∃ ins vars cells, x = codeD ins vars cells := by
  obtain ⟨ds, rfl, y0, d0, h0, ⟨y1, d1, h1, ⟨y2, d2, h2, rfl, rfl⟩, rfl⟩, rfl⟩ := typed_struct Tryd.underlying24 hx
  obtain ⟨xs, rfl, _, hxs⟩ := typed_slice Tryd.underlying22 h0
  obtain ⟨v, rfl, _⟩ := typed_int Tryd.underlying3 h1
  obtain ⟨c, rfl, _⟩ := typed_int Tryd.underlying3 h2
  obtain ⟨ins, rfl⟩ := list_map_of (f := insD) (fun x hx => insp_typed (hxs x hx))
  exact ⟨ins, v, c, rfl⟩
theorem space_in : ("strings.asciiSpace", DataW.agg (tab0.map fun z => .lit (.int .u8 z))) ∈ (Rows.peepDoneRow.laid : List (String × DataW Unit)) := by
  have h : (Rows.peepDoneRow.laid : List (String × DataW Unit)) = [("unicode.White_Space", Rows.laid_unicode_White_Space), ("strings.asciiSpace", DataW.agg (tab0.map fun z => .lit (.int .u8 z)))] := by kernel_rfl
  rw [h]
  exact List.mem_cons_of_mem _ (List.mem_singleton.2 rfl)
theorem glob_ok {W : World} (hL : laidMetH Tryd.prog Rows.peepDoneRow.laid W) : GlobRel W (fun _ => False) ctx.gl := by
  rw [MakeChecks.laidMetH_plain _ _ _ (by kernel_rfl)] at hL
  intro x hx
  have hx' : x ∈ [((0 : Nat), D.agg (tab0.map fun z => .int .u8 z))] := hx
  simp only [List.mem_cons, List.not_mem_nil, or_false] at hx'
  subst hx'
  obtain ⟨a, b⟩ := glob_of_laid (name := "strings.asciiSpace") (n := 256) (e := 5) (t := 127) (g := 0) (k := .u8) (zs := tab0) hL space_in (by kernel_rfl) (by kernel_rfl) (by kernel_rfl) (by kernel_rfl) (by kernel_rfl) (by decide)
  exact ⟨a, id, b⟩

theorem peepDone_lifted (os : Os) (started : os.Started) (H : Type) (enc : TypeId × Value → H) :
    ReturnsInHanded {} Tryd.checked os 3 .any (fun w args => (Rows.peepDoneSpec.pre enc Tryd.prog Tryd.f3 [] false w args ∧ laidMetH Tryd.prog Rows.peepDoneRow.laid w) ∧ sizedMet enc Tryd.prog Tryd.f3 (OpenSpec.ofChange Rows.peepDoneSpec) false w args)
      (Rows.peepDoneSpec.post enc Tryd.prog Tryd.f3 false true false false) := by
  refine handed_of (C := Tryd.checked) (X := fun w _ => laidMetH Tryd.prog Rows.peepDoneRow.laid w) (fun _ _ _ hh h => h.of_heap hh) Tryd.own started (by kernel_rfl) Tryd.func3
    (ChangeSpec.witness_shaped (enc := enc) (C := Tryd.checked) (os := os) (X := fun w _ => laidMetH Tryd.prog Rows.peepDoneRow.laid w) false (World.doorLaid Tryd.prog 33 os)
      #[.agg #[.slice none 0 0, .int .i64 0, .int .i64 0]] 8 rfl (World.shaped_of_RefB (by kernel_rfl) (by kernel_rfl)) (by kernel_rfl) (by kernel_rfl) (by kernel_rfl) (door_met os _)) ?_
  intro W base args ds gs before hval hW hL hsh
  refine law_contract (X := ctx) ctx_ok (n := 5) (tb := 4) Tryd.laidOut (by kernel_rfl) (by kernel_rfl) Tryd.underlying4 rfl ?_ hval hW (glob_ok hL) ?_
  · intro ds hds
    match ds, hds with
    | [d1], _ => rfl
  · intro xs hxs hty
    match xs, hxs with
    | [x1], _ =>
      obtain ⟨ci, vc, cc, rfl⟩ := codep_typed (hty 0 24 x1 (by kernel_rfl) rfl)
      exact peepDone_run pinsN pins_ok ci vc cc

theorem peepDone_holds : Rows.PeepDoneSaid :=
  OpenClaim.holds_of_wide 3 Tryd.f3 rfl rfl rfl rfl rfl rfl rfl ⟨rfl, rfl, rfl, rfl, rfl⟩ rfl rfl rfl rfl rfl (by kernel_rfl) Tryd.func3 (by kernel_rfl)
    (of_decide_eq_true (by kernel_rfl)) (by unfold Func.isWrapper; first | (rw [if_pos (by decide +kernel)]; kernel_rfl) | (rw [if_neg (by decide +kernel)]; exact ⟨rfl, rfl⟩))
    (fun os started H enc _ => peepDone_lifted os started H enc)

theorem peepDone_card_holds : Rows.PeepDoneCardSaid :=
  Claim7.holds_tied_plain_at .later [] [.listed, .data] true Rows.peepDoneCard.stood.harness false
    peepDone_holds (fun _ h => by cases h) (by kernel_rfl) (fun _ h => by cases h) peepDone_row_tie rfl ⟨rfl, rfl⟩ (by kernel_rfl) rfl
    (fun f fn hf hfn => by
      obtain rfl : f = 3 := Option.some.inj ((show Tryd.prog.funcNamed "servitor/servitorlaw32.PeepDone" = some 3 by kernel_rfl).symm.trans hf) |>.symm
      obtain rfl : fn = Tryd.f3 := (Option.some.inj (Tryd.func3.symm.trans hfn)).symm
      exact ⟨by kernel_rfl, fun j t ht => by
        rw [Tryd.params3] at ht
        match j, ht with
        | 0, ht => (obtain rfl : t = 24 := by simpa using ht.symm); exact (show Tryd.prog.wantsStandIn 24 = false by kernel_rfl)
        | j + 1, ht => simp at ht⟩)
    (by kernel_rfl)
#print axioms peepDone_card_holds
end Go.Proofs.YtmlboljlgaaebaaDoor

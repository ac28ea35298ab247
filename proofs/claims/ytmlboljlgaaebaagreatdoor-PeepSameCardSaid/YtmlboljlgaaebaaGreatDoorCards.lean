/-
  DERIVED. GIVEN WITH THE SEED: THE CARDS: each row of YtmlboljlgaaebaaGreatDoorRows.lean that lists a variable, with what it lists TIED to the program's text (the seventh form; the later family's looks); each row that meets fmt, with fmt's text TOLD by the authors' own Lean function (tested against real Go, not proved from fmt's source: count such statements apart). THE CARD IS WHAT COUNTS. Prove the row's statement (the work); the ties are given (YtmlboljlgaaebaaGreatDoorTie.lean); close each card by the builder's one call (the guide's Derived/Test/ToyasCard.lean, 'card_holds'). Laid BY PROGRAM, IN A SANDBOX (cutbox-door.mjs). By AI agents, Wed Nov 11 2026. No macro, syntax, notation, axiom, sorry.
-/
import Derived.Test.YtmlboljlgaaebaaGreatDoorRows
import GoSem.ClaimSeven
namespace Go.Proofs.YtmlboljlgaaebaaGreatDoor
namespace Rows

/-- THE TIED CARD OF 'servitorlaw32.PeepSame'. -/
def peepSameCard : Claim7 := { stood := { row := peepSameRow, standIns := [], harness := (true, "6e99e682d052aba96be8898a4f0361138e2350fc544b3af1920a0f2989142a83"), looks := false }, kinds := [], alts := [], laidByText := true, laidKinds := [.listed, .data], laidTests := true, laidLooks := .later }
def PeepSameCardSaid : Prop := Claim7.holds Tryz.pinned (.plain (OpenSpec.ofChange peepSameSpec)) peepSameCard

/-- THE SECOND FORM's CARD OF 'servitorlaw32.PeepSame'. -/
def peepSameUptoCard : Claim7 := { stood := { row := peepSameUptoRow, standIns := [], harness := (true, "6e99e682d052aba96be8898a4f0361138e2350fc544b3af1920a0f2989142a83"), looks := false }, kinds := [], alts := [], laidByText := true, laidKinds := [.listed, .data], laidTests := true, laidLooks := .later }
def PeepSameUptoCardSaid : Prop := Claim7.holds Tryz.pinned (.plain (OpenSpec.upto peepSameSpec)) peepSameUptoCard
end Rows
end Go.Proofs.YtmlboljlgaaebaaGreatDoor

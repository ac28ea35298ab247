/-
  DERIVED. GIVEN WITH THE SEED: THE CARDS: each row of YtecknaklaleloaaGreatDoorRows.lean that lists a variable, with what it lists TIED to the program's text (the seventh form; the later family's looks); each row that meets fmt, with fmt's text TOLD by the authors' own Lean function (tested against real Go, not proved from fmt's source: count such statements apart). THE CARD IS WHAT COUNTS. Prove the row's statement (the work); the ties are given (YtecknaklaleloaaGreatDoorTie.lean); close each card by the builder's one call (the guide's Derived/Test/ToyasCard.lean, 'card_holds'). Laid BY PROGRAM, IN A SANDBOX (cutbox-door.mjs). By AI agents, Wed Nov 11 2026. No macro, syntax, notation, axiom, sorry.
-/
import Derived.Test.YtecknaklaleloaaGreatDoorRows
import GoSem.ClaimSeven
namespace Go.Proofs.YtecknaklaleloaaGreatDoor
namespace Rows

/-- THE TIED CARD OF 'servitorlaw28.ConfBuilds'. -/
def confBuildsCard : Claim7 := { stood := { row := confBuildsRow, standIns := [], harness := (true, "ebcc77bef65c2d6a18b266604567971d77e89f09edadf0b69fa9c74afca9fbf0"), looks := true }, kinds := [], alts := [], laidByText := true, laidKinds := [.data, .data, .data, .data, .sentinel, .sentinel, .pinned], laidTests := true, laidLooks := .later }
def ConfBuildsCardSaid : Prop := Claim7.holds Tryz.pinned (.plain (OpenSpec.ofChange confBuildsSpec)) confBuildsCard

/-- THE SECOND FORM's CARD OF 'servitorlaw28.ConfBuilds'. -/
def confBuildsUptoCard : Claim7 := { stood := { row := confBuildsUptoRow, standIns := [], harness := (true, "ebcc77bef65c2d6a18b266604567971d77e89f09edadf0b69fa9c74afca9fbf0"), looks := true }, kinds := [], alts := [], laidByText := true, laidKinds := [.data, .data, .data, .data, .sentinel, .sentinel, .pinned], laidTests := true, laidLooks := .later }
def ConfBuildsUptoCardSaid : Prop := Claim7.holds Tryz.pinned (.plain (OpenSpec.upto confBuildsSpec)) confBuildsUptoCard
end Rows
end Go.Proofs.YtecknaklaleloaaGreatDoor

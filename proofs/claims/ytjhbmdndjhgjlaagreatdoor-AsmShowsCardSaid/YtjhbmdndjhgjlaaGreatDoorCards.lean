/-
  DERIVED. GIVEN WITH THE SEED: THE CARDS: each row of YtjhbmdndjhgjlaaGreatDoorRows.lean that lists a variable, with what it lists TIED to the program's text (the seventh form; the later family's looks); each row that meets fmt, with fmt's text TOLD by the authors' own Lean function (tested against real Go, not proved from fmt's source: count such statements apart). THE CARD IS WHAT COUNTS. Prove the row's statement (the work); the ties are given (YtjhbmdndjhgjlaaGreatDoorTie.lean); close each card by the builder's one call (the guide's Derived/Test/ToyasCard.lean, 'card_holds'). Laid BY PROGRAM, IN A SANDBOX (cutbox-door.mjs). By AI agents, Wed Nov 11 2026. No macro, syntax, notation, axiom, sorry.
-/
import Derived.Test.YtjhbmdndjhgjlaaGreatDoorRows
import GoSem.ClaimSeven
namespace Go.Proofs.YtjhbmdndjhgjlaaGreatDoor
namespace Rows

/-- THE TIED CARD OF 'servitorlaw19.ShowRight'. -/
def showRightCard : Claim7 := { stood := { row := showRightRow, standIns := [], harness := (true, "94f431ac39a21637e031b41b26ddae7de5eb9d86bca569d8a4c9d8540b65b2d6"), looks := true }, kinds := [], alts := [], laidByText := true, laidKinds := [.data, .data, .data, .listed, .data], laidTests := true, laidLooks := .later }
def ShowRightCardSaid : Prop := Claim7.holds Tryz.pinned (.plain (OpenSpec.ofChange showRightSpec)) showRightCard

/-- THE TIED CARD OF 'servitorlaw34.AsmShows'. -/
def asmShowsCard : Claim7 := { stood := { row := asmShowsRow, standIns := [], harness := (true, "94f431ac39a21637e031b41b26ddae7de5eb9d86bca569d8a4c9d8540b65b2d6"), looks := true }, kinds := [], alts := [], laidByText := true, laidKinds := [.data, .data, .data, .data, .sentinel, .sentinel, .listed, .data, .pinned], laidTests := true, laidLooks := .later }
def AsmShowsCardSaid : Prop := Claim7.holds Tryz.pinned (.plain (OpenSpec.ofChange asmShowsSpec)) asmShowsCard

/-- THE SECOND FORM's CARD OF 'servitorlaw19.ShowRight'. -/
def showRightUptoCard : Claim7 := { stood := { row := showRightUptoRow, standIns := [], harness := (true, "94f431ac39a21637e031b41b26ddae7de5eb9d86bca569d8a4c9d8540b65b2d6"), looks := true }, kinds := [], alts := [], laidByText := true, laidKinds := [.data, .data, .data, .listed, .data], laidTests := true, laidLooks := .later }
def ShowRightUptoCardSaid : Prop := Claim7.holds Tryz.pinned (.plain (OpenSpec.upto showRightSpec)) showRightUptoCard

/-- THE SECOND FORM's CARD OF 'servitorlaw34.AsmShows'. -/
def asmShowsUptoCard : Claim7 := { stood := { row := asmShowsUptoRow, standIns := [], harness := (true, "94f431ac39a21637e031b41b26ddae7de5eb9d86bca569d8a4c9d8540b65b2d6"), looks := true }, kinds := [], alts := [], laidByText := true, laidKinds := [.data, .data, .data, .data, .sentinel, .sentinel, .listed, .data, .pinned], laidTests := true, laidLooks := .later }
def AsmShowsUptoCardSaid : Prop := Claim7.holds Tryz.pinned (.plain (OpenSpec.upto asmShowsSpec)) asmShowsUptoCard
end Rows
end Go.Proofs.YtjhbmdndjhgjlaaGreatDoor

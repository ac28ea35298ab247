/-
  DERIVED. GIVEN WITH THE SEED: THE CARDS: each row of YtgcpbkbmnkjlkaaDoorRows.lean that lists a variable, with what it lists TIED to the program's text (the seventh form; the later family's looks); each row that meets fmt, with fmt's text TOLD by the authors' own Lean function (tested against real Go, not proved from fmt's source: count such statements apart). THE CARD IS WHAT COUNTS. Prove the row's statement (the work); the ties are given (YtgcpbkbmnkjlkaaDoorTie.lean); close each card by the builder's one call (the guide's Derived/Test/ToyasCard.lean, 'card_holds'). Laid BY PROGRAM, IN A SANDBOX (cutbox-door.mjs). By AI agents, Wed Nov 11 2026. No macro, syntax, notation, axiom, sorry.
-/
import Derived.Test.YtgcpbkbmnkjlkaaDoorRows
import GoSem.ClaimSeven
namespace Go.Proofs.YtgcpbkbmnkjlkaaDoor
namespace Rows

/-- THE TIED CARD OF 'servitorlaw25.CheckRight'. -/
def checkRightCard : Claim7 := { stood := { row := checkRightRow, standIns := [], harness := (true, "c6a01b82c0dfcd97de445b6c7297c7088cce1ed22e215c461162bd674405d15d"), looks := false }, kinds := [], alts := [], laidByText := true, laidKinds := [.listed, .data], laidTests := true, laidLooks := .later }
def CheckRightCardSaid : Prop := Claim7.holds Tryd.pinned (.plain (OpenSpec.ofChange checkRightSpec)) checkRightCard

/-- THE TIED CARD OF 'servitorlaw25.CheckJoins'. -/
def checkJoinsCard : Claim7 := { stood := { row := checkJoinsRow, standIns := [], harness := (true, "c6a01b82c0dfcd97de445b6c7297c7088cce1ed22e215c461162bd674405d15d"), looks := false }, kinds := [], alts := [], laidByText := true, laidKinds := [.listed, .data], laidTests := true, laidLooks := .later }
def CheckJoinsCardSaid : Prop := Claim7.holds Tryd.pinned (.plain (OpenSpec.ofChange checkJoinsSpec)) checkJoinsCard

/-- THE TIED CARD OF 'servitorlaw17.TokRight'. -/
def tokRightCard : Claim7 := { stood := { row := tokRightRow, standIns := [], harness := (true, "c6a01b82c0dfcd97de445b6c7297c7088cce1ed22e215c461162bd674405d15d"), looks := false }, kinds := [], alts := [], laidByText := true, laidKinds := [.listed, .data], laidTests := true, laidLooks := .later }
def TokRightCardSaid : Prop := Claim7.holds Tryd.pinned (.plain (OpenSpec.ofChange tokRightSpec)) tokRightCard

/-- THE TIED CARD OF 'servitorlaw17.TokGaps'. -/
def tokGapsCard : Claim7 := { stood := { row := tokGapsRow, standIns := [], harness := (true, "c6a01b82c0dfcd97de445b6c7297c7088cce1ed22e215c461162bd674405d15d"), looks := false }, kinds := [], alts := [], laidByText := true, laidKinds := [.listed, .data], laidTests := true, laidLooks := .later }
def TokGapsCardSaid : Prop := Claim7.holds Tryd.pinned (.plain (OpenSpec.ofChange tokGapsSpec)) tokGapsCard

/-- THE TIED CARD OF 'servitorlaw17.TokPlaces'. -/
def tokPlacesCard : Claim7 := { stood := { row := tokPlacesRow, standIns := [], harness := (true, "c6a01b82c0dfcd97de445b6c7297c7088cce1ed22e215c461162bd674405d15d"), looks := false }, kinds := [], alts := [], laidByText := true, laidKinds := [.listed, .data], laidTests := true, laidLooks := .later }
def TokPlacesCardSaid : Prop := Claim7.holds Tryd.pinned (.plain (OpenSpec.ofChange tokPlacesSpec)) tokPlacesCard

/-- THE TIED CARD OF 'servitorlaw17.TokNumbers'. -/
def tokNumbersCard : Claim7 := { stood := { row := tokNumbersRow, standIns := [], harness := (true, "c6a01b82c0dfcd97de445b6c7297c7088cce1ed22e215c461162bd674405d15d"), looks := false }, kinds := [], alts := [], laidByText := true, laidKinds := [.listed, .data], laidTests := true, laidLooks := .later }
def TokNumbersCardSaid : Prop := Claim7.holds Tryd.pinned (.plain (OpenSpec.ofChange tokNumbersSpec)) tokNumbersCard

/-- THE TIED CARD OF 'servitorlaw32.PeepDone'. -/
def peepDoneCard : Claim7 := { stood := { row := peepDoneRow, standIns := [], harness := (true, "c6a01b82c0dfcd97de445b6c7297c7088cce1ed22e215c461162bd674405d15d"), looks := false }, kinds := [], alts := [], laidByText := true, laidKinds := [.listed, .data], laidTests := true, laidLooks := .later }
def PeepDoneCardSaid : Prop := Claim7.holds Tryd.pinned (.plain (OpenSpec.ofChange peepDoneSpec)) peepDoneCard

/-- THE TIED CARD OF 'servitorlaw31.ImagePuts'. -/
def imagePutsCard : Claim7 := { stood := { row := imagePutsRow, standIns := [], harness := (true, "c6a01b82c0dfcd97de445b6c7297c7088cce1ed22e215c461162bd674405d15d"), looks := false }, kinds := [], alts := [], laidByText := true, laidKinds := [.listed, .data], laidTests := true, laidLooks := .later }
def ImagePutsCardSaid : Prop := Claim7.holds Tryd.pinned (.plain (OpenSpec.ofChange imagePutsSpec)) imagePutsCard

/-- THE TIED CARD OF 'servitorlaw31.ImageReads'. -/
def imageReadsCard : Claim7 := { stood := { row := imageReadsRow, standIns := [], harness := (true, "c6a01b82c0dfcd97de445b6c7297c7088cce1ed22e215c461162bd674405d15d"), looks := false }, kinds := [], alts := [], laidByText := true, laidKinds := [.listed, .data], laidTests := true, laidLooks := .later }
def ImageReadsCardSaid : Prop := Claim7.holds Tryd.pinned (.plain (OpenSpec.ofChange imageReadsSpec)) imageReadsCard

/-- THE TIED CARD OF 'servitorlaw31.ImageSpoilt'. -/
def imageSpoiltCard : Claim7 := { stood := { row := imageSpoiltRow, standIns := [], harness := (true, "c6a01b82c0dfcd97de445b6c7297c7088cce1ed22e215c461162bd674405d15d"), looks := false }, kinds := [], alts := [], laidByText := true, laidKinds := [.listed, .data], laidTests := true, laidLooks := .later }
def ImageSpoiltCardSaid : Prop := Claim7.holds Tryd.pinned (.plain (OpenSpec.ofChange imageSpoiltSpec)) imageSpoiltCard

/-- THE TIED CARD OF 'servitorlaw26.VmRight'. -/
def vmRightCard : Claim7 := { stood := { row := vmRightRow, standIns := [], harness := (true, "c6a01b82c0dfcd97de445b6c7297c7088cce1ed22e215c461162bd674405d15d"), looks := false }, kinds := [], alts := [], laidByText := true, laidKinds := [.listed, .data], laidTests := true, laidLooks := .later }
def VmRightCardSaid : Prop := Claim7.holds Tryd.pinned (.plain (OpenSpec.ofChange vmRightSpec)) vmRightCard

/-- THE TIED CARD OF 'servitorlaw26.VmMore'. -/
def vmMoreCard : Claim7 := { stood := { row := vmMoreRow, standIns := [], harness := (true, "c6a01b82c0dfcd97de445b6c7297c7088cce1ed22e215c461162bd674405d15d"), looks := false }, kinds := [], alts := [], laidByText := true, laidKinds := [.listed, .data], laidTests := true, laidLooks := .later }
def VmMoreCardSaid : Prop := Claim7.holds Tryd.pinned (.plain (OpenSpec.ofChange vmMoreSpec)) vmMoreCard

/-- THE SECOND FORM's CARD OF 'servitorlaw25.CheckRight'. -/
def checkRightUptoCard : Claim7 := { stood := { row := checkRightUptoRow, standIns := [], harness := (true, "c6a01b82c0dfcd97de445b6c7297c7088cce1ed22e215c461162bd674405d15d"), looks := false }, kinds := [], alts := [], laidByText := true, laidKinds := [.listed, .data], laidTests := true, laidLooks := .later }
def CheckRightUptoCardSaid : Prop := Claim7.holds Tryd.pinned (.plain (OpenSpec.upto checkRightSpec)) checkRightUptoCard

/-- THE SECOND FORM's CARD OF 'servitorlaw25.CheckJoins'. -/
def checkJoinsUptoCard : Claim7 := { stood := { row := checkJoinsUptoRow, standIns := [], harness := (true, "c6a01b82c0dfcd97de445b6c7297c7088cce1ed22e215c461162bd674405d15d"), looks := false }, kinds := [], alts := [], laidByText := true, laidKinds := [.listed, .data], laidTests := true, laidLooks := .later }
def CheckJoinsUptoCardSaid : Prop := Claim7.holds Tryd.pinned (.plain (OpenSpec.upto checkJoinsSpec)) checkJoinsUptoCard

/-- THE SECOND FORM's CARD OF 'servitorlaw17.TokRight'. -/
def tokRightUptoCard : Claim7 := { stood := { row := tokRightUptoRow, standIns := [], harness := (true, "c6a01b82c0dfcd97de445b6c7297c7088cce1ed22e215c461162bd674405d15d"), looks := false }, kinds := [], alts := [], laidByText := true, laidKinds := [.listed, .data], laidTests := true, laidLooks := .later }
def TokRightUptoCardSaid : Prop := Claim7.holds Tryd.pinned (.plain (OpenSpec.upto tokRightSpec)) tokRightUptoCard

/-- THE SECOND FORM's CARD OF 'servitorlaw17.TokGaps'. -/
def tokGapsUptoCard : Claim7 := { stood := { row := tokGapsUptoRow, standIns := [], harness := (true, "c6a01b82c0dfcd97de445b6c7297c7088cce1ed22e215c461162bd674405d15d"), looks := false }, kinds := [], alts := [], laidByText := true, laidKinds := [.listed, .data], laidTests := true, laidLooks := .later }
def TokGapsUptoCardSaid : Prop := Claim7.holds Tryd.pinned (.plain (OpenSpec.upto tokGapsSpec)) tokGapsUptoCard

/-- THE SECOND FORM's CARD OF 'servitorlaw17.TokPlaces'. -/
def tokPlacesUptoCard : Claim7 := { stood := { row := tokPlacesUptoRow, standIns := [], harness := (true, "c6a01b82c0dfcd97de445b6c7297c7088cce1ed22e215c461162bd674405d15d"), looks := false }, kinds := [], alts := [], laidByText := true, laidKinds := [.listed, .data], laidTests := true, laidLooks := .later }
def TokPlacesUptoCardSaid : Prop := Claim7.holds Tryd.pinned (.plain (OpenSpec.upto tokPlacesSpec)) tokPlacesUptoCard

/-- THE SECOND FORM's CARD OF 'servitorlaw17.TokNumbers'. -/
def tokNumbersUptoCard : Claim7 := { stood := { row := tokNumbersUptoRow, standIns := [], harness := (true, "c6a01b82c0dfcd97de445b6c7297c7088cce1ed22e215c461162bd674405d15d"), looks := false }, kinds := [], alts := [], laidByText := true, laidKinds := [.listed, .data], laidTests := true, laidLooks := .later }
def TokNumbersUptoCardSaid : Prop := Claim7.holds Tryd.pinned (.plain (OpenSpec.upto tokNumbersSpec)) tokNumbersUptoCard

/-- THE SECOND FORM's CARD OF 'servitorlaw32.PeepDone'. -/
def peepDoneUptoCard : Claim7 := { stood := { row := peepDoneUptoRow, standIns := [], harness := (true, "c6a01b82c0dfcd97de445b6c7297c7088cce1ed22e215c461162bd674405d15d"), looks := false }, kinds := [], alts := [], laidByText := true, laidKinds := [.listed, .data], laidTests := true, laidLooks := .later }
def PeepDoneUptoCardSaid : Prop := Claim7.holds Tryd.pinned (.plain (OpenSpec.upto peepDoneSpec)) peepDoneUptoCard

/-- THE SECOND FORM's CARD OF 'servitorlaw31.ImagePuts'. -/
def imagePutsUptoCard : Claim7 := { stood := { row := imagePutsUptoRow, standIns := [], harness := (true, "c6a01b82c0dfcd97de445b6c7297c7088cce1ed22e215c461162bd674405d15d"), looks := false }, kinds := [], alts := [], laidByText := true, laidKinds := [.listed, .data], laidTests := true, laidLooks := .later }
def ImagePutsUptoCardSaid : Prop := Claim7.holds Tryd.pinned (.plain (OpenSpec.upto imagePutsSpec)) imagePutsUptoCard

/-- THE SECOND FORM's CARD OF 'servitorlaw31.ImageReads'. -/
def imageReadsUptoCard : Claim7 := { stood := { row := imageReadsUptoRow, standIns := [], harness := (true, "c6a01b82c0dfcd97de445b6c7297c7088cce1ed22e215c461162bd674405d15d"), looks := false }, kinds := [], alts := [], laidByText := true, laidKinds := [.listed, .data], laidTests := true, laidLooks := .later }
def ImageReadsUptoCardSaid : Prop := Claim7.holds Tryd.pinned (.plain (OpenSpec.upto imageReadsSpec)) imageReadsUptoCard

/-- THE SECOND FORM's CARD OF 'servitorlaw31.ImageSpoilt'. -/
def imageSpoiltUptoCard : Claim7 := { stood := { row := imageSpoiltUptoRow, standIns := [], harness := (true, "c6a01b82c0dfcd97de445b6c7297c7088cce1ed22e215c461162bd674405d15d"), looks := false }, kinds := [], alts := [], laidByText := true, laidKinds := [.listed, .data], laidTests := true, laidLooks := .later }
def ImageSpoiltUptoCardSaid : Prop := Claim7.holds Tryd.pinned (.plain (OpenSpec.upto imageSpoiltSpec)) imageSpoiltUptoCard

/-- THE SECOND FORM's CARD OF 'servitorlaw26.VmRight'. -/
def vmRightUptoCard : Claim7 := { stood := { row := vmRightUptoRow, standIns := [], harness := (true, "c6a01b82c0dfcd97de445b6c7297c7088cce1ed22e215c461162bd674405d15d"), looks := false }, kinds := [], alts := [], laidByText := true, laidKinds := [.listed, .data], laidTests := true, laidLooks := .later }
def VmRightUptoCardSaid : Prop := Claim7.holds Tryd.pinned (.plain (OpenSpec.upto vmRightSpec)) vmRightUptoCard

/-- THE SECOND FORM's CARD OF 'servitorlaw26.VmMore'. -/
def vmMoreUptoCard : Claim7 := { stood := { row := vmMoreUptoRow, standIns := [], harness := (true, "c6a01b82c0dfcd97de445b6c7297c7088cce1ed22e215c461162bd674405d15d"), looks := false }, kinds := [], alts := [], laidByText := true, laidKinds := [.listed, .data], laidTests := true, laidLooks := .later }
def VmMoreUptoCardSaid : Prop := Claim7.holds Tryd.pinned (.plain (OpenSpec.upto vmMoreSpec)) vmMoreUptoCard
end Rows
end Go.Proofs.YtgcpbkbmnkjlkaaDoor

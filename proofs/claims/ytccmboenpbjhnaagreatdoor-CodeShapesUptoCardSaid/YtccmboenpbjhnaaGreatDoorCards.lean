/-
  DERIVED. GIVEN WITH THE SEED: THE CARDS: each row of YtccmboenpbjhnaaGreatDoorRows.lean that lists a variable, with what it lists TIED to the program's text (the seventh form; the later family's looks); each row that meets fmt, with fmt's text TOLD by the authors' own Lean function (tested against real Go, not proved from fmt's source: count such statements apart). THE CARD IS WHAT COUNTS. Prove the row's statement (the work); the ties are given (YtccmboenpbjhnaaGreatDoorTie.lean); close each card by the builder's one call (the guide's Derived/Test/ToyasCard.lean, 'card_holds'). Laid BY PROGRAM, IN A SANDBOX (cutbox-door.mjs). By AI agents, Wed Nov 11 2026. No macro, syntax, notation, axiom, sorry.
-/
import Derived.Test.YtccmboenpbjhnaaGreatDoorRows
import GoSem.ClaimSeven
namespace Go.Proofs.YtccmboenpbjhnaaGreatDoor
namespace Rows

/-- THE TIED CARD OF 'servitorlaw32.PeepMeans'. -/
def peepMeansCard : Claim7 := { stood := { row := peepMeansRow, standIns := [], harness := (true, "c386997057e5b76473d9bb34a8725651a2a7bb084f85bb01b0c0994d7f2de880"), looks := true }, kinds := [], alts := [], laidByText := true, laidKinds := [.listed, .data], laidTests := true, laidLooks := .later }
def PeepMeansCardSaid : Prop := Claim7.holds Tryz.pinned (.plain (OpenSpec.ofChange peepMeansSpec)) peepMeansCard

/-- THE TIED CARD OF 'servitorlaw26.VmSame'. -/
def vmSameCard : Claim7 := { stood := { row := vmSameRow, standIns := [], harness := (true, "c386997057e5b76473d9bb34a8725651a2a7bb084f85bb01b0c0994d7f2de880"), looks := true }, kinds := [], alts := [], laidByText := true, laidKinds := [.listed, .data], laidTests := true, laidLooks := .later }
def VmSameCardSaid : Prop := Claim7.holds Tryz.pinned (.plain (OpenSpec.ofChange vmSameSpec)) vmSameCard

/-- THE TIED CARD OF 'servitorlaw24.CodeRight'. -/
def codeRightCard : Claim7 := { stood := { row := codeRightRow, standIns := [], harness := (true, "c386997057e5b76473d9bb34a8725651a2a7bb084f85bb01b0c0994d7f2de880"), looks := true }, kinds := [], alts := [], laidByText := true, laidKinds := [.listed, .data], laidTests := true, laidLooks := .later }
def CodeRightCardSaid : Prop := Claim7.holds Tryz.pinned (.plain (OpenSpec.ofChange codeRightSpec)) codeRightCard

/-- THE TIED CARD OF 'servitorlaw24.CodeShapes'. -/
def codeShapesCard : Claim7 := { stood := { row := codeShapesRow, standIns := [], harness := (true, "c386997057e5b76473d9bb34a8725651a2a7bb084f85bb01b0c0994d7f2de880"), looks := true }, kinds := [], alts := [], laidByText := true, laidKinds := [.listed, .data], laidTests := true, laidLooks := .later }
def CodeShapesCardSaid : Prop := Claim7.holds Tryz.pinned (.plain (OpenSpec.ofChange codeShapesSpec)) codeShapesCard

/-- THE TIED CARD OF 'servitorlaw23.MeanMore'. -/
def meanMoreCard : Claim7 := { stood := { row := meanMoreRow, standIns := [], harness := (true, "c386997057e5b76473d9bb34a8725651a2a7bb084f85bb01b0c0994d7f2de880"), looks := true }, kinds := [], alts := [], laidByText := true, laidKinds := [.listed, .data], laidTests := true, laidLooks := .later }
def MeanMoreCardSaid : Prop := Claim7.holds Tryz.pinned (.plain (OpenSpec.ofChange meanMoreSpec)) meanMoreCard

/-- THE TIED CARD OF 'servitorlaw23.MeanJoins'. -/
def meanJoinsCard : Claim7 := { stood := { row := meanJoinsRow, standIns := [], harness := (true, "c386997057e5b76473d9bb34a8725651a2a7bb084f85bb01b0c0994d7f2de880"), looks := true }, kinds := [], alts := [], laidByText := true, laidKinds := [.listed, .data], laidTests := true, laidLooks := .later }
def MeanJoinsCardSaid : Prop := Claim7.holds Tryz.pinned (.plain (OpenSpec.ofChange meanJoinsSpec)) meanJoinsCard

/-- THE TIED CARD OF 'servitorlaw23.MeanFolds'. -/
def meanFoldsCard : Claim7 := { stood := { row := meanFoldsRow, standIns := [], harness := (true, "c386997057e5b76473d9bb34a8725651a2a7bb084f85bb01b0c0994d7f2de880"), looks := true }, kinds := [], alts := [], laidByText := true, laidKinds := [.listed, .data], laidTests := true, laidLooks := .later }
def MeanFoldsCardSaid : Prop := Claim7.holds Tryz.pinned (.plain (OpenSpec.ofChange meanFoldsSpec)) meanFoldsCard

/-- THE TIED CARD OF 'servitorlaw25.CheckTexts'. -/
def checkTextsCard : Claim7 := { stood := { row := checkTextsRow, standIns := [], harness := (true, "c386997057e5b76473d9bb34a8725651a2a7bb084f85bb01b0c0994d7f2de880"), looks := true }, kinds := [], alts := [], laidByText := true, laidKinds := [.listed, .data], laidTests := true, laidLooks := .later }
def CheckTextsCardSaid : Prop := Claim7.holds Tryz.pinned (.plain (OpenSpec.ofChange checkTextsSpec)) checkTextsCard

/-- THE TIED CARD OF 'servitorlaw26.VmTexts'. -/
def vmTextsCard : Claim7 := { stood := { row := vmTextsRow, standIns := [], harness := (true, "c386997057e5b76473d9bb34a8725651a2a7bb084f85bb01b0c0994d7f2de880"), looks := true }, kinds := [], alts := [], laidByText := true, laidKinds := [.listed, .data], laidTests := true, laidLooks := .later }
def VmTextsCardSaid : Prop := Claim7.holds Tryz.pinned (.plain (OpenSpec.ofChange vmTextsSpec)) vmTextsCard

/-- THE SECOND FORM's CARD OF 'servitorlaw32.PeepMeans'. -/
def peepMeansUptoCard : Claim7 := { stood := { row := peepMeansUptoRow, standIns := [], harness := (true, "c386997057e5b76473d9bb34a8725651a2a7bb084f85bb01b0c0994d7f2de880"), looks := true }, kinds := [], alts := [], laidByText := true, laidKinds := [.listed, .data], laidTests := true, laidLooks := .later }
def PeepMeansUptoCardSaid : Prop := Claim7.holds Tryz.pinned (.plain (OpenSpec.upto peepMeansSpec)) peepMeansUptoCard

/-- THE SECOND FORM's CARD OF 'servitorlaw26.VmSame'. -/
def vmSameUptoCard : Claim7 := { stood := { row := vmSameUptoRow, standIns := [], harness := (true, "c386997057e5b76473d9bb34a8725651a2a7bb084f85bb01b0c0994d7f2de880"), looks := true }, kinds := [], alts := [], laidByText := true, laidKinds := [.listed, .data], laidTests := true, laidLooks := .later }
def VmSameUptoCardSaid : Prop := Claim7.holds Tryz.pinned (.plain (OpenSpec.upto vmSameSpec)) vmSameUptoCard

/-- THE SECOND FORM's CARD OF 'servitorlaw24.CodeRight'. -/
def codeRightUptoCard : Claim7 := { stood := { row := codeRightUptoRow, standIns := [], harness := (true, "c386997057e5b76473d9bb34a8725651a2a7bb084f85bb01b0c0994d7f2de880"), looks := true }, kinds := [], alts := [], laidByText := true, laidKinds := [.listed, .data], laidTests := true, laidLooks := .later }
def CodeRightUptoCardSaid : Prop := Claim7.holds Tryz.pinned (.plain (OpenSpec.upto codeRightSpec)) codeRightUptoCard

/-- THE SECOND FORM's CARD OF 'servitorlaw24.CodeShapes'. -/
def codeShapesUptoCard : Claim7 := { stood := { row := codeShapesUptoRow, standIns := [], harness := (true, "c386997057e5b76473d9bb34a8725651a2a7bb084f85bb01b0c0994d7f2de880"), looks := true }, kinds := [], alts := [], laidByText := true, laidKinds := [.listed, .data], laidTests := true, laidLooks := .later }
def CodeShapesUptoCardSaid : Prop := Claim7.holds Tryz.pinned (.plain (OpenSpec.upto codeShapesSpec)) codeShapesUptoCard

/-- THE SECOND FORM's CARD OF 'servitorlaw23.MeanMore'. -/
def meanMoreUptoCard : Claim7 := { stood := { row := meanMoreUptoRow, standIns := [], harness := (true, "c386997057e5b76473d9bb34a8725651a2a7bb084f85bb01b0c0994d7f2de880"), looks := true }, kinds := [], alts := [], laidByText := true, laidKinds := [.listed, .data], laidTests := true, laidLooks := .later }
def MeanMoreUptoCardSaid : Prop := Claim7.holds Tryz.pinned (.plain (OpenSpec.upto meanMoreSpec)) meanMoreUptoCard

/-- THE SECOND FORM's CARD OF 'servitorlaw23.MeanJoins'. -/
def meanJoinsUptoCard : Claim7 := { stood := { row := meanJoinsUptoRow, standIns := [], harness := (true, "c386997057e5b76473d9bb34a8725651a2a7bb084f85bb01b0c0994d7f2de880"), looks := true }, kinds := [], alts := [], laidByText := true, laidKinds := [.listed, .data], laidTests := true, laidLooks := .later }
def MeanJoinsUptoCardSaid : Prop := Claim7.holds Tryz.pinned (.plain (OpenSpec.upto meanJoinsSpec)) meanJoinsUptoCard

/-- THE SECOND FORM's CARD OF 'servitorlaw23.MeanFolds'. -/
def meanFoldsUptoCard : Claim7 := { stood := { row := meanFoldsUptoRow, standIns := [], harness := (true, "c386997057e5b76473d9bb34a8725651a2a7bb084f85bb01b0c0994d7f2de880"), looks := true }, kinds := [], alts := [], laidByText := true, laidKinds := [.listed, .data], laidTests := true, laidLooks := .later }
def MeanFoldsUptoCardSaid : Prop := Claim7.holds Tryz.pinned (.plain (OpenSpec.upto meanFoldsSpec)) meanFoldsUptoCard

/-- THE SECOND FORM's CARD OF 'servitorlaw25.CheckTexts'. -/
def checkTextsUptoCard : Claim7 := { stood := { row := checkTextsUptoRow, standIns := [], harness := (true, "c386997057e5b76473d9bb34a8725651a2a7bb084f85bb01b0c0994d7f2de880"), looks := true }, kinds := [], alts := [], laidByText := true, laidKinds := [.listed, .data], laidTests := true, laidLooks := .later }
def CheckTextsUptoCardSaid : Prop := Claim7.holds Tryz.pinned (.plain (OpenSpec.upto checkTextsSpec)) checkTextsUptoCard

/-- THE SECOND FORM's CARD OF 'servitorlaw26.VmTexts'. -/
def vmTextsUptoCard : Claim7 := { stood := { row := vmTextsUptoRow, standIns := [], harness := (true, "c386997057e5b76473d9bb34a8725651a2a7bb084f85bb01b0c0994d7f2de880"), looks := true }, kinds := [], alts := [], laidByText := true, laidKinds := [.listed, .data], laidTests := true, laidLooks := .later }
def VmTextsUptoCardSaid : Prop := Claim7.holds Tryz.pinned (.plain (OpenSpec.upto vmTextsSpec)) vmTextsUptoCard
end Rows
end Go.Proofs.YtccmboenpbjhnaaGreatDoor

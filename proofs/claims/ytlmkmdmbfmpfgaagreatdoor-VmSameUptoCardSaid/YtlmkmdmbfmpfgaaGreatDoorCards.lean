/-
  DERIVED. GIVEN WITH THE SEED: THE CARDS: each row of YtlmkmdmbfmpfgaaGreatDoorRows.lean that lists a variable, with what it lists TIED to the program's text (the seventh form; the later family's looks); each row that meets fmt, with fmt's text TOLD by the authors' own Lean function (tested against real Go, not proved from fmt's source: count such statements apart). THE CARD IS WHAT COUNTS. Prove the row's statement (the work); the ties are given (YtlmkmdmbfmpfgaaGreatDoorTie.lean); close each card by the builder's one call (the guide's Derived/Test/ToyasCard.lean, 'card_holds'). Laid BY PROGRAM, IN A SANDBOX (cutbox-door.mjs). By AI agents, Wed Nov 11 2026. No macro, syntax, notation, axiom, sorry.
-/
import Derived.Test.YtlmkmdmbfmpfgaaGreatDoorRows
import GoSem.ClaimSeven
namespace Go.Proofs.YtlmkmdmbfmpfgaaGreatDoor
namespace Rows

/-- THE TIED CARD OF 'servitorlaw32.PeepMeans'. -/
def peepMeansCard : Claim7 := { stood := { row := peepMeansRow, standIns := [], harness := (true, "ead922381191843cc01229b5266f59db515b742b0f57433598af901ff939579b"), looks := true }, kinds := [], alts := [], laidByText := true, laidKinds := [.listed, .data], laidTests := true, laidLooks := .later }
def PeepMeansCardSaid : Prop := Claim7.holds Tryz.pinned (.plain (OpenSpec.ofChange peepMeansSpec)) peepMeansCard

/-- THE TIED CARD OF 'servitorlaw26.VmSame'. -/
def vmSameCard : Claim7 := { stood := { row := vmSameRow, standIns := [], harness := (true, "ead922381191843cc01229b5266f59db515b742b0f57433598af901ff939579b"), looks := true }, kinds := [], alts := [], laidByText := true, laidKinds := [.listed, .data], laidTests := true, laidLooks := .later }
def VmSameCardSaid : Prop := Claim7.holds Tryz.pinned (.plain (OpenSpec.ofChange vmSameSpec)) vmSameCard

/-- THE TIED CARD OF 'servitorlaw24.CodeRight'. -/
def codeRightCard : Claim7 := { stood := { row := codeRightRow, standIns := [], harness := (true, "ead922381191843cc01229b5266f59db515b742b0f57433598af901ff939579b"), looks := true }, kinds := [], alts := [], laidByText := true, laidKinds := [.listed, .data], laidTests := true, laidLooks := .later }
def CodeRightCardSaid : Prop := Claim7.holds Tryz.pinned (.plain (OpenSpec.ofChange codeRightSpec)) codeRightCard

/-- THE TIED CARD OF 'servitorlaw26.VmTexts'. -/
def vmTextsCard : Claim7 := { stood := { row := vmTextsRow, standIns := [], harness := (true, "ead922381191843cc01229b5266f59db515b742b0f57433598af901ff939579b"), looks := true }, kinds := [], alts := [], laidByText := true, laidKinds := [.listed, .data], laidTests := true, laidLooks := .later }
def VmTextsCardSaid : Prop := Claim7.holds Tryz.pinned (.plain (OpenSpec.ofChange vmTextsSpec)) vmTextsCard

/-- THE SECOND FORM's CARD OF 'servitorlaw32.PeepMeans'. -/
def peepMeansUptoCard : Claim7 := { stood := { row := peepMeansUptoRow, standIns := [], harness := (true, "ead922381191843cc01229b5266f59db515b742b0f57433598af901ff939579b"), looks := true }, kinds := [], alts := [], laidByText := true, laidKinds := [.listed, .data], laidTests := true, laidLooks := .later }
def PeepMeansUptoCardSaid : Prop := Claim7.holds Tryz.pinned (.plain (OpenSpec.upto peepMeansSpec)) peepMeansUptoCard

/-- THE SECOND FORM's CARD OF 'servitorlaw26.VmSame'. -/
def vmSameUptoCard : Claim7 := { stood := { row := vmSameUptoRow, standIns := [], harness := (true, "ead922381191843cc01229b5266f59db515b742b0f57433598af901ff939579b"), looks := true }, kinds := [], alts := [], laidByText := true, laidKinds := [.listed, .data], laidTests := true, laidLooks := .later }
def VmSameUptoCardSaid : Prop := Claim7.holds Tryz.pinned (.plain (OpenSpec.upto vmSameSpec)) vmSameUptoCard

/-- THE SECOND FORM's CARD OF 'servitorlaw24.CodeRight'. -/
def codeRightUptoCard : Claim7 := { stood := { row := codeRightUptoRow, standIns := [], harness := (true, "ead922381191843cc01229b5266f59db515b742b0f57433598af901ff939579b"), looks := true }, kinds := [], alts := [], laidByText := true, laidKinds := [.listed, .data], laidTests := true, laidLooks := .later }
def CodeRightUptoCardSaid : Prop := Claim7.holds Tryz.pinned (.plain (OpenSpec.upto codeRightSpec)) codeRightUptoCard

/-- THE SECOND FORM's CARD OF 'servitorlaw26.VmTexts'. -/
def vmTextsUptoCard : Claim7 := { stood := { row := vmTextsUptoRow, standIns := [], harness := (true, "ead922381191843cc01229b5266f59db515b742b0f57433598af901ff939579b"), looks := true }, kinds := [], alts := [], laidByText := true, laidKinds := [.listed, .data], laidTests := true, laidLooks := .later }
def VmTextsUptoCardSaid : Prop := Claim7.holds Tryz.pinned (.plain (OpenSpec.upto vmTextsSpec)) vmTextsUptoCard
end Rows
end Go.Proofs.YtlmkmdmbfmpfgaaGreatDoor

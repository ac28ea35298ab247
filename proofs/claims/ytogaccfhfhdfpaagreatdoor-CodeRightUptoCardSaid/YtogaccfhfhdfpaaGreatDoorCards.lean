/-
  DERIVED. GIVEN WITH THE SEED: THE CARDS: each row of YtogaccfhfhdfpaaGreatDoorRows.lean that lists a variable, with what it lists TIED to the program's text (the seventh form; the later family's looks); each row that meets fmt, with fmt's text TOLD by the authors' own Lean function (tested against real Go, not proved from fmt's source: count such statements apart). THE CARD IS WHAT COUNTS. Prove the row's statement (the work); the ties are given (YtogaccfhfhdfpaaGreatDoorTie.lean); close each card by the builder's one call (the guide's Derived/Test/ToyasCard.lean, 'card_holds'). Laid BY PROGRAM, IN A SANDBOX (cutbox-door.mjs). By AI agents, Wed Nov 11 2026. No macro, syntax, notation, axiom, sorry.
-/
import Derived.Test.YtogaccfhfhdfpaaGreatDoorRows
import GoSem.ClaimSeven
namespace Go.Proofs.YtogaccfhfhdfpaaGreatDoor
namespace Rows

/-- THE TIED CARD OF 'servitorlaw32.PeepMeans'. -/
def peepMeansCard : Claim7 := { stood := { row := peepMeansRow, standIns := [], harness := (true, "469d863c181253a53aaa8eef8edd0367f76ec9351964b4efb866eff4574bd12a"), looks := true }, kinds := [], alts := [], laidByText := true, laidKinds := [.listed, .data], laidTests := true, laidLooks := .later }
def PeepMeansCardSaid : Prop := Claim7.holds Tryz.pinned (.plain (OpenSpec.ofChange peepMeansSpec)) peepMeansCard

/-- THE TIED CARD OF 'servitorlaw24.CodeRight'. -/
def codeRightCard : Claim7 := { stood := { row := codeRightRow, standIns := [], harness := (true, "469d863c181253a53aaa8eef8edd0367f76ec9351964b4efb866eff4574bd12a"), looks := true }, kinds := [], alts := [], laidByText := true, laidKinds := [.listed, .data], laidTests := true, laidLooks := .later }
def CodeRightCardSaid : Prop := Claim7.holds Tryz.pinned (.plain (OpenSpec.ofChange codeRightSpec)) codeRightCard

/-- THE TIED CARD OF 'servitorlaw26.VmTexts'. -/
def vmTextsCard : Claim7 := { stood := { row := vmTextsRow, standIns := [], harness := (true, "469d863c181253a53aaa8eef8edd0367f76ec9351964b4efb866eff4574bd12a"), looks := true }, kinds := [], alts := [], laidByText := true, laidKinds := [.listed, .data], laidTests := true, laidLooks := .later }
def VmTextsCardSaid : Prop := Claim7.holds Tryz.pinned (.plain (OpenSpec.ofChange vmTextsSpec)) vmTextsCard

/-- THE SECOND FORM's CARD OF 'servitorlaw32.PeepMeans'. -/
def peepMeansUptoCard : Claim7 := { stood := { row := peepMeansUptoRow, standIns := [], harness := (true, "469d863c181253a53aaa8eef8edd0367f76ec9351964b4efb866eff4574bd12a"), looks := true }, kinds := [], alts := [], laidByText := true, laidKinds := [.listed, .data], laidTests := true, laidLooks := .later }
def PeepMeansUptoCardSaid : Prop := Claim7.holds Tryz.pinned (.plain (OpenSpec.upto peepMeansSpec)) peepMeansUptoCard

/-- THE SECOND FORM's CARD OF 'servitorlaw24.CodeRight'. -/
def codeRightUptoCard : Claim7 := { stood := { row := codeRightUptoRow, standIns := [], harness := (true, "469d863c181253a53aaa8eef8edd0367f76ec9351964b4efb866eff4574bd12a"), looks := true }, kinds := [], alts := [], laidByText := true, laidKinds := [.listed, .data], laidTests := true, laidLooks := .later }
def CodeRightUptoCardSaid : Prop := Claim7.holds Tryz.pinned (.plain (OpenSpec.upto codeRightSpec)) codeRightUptoCard

/-- THE SECOND FORM's CARD OF 'servitorlaw26.VmTexts'. -/
def vmTextsUptoCard : Claim7 := { stood := { row := vmTextsUptoRow, standIns := [], harness := (true, "469d863c181253a53aaa8eef8edd0367f76ec9351964b4efb866eff4574bd12a"), looks := true }, kinds := [], alts := [], laidByText := true, laidKinds := [.listed, .data], laidTests := true, laidLooks := .later }
def VmTextsUptoCardSaid : Prop := Claim7.holds Tryz.pinned (.plain (OpenSpec.upto vmTextsSpec)) vmTextsUptoCard
end Rows
end Go.Proofs.YtogaccfhfhdfpaaGreatDoor

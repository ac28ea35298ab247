/-
  DERIVED. GIVEN WITH THE SEED: THE CARDS: each row of YtmlboljlgaaebaaDoorRows.lean that lists a variable, with what it lists TIED to the program's text (the seventh form; the later family's looks); each row that meets fmt, with fmt's text TOLD by the authors' own Lean function (tested against real Go, not proved from fmt's source: count such statements apart). THE CARD IS WHAT COUNTS. Prove the row's statement (the work); the ties are given (YtmlboljlgaaebaaDoorTie.lean); close each card by the builder's one call (the guide's Derived/Test/ToyasCard.lean, 'card_holds'). Laid BY PROGRAM, IN A SANDBOX (cutbox-door.mjs). By AI agents, Wed Nov 11 2026. No macro, syntax, notation, axiom, sorry.
-/
import Derived.Test.YtmlboljlgaaebaaDoorRows
import GoSem.ClaimSeven
namespace Go.Proofs.YtmlboljlgaaebaaDoor
namespace Rows

/-- THE TIED CARD OF 'servitorlaw32.PeepDone'. -/
def peepDoneCard : Claim7 := { stood := { row := peepDoneRow, standIns := [], harness := (true, "31cc160f928aa12acb3999d447f8a6e955ebe4231ba74ebd7e666aed737ce01e"), looks := false }, kinds := [], alts := [], laidByText := true, laidKinds := [.listed, .data], laidTests := true, laidLooks := .later }
def PeepDoneCardSaid : Prop := Claim7.holds Tryd.pinned (.plain (OpenSpec.ofChange peepDoneSpec)) peepDoneCard

/-- THE TIED CARD OF 'servitorlaw26.VmRight'. -/
def vmRightCard : Claim7 := { stood := { row := vmRightRow, standIns := [], harness := (true, "31cc160f928aa12acb3999d447f8a6e955ebe4231ba74ebd7e666aed737ce01e"), looks := false }, kinds := [], alts := [], laidByText := true, laidKinds := [.listed, .data], laidTests := true, laidLooks := .later }
def VmRightCardSaid : Prop := Claim7.holds Tryd.pinned (.plain (OpenSpec.ofChange vmRightSpec)) vmRightCard

/-- THE TIED CARD OF 'servitorlaw26.VmMore'. -/
def vmMoreCard : Claim7 := { stood := { row := vmMoreRow, standIns := [], harness := (true, "31cc160f928aa12acb3999d447f8a6e955ebe4231ba74ebd7e666aed737ce01e"), looks := false }, kinds := [], alts := [], laidByText := true, laidKinds := [.listed, .data], laidTests := true, laidLooks := .later }
def VmMoreCardSaid : Prop := Claim7.holds Tryd.pinned (.plain (OpenSpec.ofChange vmMoreSpec)) vmMoreCard

/-- THE SECOND FORM's CARD OF 'servitorlaw32.PeepDone'. -/
def peepDoneUptoCard : Claim7 := { stood := { row := peepDoneUptoRow, standIns := [], harness := (true, "31cc160f928aa12acb3999d447f8a6e955ebe4231ba74ebd7e666aed737ce01e"), looks := false }, kinds := [], alts := [], laidByText := true, laidKinds := [.listed, .data], laidTests := true, laidLooks := .later }
def PeepDoneUptoCardSaid : Prop := Claim7.holds Tryd.pinned (.plain (OpenSpec.upto peepDoneSpec)) peepDoneUptoCard

/-- THE SECOND FORM's CARD OF 'servitorlaw26.VmRight'. -/
def vmRightUptoCard : Claim7 := { stood := { row := vmRightUptoRow, standIns := [], harness := (true, "31cc160f928aa12acb3999d447f8a6e955ebe4231ba74ebd7e666aed737ce01e"), looks := false }, kinds := [], alts := [], laidByText := true, laidKinds := [.listed, .data], laidTests := true, laidLooks := .later }
def VmRightUptoCardSaid : Prop := Claim7.holds Tryd.pinned (.plain (OpenSpec.upto vmRightSpec)) vmRightUptoCard

/-- THE SECOND FORM's CARD OF 'servitorlaw26.VmMore'. -/
def vmMoreUptoCard : Claim7 := { stood := { row := vmMoreUptoRow, standIns := [], harness := (true, "31cc160f928aa12acb3999d447f8a6e955ebe4231ba74ebd7e666aed737ce01e"), looks := false }, kinds := [], alts := [], laidByText := true, laidKinds := [.listed, .data], laidTests := true, laidLooks := .later }
def VmMoreUptoCardSaid : Prop := Claim7.holds Tryd.pinned (.plain (OpenSpec.upto vmMoreSpec)) vmMoreUptoCard
end Rows
end Go.Proofs.YtmlboljlgaaebaaDoor

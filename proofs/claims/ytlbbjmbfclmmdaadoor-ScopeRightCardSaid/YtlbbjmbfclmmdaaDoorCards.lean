/-
  DERIVED. GIVEN WITH THE SEED: THE CARDS: each row of YtlbbjmbfclmmdaaDoorRows.lean that lists a variable, with what it lists TIED to the program's text (the seventh form; the later family's looks); each row that meets fmt, with fmt's text TOLD by the authors' own Lean function (tested against real Go, not proved from fmt's source: count such statements apart). THE CARD IS WHAT COUNTS. Prove the row's statement (the work); the ties are given (YtlbbjmbfclmmdaaDoorTie.lean); close each card by the builder's one call (the guide's Derived/Test/ToyasCard.lean, 'card_holds'). Laid BY PROGRAM, IN A SANDBOX (cutbox-door.mjs). By AI agents, Wed Nov 11 2026. No macro, syntax, notation, axiom, sorry.
-/
import Derived.Test.YtlbbjmbfclmmdaaDoorRows
import GoSem.ClaimSeven
namespace Go.Proofs.YtlbbjmbfclmmdaaDoor
namespace Rows

/-- THE TIED CARD OF 'servitorlaw35.ScopeRight'. -/
def scopeRightCard : Claim7 := { stood := { row := scopeRightRow, standIns := [], harness := (true, "197baf57cfa7673d931674526e4d7a6a54892ce51319204cc8b72de982c9f030"), looks := false }, kinds := [], alts := [], laidByText := true, laidKinds := [.data, .data, .data], laidTests := true, laidLooks := .later }
def ScopeRightCardSaid : Prop := Claim7.holds Tryd.pinned (.plain (OpenSpec.ofChange scopeRightSpec)) scopeRightCard

/-- THE TIED CARD OF 'servitorlaw35.ScopeFirst'. -/
def scopeFirstCard : Claim7 := { stood := { row := scopeFirstRow, standIns := [], harness := (true, "197baf57cfa7673d931674526e4d7a6a54892ce51319204cc8b72de982c9f030"), looks := false }, kinds := [], alts := [], laidByText := true, laidKinds := [.data, .data, .data], laidTests := true, laidLooks := .later }
def ScopeFirstCardSaid : Prop := Claim7.holds Tryd.pinned (.plain (OpenSpec.ofChange scopeFirstSpec)) scopeFirstCard

/-- THE TIED CARD OF 'servitorlaw35.ScopeRaw'. -/
def scopeRawCard : Claim7 := { stood := { row := scopeRawRow, standIns := [], harness := (true, "197baf57cfa7673d931674526e4d7a6a54892ce51319204cc8b72de982c9f030"), looks := false }, kinds := [], alts := [], laidByText := true, laidKinds := [.data, .data, .data], laidTests := true, laidLooks := .later }
def ScopeRawCardSaid : Prop := Claim7.holds Tryd.pinned (.plain (OpenSpec.ofChange scopeRawSpec)) scopeRawCard

/-- THE SECOND FORM's CARD OF 'servitorlaw35.ScopeRight'. -/
def scopeRightUptoCard : Claim7 := { stood := { row := scopeRightUptoRow, standIns := [], harness := (true, "197baf57cfa7673d931674526e4d7a6a54892ce51319204cc8b72de982c9f030"), looks := false }, kinds := [], alts := [], laidByText := true, laidKinds := [.data, .data, .data], laidTests := true, laidLooks := .later }
def ScopeRightUptoCardSaid : Prop := Claim7.holds Tryd.pinned (.plain (OpenSpec.upto scopeRightSpec)) scopeRightUptoCard

/-- THE SECOND FORM's CARD OF 'servitorlaw35.ScopeFirst'. -/
def scopeFirstUptoCard : Claim7 := { stood := { row := scopeFirstUptoRow, standIns := [], harness := (true, "197baf57cfa7673d931674526e4d7a6a54892ce51319204cc8b72de982c9f030"), looks := false }, kinds := [], alts := [], laidByText := true, laidKinds := [.data, .data, .data], laidTests := true, laidLooks := .later }
def ScopeFirstUptoCardSaid : Prop := Claim7.holds Tryd.pinned (.plain (OpenSpec.upto scopeFirstSpec)) scopeFirstUptoCard

/-- THE SECOND FORM's CARD OF 'servitorlaw35.ScopeRaw'. -/
def scopeRawUptoCard : Claim7 := { stood := { row := scopeRawUptoRow, standIns := [], harness := (true, "197baf57cfa7673d931674526e4d7a6a54892ce51319204cc8b72de982c9f030"), looks := false }, kinds := [], alts := [], laidByText := true, laidKinds := [.data, .data, .data], laidTests := true, laidLooks := .later }
def ScopeRawUptoCardSaid : Prop := Claim7.holds Tryd.pinned (.plain (OpenSpec.upto scopeRawSpec)) scopeRawUptoCard
end Rows
end Go.Proofs.YtlbbjmbfclmmdaaDoor

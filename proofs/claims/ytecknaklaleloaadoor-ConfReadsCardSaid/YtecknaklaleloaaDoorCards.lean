/-
  DERIVED. GIVEN WITH THE SEED: THE CARDS: each row of YtecknaklaleloaaDoorRows.lean that lists a variable, with what it lists TIED to the program's text (the seventh form; the later family's looks); each row that meets fmt, with fmt's text TOLD by the authors' own Lean function (tested against real Go, not proved from fmt's source: count such statements apart). THE CARD IS WHAT COUNTS. Prove the row's statement (the work); the ties are given (YtecknaklaleloaaDoorTie.lean); close each card by the builder's one call (the guide's Derived/Test/ToyasCard.lean, 'card_holds'). Laid BY PROGRAM, IN A SANDBOX (cutbox-door.mjs). By AI agents, Wed Nov 11 2026. No macro, syntax, notation, axiom, sorry.
-/
import Derived.Test.YtecknaklaleloaaDoorRows
import GoSem.ClaimSeven
namespace Go.Proofs.YtecknaklaleloaaDoor
namespace Rows

/-- THE TIED CARD OF 'servitorlaw18.TreeCut'. -/
def treeCutCard : Claim7 := { stood := { row := treeCutRow, standIns := [], harness := (true, "cce7cad27cb15e12fa6846f84b7b00c9db72fdd0910d908d00ed1b69d0867df8"), looks := true }, kinds := [], alts := [], laidByText := true, laidKinds := [.listed, .data], laidTests := true, laidLooks := .later }
def TreeCutCardSaid : Prop := Claim7.holds Tryd.pinned (.plain (OpenSpec.ofChange treeCutSpec)) treeCutCard

/-- THE TIED CARD OF 'servitorlaw18.TreeNests'. -/
def treeNestsCard : Claim7 := { stood := { row := treeNestsRow, standIns := [], harness := (true, "cce7cad27cb15e12fa6846f84b7b00c9db72fdd0910d908d00ed1b69d0867df8"), looks := true }, kinds := [], alts := [], laidByText := true, laidKinds := [.listed, .data], laidTests := true, laidLooks := .later }
def TreeNestsCardSaid : Prop := Claim7.holds Tryd.pinned (.plain (OpenSpec.ofChange treeNestsSpec)) treeNestsCard

/-- THE TIED CARD OF 'servitorlaw28.ConfReads'. -/
def confReadsCard : Claim7 := { stood := { row := confReadsRow, standIns := [], harness := (true, "cce7cad27cb15e12fa6846f84b7b00c9db72fdd0910d908d00ed1b69d0867df8"), looks := true }, kinds := [], alts := [], laidByText := true, laidKinds := [.data, .data, .data, .data, .sentinel, .sentinel, .pinned], laidTests := true, laidLooks := .later }
def ConfReadsCardSaid : Prop := Claim7.holds Tryd.pinned (.plain (OpenSpec.ofChange confReadsSpec)) confReadsCard

/-- THE TIED CARD OF 'servitorlaw28.ConfLines'. -/
def confLinesCard : Claim7 := { stood := { row := confLinesRow, standIns := [], harness := (true, "cce7cad27cb15e12fa6846f84b7b00c9db72fdd0910d908d00ed1b69d0867df8"), looks := true }, kinds := [], alts := [], laidByText := true, laidKinds := [.data, .data, .data, .data, .sentinel, .sentinel, .pinned], laidTests := true, laidLooks := .later }
def ConfLinesCardSaid : Prop := Claim7.holds Tryd.pinned (.plain (OpenSpec.ofChange confLinesSpec)) confLinesCard

/-- THE TIED CARD OF 'servitorlaw18.TreeSame'. -/
def treeSameCard : Claim7 := { stood := { row := treeSameRow, standIns := [], harness := (true, "cce7cad27cb15e12fa6846f84b7b00c9db72fdd0910d908d00ed1b69d0867df8"), looks := true }, kinds := [], alts := [], laidByText := true, laidKinds := [.listed, .data], laidTests := true, laidLooks := .later }
def TreeSameCardSaid : Prop := Claim7.holds Tryd.pinned (.plain (OpenSpec.ofChange treeSameSpec)) treeSameCard

/-- THE TIED CARD OF 'servitorlaw18.TreeLines'. -/
def treeLinesCard : Claim7 := { stood := { row := treeLinesRow, standIns := [], harness := (true, "cce7cad27cb15e12fa6846f84b7b00c9db72fdd0910d908d00ed1b69d0867df8"), looks := true }, kinds := [], alts := [], laidByText := true, laidKinds := [.listed, .data], laidTests := true, laidLooks := .later }
def TreeLinesCardSaid : Prop := Claim7.holds Tryd.pinned (.plain (OpenSpec.ofChange treeLinesSpec)) treeLinesCard

/-- THE TIED CARD OF 'servitorlaw28.ConfShows'. -/
def confShowsCard : Claim7 := { stood := { row := confShowsRow, standIns := [], harness := (true, "cce7cad27cb15e12fa6846f84b7b00c9db72fdd0910d908d00ed1b69d0867df8"), looks := true }, kinds := [], alts := [], laidByText := true, laidKinds := [.data, .data, .data, .data, .sentinel, .sentinel, .pinned], laidTests := true, laidLooks := .later }
def ConfShowsCardSaid : Prop := Claim7.holds Tryd.pinned (.plain (OpenSpec.ofChange confShowsSpec)) confShowsCard

/-- THE TIED CARD OF 'servitorlaw28.ConfBack'. -/
def confBackCard : Claim7 := { stood := { row := confBackRow, standIns := [], harness := (true, "cce7cad27cb15e12fa6846f84b7b00c9db72fdd0910d908d00ed1b69d0867df8"), looks := true }, kinds := [], alts := [], laidByText := true, laidKinds := [.data, .data, .data, .data, .sentinel, .sentinel, .pinned], laidTests := true, laidLooks := .later }
def ConfBackCardSaid : Prop := Claim7.holds Tryd.pinned (.plain (OpenSpec.ofChange confBackSpec)) confBackCard

/-- THE SECOND FORM's CARD OF 'servitorlaw18.TreeCut'. -/
def treeCutUptoCard : Claim7 := { stood := { row := treeCutUptoRow, standIns := [], harness := (true, "cce7cad27cb15e12fa6846f84b7b00c9db72fdd0910d908d00ed1b69d0867df8"), looks := true }, kinds := [], alts := [], laidByText := true, laidKinds := [.listed, .data], laidTests := true, laidLooks := .later }
def TreeCutUptoCardSaid : Prop := Claim7.holds Tryd.pinned (.plain (OpenSpec.upto treeCutSpec)) treeCutUptoCard

/-- THE SECOND FORM's CARD OF 'servitorlaw18.TreeNests'. -/
def treeNestsUptoCard : Claim7 := { stood := { row := treeNestsUptoRow, standIns := [], harness := (true, "cce7cad27cb15e12fa6846f84b7b00c9db72fdd0910d908d00ed1b69d0867df8"), looks := true }, kinds := [], alts := [], laidByText := true, laidKinds := [.listed, .data], laidTests := true, laidLooks := .later }
def TreeNestsUptoCardSaid : Prop := Claim7.holds Tryd.pinned (.plain (OpenSpec.upto treeNestsSpec)) treeNestsUptoCard

/-- THE SECOND FORM's CARD OF 'servitorlaw28.ConfReads'. -/
def confReadsUptoCard : Claim7 := { stood := { row := confReadsUptoRow, standIns := [], harness := (true, "cce7cad27cb15e12fa6846f84b7b00c9db72fdd0910d908d00ed1b69d0867df8"), looks := true }, kinds := [], alts := [], laidByText := true, laidKinds := [.data, .data, .data, .data, .sentinel, .sentinel, .pinned], laidTests := true, laidLooks := .later }
def ConfReadsUptoCardSaid : Prop := Claim7.holds Tryd.pinned (.plain (OpenSpec.upto confReadsSpec)) confReadsUptoCard

/-- THE SECOND FORM's CARD OF 'servitorlaw28.ConfLines'. -/
def confLinesUptoCard : Claim7 := { stood := { row := confLinesUptoRow, standIns := [], harness := (true, "cce7cad27cb15e12fa6846f84b7b00c9db72fdd0910d908d00ed1b69d0867df8"), looks := true }, kinds := [], alts := [], laidByText := true, laidKinds := [.data, .data, .data, .data, .sentinel, .sentinel, .pinned], laidTests := true, laidLooks := .later }
def ConfLinesUptoCardSaid : Prop := Claim7.holds Tryd.pinned (.plain (OpenSpec.upto confLinesSpec)) confLinesUptoCard

/-- THE SECOND FORM's CARD OF 'servitorlaw18.TreeSame'. -/
def treeSameUptoCard : Claim7 := { stood := { row := treeSameUptoRow, standIns := [], harness := (true, "cce7cad27cb15e12fa6846f84b7b00c9db72fdd0910d908d00ed1b69d0867df8"), looks := true }, kinds := [], alts := [], laidByText := true, laidKinds := [.listed, .data], laidTests := true, laidLooks := .later }
def TreeSameUptoCardSaid : Prop := Claim7.holds Tryd.pinned (.plain (OpenSpec.upto treeSameSpec)) treeSameUptoCard

/-- THE SECOND FORM's CARD OF 'servitorlaw18.TreeLines'. -/
def treeLinesUptoCard : Claim7 := { stood := { row := treeLinesUptoRow, standIns := [], harness := (true, "cce7cad27cb15e12fa6846f84b7b00c9db72fdd0910d908d00ed1b69d0867df8"), looks := true }, kinds := [], alts := [], laidByText := true, laidKinds := [.listed, .data], laidTests := true, laidLooks := .later }
def TreeLinesUptoCardSaid : Prop := Claim7.holds Tryd.pinned (.plain (OpenSpec.upto treeLinesSpec)) treeLinesUptoCard

/-- THE SECOND FORM's CARD OF 'servitorlaw28.ConfShows'. -/
def confShowsUptoCard : Claim7 := { stood := { row := confShowsUptoRow, standIns := [], harness := (true, "cce7cad27cb15e12fa6846f84b7b00c9db72fdd0910d908d00ed1b69d0867df8"), looks := true }, kinds := [], alts := [], laidByText := true, laidKinds := [.data, .data, .data, .data, .sentinel, .sentinel, .pinned], laidTests := true, laidLooks := .later }
def ConfShowsUptoCardSaid : Prop := Claim7.holds Tryd.pinned (.plain (OpenSpec.upto confShowsSpec)) confShowsUptoCard

/-- THE SECOND FORM's CARD OF 'servitorlaw28.ConfBack'. -/
def confBackUptoCard : Claim7 := { stood := { row := confBackUptoRow, standIns := [], harness := (true, "cce7cad27cb15e12fa6846f84b7b00c9db72fdd0910d908d00ed1b69d0867df8"), looks := true }, kinds := [], alts := [], laidByText := true, laidKinds := [.data, .data, .data, .data, .sentinel, .sentinel, .pinned], laidTests := true, laidLooks := .later }
def ConfBackUptoCardSaid : Prop := Claim7.holds Tryd.pinned (.plain (OpenSpec.upto confBackSpec)) confBackUptoCard
end Rows
end Go.Proofs.YtecknaklaleloaaDoor

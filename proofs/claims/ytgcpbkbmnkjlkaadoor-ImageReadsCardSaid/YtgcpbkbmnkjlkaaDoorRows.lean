/-
  NARROWER THAN 'FOR EVERY INPUT', by the rows' own cells (each row's printed sentence says how): CheckRight: laid · CheckJoins: laid · TokRight: laid · TokGaps: laid · TokPlaces: laid · TokNumbers: laid · PeepDone: laid · ImagePuts: laid · ImageReads: laid · ImageSpoilt: laid · VmRight: laid · VmMore: laid.
  DERIVED. THE GIVEN ROWS OF THIS SEAT. 12 by the template 'for every input the law returns true; each argument reads behind the call as it read before'; 0 by the template 'total and deterministic' (their statements: YtgcpbkbmnkjlkaaDoorTotals.lean).
  GIVEN WITH THE SEED: the statements are not yours to turn. If you find one false, say at which input.
  Laid BY PROGRAM, IN A SANDBOX (cutbox-rows.mjs): the forced cells as the released guide's own fill.sh prints them over the translation 125187b784f87eea… (all of the seat's roots in one cut). By AI agents, Wed Nov 11 2026. No macro, syntax, notation, axiom, sorry.
-/
import Derived.Test.YtgcpbkbmnkjlkaaDoorChecked
import GoSem.Claim
import GoSem.ClaimJoined
import GoSem.ClaimMapViews
import Derived.JoinedTies
import Derived.KernelRfl
namespace Go.Proofs.YtgcpbkbmnkjlkaaDoor
/- THE CELL 'sum', in the pinned program and in every row, IS THE sha256 OF THE DUMP (.gsa) THAT YtgcpbkbmnkjlkaaDoorProg.lean LOADS. Nothing in Lean hashes anything: it is a label: what it is worth is what the hold of that sum in a sandbox is worth. -/
noncomputable def Tryd.pinned : Pinned := { name := "ytgcpbkbmnkjlkaadoor", sum := "125187b784f87eea1da7cf49f168b442170134a608d76d86fa6f6696c80bc62b", checked := Tryd.checked }
namespace Rows
def none {H : Type} : Left H := { results := [], args := [] }

/- WHAT THE LISTED PACKAGE-LEVEL VARIABLES READ AS WHEN THE CALL BEGINS. Each datum BY PROGRAM (the guide's laid-datum.mjs) off the statement by which the dump's own 'gosem.cut.vars' lays the variable. In a bare row this is a premise. The card (YtgcpbkbmnkjlkaaDoorCards.lean) ties it to the program's text. -/
def laid_unicode_White_Space {H : Type} : DataW H := .ptr (.agg [.slice [.agg [.lit (.int .u16 9), .lit (.int .u16 13), .lit (.int .u16 1)], .agg [.lit (.int .u16 32), .lit (.int .u16 133), .lit (.int .u16 101)], .agg [.lit (.int .u16 160), .lit (.int .u16 5760), .lit (.int .u16 5600)], .agg [.lit (.int .u16 8192), .lit (.int .u16 8202), .lit (.int .u16 1)], .agg [.lit (.int .u16 8232), .lit (.int .u16 8233), .lit (.int .u16 1)], .agg [.lit (.int .u16 8239), .lit (.int .u16 8287), .lit (.int .u16 48)], .agg [.lit (.int .u16 12288), .lit (.int .u16 12288), .lit (.int .u16 1)]] [], .nil, .lit (.int .i64 2)])
def laid_strings_asciiSpace {H : Type} : DataW H := .agg [.lit (.int .u8 0), .lit (.int .u8 0), .lit (.int .u8 0), .lit (.int .u8 0), .lit (.int .u8 0), .lit (.int .u8 0), .lit (.int .u8 0), .lit (.int .u8 0), .lit (.int .u8 0), .lit (.int .u8 1), .lit (.int .u8 1), .lit (.int .u8 1), .lit (.int .u8 1), .lit (.int .u8 1), .lit (.int .u8 0), .lit (.int .u8 0), .lit (.int .u8 0), .lit (.int .u8 0), .lit (.int .u8 0), .lit (.int .u8 0), .lit (.int .u8 0), .lit (.int .u8 0), .lit (.int .u8 0), .lit (.int .u8 0), .lit (.int .u8 0), .lit (.int .u8 0), .lit (.int .u8 0), .lit (.int .u8 0), .lit (.int .u8 0), .lit (.int .u8 0), .lit (.int .u8 0), .lit (.int .u8 0), .lit (.int .u8 1), .lit (.int .u8 0), .lit (.int .u8 0), .lit (.int .u8 0), .lit (.int .u8 0), .lit (.int .u8 0), .lit (.int .u8 0), .lit (.int .u8 0), .lit (.int .u8 0), .lit (.int .u8 0), .lit (.int .u8 0), .lit (.int .u8 0), .lit (.int .u8 0), .lit (.int .u8 0), .lit (.int .u8 0), .lit (.int .u8 0), .lit (.int .u8 0), .lit (.int .u8 0), .lit (.int .u8 0), .lit (.int .u8 0), .lit (.int .u8 0), .lit (.int .u8 0), .lit (.int .u8 0), .lit (.int .u8 0), .lit (.int .u8 0), .lit (.int .u8 0), .lit (.int .u8 0), .lit (.int .u8 0), .lit (.int .u8 0), .lit (.int .u8 0), .lit (.int .u8 0), .lit (.int .u8 0), .lit (.int .u8 0), .lit (.int .u8 0), .lit (.int .u8 0), .lit (.int .u8 0), .lit (.int .u8 0), .lit (.int .u8 0), .lit (.int .u8 0), .lit (.int .u8 0), .lit (.int .u8 0), .lit (.int .u8 0), .lit (.int .u8 0), .lit (.int .u8 0), .lit (.int .u8 0), .lit (.int .u8 0), .lit (.int .u8 0), .lit (.int .u8 0), .lit (.int .u8 0), .lit (.int .u8 0), .lit (.int .u8 0), .lit (.int .u8 0), .lit (.int .u8 0), .lit (.int .u8 0), .lit (.int .u8 0), .lit (.int .u8 0), .lit (.int .u8 0), .lit (.int .u8 0), .lit (.int .u8 0), .lit (.int .u8 0), .lit (.int .u8 0), .lit (.int .u8 0), .lit (.int .u8 0), .lit (.int .u8 0), .lit (.int .u8 0), .lit (.int .u8 0), .lit (.int .u8 0), .lit (.int .u8 0), .lit (.int .u8 0), .lit (.int .u8 0), .lit (.int .u8 0), .lit (.int .u8 0), .lit (.int .u8 0), .lit (.int .u8 0), .lit (.int .u8 0), .lit (.int .u8 0), .lit (.int .u8 0), .lit (.int .u8 0), .lit (.int .u8 0), .lit (.int .u8 0), .lit (.int .u8 0), .lit (.int .u8 0), .lit (.int .u8 0), .lit (.int .u8 0), .lit (.int .u8 0), .lit (.int .u8 0), .lit (.int .u8 0), .lit (.int .u8 0), .lit (.int .u8 0), .lit (.int .u8 0), .lit (.int .u8 0), .lit (.int .u8 0), .lit (.int .u8 0), .lit (.int .u8 0), .lit (.int .u8 0), .lit (.int .u8 0), .lit (.int .u8 0), .lit (.int .u8 0), .lit (.int .u8 0), .lit (.int .u8 0), .lit (.int .u8 0), .lit (.int .u8 0), .lit (.int .u8 0), .lit (.int .u8 0), .lit (.int .u8 0), .lit (.int .u8 0), .lit (.int .u8 0), .lit (.int .u8 0), .lit (.int .u8 0), .lit (.int .u8 0), .lit (.int .u8 0), .lit (.int .u8 0), .lit (.int .u8 0), .lit (.int .u8 0), .lit (.int .u8 0), .lit (.int .u8 0), .lit (.int .u8 0), .lit (.int .u8 0), .lit (.int .u8 0), .lit (.int .u8 0), .lit (.int .u8 0), .lit (.int .u8 0), .lit (.int .u8 0), .lit (.int .u8 0), .lit (.int .u8 0), .lit (.int .u8 0), .lit (.int .u8 0), .lit (.int .u8 0), .lit (.int .u8 0), .lit (.int .u8 0), .lit (.int .u8 0), .lit (.int .u8 0), .lit (.int .u8 0), .lit (.int .u8 0), .lit (.int .u8 0), .lit (.int .u8 0), .lit (.int .u8 0), .lit (.int .u8 0), .lit (.int .u8 0), .lit (.int .u8 0), .lit (.int .u8 0), .lit (.int .u8 0), .lit (.int .u8 0), .lit (.int .u8 0), .lit (.int .u8 0), .lit (.int .u8 0), .lit (.int .u8 0), .lit (.int .u8 0), .lit (.int .u8 0), .lit (.int .u8 0), .lit (.int .u8 0), .lit (.int .u8 0), .lit (.int .u8 0), .lit (.int .u8 0), .lit (.int .u8 0), .lit (.int .u8 0), .lit (.int .u8 0), .lit (.int .u8 0), .lit (.int .u8 0), .lit (.int .u8 0), .lit (.int .u8 0), .lit (.int .u8 0), .lit (.int .u8 0), .lit (.int .u8 0), .lit (.int .u8 0), .lit (.int .u8 0), .lit (.int .u8 0), .lit (.int .u8 0), .lit (.int .u8 0), .lit (.int .u8 0), .lit (.int .u8 0), .lit (.int .u8 0), .lit (.int .u8 0), .lit (.int .u8 0), .lit (.int .u8 0), .lit (.int .u8 0), .lit (.int .u8 0), .lit (.int .u8 0), .lit (.int .u8 0), .lit (.int .u8 0), .lit (.int .u8 0), .lit (.int .u8 0), .lit (.int .u8 0), .lit (.int .u8 0), .lit (.int .u8 0), .lit (.int .u8 0), .lit (.int .u8 0), .lit (.int .u8 0), .lit (.int .u8 0), .lit (.int .u8 0), .lit (.int .u8 0), .lit (.int .u8 0), .lit (.int .u8 0), .lit (.int .u8 0), .lit (.int .u8 0), .lit (.int .u8 0), .lit (.int .u8 0), .lit (.int .u8 0), .lit (.int .u8 0), .lit (.int .u8 0), .lit (.int .u8 0), .lit (.int .u8 0), .lit (.int .u8 0), .lit (.int .u8 0), .lit (.int .u8 0), .lit (.int .u8 0), .lit (.int .u8 0), .lit (.int .u8 0), .lit (.int .u8 0), .lit (.int .u8 0), .lit (.int .u8 0), .lit (.int .u8 0), .lit (.int .u8 0), .lit (.int .u8 0), .lit (.int .u8 0), .lit (.int .u8 0), .lit (.int .u8 0), .lit (.int .u8 0), .lit (.int .u8 0), .lit (.int .u8 0), .lit (.int .u8 0), .lit (.int .u8 0), .lit (.int .u8 0), .lit (.int .u8 0)]

/-- 'servitorlaw25.CheckRight': WHATEVER THE INPUT: true; the input reads as it did. -/
def checkRightSpec : ChangeSpec := { name := "checkRight", fn := fun _ => fun
  | [d] => { results := [.lit (.bool true)], args := [d] }
  | _ => none }
def checkRightRow : OpenClaim := { program := "ytgcpbkbmnkjlkaadoor", sum := "125187b784f87eea1da7cf49f168b442170134a608d76d86fa6f6696c80bc62b", func := "servitor/servitorlaw25.CheckRight", spec := "checkRight", unfollowed := true, recurses := true, named := ["strings.asciiSpace", "unicode.White_Space"], apart := false, laid := [("unicode.White_Space", laid_unicode_White_Space), ("strings.asciiSpace", laid_strings_asciiSpace)] }
def CheckRightSaid : Prop := checkRightRow.holds Tryd.pinned (OpenSpec.ofChange checkRightSpec)

/-- ITS FALSE NEIGHBOUR: 'it returns false'. Refute it at one input. -/
def checkRightWrong : ChangeSpec := { name := "checkRight", fn := fun _ => fun
  | [d] => { results := [.lit (.bool false)], args := [d] }
  | _ => none }
def CheckRightWrongFalsely : Prop := checkRightRow.holds Tryd.pinned (OpenSpec.ofChange checkRightWrong)

/-- 'servitorlaw25.CheckJoins': WHATEVER THE INPUT: true; the input reads as it did. -/
def checkJoinsSpec : ChangeSpec := { name := "checkJoins", fn := fun _ => fun
  | [d1, d2] => { results := [.lit (.bool true)], args := [d1, d2] }
  | _ => none }
def checkJoinsRow : OpenClaim := { program := "ytgcpbkbmnkjlkaadoor", sum := "125187b784f87eea1da7cf49f168b442170134a608d76d86fa6f6696c80bc62b", func := "servitor/servitorlaw25.CheckJoins", spec := "checkJoins", unfollowed := true, recurses := true, named := ["strings.asciiSpace", "unicode.White_Space"], apart := false, laid := [("unicode.White_Space", laid_unicode_White_Space), ("strings.asciiSpace", laid_strings_asciiSpace)] }
def CheckJoinsSaid : Prop := checkJoinsRow.holds Tryd.pinned (OpenSpec.ofChange checkJoinsSpec)

/-- ITS FALSE NEIGHBOUR: 'it returns false'. Refute it at one input. -/
def checkJoinsWrong : ChangeSpec := { name := "checkJoins", fn := fun _ => fun
  | [d1, d2] => { results := [.lit (.bool false)], args := [d1, d2] }
  | _ => none }
def CheckJoinsWrongFalsely : Prop := checkJoinsRow.holds Tryd.pinned (OpenSpec.ofChange checkJoinsWrong)

/-- 'servitorlaw17.TokRight': WHATEVER THE INPUT: true; the input reads as it did. -/
def tokRightSpec : ChangeSpec := { name := "tokRight", fn := fun _ => fun
  | [d] => { results := [.lit (.bool true)], args := [d] }
  | _ => none }
def tokRightRow : OpenClaim := { program := "ytgcpbkbmnkjlkaadoor", sum := "125187b784f87eea1da7cf49f168b442170134a608d76d86fa6f6696c80bc62b", func := "servitor/servitorlaw17.TokRight", spec := "tokRight", inPlace := ["internal/bytealg.IndexByteString", "internal/bytealg.IndexString"], unfollowed := true, recurses := true, named := ["internal/bytealg.MaxLen", "strings.asciiSpace", "unicode.White_Space"], apart := false, laid := [("unicode.White_Space", laid_unicode_White_Space), ("strings.asciiSpace", laid_strings_asciiSpace)] }
def TokRightSaid : Prop := tokRightRow.holds Tryd.pinned (OpenSpec.ofChange tokRightSpec)

/-- ITS FALSE NEIGHBOUR: 'it returns false'. Refute it at one input. -/
def tokRightWrong : ChangeSpec := { name := "tokRight", fn := fun _ => fun
  | [d] => { results := [.lit (.bool false)], args := [d] }
  | _ => none }
def TokRightWrongFalsely : Prop := tokRightRow.holds Tryd.pinned (OpenSpec.ofChange tokRightWrong)

/-- 'servitorlaw17.TokGaps': WHATEVER THE INPUT: true; the input reads as it did. -/
def tokGapsSpec : ChangeSpec := { name := "tokGaps", fn := fun _ => fun
  | [d1, d2] => { results := [.lit (.bool true)], args := [d1, d2] }
  | _ => none }
def tokGapsRow : OpenClaim := { program := "ytgcpbkbmnkjlkaadoor", sum := "125187b784f87eea1da7cf49f168b442170134a608d76d86fa6f6696c80bc62b", func := "servitor/servitorlaw17.TokGaps", spec := "tokGaps", inPlace := ["internal/bytealg.IndexByteString", "internal/bytealg.IndexString"], unfollowed := true, recurses := true, named := ["internal/bytealg.MaxLen", "strings.asciiSpace", "unicode.White_Space"], apart := false, laid := [("unicode.White_Space", laid_unicode_White_Space), ("strings.asciiSpace", laid_strings_asciiSpace)] }
def TokGapsSaid : Prop := tokGapsRow.holds Tryd.pinned (OpenSpec.ofChange tokGapsSpec)

/-- ITS FALSE NEIGHBOUR: 'it returns false'. Refute it at one input. -/
def tokGapsWrong : ChangeSpec := { name := "tokGaps", fn := fun _ => fun
  | [d1, d2] => { results := [.lit (.bool false)], args := [d1, d2] }
  | _ => none }
def TokGapsWrongFalsely : Prop := tokGapsRow.holds Tryd.pinned (OpenSpec.ofChange tokGapsWrong)

/-- 'servitorlaw17.TokPlaces': WHATEVER THE INPUT: true; the input reads as it did. -/
def tokPlacesSpec : ChangeSpec := { name := "tokPlaces", fn := fun _ => fun
  | [d] => { results := [.lit (.bool true)], args := [d] }
  | _ => none }
def tokPlacesRow : OpenClaim := { program := "ytgcpbkbmnkjlkaadoor", sum := "125187b784f87eea1da7cf49f168b442170134a608d76d86fa6f6696c80bc62b", func := "servitor/servitorlaw17.TokPlaces", spec := "tokPlaces", inPlace := ["internal/bytealg.IndexByteString", "internal/bytealg.IndexString"], unfollowed := true, recurses := true, named := ["internal/bytealg.MaxLen", "strings.asciiSpace", "unicode.White_Space"], apart := false, laid := [("unicode.White_Space", laid_unicode_White_Space), ("strings.asciiSpace", laid_strings_asciiSpace)] }
def TokPlacesSaid : Prop := tokPlacesRow.holds Tryd.pinned (OpenSpec.ofChange tokPlacesSpec)

/-- ITS FALSE NEIGHBOUR: 'it returns false'. Refute it at one input. -/
def tokPlacesWrong : ChangeSpec := { name := "tokPlaces", fn := fun _ => fun
  | [d] => { results := [.lit (.bool false)], args := [d] }
  | _ => none }
def TokPlacesWrongFalsely : Prop := tokPlacesRow.holds Tryd.pinned (OpenSpec.ofChange tokPlacesWrong)

/-- 'servitorlaw17.TokNumbers': WHATEVER THE INPUT: true; the input reads as it did. -/
def tokNumbersSpec : ChangeSpec := { name := "tokNumbers", fn := fun _ => fun
  | [d1, d2, d3] => { results := [.lit (.bool true)], args := [d1, d2, d3] }
  | _ => none }
def tokNumbersRow : OpenClaim := { program := "ytgcpbkbmnkjlkaadoor", sum := "125187b784f87eea1da7cf49f168b442170134a608d76d86fa6f6696c80bc62b", func := "servitor/servitorlaw17.TokNumbers", spec := "tokNumbers", inPlace := ["internal/bytealg.IndexByteString", "internal/bytealg.IndexString"], unfollowed := true, recurses := true, named := ["internal/bytealg.MaxLen", "strings.asciiSpace", "unicode.White_Space"], apart := false, laid := [("unicode.White_Space", laid_unicode_White_Space), ("strings.asciiSpace", laid_strings_asciiSpace)] }
def TokNumbersSaid : Prop := tokNumbersRow.holds Tryd.pinned (OpenSpec.ofChange tokNumbersSpec)

/-- ITS FALSE NEIGHBOUR: 'it returns false'. Refute it at one input. -/
def tokNumbersWrong : ChangeSpec := { name := "tokNumbers", fn := fun _ => fun
  | [d1, d2, d3] => { results := [.lit (.bool false)], args := [d1, d2, d3] }
  | _ => none }
def TokNumbersWrongFalsely : Prop := tokNumbersRow.holds Tryd.pinned (OpenSpec.ofChange tokNumbersWrong)

/-- 'servitorlaw32.PeepDone': WHATEVER THE INPUT: true; the input reads as it did. -/
def peepDoneSpec : ChangeSpec := { name := "peepDone", fn := fun _ => fun
  | [d] => { results := [.lit (.bool true)], args := [d] }
  | _ => none }
def peepDoneRow : OpenClaim := { program := "ytgcpbkbmnkjlkaadoor", sum := "125187b784f87eea1da7cf49f168b442170134a608d76d86fa6f6696c80bc62b", func := "servitor/servitorlaw32.PeepDone", spec := "peepDone", unfollowed := true, recurses := true, named := ["strings.asciiSpace", "unicode.White_Space"], apart := false, laid := [("unicode.White_Space", laid_unicode_White_Space), ("strings.asciiSpace", laid_strings_asciiSpace)] }
def PeepDoneSaid : Prop := peepDoneRow.holds Tryd.pinned (OpenSpec.ofChange peepDoneSpec)

/-- ITS FALSE NEIGHBOUR: 'it returns false'. Refute it at one input. -/
def peepDoneWrong : ChangeSpec := { name := "peepDone", fn := fun _ => fun
  | [d] => { results := [.lit (.bool false)], args := [d] }
  | _ => none }
def PeepDoneWrongFalsely : Prop := peepDoneRow.holds Tryd.pinned (OpenSpec.ofChange peepDoneWrong)

/-- 'servitorlaw31.ImagePuts': WHATEVER THE INPUT: true; the input reads as it did. -/
def imagePutsSpec : ChangeSpec := { name := "imagePuts", fn := fun _ => fun
  | [d] => { results := [.lit (.bool true)], args := [d] }
  | _ => none }
def imagePutsRow : OpenClaim := { program := "ytgcpbkbmnkjlkaadoor", sum := "125187b784f87eea1da7cf49f168b442170134a608d76d86fa6f6696c80bc62b", func := "servitor/servitorlaw31.ImagePuts", spec := "imagePuts", unfollowed := true, recurses := true, named := ["strings.asciiSpace", "unicode.White_Space"], apart := false, laid := [("unicode.White_Space", laid_unicode_White_Space), ("strings.asciiSpace", laid_strings_asciiSpace)] }
def ImagePutsSaid : Prop := imagePutsRow.holds Tryd.pinned (OpenSpec.ofChange imagePutsSpec)

/-- ITS FALSE NEIGHBOUR: 'it returns false'. Refute it at one input. -/
def imagePutsWrong : ChangeSpec := { name := "imagePuts", fn := fun _ => fun
  | [d] => { results := [.lit (.bool false)], args := [d] }
  | _ => none }
def ImagePutsWrongFalsely : Prop := imagePutsRow.holds Tryd.pinned (OpenSpec.ofChange imagePutsWrong)

/-- 'servitorlaw31.ImageReads': WHATEVER THE INPUT: true; the input reads as it did. -/
def imageReadsSpec : ChangeSpec := { name := "imageReads", fn := fun _ => fun
  | [d] => { results := [.lit (.bool true)], args := [d] }
  | _ => none }
def imageReadsRow : OpenClaim := { program := "ytgcpbkbmnkjlkaadoor", sum := "125187b784f87eea1da7cf49f168b442170134a608d76d86fa6f6696c80bc62b", func := "servitor/servitorlaw31.ImageReads", spec := "imageReads", unfollowed := true, recurses := true, named := ["strings.asciiSpace", "unicode.White_Space"], apart := false, laid := [("unicode.White_Space", laid_unicode_White_Space), ("strings.asciiSpace", laid_strings_asciiSpace)] }
def ImageReadsSaid : Prop := imageReadsRow.holds Tryd.pinned (OpenSpec.ofChange imageReadsSpec)

/-- ITS FALSE NEIGHBOUR: 'it returns false'. Refute it at one input. -/
def imageReadsWrong : ChangeSpec := { name := "imageReads", fn := fun _ => fun
  | [d] => { results := [.lit (.bool false)], args := [d] }
  | _ => none }
def ImageReadsWrongFalsely : Prop := imageReadsRow.holds Tryd.pinned (OpenSpec.ofChange imageReadsWrong)

/-- 'servitorlaw31.ImageSpoilt': WHATEVER THE INPUT: true; the input reads as it did. -/
def imageSpoiltSpec : ChangeSpec := { name := "imageSpoilt", fn := fun _ => fun
  | [d1, d2, d3, d4] => { results := [.lit (.bool true)], args := [d1, d2, d3, d4] }
  | _ => none }
def imageSpoiltRow : OpenClaim := { program := "ytgcpbkbmnkjlkaadoor", sum := "125187b784f87eea1da7cf49f168b442170134a608d76d86fa6f6696c80bc62b", func := "servitor/servitorlaw31.ImageSpoilt", spec := "imageSpoilt", unfollowed := true, recurses := true, named := ["strings.asciiSpace", "unicode.White_Space"], apart := false, laid := [("unicode.White_Space", laid_unicode_White_Space), ("strings.asciiSpace", laid_strings_asciiSpace)] }
def ImageSpoiltSaid : Prop := imageSpoiltRow.holds Tryd.pinned (OpenSpec.ofChange imageSpoiltSpec)

/-- ITS FALSE NEIGHBOUR: 'it returns false'. Refute it at one input. -/
def imageSpoiltWrong : ChangeSpec := { name := "imageSpoilt", fn := fun _ => fun
  | [d1, d2, d3, d4] => { results := [.lit (.bool false)], args := [d1, d2, d3, d4] }
  | _ => none }
def ImageSpoiltWrongFalsely : Prop := imageSpoiltRow.holds Tryd.pinned (OpenSpec.ofChange imageSpoiltWrong)

/-- 'servitorlaw26.VmRight': WHATEVER THE INPUT: true; the input reads as it did. -/
def vmRightSpec : ChangeSpec := { name := "vmRight", fn := fun _ => fun
  | [d1, d2, d3] => { results := [.lit (.bool true)], args := [d1, d2, d3] }
  | _ => none }
def vmRightRow : OpenClaim := { program := "ytgcpbkbmnkjlkaadoor", sum := "125187b784f87eea1da7cf49f168b442170134a608d76d86fa6f6696c80bc62b", func := "servitor/servitorlaw26.VmRight", spec := "vmRight", unfollowed := true, recurses := true, named := ["strings.asciiSpace", "unicode.White_Space"], apart := false, laid := [("unicode.White_Space", laid_unicode_White_Space), ("strings.asciiSpace", laid_strings_asciiSpace)] }
def VmRightSaid : Prop := vmRightRow.holds Tryd.pinned (OpenSpec.ofChange vmRightSpec)

/-- ITS FALSE NEIGHBOUR: 'it returns false'. Refute it at one input. -/
def vmRightWrong : ChangeSpec := { name := "vmRight", fn := fun _ => fun
  | [d1, d2, d3] => { results := [.lit (.bool false)], args := [d1, d2, d3] }
  | _ => none }
def VmRightWrongFalsely : Prop := vmRightRow.holds Tryd.pinned (OpenSpec.ofChange vmRightWrong)

/-- 'servitorlaw26.VmMore': WHATEVER THE INPUT: true; the input reads as it did. -/
def vmMoreSpec : ChangeSpec := { name := "vmMore", fn := fun _ => fun
  | [d1, d2, d3, d4] => { results := [.lit (.bool true)], args := [d1, d2, d3, d4] }
  | _ => none }
def vmMoreRow : OpenClaim := { program := "ytgcpbkbmnkjlkaadoor", sum := "125187b784f87eea1da7cf49f168b442170134a608d76d86fa6f6696c80bc62b", func := "servitor/servitorlaw26.VmMore", spec := "vmMore", unfollowed := true, recurses := true, named := ["strings.asciiSpace", "unicode.White_Space"], apart := false, laid := [("unicode.White_Space", laid_unicode_White_Space), ("strings.asciiSpace", laid_strings_asciiSpace)] }
def VmMoreSaid : Prop := vmMoreRow.holds Tryd.pinned (OpenSpec.ofChange vmMoreSpec)

/-- ITS FALSE NEIGHBOUR: 'it returns false'. Refute it at one input. -/
def vmMoreWrong : ChangeSpec := { name := "vmMore", fn := fun _ => fun
  | [d1, d2, d3, d4] => { results := [.lit (.bool false)], args := [d1, d2, d3, d4] }
  | _ => none }
def VmMoreWrongFalsely : Prop := vmMoreRow.holds Tryd.pinned (OpenSpec.ofChange vmMoreWrong)

/- THE SECOND FORM. 'bulk': how many values and letters a reading holds, each counted each time it is reached (what is shared counts as often as it is met; a slice's spare places count too). A statement '..UptoSaid' is the law's where the arguments, and the package variables that the reading takes, are together of bulk at most 1048576: NARROWER than '..Said'. Prove '..Said' where nothing that the law and all that it calls make is longer than what came in: it says more and counts as full. Else prove '..UptoSaid'. A law counts once. -/
mutual
def uptoBulk {H : Type} : DataW H → Nat
  | .lit (.string bytes) => bytes.length + 1
  | .lit _ => 1
  | .nil => 1
  | .ptr d => uptoBulk d + 1
  | .slice elems spare => uptoBulkAll elems + uptoBulkAll spare + 1
  | .agg parts => uptoBulkAll parts + 1
  | .iface _ d => uptoBulk d + 1
  | .map entries => uptoBulkEntries entries + 1
  | .held _ => 1
def uptoBulkAll {H : Type} : List (DataW H) → Nat
  | [] => 0
  | d :: r => uptoBulk d + uptoBulkAll r
def uptoBulkEntries {H : Type} : List (Lit × DataW H) → Nat
  | [] => 0
  | x :: r => uptoBulkEntry x + uptoBulkEntries r
def uptoBulkEntry {H : Type} : Lit × DataW H → Nat
  | (.string bytes, d) => bytes.length + uptoBulk d + 1
  | (_, d) => uptoBulk d + 1
 end
def uptoSmall : (H : Type) → List (DataW H) → Bool := fun _ ds => decide (uptoBulkAll ds ≤ 1048576)
def OpenSpec.upto (s : _root_.Go.ChangeSpec) : _root_.Go.OpenSpec := { _root_.Go.OpenSpec.ofChange s with cond := some uptoSmall }

/-- 'servitorlaw25.CheckRight', WHERE WHAT IT READS IS OF BULK AT MOST 1048576: true; the input reads as it did. -/
def checkRightUptoRow : OpenClaim := { program := "ytgcpbkbmnkjlkaadoor", sum := "125187b784f87eea1da7cf49f168b442170134a608d76d86fa6f6696c80bc62b", func := "servitor/servitorlaw25.CheckRight", spec := "checkRight", unfollowed := true, recurses := true, named := ["strings.asciiSpace", "unicode.White_Space"], apart := false, laid := [("unicode.White_Space", laid_unicode_White_Space), ("strings.asciiSpace", laid_strings_asciiSpace)], narrowed := true }
def CheckRightUptoSaid : Prop := checkRightUptoRow.holds Tryd.pinned (OpenSpec.upto checkRightSpec)

/-- 'servitorlaw25.CheckJoins', WHERE WHAT IT READS IS OF BULK AT MOST 1048576: true; the input reads as it did. -/
def checkJoinsUptoRow : OpenClaim := { program := "ytgcpbkbmnkjlkaadoor", sum := "125187b784f87eea1da7cf49f168b442170134a608d76d86fa6f6696c80bc62b", func := "servitor/servitorlaw25.CheckJoins", spec := "checkJoins", unfollowed := true, recurses := true, named := ["strings.asciiSpace", "unicode.White_Space"], apart := false, laid := [("unicode.White_Space", laid_unicode_White_Space), ("strings.asciiSpace", laid_strings_asciiSpace)], narrowed := true }
def CheckJoinsUptoSaid : Prop := checkJoinsUptoRow.holds Tryd.pinned (OpenSpec.upto checkJoinsSpec)

/-- 'servitorlaw17.TokRight', WHERE WHAT IT READS IS OF BULK AT MOST 1048576: true; the input reads as it did. -/
def tokRightUptoRow : OpenClaim := { program := "ytgcpbkbmnkjlkaadoor", sum := "125187b784f87eea1da7cf49f168b442170134a608d76d86fa6f6696c80bc62b", func := "servitor/servitorlaw17.TokRight", spec := "tokRight", inPlace := ["internal/bytealg.IndexByteString", "internal/bytealg.IndexString"], unfollowed := true, recurses := true, named := ["internal/bytealg.MaxLen", "strings.asciiSpace", "unicode.White_Space"], apart := false, laid := [("unicode.White_Space", laid_unicode_White_Space), ("strings.asciiSpace", laid_strings_asciiSpace)], narrowed := true }
def TokRightUptoSaid : Prop := tokRightUptoRow.holds Tryd.pinned (OpenSpec.upto tokRightSpec)

/-- 'servitorlaw17.TokGaps', WHERE WHAT IT READS IS OF BULK AT MOST 1048576: true; the input reads as it did. -/
def tokGapsUptoRow : OpenClaim := { program := "ytgcpbkbmnkjlkaadoor", sum := "125187b784f87eea1da7cf49f168b442170134a608d76d86fa6f6696c80bc62b", func := "servitor/servitorlaw17.TokGaps", spec := "tokGaps", inPlace := ["internal/bytealg.IndexByteString", "internal/bytealg.IndexString"], unfollowed := true, recurses := true, named := ["internal/bytealg.MaxLen", "strings.asciiSpace", "unicode.White_Space"], apart := false, laid := [("unicode.White_Space", laid_unicode_White_Space), ("strings.asciiSpace", laid_strings_asciiSpace)], narrowed := true }
def TokGapsUptoSaid : Prop := tokGapsUptoRow.holds Tryd.pinned (OpenSpec.upto tokGapsSpec)

/-- 'servitorlaw17.TokPlaces', WHERE WHAT IT READS IS OF BULK AT MOST 1048576: true; the input reads as it did. -/
def tokPlacesUptoRow : OpenClaim := { program := "ytgcpbkbmnkjlkaadoor", sum := "125187b784f87eea1da7cf49f168b442170134a608d76d86fa6f6696c80bc62b", func := "servitor/servitorlaw17.TokPlaces", spec := "tokPlaces", inPlace := ["internal/bytealg.IndexByteString", "internal/bytealg.IndexString"], unfollowed := true, recurses := true, named := ["internal/bytealg.MaxLen", "strings.asciiSpace", "unicode.White_Space"], apart := false, laid := [("unicode.White_Space", laid_unicode_White_Space), ("strings.asciiSpace", laid_strings_asciiSpace)], narrowed := true }
def TokPlacesUptoSaid : Prop := tokPlacesUptoRow.holds Tryd.pinned (OpenSpec.upto tokPlacesSpec)

/-- 'servitorlaw17.TokNumbers', WHERE WHAT IT READS IS OF BULK AT MOST 1048576: true; the input reads as it did. -/
def tokNumbersUptoRow : OpenClaim := { program := "ytgcpbkbmnkjlkaadoor", sum := "125187b784f87eea1da7cf49f168b442170134a608d76d86fa6f6696c80bc62b", func := "servitor/servitorlaw17.TokNumbers", spec := "tokNumbers", inPlace := ["internal/bytealg.IndexByteString", "internal/bytealg.IndexString"], unfollowed := true, recurses := true, named := ["internal/bytealg.MaxLen", "strings.asciiSpace", "unicode.White_Space"], apart := false, laid := [("unicode.White_Space", laid_unicode_White_Space), ("strings.asciiSpace", laid_strings_asciiSpace)], narrowed := true }
def TokNumbersUptoSaid : Prop := tokNumbersUptoRow.holds Tryd.pinned (OpenSpec.upto tokNumbersSpec)

/-- 'servitorlaw32.PeepDone', WHERE WHAT IT READS IS OF BULK AT MOST 1048576: true; the input reads as it did. -/
def peepDoneUptoRow : OpenClaim := { program := "ytgcpbkbmnkjlkaadoor", sum := "125187b784f87eea1da7cf49f168b442170134a608d76d86fa6f6696c80bc62b", func := "servitor/servitorlaw32.PeepDone", spec := "peepDone", unfollowed := true, recurses := true, named := ["strings.asciiSpace", "unicode.White_Space"], apart := false, laid := [("unicode.White_Space", laid_unicode_White_Space), ("strings.asciiSpace", laid_strings_asciiSpace)], narrowed := true }
def PeepDoneUptoSaid : Prop := peepDoneUptoRow.holds Tryd.pinned (OpenSpec.upto peepDoneSpec)

/-- 'servitorlaw31.ImagePuts', WHERE WHAT IT READS IS OF BULK AT MOST 1048576: true; the input reads as it did. -/
def imagePutsUptoRow : OpenClaim := { program := "ytgcpbkbmnkjlkaadoor", sum := "125187b784f87eea1da7cf49f168b442170134a608d76d86fa6f6696c80bc62b", func := "servitor/servitorlaw31.ImagePuts", spec := "imagePuts", unfollowed := true, recurses := true, named := ["strings.asciiSpace", "unicode.White_Space"], apart := false, laid := [("unicode.White_Space", laid_unicode_White_Space), ("strings.asciiSpace", laid_strings_asciiSpace)], narrowed := true }
def ImagePutsUptoSaid : Prop := imagePutsUptoRow.holds Tryd.pinned (OpenSpec.upto imagePutsSpec)

/-- 'servitorlaw31.ImageReads', WHERE WHAT IT READS IS OF BULK AT MOST 1048576: true; the input reads as it did. -/
def imageReadsUptoRow : OpenClaim := { program := "ytgcpbkbmnkjlkaadoor", sum := "125187b784f87eea1da7cf49f168b442170134a608d76d86fa6f6696c80bc62b", func := "servitor/servitorlaw31.ImageReads", spec := "imageReads", unfollowed := true, recurses := true, named := ["strings.asciiSpace", "unicode.White_Space"], apart := false, laid := [("unicode.White_Space", laid_unicode_White_Space), ("strings.asciiSpace", laid_strings_asciiSpace)], narrowed := true }
def ImageReadsUptoSaid : Prop := imageReadsUptoRow.holds Tryd.pinned (OpenSpec.upto imageReadsSpec)

/-- 'servitorlaw31.ImageSpoilt', WHERE WHAT IT READS IS OF BULK AT MOST 1048576: true; the input reads as it did. -/
def imageSpoiltUptoRow : OpenClaim := { program := "ytgcpbkbmnkjlkaadoor", sum := "125187b784f87eea1da7cf49f168b442170134a608d76d86fa6f6696c80bc62b", func := "servitor/servitorlaw31.ImageSpoilt", spec := "imageSpoilt", unfollowed := true, recurses := true, named := ["strings.asciiSpace", "unicode.White_Space"], apart := false, laid := [("unicode.White_Space", laid_unicode_White_Space), ("strings.asciiSpace", laid_strings_asciiSpace)], narrowed := true }
def ImageSpoiltUptoSaid : Prop := imageSpoiltUptoRow.holds Tryd.pinned (OpenSpec.upto imageSpoiltSpec)

/-- 'servitorlaw26.VmRight', WHERE WHAT IT READS IS OF BULK AT MOST 1048576: true; the input reads as it did. -/
def vmRightUptoRow : OpenClaim := { program := "ytgcpbkbmnkjlkaadoor", sum := "125187b784f87eea1da7cf49f168b442170134a608d76d86fa6f6696c80bc62b", func := "servitor/servitorlaw26.VmRight", spec := "vmRight", unfollowed := true, recurses := true, named := ["strings.asciiSpace", "unicode.White_Space"], apart := false, laid := [("unicode.White_Space", laid_unicode_White_Space), ("strings.asciiSpace", laid_strings_asciiSpace)], narrowed := true }
def VmRightUptoSaid : Prop := vmRightUptoRow.holds Tryd.pinned (OpenSpec.upto vmRightSpec)

/-- 'servitorlaw26.VmMore', WHERE WHAT IT READS IS OF BULK AT MOST 1048576: true; the input reads as it did. -/
def vmMoreUptoRow : OpenClaim := { program := "ytgcpbkbmnkjlkaadoor", sum := "125187b784f87eea1da7cf49f168b442170134a608d76d86fa6f6696c80bc62b", func := "servitor/servitorlaw26.VmMore", spec := "vmMore", unfollowed := true, recurses := true, named := ["strings.asciiSpace", "unicode.White_Space"], apart := false, laid := [("unicode.White_Space", laid_unicode_White_Space), ("strings.asciiSpace", laid_strings_asciiSpace)], narrowed := true }
def VmMoreUptoSaid : Prop := vmMoreUptoRow.holds Tryd.pinned (OpenSpec.upto vmMoreSpec)

end Rows
end Go.Proofs.YtgcpbkbmnkjlkaaDoor

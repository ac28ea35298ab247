/-
  Texts of one proof, one behind the other.
-/
import Derived.Test.YtecknaklaleloaaDoorP5
import Derived.Test.YtecknaklaleloaaDoorChecked
set_option linter.all false
section
namespace Go.Am
open Go
open Go.Proofs
set_option maxRecDepth 10000

/- 3 servitor servitorlaw18.TreeCut -/
@[simp] def keep3 : Nat → List Nat
  | 0 => [0, 1]
  | 1 => [0, 1, 15]
  | 2 => [4]
  | 3 => [0, 1]
  | 4 => [0, 1, 6]
  | 5 => [0, 1, 38]
  | 6 => [4]
  | 7 => [0, 1, 8, 9]
  | 8 => [0, 1, 8, 9, 10]
  | 9 => [0, 1, 8, 9, 10, 43]
  | 10 => [0, 1, 8, 9, 10]
  | 11 => [0, 1, 8, 9, 10, 51]
  | 12 => [0, 1, 8, 9, 10]
  | 13 => [0, 1, 8, 9, 10]
  | 14 => [0, 1, 62]
  | 15 => [4]
  | 16 => [11, 12, 13]
  | 17 => [4]
  | _ => []
@[simp] def md3 : Nat → Bool
  | _ => false
@[simp] def od3 : Nat → List (List Nat)
  | _ => []
@[simp] def fp3 : FPol := { inpl := [], exp := false, sites := [350, 450, 650, 750], mut_ := [], split := false }
/- 4 servitor servitorlaw18.TreeNests -/
@[simp] def keep4 : Nat → List Nat
  | 0 => [0, 1]
  | 1 => [0, 1, 17]
  | 2 => [4]
  | 3 => [1, 5]
  | 4 => [1, 5, 6, 7, 8]
  | 5 => [1, 5, 6, 7, 8, 21]
  | 6 => [1, 5, 6, 7, 8]
  | 7 => [1, 5, 6, 7, 8, 9]
  | 8 => [1, 5, 6, 7, 8, 9, 24]
  | 9 => [1, 5, 6, 7, 8, 9]
  | 10 => [1, 5, 6, 7, 8, 9]
  | 11 => [1, 5, 6, 7, 8]
  | 12 => [1, 5, 6, 7, 8, 10]
  | 13 => [1, 5, 6, 7, 8, 10, 34]
  | 14 => [1, 5, 6, 7, 8, 10]
  | 15 => [1, 5, 6, 7, 8, 10]
  | 16 => [1, 5, 7, 11, 12, 13]
  | 17 => [1, 5, 7, 11, 12, 13, 50]
  | 18 => [4]
  | 19 => [1, 5, 11, 74]
  | 20 => [4]
  | 21 => [1, 5, 14]
  | 22 => [1, 5, 14, 15]
  | 23 => [1, 5, 14, 15, 85]
  | 24 => [1, 5, 14, 15]
  | 25 => [1, 5, 14, 15, 96]
  | 26 => [4]
  | 27 => [1, 5, 14, 15]
  | 28 => [4]
  | _ => []
@[simp] def md4 : Nat → Bool
  | _ => false
@[simp] def od4 : Nat → List (List Nat)
  | _ => []
@[simp] def fp4 : FPol := { inpl := [], exp := false, sites := [650, 750, 800], mut_ := [], split := false }
/- 7 servitor servitorlaw18.TreeSame -/
@[simp] def keep7 : Nat → List Nat
  | 0 => [0, 1]
  | 1 => [0, 1, 15]
  | 2 => [4]
  | 3 => [0, 1]
  | 4 => [0, 1, 5]
  | 5 => [0, 5, 8]
  | 6 => [5, 8, 11]
  | 7 => [4]
  | _ => []
@[simp] def md7 : Nat → Bool
  | 7 => true
  | _ => false
@[simp] def od7 : Nat → List (List Nat)
  | 3 => [[1, 2, 3, 5, 6, 7, 8, 9], [0, 5, 6, 7, 8, 9], [0, 5, 6, 7, 8, 9], [0, 5, 6, 7, 8, 9], [5, 6, 7, 8, 9], [0, 1, 2, 3, 4, 6, 7, 8, 10], [0, 1, 2, 3, 4, 5, 10], [0, 1, 2, 3, 4, 5, 10], [0, 1, 2, 3, 4, 5, 10], [0, 1, 2, 3, 4, 10], [5, 6, 7, 8, 9], []]
  | 7 => [[1, 3, 4], [0, 3, 4], [3, 4], [0, 1, 2, 4], [0, 1, 2, 3], [], [], [], [9], [8], [], [], [], [14, 16, 17], [13, 16, 17], [16, 17], [13, 14, 15, 17], [13, 14, 15, 16], [], [], [], []]
  | _ => []
@[simp] def fp7 : FPol := { inpl := [], exp := false, sites := [350, 450, 500, 600, 650, 750], mut_ := [], split := false }
/- 8 servitor servitorlaw18.TreeLines -/
@[simp] def keep8 : Nat → List Nat
  | 0 => [0]
  | 1 => [0, 13]
  | 2 => [2]
  | 3 => [0]
  | 4 => [0, 3]
  | 5 => [0, 3, 23]
  | 6 => [0, 3]
  | 7 => [0, 3, 31]
  | 8 => [2]
  | 9 => [0, 4]
  | 10 => [0, 4, 5]
  | 11 => [0, 4, 5, 35]
  | 12 => [0, 4, 5]
  | 13 => [0, 4, 5, 41]
  | 14 => [0, 4, 5]
  | 15 => [0, 4, 5]
  | 16 => [4, 6, 7]
  | 17 => [6, 7, 9, 10]
  | 18 => [2]
  | _ => []
@[simp] def md8 : Nat → Bool
  | 18 => true
  | _ => false
@[simp] def od8 : Nat → List (List Nat)
  | _ => []
@[simp] def fp8 : FPol := { inpl := [], exp := false, sites := [400, 500, 550, 650], mut_ := [], split := false }
/- 11 servitor servitorlaw18.awake -/
@[simp] def keep11 : Nat → List Nat
  | 0 => []
  | 1 => [1, 2]
  | 2 => [0]
  | _ => []
@[simp] def md11 : Nat → Bool
  | 2 => true
  | _ => false
@[simp] def od11 : Nat → List (List Nat)
  | _ => []
@[simp] def fp11 : FPol := { inpl := [], exp := false, sites := [150, 250], mut_ := [], split := false }
/- 12 servitor tree.Parse -/
@[simp] def keep12 : Nat → List Nat
  | 0 => [0, 2, 3, 4]
  | 1 => [2, 3, 4, 5]
  | 2 => [2, 3, 4, 5, 14]
  | 3 => [2, 3, 4]
  | 4 => [2, 3, 4, 5]
  | 5 => [2, 3, 4, 6]
  | 6 => [2, 3, 4]
  | _ => []
@[simp] def md12 : Nat → Bool
  | _ => false
@[simp] def od12 : Nat → List (List Nat)
  | 3 => [[1, 2], [0, 2, 3], [0, 1, 3, 4], [1, 2], [2], []]
  | _ => []
@[simp] def gh12 : Nat → List Gh
  | 5 => [.adopt 1150 3 1151 8]
  | _ => []
@[simp] def fp12 : FPol := { inpl := [], exp := false, sites := [200, 250, 300, 1150, 1151], mut_ := [], split := false }
/- 17 servitor tree.Same -/
@[simp] def keep17 : Nat → List Nat
  | 0 => [2, 3]
  | 1 => [2, 3, 5]
  | 2 => [4]
  | _ => []
@[simp] def md17 : Nat → Bool
  | 2 => true
  | _ => false
@[simp] def od17 : Nat → List (List Nat)
  | _ => []
@[simp] def fp17 : FPol := { inpl := [], exp := false, sites := [200, 250], mut_ := [], split := false }
/- 18 servitor servitorref18.Same -/
@[simp] def keep18 : Nat → List Nat
  | 0 => [2, 3, 4]
  | 1 => [2, 3, 4, 23]
  | 2 => [6]
  | 3 => [2, 3, 4, 7]
  | 4 => [2, 3, 4, 7, 28]
  | 5 => [2, 3, 4, 7]
  | 6 => [2, 3, 4, 7, 8, 9]
  | 7 => [2, 3, 4, 7, 8, 9, 42]
  | 8 => [2, 3, 4, 7, 8, 9]
  | 9 => [2, 3, 4, 7, 47]
  | 10 => [6]
  | 11 => [6]
  | _ => []
@[simp] def md18 : Nat → Bool
  | _ => false
@[simp] def od18 : Nat → List (List Nat)
  | 6 => [[2, 5, 6, 7, 8, 9, 10, 11], [2, 5, 6, 7, 8, 9, 10, 11], [0, 1, 5, 6, 7, 8, 9, 10, 11], [5, 6, 7, 8, 9, 10, 11], [5, 6, 7, 8, 9, 10, 11], [0, 1, 2, 3, 4, 7, 10, 11, 12], [0, 1, 2, 3, 4, 7, 10, 11, 12], [0, 1, 2, 3, 4, 5, 6, 10, 11, 12], [0, 1, 2, 3, 4, 10, 11, 12], [0, 1, 2, 3, 4, 10, 11, 12], [0, 1, 2, 3, 4, 5, 6, 7, 8, 9, 11], [0, 1, 2, 3, 4, 5, 6, 7, 8, 9, 10], [5, 6, 7, 8, 9], []]
  | _ => []
@[simp] def fp18 : FPol := { inpl := [], exp := false, sites := [250, 300, 500, 550], mut_ := [], split := false }
/- 23 servitor tok.Lex -/
@[simp] def keep23 : Nat → List Nat
  | 0 => [0, 4]
  | 1 => [0, 4, 13]
  | 2 => [2, 3, 4]
  | 3 => [4, 5]
  | 4 => [4, 5, 6]
  | 5 => [4, 5, 6, 7]
  | 6 => [4, 5, 6, 7, 8]
  | 7 => [4, 5, 6, 8, 29]
  | 8 => [2, 3, 4]
  | 9 => [4, 5, 6, 8, 33]
  | 10 => [2, 3, 4]
  | 11 => [4, 5, 6, 8, 9, 10]
  | 12 => [4, 5, 6, 8, 9, 10, 50]
  | 13 => [2, 3, 4]
  | 14 => [4, 5, 6, 9]
  | 15 => [4, 5, 6]
  | _ => []
@[simp] def md23 : Nat → Bool
  | _ => false
@[simp] def od23 : Nat → List (List Nat)
  | 6 => [[4, 5, 6, 7, 9], [4, 5, 6, 7, 9], [4, 5, 6, 7, 9], [4, 5, 6, 7, 9], [0, 1, 2, 3, 9], [0, 1, 2, 3, 9], [0, 1, 2, 3, 9], [0, 1, 2, 3, 9], [9], [0, 1, 2, 3, 4, 5, 6, 7, 8], []]
  | 8 => [[1, 2], [0], [0], []]
  | 11 => [[2, 7], [2, 7], [0, 1, 7], [7], [7], [6, 7], [5, 7, 8], [0, 1, 2, 3, 4, 5, 6], [6], []]
  | 13 => [[1, 2], [0, 2, 3], [0, 1], [1], []]
  | _ => []
@[simp] def fp23 : FPol := { inpl := [], exp := false, sites := [200, 300, 400, 500, 550, 950], mut_ := [], split := false }
/- 24 servitor tree.Parse$1 -/
@[simp] def keep24 : Nat → List Nat
  | 0 => [0, 1, 2, 3]
  | 1 => [0, 1, 2, 3, 8]
  | 2 => [0, 1, 2, 3, 4, 5]
  | 3 => [0, 1, 2, 3, 4, 15]
  | 4 => [0, 1, 2, 4]
  | 5 => []
  | _ => []
@[simp] def md24 : Nat → Bool
  | _ => false
@[simp] def od24 : Nat → List (List Nat)
  | 5 => [[1, 2, 3, 4], [0, 3, 4, 5], [0, 3, 4, 5], [0, 1, 2, 5, 6], [0, 1, 2, 5, 6], [1, 2, 3, 4], [3, 4], []]
  | _ => []
@[simp] def fp24 : FPol := { inpl := [], exp := false, sites := [300], mut_ := [], split := false }
/- 25 (*servitor tree.parser).program -/
@[simp] def keep25 : Nat → List Nat
  | 0 => [0, 2]
  | 1 => [0, 2]
  | 2 => [0, 2, 3]
  | 3 => [0, 2, 3]
  | 4 => [0, 2, 3]
  | 5 => [0, 2, 3]
  | 6 => [0, 2, 3]
  | 7 => [2, 3]
  | 8 => [2]
  | _ => []
@[simp] def md25 : Nat → Bool
  | _ => false
@[simp] def od25 : Nat → List (List Nat)
  | _ => []
@[simp] def fp25 : FPol := { inpl := [], exp := false, sites := [200, 250], mut_ := [], split := false }
/- 27 strings.FieldsFunc -/
@[simp] def keep27 : Nat → List Nat
  | 0 => [0, 1]
  | 1 => [0, 1, 5]
  | 2 => [0, 1, 5, 6]
  | 3 => [0, 1, 5, 6, 14]
  | 4 => [0, 1, 5, 6, 14, 15, 16]
  | 5 => [0, 1, 5, 6, 7, 8, 14]
  | 6 => [0, 1, 5, 6, 7, 14, 21]
  | 7 => [0, 1, 5, 6, 7, 14, 23]
  | 8 => [0, 1, 5, 6, 14]
  | 9 => [0, 1, 5, 6, 14]
  | 10 => [0, 1, 5, 6, 7, 14, 33]
  | 11 => [0, 1, 5, 6, 14]
  | 12 => [0, 5, 6, 36]
  | 13 => [0, 5]
  | 14 => [0, 5, 9]
  | 15 => [0, 9, 47, 48, 49]
  | 16 => [0, 9, 47, 48, 49, 50]
  | 17 => [0, 9, 10, 11, 47, 48, 49]
  | 18 => [0, 9, 47, 48, 49]
  | 19 => [0, 9, 47, 48, 49]
  | 20 => [4]
  | _ => []
@[simp] def md27 : Nat → Bool
  | _ => false
@[simp] def od27 : Nat → List (List Nat)
  | _ => []
@[simp] def fp27 : FPol := { inpl := [], exp := false, sites := [650, 700, 2400], mut_ := [], split := false }
/- 34 slices.EqualFunc[[]servitor api.Var,[]servitor api.Var,servitor api.Var,servitor api.Var] -/
@[simp] def keep34 : Nat → List Nat
  | 0 => [0, 1, 2]
  | 1 => [0, 1, 2, 14]
  | 2 => [6]
  | 3 => [1, 2, 15, 16, 17]
  | 4 => [1, 2, 15, 16, 17, 18]
  | 5 => [1, 2, 7, 8, 15, 16, 17]
  | 6 => [1, 2, 8, 9, 15, 16, 17]
  | 7 => [1, 2, 15, 16, 17, 30]
  | 8 => [6]
  | 9 => [1, 2, 15, 16, 17]
  | 10 => [6]
  | _ => []
@[simp] def md34 : Nat → Bool
  | _ => false
@[simp] def od34 : Nat → List (List Nat)
  | _ => []
@[simp] def fp34 : FPol := { inpl := [], exp := false, sites := [500, 550], mut_ := [], split := false }
/- 35 servitor tree.Same$1 -/
@[simp] def keep35 : Nat → List Nat
  | 0 => [2, 3]
  | 1 => [2, 3]
  | 2 => [4]
  | _ => []
@[simp] def md35 : Nat → Bool
  | _ => false
@[simp] def od35 : Nat → List (List Nat)
  | _ => []
@[simp] def fp35 : FPol := { inpl := [], exp := false, sites := [200, 250], mut_ := [], split := false }
/- 36 servitor tree.sameBlock -/
@[simp] def keep36 : Nat → List Nat
  | 0 => [0, 1]
  | 1 => [4]
  | _ => []
@[simp] def md36 : Nat → Bool
  | _ => false
@[simp] def od36 : Nat → List (List Nat)
  | _ => []
@[simp] def fp36 : FPol := { inpl := [], exp := false, sites := [], mut_ := [], split := false }
/- 37 servitor servitorref18.sameStmts -/
@[simp] def keep37 : Nat → List Nat
  | 0 => [0, 1, 2]
  | 1 => [0, 1, 2, 17]
  | 2 => [6]
  | 3 => [0, 1, 2, 7]
  | 4 => [0, 1, 2, 7, 21]
  | 5 => [0, 1, 2, 7]
  | 6 => [0, 1, 2, 7, 8, 9]
  | 7 => [0, 1, 2, 7, 8, 9, 80]
  | 8 => [6]
  | 9 => [0, 1, 2, 7, 8, 9, 102]
  | 10 => [6]
  | 11 => [0, 1, 2, 7, 8, 9, 10]
  | 12 => [0, 1, 2, 7, 8, 9, 10, 107]
  | 13 => [0, 1, 2, 7, 8, 9, 10]
  | 14 => [0, 1, 2, 7, 8, 9, 10, 121]
  | 15 => [6]
  | 16 => [0, 1, 2, 7, 8, 9, 11]
  | 17 => [0, 1, 2, 7, 8, 9, 11, 126]
  | 18 => [0, 1, 2, 7, 8, 9, 11]
  | 19 => [0, 1, 2, 7, 8, 9, 11, 139]
  | 20 => [6]
  | 21 => [0, 1, 2, 7, 8, 9, 12]
  | 22 => [0, 1, 2, 7, 8, 9, 12, 144]
  | 23 => [0, 1, 2, 7, 8, 9, 12]
  | 24 => [0, 1, 2, 7, 8, 9, 12, 159]
  | 25 => [6]
  | 26 => [6]
  | _ => []
@[simp] def md37 : Nat → Bool
  | 7 => true
  | 9 => true
  | _ => false
@[simp] def od37 : Nat → List (List Nat)
  | 6 => [[1, 4, 5, 6, 7, 8, 9], [0, 4, 5, 6, 7, 8, 9], [4, 5, 6, 7, 8, 9], [4, 5, 6, 7, 8, 9], [0, 1, 2, 3, 5, 8, 9, 10], [0, 1, 2, 3, 4, 8, 9, 10], [0, 1, 2, 3, 8, 9, 10], [0, 1, 2, 3, 8, 9, 10], [0, 1, 2, 3, 4, 5, 6, 7, 9], [0, 1, 2, 3, 4, 5, 6, 7, 8], [4, 5, 6, 7], []]
  | 14 => [[2, 5, 6, 7, 8, 9], [2, 5, 6, 7, 8, 9], [0, 1, 5, 6, 7, 8, 9], [5, 6, 7, 8, 9], [5, 6, 7, 8, 9], [0, 1, 2, 3, 4, 7], [0, 1, 2, 3, 4, 7], [0, 1, 2, 3, 4, 5, 6], [0, 1, 2, 3, 4], [0, 1, 2, 3, 4], [], []]
  | 19 => [[2, 5, 6, 7, 8, 9], [2, 5, 6, 7, 8, 9], [0, 1, 5, 6, 7, 8, 9], [5, 6, 7, 8, 9], [5, 6, 7, 8, 9], [0, 1, 2, 3, 4, 7], [0, 1, 2, 3, 4, 7], [0, 1, 2, 3, 4, 5, 6], [0, 1, 2, 3, 4], [0, 1, 2, 3, 4], []]
  | 24 => [[2, 5, 6, 7, 8, 9, 10], [2, 5, 6, 7, 8, 9, 10], [0, 1, 5, 6, 7, 8, 9, 10], [5, 6, 7, 8, 9, 10], [5, 6, 7, 8, 9, 10], [0, 1, 2, 3, 4, 7, 10], [0, 1, 2, 3, 4, 7, 10], [0, 1, 2, 3, 4, 5, 6, 10], [0, 1, 2, 3, 4, 10], [0, 1, 2, 3, 4, 10], [0, 1, 2, 3, 4, 5, 6, 7, 8, 9], [], []]
  | _ => []
@[simp] def fp37 : FPol := { inpl := [], exp := false, sites := [500, 550], mut_ := [], split := false }
/- 45 (*servitor tok.reader).gap -/
@[simp] def keep45 : Nat → List Nat
  | 0 => [0]
  | 1 => [0, 3]
  | 2 => [2]
  | 3 => [0, 3, 8]
  | 4 => [2]
  | 5 => [0, 3, 11]
  | 6 => [0]
  | 7 => [0, 3, 27]
  | 8 => [0, 3, 4]
  | 9 => [0, 3, 4, 33]
  | 10 => [0, 4]
  | 11 => [0]
  | 12 => [0, 3, 39]
  | 13 => [0, 5]
  | 14 => [0, 5, 46]
  | 15 => [2]
  | 16 => [0]
  | _ => []
@[simp] def md45 : Nat → Bool
  | 5 => true
  | _ => false
@[simp] def od45 : Nat → List (List Nat)
  | _ => []
@[simp] def fp45 : FPol := { inpl := [], exp := false, sites := [], mut_ := [], split := false }
/- 46 (*servitor tok.reader).rest -/
@[simp] def keep46 : Nat → List Nat
  | 0 => [0]
  | 1 => [2]
  | _ => []
@[simp] def md46 : Nat → Bool
  | _ => false
@[simp] def od46 : Nat → List (List Nat)
  | 1 => [[4, 5, 6, 7], [4, 5, 6, 7], [4, 5, 6, 7], [4, 5, 6, 7], [0, 1, 2, 3], [0, 1, 2, 3], [0, 1, 2, 3], [0, 1, 2, 3], [], []]
  | _ => []
@[simp] def fp46 : FPol := { inpl := [], exp := false, sites := [], mut_ := [], split := false }
/- 47 servitor tok.next -/
@[simp] def keep47 : Nat → List Nat
  | 0 => [0, 3, 4]
  | 1 => [0, 3, 4]
  | 2 => [0, 3, 4, 6]
  | 3 => [0, 3, 4, 6, 13]
  | 4 => [4, 5]
  | 5 => [0, 3, 4, 6]
  | 6 => [0, 3, 4, 16]
  | 7 => [0, 3, 4, 6]
  | 8 => [0, 3, 4, 6]
  | 9 => [0, 3, 4, 6, 26]
  | 10 => [0, 3, 4, 6]
  | 11 => [0, 3, 4, 6, 29]
  | 12 => [4, 5]
  | 13 => [0, 3, 4, 31]
  | 14 => [0, 3, 4, 7, 8, 9]
  | 15 => [0, 3, 4, 7, 8, 9, 42]
  | 16 => [4, 5]
  | 17 => [0, 3, 4, 6, 8]
  | 18 => [0, 3, 4, 6]
  | 19 => [3, 4]
  | 20 => [4, 5]
  | _ => []
@[simp] def md47 : Nat → Bool
  | _ => false
@[simp] def od47 : Nat → List (List Nat)
  | _ => []
@[simp] def fp47 : FPol := { inpl := [], exp := false, sites := [250, 300], mut_ := [], split := false }
/- 48 (*servitor tok.reader).skip -/
@[simp] def keep48 : Nat → List Nat
  | 0 => [0, 4, 5]
  | 1 => [0, 4, 5, 6]
  | 2 => [0, 4, 5]
  | 3 => [0, 4, 5, 23]
  | 4 => [0, 4, 5]
  | 5 => [0, 4, 5]
  | 6 => [0, 4, 5]
  | 7 => [0, 4, 5]
  | _ => []
@[simp] def md48 : Nat → Bool
  | _ => false
@[simp] def od48 : Nat → List (List Nat)
  | 3 => [[4, 5, 6, 7], [4, 5, 6, 7], [4, 5, 6, 7], [4, 5, 6, 7], [0, 1, 2, 3], [0, 1, 2, 3], [0, 1, 2, 3], [0, 1, 2, 3], [], []]
  | _ => []
@[simp] def fp48 : FPol := { inpl := [], exp := false, sites := [], mut_ := [], split := false }
/- 49 (*servitor tree.parser).must -/
@[simp] def keep49 : Nat → List Nat
  | 0 => [0, 7]
  | 1 => []
  | _ => []
@[simp] def md49 : Nat → Bool
  | _ => false
@[simp] def od49 : Nat → List (List Nat)
  | _ => []
@[simp] def fp49 : FPol := { inpl := [1], exp := false, sites := [], mut_ := [], split := false }
/- 50 (*servitor tree.parser).kind -/
@[simp] def keep50 : Nat → List Nat
  | 0 => [0, 1, 4]
  | 1 => [0, 4, 9]
  | 2 => [0, 4]
  | 3 => [4]
  | _ => []
@[simp] def md50 : Nat → Bool
  | _ => false
@[simp] def od50 : Nat → List (List Nat)
  | _ => []
@[simp] def fp50 : FPol := { inpl := [1], exp := false, sites := [300], mut_ := [], split := false }
/- 51 (*servitor tree.parser).sections -/
@[simp] def keep51 : Nat → List Nat
  | 0 => [0, 2]
  | 1 => [0, 2, 3]
  | 2 => [0, 6]
  | 3 => [0, 2]
  | 4 => [0, 9]
  | 5 => [0, 2]
  | 6 => [0, 2, 14]
  | 7 => [0, 2]
  | _ => []
@[simp] def md51 : Nat → Bool
  | _ => false
@[simp] def od51 : Nat → List (List Nat)
  | _ => []
@[simp] def fp51 : FPol := { inpl := [], exp := false, sites := [], mut_ := [], split := false }
/- 52 (*servitor tree.parser).block -/
@[simp] def keep52 : Nat → List Nat
  | 0 => [0, 1]
  | 1 => [0, 1, 5]
  | 2 => [0, 1, 5, 10]
  | 3 => [0, 1, 5]
  | 4 => [4]
  | _ => []
@[simp] def md52 : Nat → Bool
  | _ => false
@[simp] def od52 : Nat → List (List Nat)
  | _ => []
@[simp] def fp52 : FPol := { inpl := [1], exp := false, sites := [350], mut_ := [], split := false }
/- 57 slices.EqualFunc[[]servitor api.Stmt,[]servitor api.Stmt,servitor api.Stmt,servitor api.Stmt] -/
@[simp] def keep57 : Nat → List Nat
  | 0 => [0, 1, 2]
  | 1 => [0, 1, 2, 14]
  | 2 => [6]
  | 3 => [1, 2, 15, 16, 17]
  | 4 => [1, 2, 15, 16, 17, 18]
  | 5 => [1, 2, 7, 8, 15, 16, 17]
  | 6 => [1, 2, 8, 9, 15, 16, 17]
  | 7 => [1, 2, 15, 16, 17, 30]
  | 8 => [6]
  | 9 => [1, 2, 15, 16, 17]
  | 10 => [6]
  | _ => []
@[simp] def md57 : Nat → Bool
  | _ => false
@[simp] def od57 : Nat → List (List Nat)
  | _ => []
@[simp] def fp57 : FPol := { inpl := [], exp := false, sites := [500, 550], mut_ := [], split := false }
/- 58 servitor tree.sameStmt -/
@[simp] def keep58 : Nat → List Nat
  | 0 => [2, 3]
  | 1 => [4]
  | _ => []
@[simp] def md58 : Nat → Bool
  | 1 => true
  | _ => false
@[simp] def od58 : Nat → List (List Nat)
  | _ => []
@[simp] def fp58 : FPol := { inpl := [], exp := false, sites := [200, 250], mut_ := [], split := false }
/- 59 servitor servitorref18.sameExprs -/
@[simp] def keep59 : Nat → List Nat
  | 0 => [0, 1, 2]
  | 1 => [0, 1, 2, 14]
  | 2 => [6]
  | 3 => [0, 1, 2, 7]
  | 4 => [0, 1, 2, 7, 18]
  | 5 => [0, 1, 2, 7]
  | 6 => [0, 1, 2, 7, 8, 9]
  | 7 => [0, 1, 2, 7, 73]
  | 8 => [6]
  | 9 => [6]
  | _ => []
@[simp] def md59 : Nat → Bool
  | 7 => true
  | _ => false
@[simp] def od59 : Nat → List (List Nat)
  | 6 => [[1, 4, 5, 6, 7, 8, 9], [0, 4, 5, 6, 7, 8, 9], [4, 5, 6, 7, 8, 9], [4, 5, 6, 7, 8, 9], [0, 1, 2, 3, 5, 8, 9, 10], [0, 1, 2, 3, 4, 8, 9, 10], [0, 1, 2, 3, 8, 9, 10], [0, 1, 2, 3, 8, 9, 10], [0, 1, 2, 3, 4, 5, 6, 7, 9], [0, 1, 2, 3, 4, 5, 6, 7, 8], [4, 5, 6, 7], []]
  | _ => []
@[simp] def fp59 : FPol := { inpl := [], exp := false, sites := [500, 550], mut_ := [], split := false }
/- 60 servitor servitorref16.Same -/
@[simp] def keep60 : Nat → List Nat
  | 0 => [0, 1]
  | 1 => [0, 1, 10]
  | 2 => [4]
  | 3 => [0, 1, 5]
  | 4 => [0, 1, 5, 14]
  | 5 => [0, 1, 5]
  | 6 => [0, 1, 5, 25]
  | 7 => [4]
  | 8 => [4]
  | _ => []
@[simp] def md60 : Nat → Bool
  | _ => false
@[simp] def od60 : Nat → List (List Nat)
  | 6 => [[1, 4, 5, 6, 7], [0, 4, 5, 6, 7], [4, 5, 6, 7], [4, 5, 6, 7], [0, 1, 2, 3, 5], [0, 1, 2, 3, 4], [0, 1, 2, 3], [0, 1, 2, 3], []]
  | _ => []
@[simp] def fp60 : FPol := { inpl := [], exp := false, sites := [], mut_ := [], split := false }
/- 67 strings.HasPrefix -/
@[simp] def keep67 : Nat → List Nat
  | 0 => [0, 1]
  | 1 => [4]
  | _ => []
@[simp] def md67 : Nat → Bool
  | _ => false
@[simp] def od67 : Nat → List (List Nat)
  | _ => []
@[simp] def fp67 : FPol := { inpl := [], exp := false, sites := [], mut_ := [], split := false }
/- 68 strings.IndexByte -/
@[simp] def keep68 : Nat → List Nat
  | 0 => [0, 1]
  | 1 => [4]
  | _ => []
@[simp] def md68 : Nat → Bool
  | _ => false
@[simp] def od68 : Nat → List (List Nat)
  | _ => []
@[simp] def fp68 : FPol := { inpl := [], exp := false, sites := [], mut_ := [], split := false }
/- 69 strings.Index -/
@[simp] def keep69 : Nat → List Nat
  | 0 => [0, 1]
  | 1 => [4]
  | _ => []
@[simp] def md69 : Nat → Bool
  | _ => false
@[simp] def od69 : Nat → List (List Nat)
  | _ => []
@[simp] def fp69 : FPol := { inpl := [], exp := false, sites := [], mut_ := [], split := false }
/- 70 servitor tok.letter -/
@[simp] def keep70 : Nat → List Nat
  | 0 => [0]
  | 1 => [2]
  | _ => []
@[simp] def md70 : Nat → Bool
  | 1 => true
  | _ => false
@[simp] def od70 : Nat → List (List Nat)
  | _ => []
@[simp] def fp70 : FPol := { inpl := [], exp := false, sites := [], mut_ := [], split := false }
/- 71 servitor tok.while -/
@[simp] def keep71 : Nat → List Nat
  | 0 => [0, 1]
  | 1 => [0, 1, 5]
  | 2 => [0, 1, 5, 16]
  | 3 => [0, 1, 5]
  | 4 => [4]
  | _ => []
@[simp] def md71 : Nat → Bool
  | 2 => true
  | _ => false
@[simp] def od71 : Nat → List (List Nat)
  | _ => []
@[simp] def fp71 : FPol := { inpl := [], exp := false, sites := [], mut_ := [], split := false }
/- 72 servitor tok.inner -/
@[simp] def keep72 : Nat → List Nat
  | 0 => [0]
  | 1 => [2]
  | _ => []
@[simp] def md72 : Nat → Bool
  | 1 => true
  | _ => false
@[simp] def od72 : Nat → List (List Nat)
  | _ => []
@[simp] def fp72 : FPol := { inpl := [], exp := false, sites := [], mut_ := [], split := false }
/- 73 servitor tok.Word -/
@[simp] def keep73 : Nat → List Nat
  | 0 => [0]
  | 1 => [2]
  | _ => []
@[simp] def md73 : Nat → Bool
  | _ => false
@[simp] def od73 : Nat → List (List Nat)
  | _ => []
@[simp] def fp73 : FPol := { inpl := [], exp := false, sites := [], mut_ := [], split := false }
/- 74 servitor tok.digit -/
@[simp] def keep74 : Nat → List Nat
  | 0 => [0]
  | 1 => [2]
  | _ => []
@[simp] def md74 : Nat → Bool
  | _ => false
@[simp] def od74 : Nat → List (List Nat)
  | _ => []
@[simp] def fp74 : FPol := { inpl := [], exp := false, sites := [], mut_ := [], split := false }
/- 75 servitor tok.number -/
@[simp] def keep75 : Nat → List Nat
  | 0 => [0]
  | 1 => [0, 5, 6]
  | 2 => [0, 5, 6, 16, 17, 18]
  | 3 => [0, 5, 6, 16, 17, 18, 19]
  | 4 => [0, 5, 6, 8, 16, 17, 18]
  | 5 => [0, 5, 6, 8, 16, 17, 18, 25]
  | 6 => [0, 5, 6, 16, 17, 18]
  | 7 => [0, 5, 6, 16, 17, 18]
  | 8 => [0, 5, 6, 9]
  | 9 => [0, 5, 6, 9, 59]
  | 10 => [2, 3, 4]
  | 11 => [0, 5, 6, 9, 10]
  | 12 => [0, 5, 9, 10, 11]
  | 13 => [0, 5, 9, 10, 11, 63]
  | 14 => [0, 5, 9, 10, 11]
  | 15 => [0, 5, 9, 10, 11, 12]
  | 16 => [0, 5, 9, 10, 11, 12, 75]
  | 17 => [2, 3, 4]
  | 18 => [0, 5, 9, 10, 11]
  | 19 => [2, 3, 4]
  | _ => []
@[simp] def md75 : Nat → Bool
  | 9 => true
  | _ => false
@[simp] def od75 : Nat → List (List Nat)
  | 6 => [[2, 3, 4], [2, 3, 4], [0, 1, 5], [0, 1, 5], [0, 1, 5], [2, 3, 4], []]
  | _ => []
@[simp] def fp75 : FPol := { inpl := [], exp := false, sites := [350, 500], mut_ := [], split := false }
/- 76 servitor tok.sign -/
@[simp] def keep76 : Nat → List Nat
  | 0 => [0]
  | 1 => [0, 5, 6, 7]
  | 2 => [0, 5, 6, 7, 8]
  | 3 => [0, 4, 5, 6, 7]
  | 4 => [0, 5, 6, 7, 13]
  | 5 => [2]
  | 6 => [0, 5, 6, 7]
  | 7 => [18]
  | 8 => [2]
  | 9 => [2]
  | _ => []
@[simp] def md76 : Nat → Bool
  | _ => false
@[simp] def od76 : Nat → List (List Nat)
  | _ => []
@[simp] def fp76 : FPol := { inpl := [], exp := false, sites := [], mut_ := [], split := false }
/- 77 (*servitor tree.parser).may -/
@[simp] def keep77 : Nat → List Nat
  | 0 => [0, 1]
  | 1 => [0, 8]
  | 2 => [4]
  | 3 => []
  | 4 => [4]
  | _ => []
@[simp] def md77 : Nat → Bool
  | _ => false
@[simp] def od77 : Nat → List (List Nat)
  | _ => []
@[simp] def fp77 : FPol := { inpl := [1], exp := false, sites := [], mut_ := [], split := false }
/- 78 servitor tree.fail -/
@[simp] def keep78 : Nat → List Nat
  | 0 => [0, 3]
  | 1 => []
  | _ => []
@[simp] def md78 : Nat → Bool
  | _ => false
@[simp] def od78 : Nat → List (List Nat)
  | _ => []
@[simp] def fp78 : FPol := { inpl := [], exp := false, sites := [250], mut_ := [], split := false }
/- 79 (*servitor tree.parser).now -/
@[simp] def keep79 : Nat → List Nat
  | 0 => [0, 2]
  | 1 => [2]
  | _ => []
@[simp] def md79 : Nat → Bool
  | _ => false
@[simp] def od79 : Nat → List (List Nat)
  | 1 => [[4, 5, 6, 7], [4, 5, 6, 7], [4, 5, 6, 7], [4, 5, 6, 7], [0, 1, 2, 3], [0, 1, 2, 3], [0, 1, 2, 3], [0, 1, 2, 3], [], [], []]
  | _ => []
@[simp] def fp79 : FPol := { inpl := [1], exp := false, sites := [200], mut_ := [], split := false }
/- 80 (*servitor tree.parser).take -/
@[simp] def keep80 : Nat → List Nat
  | 0 => [0, 2]
  | 1 => [0, 2, 3]
  | 2 => [0, 2, 3, 8]
  | 3 => [2, 3]
  | 4 => [2]
  | _ => []
@[simp] def md80 : Nat → Bool
  | _ => false
@[simp] def od80 : Nat → List (List Nat)
  | _ => []
@[simp] def fp80 : FPol := { inpl := [1], exp := false, sites := [200, 250], mut_ := [], split := false }
/- 81 (*servitor tree.parser).declared -/
@[simp] def keep81 : Nat → List Nat
  | 0 => [0, 1, 4]
  | 1 => [0, 1, 4, 5]
  | 2 => [0, 1, 4, 5]
  | 3 => [0, 1, 4, 5, 26]
  | 4 => [0, 1, 4]
  | 5 => [0, 1, 4, 31]
  | 6 => [0, 1, 4]
  | 7 => [0, 1, 4, 6]
  | 8 => [0, 1, 4, 6, 7]
  | 9 => [0, 1, 4, 6, 7, 37]
  | 10 => [0, 1, 4, 6, 8, 9]
  | 11 => [0, 1, 4, 6, 8, 56]
  | 12 => [0, 1, 4, 6, 8]
  | 13 => [0, 1, 4, 6, 7]
  | 14 => [0, 1, 4, 6, 7]
  | 15 => [0, 1, 6, 7, 63, 64, 65]
  | 16 => [0, 1, 6, 7, 63, 64, 65, 66]
  | 17 => [0, 1, 6, 7, 11, 63, 64, 65]
  | 18 => [0, 1, 6, 7, 63, 64, 65]
  | 19 => [0, 1, 6, 7, 63, 64, 65]
  | _ => []
@[simp] def md81 : Nat → Bool
  | _ => false
@[simp] def od81 : Nat → List (List Nat)
  | 18 => [[1, 2, 3, 4, 5, 6, 7, 8, 9, 10, 11, 12, 13, 14, 15, 16, 17, 18, 19, 20, 21], [0, 5, 6, 7, 8, 9, 10, 11, 12, 13, 14, 15, 16, 17, 18, 19, 20], [0, 5, 6, 7, 8, 9, 10, 11, 12, 13, 14, 15, 16, 17, 18, 19, 20], [0, 5, 6, 7, 8, 9, 10, 11, 12, 13, 14, 15, 16, 17, 18, 19, 20], [0, 5, 6, 7, 8, 9, 10, 11, 12, 13, 14, 15, 16, 17, 18, 19, 20], [0, 1, 2, 3, 4, 7, 8, 9, 10, 11, 12, 13, 14, 15, 16, 17, 18], [0, 1, 2, 3, 4, 7, 8, 9, 10, 11, 12, 13, 14, 15, 16, 17, 18], [0, 1, 2, 3, 4, 5, 6, 9, 10, 11, 12, 13, 14, 15, 16, 17, 18], [0, 1, 2, 3, 4, 5, 6, 9, 10, 11, 12, 13, 14, 15, 16, 17, 18], [0, 1, 2, 3, 4, 5, 6, 7, 8, 10, 11, 12, 13, 14, 15, 16, 17, 18], [0, 1, 2, 3, 4, 5, 6, 7, 8, 9, 12, 13, 14, 15, 16, 17, 18], [0, 1, 2, 3, 4, 5, 6, 7, 8, 9, 12, 13, 14, 15, 16, 17, 18], [0, 1, 2, 3, 4, 5, 6, 7, 8, 9, 10, 11, 14, 15, 16, 17, 18], [0, 1, 2, 3, 4, 5, 6, 7, 8, 9, 10, 11, 14, 15, 16, 17, 18], [0, 1, 2, 3, 4, 5, 6, 7, 8, 9, 10, 11, 12, 13, 16, 17, 18], [0, 1, 2, 3, 4, 5, 6, 7, 8, 9, 10, 11, 12, 13, 16, 17, 18], [0, 1, 2, 3, 4, 5, 6, 7, 8, 9, 10, 11, 12, 13, 14, 15, 17, 18], [0, 1, 2, 3, 4, 5, 6, 7, 8, 9, 10, 11, 12, 13, 14, 15, 16], [0, 1, 2, 3, 4, 5, 6, 7, 8, 9, 10, 11, 12, 13, 14, 15, 16], [0, 1, 2, 3, 4], [0, 1, 2, 3, 4], [0], [], [], []]
  | _ => []
@[simp] def fp81 : FPol := { inpl := [], exp := false, sites := [300, 350, 400, 650], mut_ := [], split := false }
/- 82 slices.ContainsFunc[[]string,string] -/
@[simp] def keep82 : Nat → List Nat
  | 0 => [0, 1]
  | 1 => [4]
  | _ => []
@[simp] def md82 : Nat → Bool
  | _ => false
@[simp] def od82 : Nat → List (List Nat)
  | _ => []
@[simp] def fp82 : FPol := { inpl := [1], exp := false, sites := [], mut_ := [], split := false }
/- 83 (*servitor tree.parser).is -/
@[simp] def keep83 : Nat → List Nat
  | 0 => [0, 1]
  | 1 => [1, 5]
  | 2 => [4]
  | _ => []
@[simp] def md83 : Nat → Bool
  | _ => false
@[simp] def od83 : Nat → List (List Nat)
  | _ => []
@[simp] def fp83 : FPol := { inpl := [1], exp := false, sites := [350], mut_ := [], split := false }
/- 84 (*servitor tree.parser).stmt -/
@[simp] def keep84 : Nat → List Nat
  | 0 => [0, 2]
  | 1 => [0, 2, 3]
  | 2 => [0, 2, 3]
  | 3 => [0, 2, 3, 4]
  | 4 => [0, 2, 3, 4]
  | 5 => [2, 3, 4]
  | 6 => [2, 4]
  | 7 => [2]
  | _ => []
@[simp] def md84 : Nat → Bool
  | _ => false
@[simp] def od84 : Nat → List (List Nat)
  | _ => []
@[simp] def fp84 : FPol := { inpl := [1], exp := false, sites := [200, 250, 300], mut_ := [], split := false }
/- 91 servitor tree.sameExpr -/
@[simp] def keep91 : Nat → List Nat
  | 0 => [2, 3]
  | 1 => [4]
  | _ => []
@[simp] def md91 : Nat → Bool
  | 1 => true
  | _ => false
@[simp] def od91 : Nat → List (List Nat)
  | _ => []
@[simp] def fp91 : FPol := { inpl := [], exp := false, sites := [200, 250], mut_ := [], split := false }
/- 92 slices.EqualFunc[[]servitor api.Expr,[]servitor api.Expr,servitor api.Expr,servitor api.Expr] -/
@[simp] def keep92 : Nat → List Nat
  | 0 => [0, 1, 2]
  | 1 => [0, 1, 2, 14]
  | 2 => [6]
  | 3 => [1, 2, 15, 16, 17]
  | 4 => [1, 2, 15, 16, 17, 18]
  | 5 => [1, 2, 7, 8, 15, 16, 17]
  | 6 => [1, 2, 8, 9, 15, 16, 17]
  | 7 => [1, 2, 15, 16, 17, 30]
  | 8 => [6]
  | 9 => [1, 2, 15, 16, 17]
  | 10 => [6]
  | _ => []
@[simp] def md92 : Nat → Bool
  | _ => false
@[simp] def od92 : Nat → List (List Nat)
  | _ => []
@[simp] def fp92 : FPol := { inpl := [], exp := false, sites := [500, 550], mut_ := [], split := false }
/- 93 slices.EqualFunc[[][]int64,[][]int64,[]int64,[]int64] -/
@[simp] def keep93 : Nat → List Nat
  | 0 => [0, 1, 2]
  | 1 => [0, 1, 2, 14]
  | 2 => [6]
  | 3 => [1, 2, 15, 16, 17]
  | 4 => [1, 2, 15, 16, 17, 18]
  | 5 => [1, 2, 7, 8, 15, 16, 17]
  | 6 => [1, 2, 8, 9, 15, 16, 17]
  | 7 => [1, 2, 15, 16, 17, 30]
  | 8 => [6]
  | 9 => [1, 2, 15, 16, 17]
  | 10 => [6]
  | _ => []
@[simp] def md93 : Nat → Bool
  | _ => false
@[simp] def od93 : Nat → List (List Nat)
  | _ => []
@[simp] def fp93 : FPol := { inpl := [], exp := false, sites := [], mut_ := [], split := false }
/- 94 servitor tree.sameLabels -/
@[simp] def keep94 : Nat → List Nat
  | 0 => [0, 1]
  | 1 => [4]
  | _ => []
@[simp] def md94 : Nat → Bool
  | _ => false
@[simp] def od94 : Nat → List (List Nat)
  | _ => []
@[simp] def fp94 : FPol := { inpl := [], exp := false, sites := [], mut_ := [], split := false }
/- 95 slices.Equal[[]string,string] -/
@[simp] def keep95 : Nat → List Nat
  | 0 => [0, 1]
  | 1 => [0, 1, 10]
  | 2 => [4]
  | 3 => [0, 1, 12, 13]
  | 4 => [0, 1, 12, 13, 14]
  | 5 => [0, 1, 5, 12, 13]
  | 6 => [0, 1, 12, 13, 24]
  | 7 => [4]
  | 8 => [0, 1, 12, 13]
  | 9 => [4]
  | _ => []
@[simp] def md95 : Nat → Bool
  | _ => false
@[simp] def od95 : Nat → List (List Nat)
  | 6 => [[1, 4, 5, 6, 7], [0, 4, 5, 6, 7], [4, 5, 6, 7], [4, 5, 6, 7], [0, 1, 2, 3, 5], [0, 1, 2, 3, 4], [0, 1, 2, 3], [0, 1, 2, 3], []]
  | _ => []
@[simp] def fp95 : FPol := { inpl := [], exp := false, sites := [], mut_ := [], split := false }
/- 96 slices.EqualFunc[[][]servitor api.Stmt,[][]servitor api.Stmt,[]servitor api.Stmt,[]servitor api.Stmt] -/
@[simp] def keep96 : Nat → List Nat
  | 0 => [0, 1, 2]
  | 1 => [0, 1, 2, 14]
  | 2 => [6]
  | 3 => [1, 2, 15, 16, 17]
  | 4 => [1, 2, 15, 16, 17, 18]
  | 5 => [1, 2, 7, 8, 15, 16, 17]
  | 6 => [1, 2, 8, 9, 15, 16, 17]
  | 7 => [1, 2, 15, 16, 17, 30]
  | 8 => [6]
  | 9 => [1, 2, 15, 16, 17]
  | 10 => [6]
  | _ => []
@[simp] def md96 : Nat → Bool
  | _ => false
@[simp] def od96 : Nat → List (List Nat)
  | _ => []
@[simp] def fp96 : FPol := { inpl := [], exp := false, sites := [], mut_ := [], split := false }
/- 106 internal stringslite.HasPrefix -/
@[simp] def keep106 : Nat → List Nat
  | 0 => [0, 1]
  | 1 => [4]
  | _ => []
@[simp] def md106 : Nat → Bool
  | 1 => true
  | _ => false
@[simp] def od106 : Nat → List (List Nat)
  | _ => []
@[simp] def fp106 : FPol := { inpl := [], exp := false, sites := [], mut_ := [], split := false }
/- 107 internal stringslite.IndexByte -/
@[simp] def keep107 : Nat → List Nat
  | 0 => [0, 1]
  | 1 => [4]
  | _ => []
@[simp] def md107 : Nat → Bool
  | _ => false
@[simp] def od107 : Nat → List (List Nat)
  | _ => []
@[simp] def fp107 : FPol := { inpl := [], exp := false, sites := [], mut_ := [], split := false }
/- 108 internal stringslite.Index -/
@[simp] def keep108 : Nat → List Nat
  | 0 => [0, 1]
  | 1 => [0, 1, 5]
  | 2 => [0, 1, 5, 16]
  | 3 => [4]
  | 4 => [0, 1, 5, 24]
  | 5 => [4]
  | 6 => [0, 1, 5, 31]
  | 7 => [4]
  | 8 => [0, 1, 5, 36]
  | 9 => [4]
  | 10 => [0, 1, 5, 6]
  | 11 => [0, 1, 5, 6, 7]
  | 12 => [0, 1, 5, 6, 7, 8]
  | 13 => [0, 1, 5, 6, 7, 8, 9]
  | 14 => [0, 1, 5, 6, 7, 8, 9, 10]
  | 15 => [0, 1, 5, 6, 7, 8, 9, 10, 59]
  | 16 => [0, 1, 5, 6, 7, 8, 9, 10, 64]
  | 17 => [0, 1, 5, 6, 7, 8, 9, 10, 11]
  | 18 => [0, 1, 5, 6, 7, 8, 9, 10, 11, 73]
  | 19 => [4]
  | 20 => [0, 1, 5, 6, 7, 8, 9, 10]
  | 21 => [0, 1, 5, 6, 7, 8, 9, 10, 93]
  | 22 => [4]
  | 23 => [0, 1, 5, 6, 7, 8, 9, 10]
  | 24 => [0, 1, 5, 6, 7, 8, 9, 10]
  | 25 => [0, 1, 5, 6, 7, 8, 9, 10, 107]
  | 26 => [8, 12]
  | 27 => [8, 12, 114]
  | 28 => [4]
  | 29 => [4]
  | 30 => [0, 1, 5, 6, 7, 8, 9, 10, 132]
  | 31 => [8, 13]
  | 32 => [8, 13, 139]
  | 33 => [4]
  | 34 => [4]
  | 35 => [4]
  | _ => []
@[simp] def md108 : Nat → Bool
  | 21 => true
  | 25 => true
  | _ => false
@[simp] def od108 : Nat → List (List Nat)
  | _ => []
@[simp] def fp108 : FPol := { inpl := [], exp := false, sites := [], mut_ := [], split := false }
/- 109 slices.Contains[[]string,string] -/
@[simp] def keep109 : Nat → List Nat
  | 0 => [0, 1]
  | 1 => [4]
  | _ => []
@[simp] def md109 : Nat → Bool
  | _ => false
@[simp] def od109 : Nat → List (List Nat)
  | _ => []
@[simp] def fp109 : FPol := { inpl := [], exp := false, sites := [], mut_ := [], split := false }
/- 110 strings.Fields -/
@[simp] def keep110 : Nat → List Nat
  | 0 => [0]
  | 1 => [0, 3]
  | 2 => [0, 3, 4]
  | 3 => [0, 3, 4, 5]
  | 4 => [0, 3, 4, 5, 6]
  | 5 => [0, 3, 4, 5, 6, 16]
  | 6 => [0, 3, 4, 5, 6]
  | 7 => [0, 3, 4, 5, 6, 7]
  | 8 => [0, 3, 4, 5, 6, 7]
  | 9 => [0, 3, 4, 5, 6, 8]
  | 10 => [0, 3, 5, 6, 8]
  | 11 => [0, 3, 4, 5, 6]
  | 12 => [0, 3, 37]
  | 13 => [2]
  | 14 => [0, 9]
  | 15 => [0, 9, 10]
  | 16 => [0, 9, 10]
  | 17 => [0, 9, 10, 12]
  | 18 => [0, 9, 10, 12, 53]
  | 19 => [0, 9, 10, 12]
  | 20 => [0, 9, 10, 11, 12]
  | 21 => [0, 9, 10, 11, 12, 60]
  | 22 => [0, 9, 10, 11, 12, 66]
  | 23 => [0, 9, 10, 11, 12]
  | 24 => [0, 9, 10, 12]
  | 25 => [0, 9, 10, 12]
  | 26 => [0, 9, 10, 12]
  | 27 => [0, 9, 10, 12, 91]
  | 28 => [0, 9, 10, 12]
  | 29 => [0, 9, 10, 11, 12]
  | 30 => [0, 9, 10, 11, 98]
  | 31 => [9]
  | 32 => [2]
  | _ => []
@[simp] def md110 : Nat → Bool
  | 18 => true
  | 27 => true
  | _ => false
@[simp] def od110 : Nat → List (List Nat)
  | _ => []
@[simp] def fp110 : FPol := { inpl := [], exp := false, sites := [2150], mut_ := [], split := false }
/- 111 servitor tok.number$1 -/
@[simp] def keep111 : Nat → List Nat
  | 0 => [0, 1]
  | 1 => [3]
  | _ => []
@[simp] def md111 : Nat → Bool
  | _ => false
@[simp] def od111 : Nat → List (List Nat)
  | 1 => [[2], [2], [0, 1], [], []]
  | _ => []
@[simp] def fp111 : FPol := { inpl := [], exp := false, sites := [], mut_ := [], split := false }
/- 112 servitor tok.value -/
@[simp] def keep112 : Nat → List Nat
  | 0 => [0]
  | 1 => [0, 3]
  | 2 => [2]
  | 3 => [0, 9]
  | 4 => [2]
  | 5 => [2]
  | _ => []
@[simp] def md112 : Nat → Bool
  | _ => false
@[simp] def od112 : Nat → List (List Nat)
  | _ => []
@[simp] def fp112 : FPol := { inpl := [], exp := false, sites := [], mut_ := [], split := false }
/- 113 (*servitor tree.parser).typed -/
@[simp] def keep113 : Nat → List Nat
  | 0 => [0, 2]
  | 1 => [0, 2, 3]
  | 2 => [0, 2, 3, 4, 5]
  | 3 => [0, 2, 3, 4, 15]
  | 4 => [2, 3]
  | 5 => [2]
  | 6 => [0, 2, 3, 20]
  | 7 => [2]
  | 8 => [2, 3, 6]
  | 9 => [2, 3, 6]
  | 10 => [2, 3, 6, 32]
  | 11 => [2, 3]
  | 12 => [2]
  | _ => []
@[simp] def md113 : Nat → Bool
  | _ => false
@[simp] def od113 : Nat → List (List Nat)
  | _ => []
@[simp] def fp113 : FPol := { inpl := [1], exp := false, sites := [200, 250, 400], mut_ := [], split := false }
/- 114 (*servitor tree.parser).value -/
@[simp] def keep114 : Nat → List Nat
  | 0 => [0]
  | 1 => [0, 4]
  | 2 => [2, 3]
  | 3 => [0, 7]
  | 4 => [2, 3]
  | 5 => [2, 3]
  | _ => []
@[simp] def md114 : Nat → Bool
  | _ => false
@[simp] def od114 : Nat → List (List Nat)
  | _ => []
@[simp] def fp114 : FPol := { inpl := [1], exp := false, sites := [], mut_ := [], split := false }
/- 115 slices.IndexFunc[[]string,string] -/
@[simp] def keep115 : Nat → List Nat
  | 0 => [0, 1]
  | 1 => [0, 1, 7, 8]
  | 2 => [0, 1, 7, 8, 9]
  | 3 => [0, 1, 5, 7, 8]
  | 4 => [0, 1, 5, 7, 8, 16]
  | 5 => [4]
  | 6 => [0, 1, 7, 8]
  | 7 => [4]
  | _ => []
@[simp] def md115 : Nat → Bool
  | _ => false
@[simp] def od115 : Nat → List (List Nat)
  | _ => []
@[simp] def fp115 : FPol := { inpl := [1], exp := false, sites := [], mut_ := [], split := false }
/- 116 (*servitor tree.parser).in -/
@[simp] def keep116 : Nat → List Nat
  | 0 => [0]
  | 1 => [0, 13]
  | 2 => []
  | _ => []
@[simp] def md116 : Nat → Bool
  | _ => false
@[simp] def od116 : Nat → List (List Nat)
  | _ => []
@[simp] def fp116 : FPol := { inpl := [1], exp := false, sites := [], mut_ := [], split := false }
/- 117 (*servitor tree.parser).open -/
@[simp] def keep117 : Nat → List Nat
  | 0 => [0, 2]
  | 1 => [0, 2, 7]
  | 2 => [2]
  | 3 => [0, 2, 12]
  | 4 => [2]
  | 5 => [0, 2, 17]
  | 6 => [2]
  | 7 => [0, 2, 22]
  | 8 => [0, 2, 3]
  | 9 => [0, 2, 3]
  | 10 => [0, 2, 3]
  | 11 => [2, 3]
  | 12 => [2]
  | 13 => [0, 2, 38]
  | 14 => [0, 2, 4]
  | 15 => [0, 2, 4]
  | 16 => [0, 2, 4]
  | 17 => [2, 4]
  | 18 => [2]
  | 19 => [0, 2, 54]
  | 20 => [2]
  | 21 => [0, 2, 58]
  | 22 => [2]
  | 23 => [0, 2, 5]
  | 24 => [0, 2, 5, 65]
  | 25 => [2]
  | 26 => [0, 2, 5, 6]
  | 27 => [0, 2, 5, 6, 76]
  | 28 => [0, 2, 6]
  | 29 => [0, 2, 6]
  | 30 => [2]
  | _ => []
@[simp] def md117 : Nat → Bool
  | _ => false
@[simp] def od117 : Nat → List (List Nat)
  | 28 => [[2, 3, 4, 5, 6], [2, 3, 4, 5, 6], [0, 1, 5, 6], [0, 1, 5, 6], [0, 1, 5, 6], [0, 1, 2, 3, 4], [0, 1, 2, 3, 4], [], []]
  | 30 => [[1, 2], [0], [0], [], []]
  | _ => []
@[simp] def fp117 : FPol := { inpl := [1], exp := false, sites := [200, 250, 300, 350, 400], mut_ := [], split := false }
/- 118 (*servitor tree.parser).out -/
@[simp] def keep118 : Nat → List Nat
  | 0 => []
  | _ => []
@[simp] def md118 : Nat → Bool
  | _ => false
@[simp] def od118 : Nat → List (List Nat)
  | _ => []
@[simp] def fp118 : FPol := { inpl := [1], exp := false, sites := [], mut_ := [], split := false }
/- 123 slices.Equal[[]int64,int64] -/
@[simp] def keep123 : Nat → List Nat
  | 0 => [0, 1]
  | 1 => [0, 1, 10]
  | 2 => [4]
  | 3 => [0, 1, 12, 13]
  | 4 => [0, 1, 12, 13, 14]
  | 5 => [0, 1, 5, 12, 13]
  | 6 => [0, 1, 12, 13, 24]
  | 7 => [4]
  | 8 => [0, 1, 12, 13]
  | 9 => [4]
  | _ => []
@[simp] def md123 : Nat → Bool
  | _ => false
@[simp] def od123 : Nat → List (List Nat)
  | 6 => [[1, 4, 5, 6, 7], [0, 4, 5, 6, 7], [4, 5, 6, 7], [4, 5, 6, 7], [0, 1, 2, 3, 5], [0, 1, 2, 3, 4], [0, 1, 2, 3], [0, 1, 2, 3], []]
  | _ => []
@[simp] def fp123 : FPol := { inpl := [], exp := false, sites := [], mut_ := [], split := false }
/- 137 internal bytealg.Cutover -/
@[simp] def keep137 : Nat → List Nat
  | 0 => [0]
  | 1 => [2]
  | _ => []
@[simp] def md137 : Nat → Bool
  | _ => false
@[simp] def od137 : Nat → List (List Nat)
  | _ => []
@[simp] def fp137 : FPol := { inpl := [], exp := false, sites := [], mut_ := [], split := false }
/- 138 internal bytealg.IndexRabinKarp[string] -/
@[simp] def keep138 : Nat → List Nat
  | 0 => [0, 1]
  | 1 => [0, 1, 5, 6]
  | 2 => [0, 1, 5, 6, 7]
  | 3 => [0, 1, 5, 6, 7, 8]
  | 4 => [0, 1, 5, 6, 7, 8, 9]
  | 5 => [0, 1, 5, 6, 7, 8, 9, 20]
  | 6 => [0, 1, 5, 6, 7, 8, 9]
  | 7 => [0, 1, 5, 6, 7, 8, 9]
  | 8 => [0, 1, 5, 6, 7, 8, 39]
  | 9 => [4]
  | 10 => [0, 1, 5, 6, 7, 8, 10]
  | 11 => [0, 1, 5, 6, 7, 8, 10, 44]
  | 12 => [0, 1, 5, 6, 7, 8, 10]
  | 13 => [0, 1, 5, 6, 7, 8, 10]
  | 14 => [0, 1, 5, 6, 7, 8, 10]
  | 15 => [0, 1, 5, 6, 7, 8, 10]
  | 16 => [0, 1, 5, 6, 7, 8, 10, 77]
  | 17 => [4]
  | 18 => [4]
  | _ => []
@[simp] def md138 : Nat → Bool
  | 8 => true
  | 16 => true
  | _ => false
@[simp] def od138 : Nat → List (List Nat)
  | _ => []
@[simp] def fp138 : FPol := { inpl := [], exp := false, sites := [], mut_ := [], split := false }
/- 139 slices.Index[[]string,string] -/
@[simp] def keep139 : Nat → List Nat
  | 0 => [0, 1]
  | 1 => [0, 1, 7, 8]
  | 2 => [0, 1, 7, 8, 9]
  | 3 => [0, 1, 5, 7, 8]
  | 4 => [0, 1, 5, 7, 8, 16]
  | 5 => [4]
  | 6 => [0, 1, 7, 8]
  | 7 => [4]
  | _ => []
@[simp] def md139 : Nat → Bool
  | _ => false
@[simp] def od139 : Nat → List (List Nat)
  | _ => []
@[simp] def fp139 : FPol := { inpl := [], exp := false, sites := [], mut_ := [], split := false }
/- 140 unicode.IsSpace -/
@[simp] def keep140 : Nat → List Nat
  | 0 => [0]
  | 1 => [0, 5]
  | 2 => [6]
  | 3 => [6, 7]
  | 4 => [6, 7]
  | 5 => [6, 7]
  | 6 => [6, 7]
  | 7 => [6, 7]
  | 8 => [6, 7]
  | 9 => [6, 7]
  | 10 => [7]
  | 11 => [2]
  | 12 => [2]
  | 13 => [2]
  | _ => []
@[simp] def md140 : Nat → Bool
  | _ => false
@[simp] def od140 : Nat → List (List Nat)
  | _ => []
@[simp] def fp140 : FPol := { inpl := [], exp := false, sites := [], mut_ := [], split := false }
/- 141 (*servitor tree.parser).plain -/
@[simp] def keep141 : Nat → List Nat
  | 0 => [0]
  | 1 => [0, 4]
  | 2 => [2, 3]
  | 3 => [7]
  | 4 => [2, 3]
  | 5 => [2, 3]
  | _ => []
@[simp] def md141 : Nat → Bool
  | _ => false
@[simp] def od141 : Nat → List (List Nat)
  | _ => []
@[simp] def fp141 : FPol := { inpl := [1], exp := false, sites := [], mut_ := [], split := false }
/- 142 (*servitor tree.parser).array -/
@[simp] def keep142 : Nat → List Nat
  | 0 => [0, 3, 4]
  | 1 => [0, 3, 4]
  | 2 => [0, 3, 4]
  | 3 => [0, 3, 4]
  | 4 => [0, 3, 4, 5]
  | 5 => [0, 3, 4, 5, 27]
  | 6 => [0, 3, 4, 5]
  | 7 => [0, 3, 4]
  | 8 => [0, 3, 4]
  | 9 => [0, 3, 4]
  | 10 => [0, 3, 4, 6, 7]
  | 11 => [0, 3, 4, 6, 44]
  | 12 => [3, 4, 6]
  | 13 => [3, 4]
  | 14 => [4]
  | _ => []
@[simp] def md142 : Nat → Bool
  | _ => false
@[simp] def od142 : Nat → List (List Nat)
  | 7 => [[2, 3], [2, 3], [0, 1], [0, 1], [], []]
  | _ => []
@[simp] def fp142 : FPol := { inpl := [1], exp := false, sites := [250, 300, 350], mut_ := [], split := false }
/- 143 servitor std.Kind -/
@[simp] def keep143 : Nat → List Nat
  | 0 => [1]
  | 1 => [1, 3]
  | 2 => [3, 4]
  | 3 => [3, 4, 10]
  | 4 => [2]
  | 5 => [2]
  | _ => []
@[simp] def md143 : Nat → Bool
  | _ => false
@[simp] def od143 : Nat → List (List Nat)
  | _ => []
@[simp] def fp143 : FPol := { inpl := [], exp := false, sites := [150], mut_ := [], split := false }
/- 144 (*servitor tree.parser).signed -/
@[simp] def keep144 : Nat → List Nat
  | 0 => [0]
  | 1 => [0, 4]
  | 2 => [2]
  | 3 => [2]
  | _ => []
@[simp] def md144 : Nat → Bool
  | _ => false
@[simp] def od144 : Nat → List (List Nat)
  | _ => []
@[simp] def fp144 : FPol := { inpl := [1], exp := false, sites := [], mut_ := [], split := false }
/- 145 (*servitor tree.parser).branches -/
@[simp] def keep145 : Nat → List Nat
  | 0 => [0, 2]
  | 1 => [0, 2, 3]
  | 2 => [0, 2, 3]
  | 3 => [0, 2, 3]
  | 4 => [0, 2, 3]
  | 5 => [0, 2, 3, 24]
  | 6 => [0, 2, 3, 26]
  | 7 => [0, 2, 3]
  | 8 => [2, 3]
  | 9 => [2]
  | _ => []
@[simp] def md145 : Nat → Bool
  | _ => false
@[simp] def od145 : Nat → List (List Nat)
  | 2 => [[2, 3, 4], [2, 3, 4], [0, 1], [0, 1], [0, 1], [], [], []]
  | 4 => [[2, 3, 4, 5], [2, 3, 4, 5], [0, 1, 3], [0, 1, 2], [0, 1], [0, 1], [], [], []]
  | 7 => [[2, 3, 4, 5], [2, 3, 4, 5], [0, 1, 3], [0, 1, 2], [0, 1], [0, 1], [], [], []]
  | _ => []
@[simp] def gh145 : Nat → List Gh
  | 1 => [.adopt 250 14 251 6, .adopt 250 17 252 1]
  | _ => []
@[simp] def fp145 : FPol := { inpl := [1], exp := false, sites := [200, 250, 251, 252], mut_ := [], split := false }
/- 146 (*servitor tree.parser).cases -/
@[simp] def keep146 : Nat → List Nat
  | 0 => [0, 2]
  | 1 => [0, 2, 3]
  | 2 => [0, 2, 3]
  | 3 => [0, 2, 3, 11]
  | 4 => [0, 2, 3]
  | 5 => [0, 2, 3, 4]
  | 6 => [0, 2, 3, 4, 31]
  | 7 => [0, 2, 3, 4]
  | 8 => [0, 2, 3]
  | 9 => [0, 2, 3, 44]
  | 10 => [0, 2, 3]
  | 11 => [2, 3]
  | 12 => [2]
  | _ => []
@[simp] def md146 : Nat → Bool
  | 6 => true
  | _ => false
@[simp] def od146 : Nat → List (List Nat)
  | 4 => [[2, 3, 4], [2, 3, 4], [0, 1], [0, 1], [0, 1], [], [], []]
  | 10 => [[2, 3, 4, 5], [2, 3, 4, 5], [0, 1, 3], [0, 1, 2], [0, 1], [0, 1], [], [], []]
  | _ => []
@[simp] def gh146 : Nat → List Gh
  | 1 => [.adopt 250 15 251 1, .adopt 250 17 252 1]
  | 1000002 => [.freeze 300]
  | _ => []
@[simp] def fp146 : FPol := { inpl := [1], exp := false, sites := [200, 250, 251, 252, 300], mut_ := [], split := false }
/- 147 (*servitor tree.parser).counted -/
@[simp] def keep147 : Nat → List Nat
  | 0 => [0, 2]
  | 1 => [0, 2, 3]
  | 2 => [0, 2, 3]
  | 3 => [0, 2, 3, 4]
  | 4 => [0, 2, 3, 4]
  | 5 => [0, 2, 3]
  | 6 => [0, 2, 3, 5]
  | 7 => [0, 2, 3, 5, 26]
  | 8 => [0, 2, 3, 5]
  | 9 => [0, 2, 3]
  | 10 => [0, 2, 3]
  | 11 => [0, 2, 3]
  | 12 => [2, 3]
  | 13 => [2]
  | _ => []
@[simp] def md147 : Nat → Bool
  | _ => false
@[simp] def od147 : Nat → List (List Nat)
  | 5 => [[1, 2], [0], [0], [], [], []]
  | _ => []
@[simp] def fp147 : FPol := { inpl := [1], exp := false, sites := [200, 250, 300, 350, 1050], mut_ := [], split := false }
/- 148 (*servitor tree.parser).expr -/
@[simp] def keep148 : Nat → List Nat
  | 0 => [0, 2]
  | 1 => [2]
  | _ => []
@[simp] def md148 : Nat → Bool
  | _ => false
@[simp] def od148 : Nat → List (List Nat)
  | _ => []
@[simp] def fp148 : FPol := { inpl := [1], exp := false, sites := [200], mut_ := [], split := false }
/- 149 (*servitor tree.parser).call -/
@[simp] def keep149 : Nat → List Nat
  | 0 => [0, 1, 4]
  | 1 => [0, 4, 5]
  | 2 => [0, 4, 5, 9]
  | 3 => [4]
  | 4 => [0, 4, 5]
  | 5 => [0, 4, 5]
  | 6 => [0, 4, 5]
  | 7 => [0, 4, 5, 30]
  | 8 => [4, 5]
  | 9 => [4]
  | _ => []
@[simp] def md149 : Nat → Bool
  | _ => false
@[simp] def od149 : Nat → List (List Nat)
  | 4 => [[2, 3, 4, 5], [2, 3, 4, 5], [0, 1], [0, 1], [0, 1], [0, 1], [], [], []]
  | 6 => [[2, 3, 4], [2, 3, 4], [0, 1], [0, 1], [0, 1], [], [], []]
  | _ => []
@[simp] def gh149 : Nat → List Gh
  | 1 => [.adopt 350 14 351 6, .adopt 350 16 352 1]
  | _ => []
@[simp] def fp149 : FPol := { inpl := [1], exp := false, sites := [300, 350, 351, 352], mut_ := [], split := false }
/- 150 (*servitor tree.parser).index -/
@[simp] def keep150 : Nat → List Nat
  | 0 => [0, 2]
  | 1 => [0, 2]
  | 2 => [0, 2]
  | 3 => [0, 2, 3]
  | 4 => [0, 2, 3]
  | 5 => [2, 3]
  | 6 => [2]
  | _ => []
@[simp] def md150 : Nat → Bool
  | _ => false
@[simp] def od150 : Nat → List (List Nat)
  | _ => []
@[simp] def fp150 : FPol := { inpl := [1], exp := false, sites := [200, 250], mut_ := [], split := false }
/- 157 internal bytealg.hashStr[string] -/
@[simp] def keep157 : Nat → List Nat
  | 0 => [0]
  | 1 => [0, 4]
  | 2 => [0, 4, 5]
  | 3 => [0, 4, 5, 12]
  | 4 => [0, 4, 5]
  | 5 => [0, 4, 5]
  | 6 => [0, 4, 6, 7]
  | 7 => [4, 6, 7, 8]
  | 8 => [4, 6, 7, 8, 25]
  | 9 => [4, 6, 7, 8]
  | 10 => [4, 6, 7, 8, 30]
  | 11 => [4, 6, 7, 8]
  | 12 => [4, 6, 7, 8]
  | 13 => [2, 3]
  | _ => []
@[simp] def md157 : Nat → Bool
  | _ => false
@[simp] def od157 : Nat → List (List Nat)
  | _ => []
@[simp] def fp157 : FPol := { inpl := [], exp := false, sites := [], mut_ := [], split := false }
/- 158 unicode.isExcludingLatin -/
@[simp] def keep158 : Nat → List Nat
  | 0 => [0, 1]
  | 1 => [0, 1, 5]
  | 2 => [0, 1, 5, 6]
  | 3 => [0, 1, 5, 6, 32]
  | 4 => [4]
  | 5 => [1, 7]
  | 6 => [1, 7, 54]
  | 7 => [4]
  | 8 => [4]
  | _ => []
@[simp] def md158 : Nat → Bool
  | 3 => true
  | 6 => true
  | _ => false
@[simp] def od158 : Nat → List (List Nat)
  | _ => []
@[simp] def fp158 : FPol := { inpl := [], exp := false, sites := [], mut_ := [], split := false }
/- 159 servitor std.sheets -/
@[simp] def keep159 : Nat → List Nat
  | 0 => []
  | 1 => [0]
  | _ => []
@[simp] def md159 : Nat → Bool
  | _ => false
@[simp] def od159 : Nat → List (List Nat)
  | _ => []
@[simp] def fp159 : FPol := { inpl := [], exp := false, sites := [], mut_ := [], split := false }
/- 160 slices.IndexFunc[[]servitor std.sheet,servitor std.sheet] -/
@[simp] def keep160 : Nat → List Nat
  | 0 => [0, 1]
  | 1 => [0, 1, 7, 8]
  | 2 => [0, 1, 7, 8, 9]
  | 3 => [0, 1, 5, 7, 8]
  | 4 => [0, 1, 5, 7, 8, 16]
  | 5 => [4]
  | 6 => [0, 1, 7, 8]
  | 7 => [4]
  | _ => []
@[simp] def md160 : Nat → Bool
  | _ => false
@[simp] def od160 : Nat → List (List Nat)
  | _ => []
@[simp] def fp160 : FPol := { inpl := [], exp := false, sites := [], mut_ := [], split := false }
/- 161 servitor std.Kind$1 -/
@[simp] def keep161 : Nat → List Nat
  | 0 => [1, 2]
  | 1 => [3]
  | _ => []
@[simp] def md161 : Nat → Bool
  | _ => false
@[simp] def od161 : Nat → List (List Nat)
  | _ => []
@[simp] def fp161 : FPol := { inpl := [], exp := false, sites := [200], mut_ := [], split := false }
/- 162 (*servitor tree.parser).labelled -/
@[simp] def keep162 : Nat → List Nat
  | 0 => [0]
  | 1 => [2]
  | _ => []
@[simp] def md162 : Nat → Bool
  | 1 => true
  | _ => false
@[simp] def od162 : Nat → List (List Nat)
  | _ => []
@[simp] def fp162 : FPol := { inpl := [1], exp := false, sites := [], mut_ := [], split := false }
/- 163 (*servitor tree.parser).labels -/
@[simp] def keep163 : Nat → List Nat
  | 0 => [0]
  | 1 => [0, 3]
  | 2 => [0, 3, 4]
  | 3 => [0, 3, 4, 5]
  | 4 => [0, 3, 4, 5, 10]
  | 5 => [0, 3, 4, 5]
  | 6 => [0, 3]
  | 7 => [0, 3, 20]
  | 8 => [3]
  | 9 => [2]
  | _ => []
@[simp] def md163 : Nat → Bool
  | _ => false
@[simp] def od163 : Nat → List (List Nat)
  | _ => []
@[simp] def fp163 : FPol := { inpl := [1], exp := false, sites := [250], mut_ := [], split := false }
/- 164 (*servitor tree.parser).level -/
@[simp] def keep164 : Nat → List Nat
  | 0 => [0, 1, 4]
  | 1 => [0, 1, 4, 5]
  | 2 => [0, 1, 4, 5, 12]
  | 3 => [4]
  | 4 => [0, 1, 4, 5, 6]
  | 5 => [0, 1, 4, 5, 6, 25]
  | 6 => [0, 1, 4, 5, 6, 7]
  | 7 => [0, 1, 4, 5, 6]
  | 8 => [0, 1, 4, 5, 6, 41]
  | 9 => [4]
  | _ => []
@[simp] def md164 : Nat → Bool
  | _ => false
@[simp] def od164 : Nat → List (List Nat)
  | 7 => [[3, 4, 5, 6, 9, 10], [3, 4, 5, 6, 9, 10], [3, 4, 5, 6, 9, 10], [0, 1, 2, 4, 5, 6, 7, 9, 10], [0, 1, 2, 3, 5, 6, 9, 10], [0, 1, 2, 3, 4, 9, 10], [0, 1, 2, 3, 4, 9, 10], [3, 9, 10], [9, 10], [0, 1, 2, 3, 4, 5, 6, 7, 8], [0, 1, 2, 3, 4, 5, 6, 7, 8], [], []]
  | _ => []
@[simp] def fp164 : FPol := { inpl := [1], exp := false, sites := [300, 400, 450], mut_ := [], split := false }
/- 172 unicode.is16 -/
@[simp] def keep172 : Nat → List Nat
  | 0 => [0, 1]
  | 1 => [0, 1, 17]
  | 2 => [0, 1, 19, 20]
  | 3 => [0, 1, 19, 20, 21]
  | 4 => [0, 1, 5, 19, 20]
  | 5 => [0, 1, 6, 19, 20]
  | 6 => [0, 1, 6, 19, 20, 31]
  | 7 => [4]
  | 8 => [0, 1, 6, 19, 20, 37]
  | 9 => [4]
  | 10 => [0, 1, 19, 20]
  | 11 => [4]
  | 12 => [0, 1, 7]
  | 13 => [0, 1, 7, 8]
  | 14 => [0, 1, 7, 8, 62]
  | 15 => [0, 1, 7, 8, 9]
  | 16 => [0, 1, 7, 8, 9, 10]
  | 17 => [0, 1, 7, 8, 9, 10, 85]
  | 18 => [4]
  | 19 => [0, 1, 7, 8, 9, 110]
  | 20 => [0, 1, 7, 8]
  | 21 => [0, 1, 7, 8]
  | 22 => [4]
  | _ => []
@[simp] def md172 : Nat → Bool
  | _ => false
@[simp] def od172 : Nat → List (List Nat)
  | 9 => [[], [], [], [], [], [], [7, 8, 9, 10, 12, 13, 14, 15], [6, 12, 13, 14, 15], [6, 12, 13, 14, 15], [6, 12, 13, 14, 15], [6, 12, 13, 14, 15], [12, 13, 14, 15], [6, 7, 8, 9, 10, 11], [6, 7, 8, 9, 10, 11], [6, 7, 8, 9, 10, 11], [6, 7, 8, 9, 10, 11], [], [], [], []]
  | 18 => [[], [], [], [], [], [], [7, 8, 9, 10, 12, 13, 14, 15], [6, 12, 13, 14, 15], [6, 12, 13, 14, 15], [6, 12, 13, 14, 15], [6, 12, 13, 14, 15], [12, 13, 14, 15], [6, 7, 8, 9, 10, 11], [6, 7, 8, 9, 10, 11], [6, 7, 8, 9, 10, 11], [6, 7, 8, 9, 10, 11], [], [], [], []]
  | _ => []
@[simp] def fp172 : FPol := { inpl := [], exp := false, sites := [], mut_ := [], split := false }
/- 173 unicode.is32 -/
@[simp] def keep173 : Nat → List Nat
  | 0 => [0, 1]
  | 1 => [0, 1, 13]
  | 2 => [0, 1, 15, 16]
  | 3 => [0, 1, 15, 16, 17]
  | 4 => [0, 1, 5, 15, 16]
  | 5 => [0, 1, 6, 15, 16]
  | 6 => [0, 1, 6, 15, 16, 27]
  | 7 => [4]
  | 8 => [0, 1, 6, 15, 16, 33]
  | 9 => [4]
  | 10 => [0, 1, 15, 16]
  | 11 => [4]
  | 12 => [0, 1, 7]
  | 13 => [0, 1, 7, 8]
  | 14 => [0, 1, 7, 8, 58]
  | 15 => [0, 1, 7, 8, 9]
  | 16 => [0, 1, 7, 8, 9, 10]
  | 17 => [0, 1, 7, 8, 9, 10, 78]
  | 18 => [4]
  | 19 => [0, 1, 7, 8, 9, 95]
  | 20 => [0, 1, 7, 8]
  | 21 => [0, 1, 7, 8]
  | 22 => [4]
  | _ => []
@[simp] def md173 : Nat → Bool
  | _ => false
@[simp] def od173 : Nat → List (List Nat)
  | 9 => [[], [], [], [], [], [], [7, 8, 9, 10, 12, 13, 14, 15], [6, 12, 13, 14, 15], [6, 12, 13, 14, 15], [6, 12, 13, 14, 15], [6, 12, 13, 14, 15], [12, 13, 14, 15], [6, 7, 8, 9, 10, 11], [6, 7, 8, 9, 10, 11], [6, 7, 8, 9, 10, 11], [6, 7, 8, 9, 10, 11], [], [], [], []]
  | _ => []
@[simp] def fp173 : FPol := { inpl := [], exp := false, sites := [600], mut_ := [], split := false }
/- 174 servitor tree.levels -/
@[simp] def keep174 : Nat → List Nat
  | 0 => []
  | 1 => [0]
  | _ => []
@[simp] def md174 : Nat → Bool
  | _ => false
@[simp] def od174 : Nat → List (List Nat)
  | _ => []
@[simp] def fp174 : FPol := { inpl := [], exp := false, sites := [], mut_ := [], split := false }
/- 175 (*servitor tree.parser).unary -/
@[simp] def keep175 : Nat → List Nat
  | 0 => [0, 2]
  | 1 => [0, 2, 3]
  | 2 => [0, 2, 3]
  | 3 => [2]
  | 4 => [0, 2, 3, 10]
  | 5 => [0, 2, 3, 4]
  | 6 => [0, 2, 3, 13]
  | 7 => [0, 2, 3, 4]
  | 8 => [0, 2, 3, 4]
  | 9 => [0, 2, 3, 4]
  | 10 => [0, 2, 5]
  | 11 => [2, 5]
  | 12 => [2]
  | _ => []
@[simp] def md175 : Nat → Bool
  | _ => false
@[simp] def od175 : Nat → List (List Nat)
  | 10 => [[1, 2, 3, 4, 5, 7], [0, 4, 5, 7], [0, 4, 5, 7], [0, 4, 5, 7], [0, 1, 2, 3, 7], [0, 1, 2, 3, 7], [7], [0, 1, 2, 3, 4, 5, 6], []]
  | _ => []
@[simp] def fp175 : FPol := { inpl := [1], exp := false, sites := [200, 250, 350], mut_ := [], split := false }
/- 176 servitor tree.operator -/
@[simp] def keep176 : Nat → List Nat
  | 0 => [0]
  | 1 => [0, 3]
  | 2 => [2]
  | _ => []
@[simp] def md176 : Nat → Bool
  | _ => false
@[simp] def od176 : Nat → List (List Nat)
  | _ => []
@[simp] def fp176 : FPol := { inpl := [], exp := false, sites := [], mut_ := [], split := false }
/- 181 (*servitor tree.parser).factor -/
@[simp] def keep181 : Nat → List Nat
  | 0 => [0, 2]
  | 1 => [0, 2, 3]
  | 2 => [0, 2, 3, 7]
  | 3 => [2]
  | 4 => [0, 2, 3, 17]
  | 5 => [2]
  | 6 => [0, 2, 3, 23]
  | 7 => [2]
  | 8 => [0, 2, 3, 29]
  | 9 => [0, 2]
  | 10 => [0, 2]
  | 11 => [0, 2, 4]
  | 12 => [0, 2, 4]
  | 13 => [2, 4]
  | 14 => [2]
  | 15 => [0, 2, 3]
  | 16 => [0, 2, 3, 45]
  | 17 => [2]
  | 18 => [0, 2, 3, 56]
  | 19 => [2]
  | 20 => [2]
  | _ => []
@[simp] def md181 : Nat → Bool
  | _ => false
@[simp] def od181 : Nat → List (List Nat)
  | 3 => [[3, 4], [3, 4], [3, 4], [0, 1, 2], [0, 1, 2], [], []]
  | 17 => [[2, 3, 4, 5, 6], [2, 3, 4, 5, 6], [0, 1, 5, 6], [0, 1, 5, 6], [0, 1, 5, 6], [0, 1, 2, 3, 4], [0, 1, 2, 3, 4], [], []]
  | 19 => [[2, 3, 4, 5, 6], [2, 3, 4, 5, 6], [0, 1, 5, 6], [0, 1, 5, 6], [0, 1, 5, 6], [0, 1, 2, 3, 4], [0, 1, 2, 3, 4], [], []]
  | _ => []
@[simp] def fp181 : FPol := { inpl := [1], exp := false, sites := [200, 250, 300], mut_ := [], split := false }
def od9 : Nat → List (List Nat)
  | 7 => [[2], [2], [0, 1], [], [], [], [7], [6], [], [], [], [12], [11], [], [], []]
  | _ => []
def od15 : Nat → List (List Nat)
  | 30 => [[3, 4, 5, 6, 7, 8, 9, 10, 11, 12, 13, 14, 16, 17, 18, 19, 20, 21, 22, 23, 24, 25, 26, 27, 28, 29, 30, 31, 32, 33, 34, 35, 36, 37, 38, 39, 41], [3, 4, 5, 6, 7, 8, 9, 10, 11, 12, 13, 14, 16, 17, 18, 19, 20, 21, 22, 23, 24, 25, 26, 27, 28, 29, 30, 31, 32, 33, 34, 35, 36, 37, 38, 39, 41], [3, 4, 5, 6, 7, 8, 9, 10, 11, 12, 13, 14, 16, 17, 18, 19, 20, 21, 22, 23, 24, 25, 26, 27, 28, 29, 30, 31, 32, 33, 34, 35, 36, 37, 38, 39, 41], [0, 1, 2, 6, 7, 8, 9, 10, 11, 12, 13, 14, 16, 17, 18, 19, 20, 21, 22, 23, 24, 25, 26, 27, 28, 29, 30, 31, 32, 33, 34, 35, 36, 37, 38, 39, 41], [0, 1, 2, 6, 7, 8, 9, 10, 11, 12, 13, 14, 16, 17, 18, 19, 20, 21, 22, 23, 24, 25, 26, 27, 28, 29, 30, 31, 32, 33, 34, 35, 36, 37, 38, 39, 41], [0, 1, 2, 6, 7, 8, 9, 10, 11, 12, 13, 14, 16, 17, 18, 19, 20, 21, 22, 23, 24, 25, 26, 27, 28, 29, 30, 31, 32, 33, 34, 35, 36, 37, 38, 39, 41], [0, 1, 2, 3, 4, 5, 9, 10, 11, 12, 13, 14, 16, 17, 18, 19, 20, 21, 22, 23, 24, 25, 26, 27, 28, 29, 30, 31, 32, 33, 34, 35, 36, 37, 38, 39, 41], [0, 1, 2, 3, 4, 5, 9, 10, 11, 12, 13, 14, 16, 17, 18, 19, 20, 21, 22, 23, 24, 25, 26, 27, 28, 29, 30, 31, 32, 33, 34, 35, 36, 37, 38, 39, 41], [0, 1, 2, 3, 4, 5, 9, 10, 11, 12, 13, 14, 16, 17, 18, 19, 20, 21, 22, 23, 24, 25, 26, 27, 28, 29, 30, 31, 32, 33, 34, 35, 36, 37, 38, 39, 41], [0, 1, 2, 3, 4, 5, 6, 7, 8, 12, 13, 14, 16, 17, 18, 19, 20, 21, 22, 23, 24, 25, 26, 27, 28, 29, 30, 31, 32, 33, 34, 35, 36, 37, 38, 39, 41], [0, 1, 2, 3, 4, 5, 6, 7, 8, 12, 13, 14, 16, 17, 18, 19, 20, 21, 22, 23, 24, 25, 26, 27, 28, 29, 30, 31, 32, 33, 34, 35, 36, 37, 38, 39, 41], [0, 1, 2, 3, 4, 5, 6, 7, 8, 12, 13, 14, 16, 17, 18, 19, 20, 21, 22, 23, 24, 25, 26, 27, 28, 29, 30, 31, 32, 33, 34, 35, 36, 37, 38, 39, 41], [0, 1, 2, 3, 4, 5, 6, 7, 8, 9, 10, 11, 16, 17, 18, 19, 20, 21, 22, 23, 24, 25, 26, 27, 28, 29, 30, 31, 32, 33, 34, 35, 36, 37, 38, 39, 41], [0, 1, 2, 3, 4, 5, 6, 7, 8, 9, 10, 11, 16, 17, 18, 19, 20, 21, 22, 23, 24, 25, 26, 27, 28, 29, 30, 31, 32, 33, 34, 35, 36, 37, 38, 39, 41], [0, 1, 2, 3, 4, 5, 6, 7, 8, 9, 10, 11, 16, 17, 18, 19, 20, 21, 22, 23, 24, 25, 26, 27, 28, 29, 30, 31, 32, 33, 34, 35, 36, 37, 38, 39, 41], [16, 17, 18, 19, 20, 21, 22, 23, 24, 25, 26, 27, 28, 29, 30, 31, 32, 33, 34, 35, 36, 37, 38, 39, 41], [0, 1, 2, 3, 4, 5, 6, 7, 8, 9, 10, 11, 12, 13, 14, 15, 20, 21, 22, 23, 24, 25, 26, 27, 28, 29, 30, 31, 33, 34, 35, 37, 38, 39, 41], [0, 1, 2, 3, 4, 5, 6, 7, 8, 9, 10, 11, 12, 13, 14, 15, 20, 21, 22, 23, 24, 25, 26, 27, 28, 29, 30, 31, 33, 34, 35, 37, 38, 39, 41], [0, 1, 2, 3, 4, 5, 6, 7, 8, 9, 10, 11, 12, 13, 14, 15, 20, 21, 22, 23, 24, 25, 26, 27, 28, 29, 30, 31, 33, 34, 35, 37, 38, 39, 41], [0, 1, 2, 3, 4, 5, 6, 7, 8, 9, 10, 11, 12, 13, 14, 15, 20, 21, 22, 23, 24, 25, 26, 27, 28, 29, 30, 31, 33, 34, 35, 37, 38, 39, 41], [0, 1, 2, 3, 4, 5, 6, 7, 8, 9, 10, 11, 12, 13, 14, 15, 16, 17, 18, 19, 23, 24, 25, 26, 27, 28, 29, 30, 31, 32, 33, 34, 35, 36, 37, 38, 39, 41], [0, 1, 2, 3, 4, 5, 6, 7, 8, 9, 10, 11, 12, 13, 14, 15, 16, 17, 18, 19, 23, 24, 25, 26, 27, 28, 29, 30, 31, 32, 33, 34, 35, 36, 37, 38, 39, 41], [0, 1, 2, 3, 4, 5, 6, 7, 8, 9, 10, 11, 12, 13, 14, 15, 16, 17, 18, 19, 23, 24, 25, 26, 27, 28, 29, 30, 31, 32, 33, 34, 35, 36, 37, 38, 39, 41], [0, 1, 2, 3, 4, 5, 6, 7, 8, 9, 10, 11, 12, 13, 14, 15, 16, 17, 18, 19, 20, 21, 22, 26, 27, 28, 29, 30, 31, 32, 33, 34, 35, 36, 37, 38, 39, 41], [0, 1, 2, 3, 4, 5, 6, 7, 8, 9, 10, 11, 12, 13, 14, 15, 16, 17, 18, 19, 20, 21, 22, 26, 27, 28, 29, 30, 31, 32, 33, 34, 35, 36, 37, 38, 39, 41], [0, 1, 2, 3, 4, 5, 6, 7, 8, 9, 10, 11, 12, 13, 14, 15, 16, 17, 18, 19, 20, 21, 22, 26, 27, 28, 29, 30, 31, 32, 33, 34, 35, 36, 37, 38, 39, 41], [0, 1, 2, 3, 4, 5, 6, 7, 8, 9, 10, 11, 12, 13, 14, 15, 16, 17, 18, 19, 20, 21, 22, 23, 24, 25, 29, 30, 31, 32, 33, 34, 35, 36, 37, 38, 39, 41], [0, 1, 2, 3, 4, 5, 6, 7, 8, 9, 10, 11, 12, 13, 14, 15, 16, 17, 18, 19, 20, 21, 22, 23, 24, 25, 29, 30, 31, 32, 33, 34, 35, 36, 37, 38, 39, 41], [0, 1, 2, 3, 4, 5, 6, 7, 8, 9, 10, 11, 12, 13, 14, 15, 16, 17, 18, 19, 20, 21, 22, 23, 24, 25, 29, 30, 31, 32, 33, 34, 35, 36, 37, 38, 39, 41], [0, 1, 2, 3, 4, 5, 6, 7, 8, 9, 10, 11, 12, 13, 14, 15, 16, 17, 18, 19, 20, 21, 22, 23, 24, 25, 26, 27, 28, 33, 34, 35, 37, 38, 39, 41], [0, 1, 2, 3, 4, 5, 6, 7, 8, 9, 10, 11, 12, 13, 14, 15, 16, 17, 18, 19, 20, 21, 22, 23, 24, 25, 26, 27, 28, 33, 34, 35, 37, 38, 39, 41], [0, 1, 2, 3, 4, 5, 6, 7, 8, 9, 10, 11, 12, 13, 14, 15, 16, 17, 18, 19, 20, 21, 22, 23, 24, 25, 26, 27, 28, 33, 34, 35, 37, 38, 39, 41], [0, 1, 2, 3, 4, 5, 6, 7, 8, 9, 10, 11, 12, 13, 14, 15, 20, 21, 22, 23, 24, 25, 26, 27, 28, 33, 34, 35, 37, 38, 39, 41], [0, 1, 2, 3, 4, 5, 6, 7, 8, 9, 10, 11, 12, 13, 14, 15, 16, 17, 18, 19, 20, 21, 22, 23, 24, 25, 26, 27, 28, 29, 30, 31, 32, 37, 38, 39, 41], [0, 1, 2, 3, 4, 5, 6, 7, 8, 9, 10, 11, 12, 13, 14, 15, 16, 17, 18, 19, 20, 21, 22, 23, 24, 25, 26, 27, 28, 29, 30, 31, 32, 37, 38, 39, 41], [0, 1, 2, 3, 4, 5, 6, 7, 8, 9, 10, 11, 12, 13, 14, 15, 16, 17, 18, 19, 20, 21, 22, 23, 24, 25, 26, 27, 28, 29, 30, 31, 32, 37, 38, 39, 41], [0, 1, 2, 3, 4, 5, 6, 7, 8, 9, 10, 11, 12, 13, 14, 15, 20, 21, 22, 23, 24, 25, 26, 27, 28, 37, 38, 39, 41], [0, 1, 2, 3, 4, 5, 6, 7, 8, 9, 10, 11, 12, 13, 14, 15, 16, 17, 18, 19, 20, 21, 22, 23, 24, 25, 26, 27, 28, 29, 30, 31, 32, 33, 34, 35, 36, 41], [0, 1, 2, 3, 4, 5, 6, 7, 8, 9, 10, 11, 12, 13, 14, 15, 16, 17, 18, 19, 20, 21, 22, 23, 24, 25, 26, 27, 28, 29, 30, 31, 32, 33, 34, 35, 36, 41], [0, 1, 2, 3, 4, 5, 6, 7, 8, 9, 10, 11, 12, 13, 14, 15, 16, 17, 18, 19, 20, 21, 22, 23, 24, 25, 26, 27, 28, 29, 30, 31, 32, 33, 34, 35, 36, 41], [41], [0, 1, 2, 3, 4, 5, 6, 7, 8, 9, 10, 11, 12, 13, 14, 15, 16, 17, 18, 19, 20, 21, 22, 23, 24, 25, 26, 27, 28, 29, 30, 31, 32, 33, 34, 35, 36, 37, 38, 39, 40], []]
  | _ => []
def od16 : Nat → List (List Nat)
  | 6 => [[2, 5, 6, 7, 8, 9], [2, 5, 6, 7, 8, 9], [0, 1, 5, 6, 7, 8, 9], [5, 6, 7, 8, 9], [5, 6, 7, 8, 9], [0, 1, 2, 3, 4, 7], [0, 1, 2, 3, 4, 7], [0, 1, 2, 3, 4, 5, 6], [0, 1, 2, 3, 4], [0, 1, 2, 3, 4], []]
  | _ => []
def od20 : Nat → List (List Nat)
  | 8 => [[1, 2, 3, 4, 5, 6, 7, 8, 9, 10, 11, 12, 13, 14, 15, 16, 17, 18, 19, 20, 21, 22, 23, 24, 25, 26, 27, 28, 29, 30, 31, 32, 33, 34, 35, 36, 37, 38, 39, 40, 41, 42, 43, 44, 45, 46, 47, 48, 49, 50, 51, 52, 53, 54, 55, 56, 57, 58, 59, 60, 61, 62, 63, 64, 65], [0, 7, 8, 9, 13, 14, 15, 19, 20, 21, 25, 26, 27, 31, 32, 36, 37, 41, 42, 46, 47, 51, 52, 56, 57, 61, 62], [0, 7, 8, 9, 13, 14, 15, 19, 20, 21, 25, 26, 27, 31, 32, 36, 37, 41, 42, 46, 47, 51, 52, 56, 57, 61, 62], [0, 7, 8, 9, 13, 14, 15, 19, 20, 21, 25, 26, 27, 31, 32, 36, 37, 41, 42, 46, 47, 51, 52, 56, 57, 61, 62], [0, 7, 8, 9, 13, 14, 15, 19, 20, 21, 25, 26, 27, 31, 32, 36, 37, 41, 42, 46, 47, 51, 52, 56, 57, 61, 62], [0, 7, 8, 9, 10, 13, 14, 15, 16, 19, 20, 21, 22, 25, 26, 27, 28, 31, 32, 33, 36, 37, 38, 41, 42, 43, 46, 47, 48, 51, 52, 53, 56, 57, 58, 61, 62, 63], [0, 7, 8, 9, 10, 13, 14, 15, 16, 19, 20, 21, 22, 25, 26, 27, 28, 31, 32, 33, 36, 37, 38, 41, 42, 43, 46, 47, 48, 51, 52, 53, 56, 57, 58, 61, 62, 63], [0, 1, 2, 3, 4, 5, 6, 13, 14, 15, 19, 20, 21, 25, 26, 27, 31, 32, 36, 37, 41, 42, 46, 47, 51, 52, 56, 57, 61, 62], [0, 1, 2, 3, 4, 5, 6, 13, 14, 15, 19, 20, 21, 25, 26, 27, 31, 32, 36, 37, 41, 42, 46, 47, 51, 52, 56, 57, 61, 62], [0, 1, 2, 3, 4, 5, 6, 13, 14, 15, 19, 20, 21, 25, 26, 27, 31, 32, 36, 37, 41, 42, 46, 47, 51, 52, 56, 57, 61, 62], [0, 5, 6, 13, 14, 15, 19, 20, 21, 25, 26, 27, 31, 32, 36, 37, 41, 42, 46, 47, 51, 52, 56, 57, 61, 62], [0, 13, 14, 15, 16, 19, 20, 21, 22, 25, 26, 27, 28, 31, 32, 33, 36, 37, 38, 41, 42, 43, 46, 47, 48, 51, 52, 53, 56, 57, 58, 61, 62, 63], [0, 13, 14, 15, 16, 19, 20, 21, 22, 25, 26, 27, 28, 31, 32, 33, 36, 37, 38, 41, 42, 43, 46, 47, 48, 51, 52, 53, 56, 57, 58, 61, 62, 63], [0, 1, 2, 3, 4, 5, 6, 7, 8, 9, 10, 11, 12, 19, 20, 21, 25, 26, 27, 31, 32, 36, 37, 41, 42, 46, 47, 51, 52, 56, 57, 61, 62], [0, 1, 2, 3, 4, 5, 6, 7, 8, 9, 10, 11, 12, 19, 20, 21, 25, 26, 27, 31, 32, 36, 37, 41, 42, 46, 47, 51, 52, 56, 57, 61, 62], [0, 1, 2, 3, 4, 5, 6, 7, 8, 9, 10, 11, 12, 19, 20, 21, 25, 26, 27, 31, 32, 36, 37, 41, 42, 46, 47, 51, 52, 56, 57, 61, 62], [0, 5, 6, 11, 12, 19, 20, 21, 25, 26, 27, 31, 32, 36, 37, 41, 42, 46, 47, 51, 52, 56, 57, 61, 62], [0, 19, 20, 21, 22, 25, 26, 27, 28, 31, 32, 33, 36, 37, 38, 41, 42, 43, 46, 47, 48, 51, 52, 53, 56, 57, 58, 61, 62, 63], [0, 19, 20, 21, 22, 25, 26, 27, 28, 31, 32, 33, 36, 37, 38, 41, 42, 43, 46, 47, 48, 51, 52, 53, 56, 57, 58, 61, 62, 63], [0, 1, 2, 3, 4, 5, 6, 7, 8, 9, 10, 11, 12, 13, 14, 15, 16, 17, 18, 25, 26, 27, 31, 32, 36, 37, 41, 42, 46, 47, 51, 52, 56, 57, 61, 62], [0, 1, 2, 3, 4, 5, 6, 7, 8, 9, 10, 11, 12, 13, 14, 15, 16, 17, 18, 25, 26, 27, 31, 32, 36, 37, 41, 42, 46, 47, 51, 52, 56, 57, 61, 62], [0, 1, 2, 3, 4, 5, 6, 7, 8, 9, 10, 11, 12, 13, 14, 15, 16, 17, 18, 25, 26, 27, 31, 32, 36, 37, 41, 42, 46, 47, 51, 52, 56, 57, 61, 62], [0, 5, 6, 11, 12, 17, 18, 25, 26, 27, 31, 32, 36, 37, 41, 42, 46, 47, 51, 52, 56, 57, 61, 62], [0, 25, 26, 27, 28, 31, 32, 33, 36, 37, 38, 41, 42, 43, 46, 47, 48, 51, 52, 53, 56, 57, 58, 61, 62, 63], [0, 25, 26, 27, 28, 31, 32, 33, 36, 37, 38, 41, 42, 43, 46, 47, 48, 51, 52, 53, 56, 57, 58, 61, 62, 63], [0, 1, 2, 3, 4, 5, 6, 7, 8, 9, 10, 11, 12, 13, 14, 15, 16, 17, 18, 19, 20, 21, 22, 23, 24, 31, 32, 36, 37, 41, 42, 46, 47, 51, 52, 56, 57, 61, 62], [0, 1, 2, 3, 4, 5, 6, 7, 8, 9, 10, 11, 12, 13, 14, 15, 16, 17, 18, 19, 20, 21, 22, 23, 24, 31, 32, 36, 37, 41, 42, 46, 47, 51, 52, 56, 57, 61, 62], [0, 1, 2, 3, 4, 5, 6, 7, 8, 9, 10, 11, 12, 13, 14, 15, 16, 17, 18, 19, 20, 21, 22, 23, 24, 31, 32, 36, 37, 41, 42, 46, 47, 51, 52, 56, 57, 61, 62], [0, 5, 6, 11, 12, 17, 18, 23, 24, 31, 32, 36, 37, 41, 42, 46, 47, 51, 52, 56, 57, 61, 62], [0, 31, 32, 33, 36, 37, 38, 41, 42, 43, 46, 47, 48, 51, 52, 53, 56, 57, 58, 61, 62, 63], [0, 31, 32, 33, 36, 37, 38, 41, 42, 43, 46, 47, 48, 51, 52, 53, 56, 57, 58, 61, 62, 63], [0, 1, 2, 3, 4, 5, 6, 7, 8, 9, 10, 11, 12, 13, 14, 15, 16, 17, 18, 19, 20, 21, 22, 23, 24, 25, 26, 27, 28, 29, 30, 36, 37, 41, 42, 46, 47, 51, 52, 56, 57, 61, 62], [0, 1, 2, 3, 4, 5, 6, 7, 8, 9, 10, 11, 12, 13, 14, 15, 16, 17, 18, 19, 20, 21, 22, 23, 24, 25, 26, 27, 28, 29, 30, 36, 37, 41, 42, 46, 47, 51, 52, 56, 57, 61, 62], [0, 5, 6, 11, 12, 17, 18, 23, 24, 29, 30, 36, 37, 41, 42, 46, 47, 51, 52, 56, 57, 61, 62], [0, 36, 37, 38, 41, 42, 43, 46, 47, 48, 51, 52, 53, 56, 57, 58, 61, 62, 63], [0, 36, 37, 38, 41, 42, 43, 46, 47, 48, 51, 52, 53, 56, 57, 58, 61, 62, 63], [0, 1, 2, 3, 4, 5, 6, 7, 8, 9, 10, 11, 12, 13, 14, 15, 16, 17, 18, 19, 20, 21, 22, 23, 24, 25, 26, 27, 28, 29, 30, 31, 32, 33, 34, 35, 41, 42, 46, 47, 51, 52, 56, 57, 61, 62], [0, 1, 2, 3, 4, 5, 6, 7, 8, 9, 10, 11, 12, 13, 14, 15, 16, 17, 18, 19, 20, 21, 22, 23, 24, 25, 26, 27, 28, 29, 30, 31, 32, 33, 34, 35, 41, 42, 46, 47, 51, 52, 56, 57, 61, 62], [0, 5, 6, 11, 12, 17, 18, 23, 24, 29, 30, 34, 35, 41, 42, 46, 47, 51, 52, 56, 57, 61, 62], [0, 41, 42, 43, 46, 47, 48, 51, 52, 53, 56, 57, 58, 61, 62, 63], [0, 41, 42, 43, 46, 47, 48, 51, 52, 53, 56, 57, 58, 61, 62, 63], [0, 1, 2, 3, 4, 5, 6, 7, 8, 9, 10, 11, 12, 13, 14, 15, 16, 17, 18, 19, 20, 21, 22, 23, 24, 25, 26, 27, 28, 29, 30, 31, 32, 33, 34, 35, 36, 37, 38, 39, 40, 46, 47, 51, 52, 56, 57, 61, 62], [0, 1, 2, 3, 4, 5, 6, 7, 8, 9, 10, 11, 12, 13, 14, 15, 16, 17, 18, 19, 20, 21, 22, 23, 24, 25, 26, 27, 28, 29, 30, 31, 32, 33, 34, 35, 36, 37, 38, 39, 40, 46, 47, 51, 52, 56, 57, 61, 62], [0, 5, 6, 11, 12, 17, 18, 23, 24, 29, 30, 34, 35, 39, 40, 46, 47, 51, 52, 56, 57, 61, 62], [0, 46, 47, 48, 51, 52, 53, 56, 57, 58, 61, 62, 63], [0, 46, 47, 48, 51, 52, 53, 56, 57, 58, 61, 62, 63], [0, 1, 2, 3, 4, 5, 6, 7, 8, 9, 10, 11, 12, 13, 14, 15, 16, 17, 18, 19, 20, 21, 22, 23, 24, 25, 26, 27, 28, 29, 30, 31, 32, 33, 34, 35, 36, 37, 38, 39, 40, 41, 42, 43, 44, 45, 51, 52, 56, 57, 61, 62], [0, 1, 2, 3, 4, 5, 6, 7, 8, 9, 10, 11, 12, 13, 14, 15, 16, 17, 18, 19, 20, 21, 22, 23, 24, 25, 26, 27, 28, 29, 30, 31, 32, 33, 34, 35, 36, 37, 38, 39, 40, 41, 42, 43, 44, 45, 51, 52, 56, 57, 61, 62], [0, 5, 6, 11, 12, 17, 18, 23, 24, 29, 30, 34, 35, 39, 40, 44, 45, 51, 52, 56, 57, 61, 62], [0, 51, 52, 53, 56, 57, 58, 61, 62, 63], [0, 51, 52, 53, 56, 57, 58, 61, 62, 63], [0, 1, 2, 3, 4, 5, 6, 7, 8, 9, 10, 11, 12, 13, 14, 15, 16, 17, 18, 19, 20, 21, 22, 23, 24, 25, 26, 27, 28, 29, 30, 31, 32, 33, 34, 35, 36, 37, 38, 39, 40, 41, 42, 43, 44, 45, 46, 47, 48, 49, 50, 56, 57, 61, 62], [0, 1, 2, 3, 4, 5, 6, 7, 8, 9, 10, 11, 12, 13, 14, 15, 16, 17, 18, 19, 20, 21, 22, 23, 24, 25, 26, 27, 28, 29, 30, 31, 32, 33, 34, 35, 36, 37, 38, 39, 40, 41, 42, 43, 44, 45, 46, 47, 48, 49, 50, 56, 57, 61, 62], [0, 5, 6, 11, 12, 17, 18, 23, 24, 29, 30, 34, 35, 39, 40, 44, 45, 49, 50, 56, 57, 61, 62], [0, 56, 57, 58, 61, 62, 63], [0, 56, 57, 58, 61, 62, 63], [0, 1, 2, 3, 4, 5, 6, 7, 8, 9, 10, 11, 12, 13, 14, 15, 16, 17, 18, 19, 20, 21, 22, 23, 24, 25, 26, 27, 28, 29, 30, 31, 32, 33, 34, 35, 36, 37, 38, 39, 40, 41, 42, 43, 44, 45, 46, 47, 48, 49, 50, 51, 52, 53, 54, 55, 61, 62], [0, 1, 2, 3, 4, 5, 6, 7, 8, 9, 10, 11, 12, 13, 14, 15, 16, 17, 18, 19, 20, 21, 22, 23, 24, 25, 26, 27, 28, 29, 30, 31, 32, 33, 34, 35, 36, 37, 38, 39, 40, 41, 42, 43, 44, 45, 46, 47, 48, 49, 50, 51, 52, 53, 54, 55, 61, 62], [0, 5, 6, 11, 12, 17, 18, 23, 24, 29, 30, 34, 35, 39, 40, 44, 45, 49, 50, 54, 55, 61, 62], [0, 61, 62, 63], [0, 61, 62, 63], [0, 1, 2, 3, 4, 5, 6, 7, 8, 9, 10, 11, 12, 13, 14, 15, 16, 17, 18, 19, 20, 21, 22, 23, 24, 25, 26, 27, 28, 29, 30, 31, 32, 33, 34, 35, 36, 37, 38, 39, 40, 41, 42, 43, 44, 45, 46, 47, 48, 49, 50, 51, 52, 53, 54, 55, 56, 57, 58, 59, 60], [0, 1, 2, 3, 4, 5, 6, 7, 8, 9, 10, 11, 12, 13, 14, 15, 16, 17, 18, 19, 20, 21, 22, 23, 24, 25, 26, 27, 28, 29, 30, 31, 32, 33, 34, 35, 36, 37, 38, 39, 40, 41, 42, 43, 44, 45, 46, 47, 48, 49, 50, 51, 52, 53, 54, 55, 56, 57, 58, 59, 60], [0, 5, 6, 11, 12, 17, 18, 23, 24, 29, 30, 34, 35, 39, 40, 44, 45, 49, 50, 54, 55, 59, 60], [0], [0], [], []]
  | _ => []
def od29 : Nat → List (List Nat)
  | 17 => [[1, 2, 3, 4, 5, 6, 7], [0, 5, 6], [0, 5, 6], [0, 5, 6], [0, 5, 6], [0, 1, 2, 3, 4], [0, 1, 2, 3, 4], [0], [], [], []]
  | _ => []
def od55 : Nat → List (List Nat)
  | 1 => [[3, 4, 5, 6, 7, 8, 9, 10, 11, 12, 13, 14, 16, 17, 18, 19, 20, 21, 22, 23, 24, 25, 26, 27, 28, 29, 30, 31, 32, 33, 34, 35, 36, 37, 38, 39], [3, 4, 5, 6, 7, 8, 9, 10, 11, 12, 13, 14, 16, 17, 18, 19, 20, 21, 22, 23, 24, 25, 26, 27, 28, 29, 30, 31, 32, 33, 34, 35, 36, 37, 38, 39], [3, 4, 5, 6, 7, 8, 9, 10, 11, 12, 13, 14, 16, 17, 18, 19, 20, 21, 22, 23, 24, 25, 26, 27, 28, 29, 30, 31, 32, 33, 34, 35, 36, 37, 38, 39], [0, 1, 2, 6, 7, 8, 9, 10, 11, 12, 13, 14, 16, 17, 18, 19, 20, 21, 22, 23, 24, 25, 26, 27, 28, 29, 30, 31, 32, 33, 34, 35, 36, 37, 38, 39], [0, 1, 2, 6, 7, 8, 9, 10, 11, 12, 13, 14, 16, 17, 18, 19, 20, 21, 22, 23, 24, 25, 26, 27, 28, 29, 30, 31, 32, 33, 34, 35, 36, 37, 38, 39], [0, 1, 2, 6, 7, 8, 9, 10, 11, 12, 13, 14, 16, 17, 18, 19, 20, 21, 22, 23, 24, 25, 26, 27, 28, 29, 30, 31, 32, 33, 34, 35, 36, 37, 38, 39], [0, 1, 2, 3, 4, 5, 9, 10, 11, 12, 13, 14, 16, 17, 18, 19, 20, 21, 22, 23, 24, 25, 26, 27, 28, 29, 30, 31, 32, 33, 34, 35, 36, 37, 38, 39], [0, 1, 2, 3, 4, 5, 9, 10, 11, 12, 13, 14, 16, 17, 18, 19, 20, 21, 22, 23, 24, 25, 26, 27, 28, 29, 30, 31, 32, 33, 34, 35, 36, 37, 38, 39], [0, 1, 2, 3, 4, 5, 9, 10, 11, 12, 13, 14, 16, 17, 18, 19, 20, 21, 22, 23, 24, 25, 26, 27, 28, 29, 30, 31, 32, 33, 34, 35, 36, 37, 38, 39], [0, 1, 2, 3, 4, 5, 6, 7, 8, 12, 13, 14, 16, 17, 18, 19, 20, 21, 22, 23, 24, 25, 26, 27, 28, 29, 30, 31, 32, 33, 34, 35, 36, 37, 38, 39], [0, 1, 2, 3, 4, 5, 6, 7, 8, 12, 13, 14, 16, 17, 18, 19, 20, 21, 22, 23, 24, 25, 26, 27, 28, 29, 30, 31, 32, 33, 34, 35, 36, 37, 38, 39], [0, 1, 2, 3, 4, 5, 6, 7, 8, 12, 13, 14, 16, 17, 18, 19, 20, 21, 22, 23, 24, 25, 26, 27, 28, 29, 30, 31, 32, 33, 34, 35, 36, 37, 38, 39], [0, 1, 2, 3, 4, 5, 6, 7, 8, 9, 10, 11, 16, 17, 18, 19, 20, 21, 22, 23, 24, 25, 26, 27, 28, 29, 30, 31, 32, 33, 34, 35, 36, 37, 38, 39], [0, 1, 2, 3, 4, 5, 6, 7, 8, 9, 10, 11, 16, 17, 18, 19, 20, 21, 22, 23, 24, 25, 26, 27, 28, 29, 30, 31, 32, 33, 34, 35, 36, 37, 38, 39], [0, 1, 2, 3, 4, 5, 6, 7, 8, 9, 10, 11, 16, 17, 18, 19, 20, 21, 22, 23, 24, 25, 26, 27, 28, 29, 30, 31, 32, 33, 34, 35, 36, 37, 38, 39], [16, 17, 18, 19, 20, 21, 22, 23, 24, 25, 26, 27, 28, 29, 30, 31, 32, 33, 34, 35, 36, 37, 38, 39], [0, 1, 2, 3, 4, 5, 6, 7, 8, 9, 10, 11, 12, 13, 14, 15, 20, 21, 22, 23, 24, 25, 26, 27, 28, 29, 30, 31, 33, 34, 35, 37, 38, 39], [0, 1, 2, 3, 4, 5, 6, 7, 8, 9, 10, 11, 12, 13, 14, 15, 20, 21, 22, 23, 24, 25, 26, 27, 28, 29, 30, 31, 33, 34, 35, 37, 38, 39], [0, 1, 2, 3, 4, 5, 6, 7, 8, 9, 10, 11, 12, 13, 14, 15, 20, 21, 22, 23, 24, 25, 26, 27, 28, 29, 30, 31, 33, 34, 35, 37, 38, 39], [0, 1, 2, 3, 4, 5, 6, 7, 8, 9, 10, 11, 12, 13, 14, 15, 20, 21, 22, 23, 24, 25, 26, 27, 28, 29, 30, 31, 33, 34, 35, 37, 38, 39], [0, 1, 2, 3, 4, 5, 6, 7, 8, 9, 10, 11, 12, 13, 14, 15, 16, 17, 18, 19, 23, 24, 25, 26, 27, 28, 29, 30, 31, 32, 33, 34, 35, 36, 37, 38, 39], [0, 1, 2, 3, 4, 5, 6, 7, 8, 9, 10, 11, 12, 13, 14, 15, 16, 17, 18, 19, 23, 24, 25, 26, 27, 28, 29, 30, 31, 32, 33, 34, 35, 36, 37, 38, 39], [0, 1, 2, 3, 4, 5, 6, 7, 8, 9, 10, 11, 12, 13, 14, 15, 16, 17, 18, 19, 23, 24, 25, 26, 27, 28, 29, 30, 31, 32, 33, 34, 35, 36, 37, 38, 39], [0, 1, 2, 3, 4, 5, 6, 7, 8, 9, 10, 11, 12, 13, 14, 15, 16, 17, 18, 19, 20, 21, 22, 26, 27, 28, 29, 30, 31, 32, 33, 34, 35, 36, 37, 38, 39], [0, 1, 2, 3, 4, 5, 6, 7, 8, 9, 10, 11, 12, 13, 14, 15, 16, 17, 18, 19, 20, 21, 22, 26, 27, 28, 29, 30, 31, 32, 33, 34, 35, 36, 37, 38, 39], [0, 1, 2, 3, 4, 5, 6, 7, 8, 9, 10, 11, 12, 13, 14, 15, 16, 17, 18, 19, 20, 21, 22, 26, 27, 28, 29, 30, 31, 32, 33, 34, 35, 36, 37, 38, 39], [0, 1, 2, 3, 4, 5, 6, 7, 8, 9, 10, 11, 12, 13, 14, 15, 16, 17, 18, 19, 20, 21, 22, 23, 24, 25, 29, 30, 31, 32, 33, 34, 35, 36, 37, 38, 39], [0, 1, 2, 3, 4, 5, 6, 7, 8, 9, 10, 11, 12, 13, 14, 15, 16, 17, 18, 19, 20, 21, 22, 23, 24, 25, 29, 30, 31, 32, 33, 34, 35, 36, 37, 38, 39], [0, 1, 2, 3, 4, 5, 6, 7, 8, 9, 10, 11, 12, 13, 14, 15, 16, 17, 18, 19, 20, 21, 22, 23, 24, 25, 29, 30, 31, 32, 33, 34, 35, 36, 37, 38, 39], [0, 1, 2, 3, 4, 5, 6, 7, 8, 9, 10, 11, 12, 13, 14, 15, 16, 17, 18, 19, 20, 21, 22, 23, 24, 25, 26, 27, 28, 33, 34, 35, 37, 38, 39], [0, 1, 2, 3, 4, 5, 6, 7, 8, 9, 10, 11, 12, 13, 14, 15, 16, 17, 18, 19, 20, 21, 22, 23, 24, 25, 26, 27, 28, 33, 34, 35, 37, 38, 39], [0, 1, 2, 3, 4, 5, 6, 7, 8, 9, 10, 11, 12, 13, 14, 15, 16, 17, 18, 19, 20, 21, 22, 23, 24, 25, 26, 27, 28, 33, 34, 35, 37, 38, 39], [0, 1, 2, 3, 4, 5, 6, 7, 8, 9, 10, 11, 12, 13, 14, 15, 20, 21, 22, 23, 24, 25, 26, 27, 28, 33, 34, 35, 37, 38, 39], [0, 1, 2, 3, 4, 5, 6, 7, 8, 9, 10, 11, 12, 13, 14, 15, 16, 17, 18, 19, 20, 21, 22, 23, 24, 25, 26, 27, 28, 29, 30, 31, 32, 37, 38, 39], [0, 1, 2, 3, 4, 5, 6, 7, 8, 9, 10, 11, 12, 13, 14, 15, 16, 17, 18, 19, 20, 21, 22, 23, 24, 25, 26, 27, 28, 29, 30, 31, 32, 37, 38, 39], [0, 1, 2, 3, 4, 5, 6, 7, 8, 9, 10, 11, 12, 13, 14, 15, 16, 17, 18, 19, 20, 21, 22, 23, 24, 25, 26, 27, 28, 29, 30, 31, 32, 37, 38, 39], [0, 1, 2, 3, 4, 5, 6, 7, 8, 9, 10, 11, 12, 13, 14, 15, 20, 21, 22, 23, 24, 25, 26, 27, 28, 37, 38, 39], [0, 1, 2, 3, 4, 5, 6, 7, 8, 9, 10, 11, 12, 13, 14, 15, 16, 17, 18, 19, 20, 21, 22, 23, 24, 25, 26, 27, 28, 29, 30, 31, 32, 33, 34, 35, 36], [0, 1, 2, 3, 4, 5, 6, 7, 8, 9, 10, 11, 12, 13, 14, 15, 16, 17, 18, 19, 20, 21, 22, 23, 24, 25, 26, 27, 28, 29, 30, 31, 32, 33, 34, 35, 36], [0, 1, 2, 3, 4, 5, 6, 7, 8, 9, 10, 11, 12, 13, 14, 15, 16, 17, 18, 19, 20, 21, 22, 23, 24, 25, 26, 27, 28, 29, 30, 31, 32, 33, 34, 35, 36], [], []]
  | _ => []
def od90 : Nat → List (List Nat)
  | 1 => [[2, 3], [2, 3], [0, 1, 4], [0, 1, 4], [2, 3], []]
  | _ => []
def od99 : Nat → List (List Nat)
  | 7 => [[1, 2, 3, 4, 5, 6, 7, 8, 9, 10], [0, 3, 4, 5, 6, 7, 8, 9, 10], [0, 3, 4, 5, 6, 7, 8, 9, 10], [0, 1, 2, 4, 5, 6, 7, 8, 9, 10, 11, 12], [0, 1, 2, 3, 6, 7, 8, 9, 10, 11, 12], [0, 1, 2, 3, 6, 7, 8, 9, 10, 11, 12], [0, 1, 2, 3, 4, 5, 9, 10], [0, 1, 2, 3, 4, 5, 9, 10], [0, 1, 2, 3, 4, 5, 9, 10], [0, 1, 2, 3, 4, 5, 6, 7, 8, 11, 12], [0, 1, 2, 3, 4, 5, 6, 7, 8, 11, 12], [3, 4, 5, 9, 10], [3, 4, 5, 9, 10], [], []]
  | 8 => [[1, 2, 3, 4, 5, 6, 7, 8, 9, 10], [0, 3, 4, 5, 6, 7, 8, 9, 10], [0, 3, 4, 5, 6, 7, 8, 9, 10], [0, 1, 2, 4, 5, 6, 7, 8, 9, 10, 11, 12], [0, 1, 2, 3, 6, 7, 8, 9, 10, 11, 12], [0, 1, 2, 3, 6, 7, 8, 9, 10, 11, 12], [0, 1, 2, 3, 4, 5, 9, 10], [0, 1, 2, 3, 4, 5, 9, 10], [0, 1, 2, 3, 4, 5, 9, 10], [0, 1, 2, 3, 4, 5, 6, 7, 8, 11, 12], [0, 1, 2, 3, 4, 5, 6, 7, 8, 11, 12], [3, 4, 5, 9, 10], [3, 4, 5, 9, 10], [], []]
  | 9 => [[1, 2, 3, 4, 5, 6, 7, 8, 9, 10], [0, 3, 4, 5, 6, 7, 8, 9, 10], [0, 3, 4, 5, 6, 7, 8, 9, 10], [0, 1, 2, 4, 5, 6, 7, 8, 9, 10, 11, 12], [0, 1, 2, 3, 6, 7, 8, 9, 10, 11, 12], [0, 1, 2, 3, 6, 7, 8, 9, 10, 11, 12], [0, 1, 2, 3, 4, 5, 9, 10], [0, 1, 2, 3, 4, 5, 9, 10], [0, 1, 2, 3, 4, 5, 9, 10], [0, 1, 2, 3, 4, 5, 6, 7, 8, 11, 12], [0, 1, 2, 3, 4, 5, 6, 7, 8, 11, 12], [3, 4, 5, 9, 10], [3, 4, 5, 9, 10], [], []]
  | 10 => [[1, 2, 3, 4, 5, 6, 7, 8, 9, 10], [0, 3, 4, 5, 6, 7, 8, 9, 10], [0, 3, 4, 5, 6, 7, 8, 9, 10], [0, 1, 2, 4, 5, 6, 7, 8, 9, 10, 11, 12], [0, 1, 2, 3, 6, 7, 8, 9, 10, 11, 12], [0, 1, 2, 3, 6, 7, 8, 9, 10, 11, 12], [0, 1, 2, 3, 4, 5, 9, 10], [0, 1, 2, 3, 4, 5, 9, 10], [0, 1, 2, 3, 4, 5, 9, 10], [0, 1, 2, 3, 4, 5, 6, 7, 8, 11, 12], [0, 1, 2, 3, 4, 5, 6, 7, 8, 11, 12], [3, 4, 5, 9, 10], [3, 4, 5, 9, 10], [], []]
  | 17 => [[1, 2, 3, 4, 5, 6, 7, 8, 9, 10], [0, 3, 4, 5, 6, 7, 8, 9, 10], [0, 3, 4, 5, 6, 7, 8, 9, 10], [0, 1, 2, 4, 5, 6, 7, 8, 9, 10, 11, 12], [0, 1, 2, 3, 6, 7, 8, 9, 10, 11, 12], [0, 1, 2, 3, 6, 7, 8, 9, 10, 11, 12], [0, 1, 2, 3, 4, 5, 9, 10], [0, 1, 2, 3, 4, 5, 9, 10], [0, 1, 2, 3, 4, 5, 9, 10], [0, 1, 2, 3, 4, 5, 6, 7, 8, 11, 12], [0, 1, 2, 3, 4, 5, 6, 7, 8, 11, 12], [3, 4, 5, 9, 10], [3, 4, 5, 9, 10], [], []]
  | 18 => [[1, 2, 3, 4, 5, 6, 7, 8, 9, 10], [0, 3, 4, 5, 6, 7, 8, 9, 10], [0, 3, 4, 5, 6, 7, 8, 9, 10], [0, 1, 2, 4, 5, 6, 7, 8, 9, 10, 11, 12], [0, 1, 2, 3, 6, 7, 8, 9, 10, 11, 12], [0, 1, 2, 3, 6, 7, 8, 9, 10, 11, 12], [0, 1, 2, 3, 4, 5, 9, 10], [0, 1, 2, 3, 4, 5, 9, 10], [0, 1, 2, 3, 4, 5, 9, 10], [0, 1, 2, 3, 4, 5, 6, 7, 8, 11, 12], [0, 1, 2, 3, 4, 5, 6, 7, 8, 11, 12], [3, 4, 5, 9, 10], [3, 4, 5, 9, 10], [], []]
  | 23 => [[1, 2, 3, 4, 5, 6, 7, 8, 9, 10], [0, 3, 4, 5, 6, 7, 8, 9, 10], [0, 3, 4, 5, 6, 7, 8, 9, 10], [0, 1, 2, 4, 5, 6, 7, 8, 9, 10, 11, 12], [0, 1, 2, 3, 6, 7, 8, 9, 10, 11, 12], [0, 1, 2, 3, 6, 7, 8, 9, 10, 11, 12], [0, 1, 2, 3, 4, 5, 9, 10], [0, 1, 2, 3, 4, 5, 9, 10], [0, 1, 2, 3, 4, 5, 9, 10], [0, 1, 2, 3, 4, 5, 6, 7, 8, 11, 12], [0, 1, 2, 3, 4, 5, 6, 7, 8, 11, 12], [3, 4, 5, 9, 10], [3, 4, 5, 9, 10], [], []]
  | _ => []
def od130 : Nat → List (List Nat)
  | 9 => [[1, 2, 3, 4, 5, 6, 7], [0, 2, 4, 5, 6], [0, 1, 4, 5, 6], [0, 4, 5, 6], [0, 1, 2, 3, 5], [0, 1, 2, 3, 4], [0, 1, 2, 3], [0], [], []]
  | _ => []
def od166 : Nat → List (List Nat)
  | 1 => [[1, 2, 3], [0, 3], [0, 3], [0, 1, 2], [], [], []]
  | _ => []
def od167 : Nat → List (List Nat)
  | 1 => [[1, 2, 3], [0, 3], [0, 3], [0, 1, 2], [], [], []]
  | _ => []
end Go.Am
end
section
namespace Go.Am
open Go
open Go.Proofs
set_option maxRecDepth 10000

noncomputable def keepL : List (Nat → List Nat) := [fun _ => [], fun _ => [], fun _ => [], keep3, keep4, fun _ => [], fun _ => [], keep7, keep8, fun _ => [], fun _ => [], keep11, keep12, fun _ => [], fun _ => [], fun _ => [], fun _ => [], keep17, keep18, fun _ => [], fun _ => [], fun _ => [], fun _ => [], keep23, keep24, keep25, fun _ => [], keep27, fun _ => [], fun _ => [], fun _ => [], fun _ => [], fun _ => [], fun _ => [], keep34, keep35, keep36, keep37, fun _ => [], fun _ => [], fun _ => [], fun _ => [], fun _ => [], fun _ => [], fun _ => [], keep45, keep46, keep47, keep48, keep49, keep50, keep51, keep52, fun _ => [], fun _ => [], fun _ => [], fun _ => [], keep57, keep58, keep59, keep60, fun _ => [], fun _ => [], fun _ => [], fun _ => [], fun _ => [], fun _ => [], keep67, keep68, keep69, keep70, keep71, keep72, keep73, keep74, keep75, keep76, keep77, keep78, keep79, keep80, keep81, keep82, keep83, keep84, fun _ => [], fun _ => [], fun _ => [], fun _ => [], fun _ => [], fun _ => [], keep91, keep92, keep93, keep94, keep95, keep96, fun _ => [], fun _ => [], fun _ => [], fun _ => [], fun _ => [], fun _ => [], fun _ => [], fun _ => [], fun _ => [], keep106, keep107, keep108, keep109, keep110, keep111, keep112, keep113, keep114, keep115, keep116, keep117, keep118, fun _ => [], fun _ => [], fun _ => [], fun _ => [], keep123, fun _ => [], fun _ => [], fun _ => [], fun _ => [], fun _ => [], fun _ => [], fun _ => [], fun _ => [], fun _ => [], fun _ => [], fun _ => [], fun _ => [], fun _ => [], keep137, keep138, keep139, keep140, keep141, keep142, keep143, keep144, keep145, keep146, keep147, keep148, keep149, keep150, fun _ => [], fun _ => [], fun _ => [], fun _ => [], fun _ => [], fun _ => [], keep157, keep158, keep159, keep160, keep161, keep162, keep163, keep164, fun _ => [], fun _ => [], fun _ => [], fun _ => [], fun _ => [], fun _ => [], fun _ => [], keep172, keep173, keep174, keep175, keep176, fun _ => [], fun _ => [], fun _ => [], fun _ => [], keep181, fun _ => [], fun _ => [], fun _ => [], fun _ => [], fun _ => [], fun _ => [], fun _ => [], fun _ => [], fun _ => [], fun _ => [], fun _ => [], fun _ => [], fun _ => [], fun _ => [], fun _ => [], fun _ => [], fun _ => [], fun _ => [], fun _ => [], fun _ => [], fun _ => [], fun _ => [], fun _ => [], fun _ => [], fun _ => [], fun _ => [], fun _ => [], fun _ => [], fun _ => [], fun _ => [], fun _ => [], fun _ => [], fun _ => [], fun _ => []]
noncomputable def ghL : List (Nat → List Gh) := [fun _ => [], fun _ => [], fun _ => [], fun _ => [], fun _ => [], fun _ => [], fun _ => [], fun _ => [], fun _ => [], fun _ => [], fun _ => [], fun _ => [], gh12, fun _ => [], fun _ => [], fun _ => [], fun _ => [], fun _ => [], fun _ => [], fun _ => [], fun _ => [], fun _ => [], fun _ => [], fun _ => [], fun _ => [], fun _ => [], fun _ => [], fun _ => [], fun _ => [], fun _ => [], fun _ => [], fun _ => [], fun _ => [], fun _ => [], fun _ => [], fun _ => [], fun _ => [], fun _ => [], fun _ => [], fun _ => [], fun _ => [], fun _ => [], fun _ => [], fun _ => [], fun _ => [], fun _ => [], fun _ => [], fun _ => [], fun _ => [], fun _ => [], fun _ => [], fun _ => [], fun _ => [], fun _ => [], fun _ => [], fun _ => [], fun _ => [], fun _ => [], fun _ => [], fun _ => [], fun _ => [], fun _ => [], fun _ => [], fun _ => [], fun _ => [], fun _ => [], fun _ => [], fun _ => [], fun _ => [], fun _ => [], fun _ => [], fun _ => [], fun _ => [], fun _ => [], fun _ => [], fun _ => [], fun _ => [], fun _ => [], fun _ => [], fun _ => [], fun _ => [], fun _ => [], fun _ => [], fun _ => [], fun _ => [], fun _ => [], fun _ => [], fun _ => [], fun _ => [], fun _ => [], fun _ => [], fun _ => [], fun _ => [], fun _ => [], fun _ => [], fun _ => [], fun _ => [], fun _ => [], fun _ => [], fun _ => [], fun _ => [], fun _ => [], fun _ => [], fun _ => [], fun _ => [], fun _ => [], fun _ => [], fun _ => [], fun _ => [], fun _ => [], fun _ => [], fun _ => [], fun _ => [], fun _ => [], fun _ => [], fun _ => [], fun _ => [], fun _ => [], fun _ => [], fun _ => [], fun _ => [], fun _ => [], fun _ => [], fun _ => [], fun _ => [], fun _ => [], fun _ => [], fun _ => [], fun _ => [], fun _ => [], fun _ => [], fun _ => [], fun _ => [], fun _ => [], fun _ => [], fun _ => [], fun _ => [], fun _ => [], fun _ => [], fun _ => [], fun _ => [], fun _ => [], fun _ => [], fun _ => [], fun _ => [], gh145, gh146, fun _ => [], fun _ => [], gh149, fun _ => [], fun _ => [], fun _ => [], fun _ => [], fun _ => [], fun _ => [], fun _ => [], fun _ => [], fun _ => [], fun _ => [], fun _ => [], fun _ => [], fun _ => [], fun _ => [], fun _ => [], fun _ => [], fun _ => [], fun _ => [], fun _ => [], fun _ => [], fun _ => [], fun _ => [], fun _ => [], fun _ => [], fun _ => [], fun _ => [], fun _ => [], fun _ => [], fun _ => [], fun _ => [], fun _ => [], fun _ => [], fun _ => [], fun _ => [], fun _ => [], fun _ => [], fun _ => [], fun _ => [], fun _ => [], fun _ => [], fun _ => [], fun _ => [], fun _ => [], fun _ => [], fun _ => [], fun _ => [], fun _ => [], fun _ => [], fun _ => [], fun _ => [], fun _ => [], fun _ => [], fun _ => [], fun _ => [], fun _ => [], fun _ => [], fun _ => [], fun _ => [], fun _ => [], fun _ => [], fun _ => [], fun _ => [], fun _ => [], fun _ => [], fun _ => [], fun _ => []]
noncomputable def mdL : List (Nat → Bool) := [fun _ => false, fun _ => false, fun _ => false, md3, md4, fun _ => false, fun _ => false, md7, md8, fun _ => false, fun _ => false, md11, md12, fun _ => false, fun _ => false, fun _ => false, fun _ => false, md17, md18, fun _ => false, fun _ => false, fun _ => false, fun _ => false, md23, md24, md25, fun _ => false, md27, fun _ => false, fun _ => false, fun _ => false, fun _ => false, fun _ => false, fun _ => false, md34, md35, md36, md37, fun _ => false, fun _ => false, fun _ => false, fun _ => false, fun _ => false, fun _ => false, fun _ => false, md45, md46, md47, md48, md49, md50, md51, md52, fun _ => false, fun _ => false, fun _ => false, fun _ => false, md57, md58, md59, md60, fun _ => false, fun _ => false, fun _ => false, fun _ => false, fun _ => false, fun _ => false, md67, md68, md69, md70, md71, md72, md73, md74, md75, md76, md77, md78, md79, md80, md81, md82, md83, md84, fun _ => false, fun _ => false, fun _ => false, fun _ => false, fun _ => false, fun _ => false, md91, md92, md93, md94, md95, md96, fun _ => false, fun _ => false, fun _ => false, fun _ => false, fun _ => false, fun _ => false, fun _ => false, fun _ => false, fun _ => false, md106, md107, md108, md109, md110, md111, md112, md113, md114, md115, md116, md117, md118, fun _ => false, fun _ => false, fun _ => false, fun _ => false, md123, fun _ => false, fun _ => false, fun _ => false, fun _ => false, fun _ => false, fun _ => false, fun _ => false, fun _ => false, fun _ => false, fun _ => false, fun _ => false, fun _ => false, fun _ => false, md137, md138, md139, md140, md141, md142, md143, md144, md145, md146, md147, md148, md149, md150, fun _ => false, fun _ => false, fun _ => false, fun _ => false, fun _ => false, fun _ => false, md157, md158, md159, md160, md161, md162, md163, md164, fun _ => false, fun _ => false, fun _ => false, fun _ => false, fun _ => false, fun _ => false, fun _ => false, md172, md173, md174, md175, md176, fun _ => false, fun _ => false, fun _ => false, fun _ => false, md181, fun _ => false, fun _ => false, fun _ => false, fun _ => false, fun _ => false, fun _ => false, fun _ => false, fun _ => false, fun _ => false, fun _ => false, fun _ => false, fun _ => false, fun _ => false, fun _ => false, fun _ => false, fun _ => false, fun _ => false, fun _ => false, fun _ => false, fun _ => false, fun _ => false, fun _ => false, fun _ => false, fun _ => false, fun _ => false, fun _ => false, fun _ => false, fun _ => false, fun _ => false, fun _ => false, fun _ => false, fun _ => false, fun _ => false, fun _ => false]
noncomputable def fpL : List FPol := [⟨[], false, [], [], false⟩, ⟨[], false, [], [], false⟩, ⟨[], false, [], [], false⟩, fp3, fp4, ⟨[], false, [], [], false⟩, ⟨[], false, [], [], false⟩, fp7, fp8, ⟨[], false, [], [], false⟩, ⟨[], false, [], [], false⟩, fp11, fp12, ⟨[], false, [], [], false⟩, ⟨[], false, [], [], false⟩, ⟨[], false, [], [], false⟩, ⟨[], false, [], [], false⟩, fp17, fp18, ⟨[], false, [], [], false⟩, ⟨[], false, [], [], false⟩, ⟨[], false, [], [], false⟩, ⟨[], false, [], [], false⟩, fp23, fp24, fp25, ⟨[], false, [], [], false⟩, fp27, ⟨[], false, [], [], false⟩, ⟨[], false, [], [], false⟩, ⟨[], false, [], [], false⟩, ⟨[], false, [], [], false⟩, ⟨[], false, [], [], false⟩, ⟨[], false, [], [], false⟩, fp34, fp35, fp36, fp37, ⟨[], false, [], [], false⟩, ⟨[], false, [], [], false⟩, ⟨[], false, [], [], false⟩, ⟨[], false, [], [], false⟩, ⟨[], false, [], [], false⟩, ⟨[], false, [], [], false⟩, ⟨[], false, [], [], false⟩, fp45, fp46, fp47, fp48, fp49, fp50, fp51, fp52, ⟨[], false, [], [], false⟩, ⟨[], false, [], [], false⟩, ⟨[], false, [], [], false⟩, ⟨[], false, [], [], false⟩, fp57, fp58, fp59, fp60, ⟨[], false, [], [], false⟩, ⟨[], false, [], [], false⟩, ⟨[], false, [], [], false⟩, ⟨[], false, [], [], false⟩, ⟨[], false, [], [], false⟩, ⟨[], false, [], [], false⟩, fp67, fp68, fp69, fp70, fp71, fp72, fp73, fp74, fp75, fp76, fp77, fp78, fp79, fp80, fp81, fp82, fp83, fp84, ⟨[], false, [], [], false⟩, ⟨[], false, [], [], false⟩, ⟨[], false, [], [], false⟩, ⟨[], false, [], [], false⟩, ⟨[], false, [], [], false⟩, ⟨[], false, [], [], false⟩, fp91, fp92, fp93, fp94, fp95, fp96, ⟨[], false, [], [], false⟩, ⟨[], false, [], [], false⟩, ⟨[], false, [], [], false⟩, ⟨[], false, [], [], false⟩, ⟨[], false, [], [], false⟩, ⟨[], false, [], [], false⟩, ⟨[], false, [], [], false⟩, ⟨[], false, [], [], false⟩, ⟨[], false, [], [], false⟩, fp106, fp107, fp108, fp109, fp110, fp111, fp112, fp113, fp114, fp115, fp116, fp117, fp118, ⟨[], false, [], [], false⟩, ⟨[], false, [], [], false⟩, ⟨[], false, [], [], false⟩, ⟨[], false, [], [], false⟩, fp123, ⟨[], false, [], [], false⟩, ⟨[], false, [], [], false⟩, ⟨[], false, [], [], false⟩, ⟨[], false, [], [], false⟩, ⟨[], false, [], [], false⟩, ⟨[], false, [], [], false⟩, ⟨[], false, [], [], false⟩, ⟨[], false, [], [], false⟩, ⟨[], false, [], [], false⟩, ⟨[], false, [], [], false⟩, ⟨[], false, [], [], false⟩, ⟨[], false, [], [], false⟩, ⟨[], false, [], [], false⟩, fp137, fp138, fp139, fp140, fp141, fp142, fp143, fp144, fp145, fp146, fp147, fp148, fp149, fp150, ⟨[], false, [], [], false⟩, ⟨[], false, [], [], false⟩, ⟨[], false, [], [], false⟩, ⟨[], false, [], [], false⟩, ⟨[], false, [], [], false⟩, ⟨[], false, [], [], false⟩, fp157, fp158, fp159, fp160, fp161, fp162, fp163, fp164, ⟨[], false, [], [], false⟩, ⟨[], false, [], [], false⟩, ⟨[], false, [], [], false⟩, ⟨[], false, [], [], false⟩, ⟨[], false, [], [], false⟩, ⟨[], false, [], [], false⟩, ⟨[], false, [], [], false⟩, fp172, fp173, fp174, fp175, fp176, ⟨[], false, [], [], false⟩, ⟨[], false, [], [], false⟩, ⟨[], false, [], [], false⟩, ⟨[], false, [], [], false⟩, fp181, ⟨[], false, [], [], false⟩, ⟨[], false, [], [], false⟩, ⟨[], false, [], [], false⟩, ⟨[], false, [], [], false⟩, ⟨[], false, [], [], false⟩, ⟨[], false, [], [], false⟩, ⟨[], false, [], [], false⟩, ⟨[], false, [], [], false⟩, ⟨[], false, [], [], false⟩, ⟨[], false, [], [], false⟩, ⟨[], false, [], [], false⟩, ⟨[], false, [], [], false⟩, ⟨[], false, [], [], false⟩, ⟨[], false, [], [], false⟩, ⟨[], false, [], [], false⟩, ⟨[], false, [], [], false⟩, ⟨[], false, [], [], false⟩, ⟨[], false, [], [], false⟩, ⟨[], false, [], [], false⟩, ⟨[], false, [], [], false⟩, ⟨[], false, [], [], false⟩, ⟨[], false, [], [], false⟩, ⟨[], false, [], [], false⟩, ⟨[], false, [], [], false⟩, ⟨[], false, [], [], false⟩, ⟨[], false, [], [], false⟩, ⟨[], false, [], [], false⟩, ⟨[], false, [], [], false⟩, ⟨[], false, [], [], false⟩, ⟨[], false, [], [], false⟩, ⟨[], false, [], [], false⟩, ⟨[], false, [], [], false⟩, ⟨[], false, [], [], false⟩, ⟨[], false, [], [], false⟩]
noncomputable def odL : List (Nat → List (List Nat)) := [fun _ => [], fun _ => [], fun _ => [], od3, od4, fun _ => [], fun _ => [], od7, od8, od9, fun _ => [], od11, od12, fun _ => [], fun _ => [], od15, od16, od17, od18, fun _ => [], od20, fun _ => [], fun _ => [], od23, od24, od25, fun _ => [], od27, fun _ => [], od29, fun _ => [], fun _ => [], fun _ => [], fun _ => [], od34, od35, od36, od37, fun _ => [], fun _ => [], fun _ => [], fun _ => [], fun _ => [], fun _ => [], fun _ => [], od45, od46, od47, od48, od49, od50, od51, od52, fun _ => [], fun _ => [], od55, fun _ => [], od57, od58, od59, od60, fun _ => [], fun _ => [], fun _ => [], fun _ => [], fun _ => [], fun _ => [], od67, od68, od69, od70, od71, od72, od73, od74, od75, od76, od77, od78, od79, od80, od81, od82, od83, od84, fun _ => [], fun _ => [], fun _ => [], fun _ => [], fun _ => [], od90, od91, od92, od93, od94, od95, od96, fun _ => [], fun _ => [], od99, fun _ => [], fun _ => [], fun _ => [], fun _ => [], fun _ => [], fun _ => [], od106, od107, od108, od109, od110, od111, od112, od113, od114, od115, od116, od117, od118, fun _ => [], fun _ => [], fun _ => [], fun _ => [], od123, fun _ => [], fun _ => [], fun _ => [], fun _ => [], fun _ => [], fun _ => [], od130, fun _ => [], fun _ => [], fun _ => [], fun _ => [], fun _ => [], fun _ => [], od137, od138, od139, od140, od141, od142, od143, od144, od145, od146, od147, od148, od149, od150, fun _ => [], fun _ => [], fun _ => [], fun _ => [], fun _ => [], fun _ => [], od157, od158, od159, od160, od161, od162, od163, od164, fun _ => [], od166, od167, fun _ => [], fun _ => [], fun _ => [], fun _ => [], od172, od173, od174, od175, od176, fun _ => [], fun _ => [], fun _ => [], fun _ => [], od181, fun _ => [], fun _ => [], fun _ => [], fun _ => [], fun _ => [], fun _ => [], fun _ => [], fun _ => [], fun _ => [], fun _ => [], fun _ => [], fun _ => [], fun _ => [], fun _ => [], fun _ => [], fun _ => [], fun _ => [], fun _ => [], fun _ => [], fun _ => [], fun _ => [], fun _ => [], fun _ => [], fun _ => [], fun _ => [], fun _ => [], fun _ => [], fun _ => [], fun _ => [], fun _ => [], fun _ => [], fun _ => [], fun _ => [], fun _ => []]
noncomputable def flL : List (Nat → List (Nat × Nat)) := [fun _ => [], fun _ => [], fun _ => [], fun _ => [], fun _ => [], fun _ => [], fun _ => [], fun _ => [], fun _ => [], fun _ => [], fun _ => [], fun _ => [], fun _ => [], fun _ => [], fun _ => [], fun _ => [], fun _ => [], fun _ => [], fun _ => [], fun _ => [], fun _ => [], fun _ => [], fun _ => [], fun _ => [], fun _ => [], fun _ => [], fun _ => [], fun _ => [], fun _ => [], fun _ => [], fun _ => [], fun _ => [], fun _ => [], fun _ => [], fun _ => [], fun _ => [], fun _ => [], fun _ => [], fun _ => [], fun _ => [], fun _ => [], fun _ => [], fun _ => [], fun _ => [], fun _ => [], fun _ => [], fun _ => [], fun _ => [], fun _ => [], fun _ => [], fun _ => [], fun _ => [], fun _ => [], fun _ => [], fun _ => [], fun _ => [], fun _ => [], fun _ => [], fun _ => [], fun _ => [], fun _ => [], fun _ => [], fun _ => [], fun _ => [], fun _ => [], fun _ => [], fun _ => [], fun _ => [], fun _ => [], fun _ => [], fun _ => [], fun _ => [], fun _ => [], fun _ => [], fun _ => [], fun _ => [], fun _ => [], fun _ => [], fun _ => [], fun _ => [], fun _ => [], fun _ => [], fun _ => [], fun _ => [], fun _ => [], fun _ => [], fun _ => [], fun _ => [], fun _ => [], fun _ => [], fun _ => [], fun _ => [], fun _ => [], fun _ => [], fun _ => [], fun _ => [], fun _ => [], fun _ => [], fun _ => [], fun _ => [], fun _ => [], fun _ => [], fun _ => [], fun _ => [], fun _ => [], fun _ => [], fun _ => [], fun _ => [], fun _ => [], fun _ => [], fun _ => [], fun _ => [], fun _ => [], fun _ => [], fun _ => [], fun _ => [], fun _ => [], fun _ => [], fun _ => [], fun _ => [], fun _ => [], fun _ => [], fun _ => [], fun _ => [], fun _ => [], fun _ => [], fun _ => [], fun _ => [], fun _ => [], fun _ => [], fun _ => [], fun _ => [], fun _ => [], fun _ => [], fun _ => [], fun _ => [], fun _ => [], fun _ => [], fun _ => [], fun _ => [], fun _ => [], fun _ => [], fun _ => [], fun _ => [], fun _ => [], fun _ => [], fun _ => [], fun _ => [], fun _ => [], fun _ => [], fun _ => [], fun _ => [], fun _ => [], fun _ => [], fun _ => [], fun _ => [], fun _ => [], fun _ => [], fun _ => [], fun _ => [], fun _ => [], fun _ => [], fun _ => [], fun _ => [], fun _ => [], fun _ => [], fun _ => [], fun _ => [], fun _ => [], fun _ => [], fun _ => [], fun _ => [], fun _ => [], fun _ => [], fun _ => [], fun _ => [], fun _ => [], fun _ => [], fun _ => [], fun _ => [], fun _ => [], fun _ => [], fun _ => [], fun _ => [], fun _ => [], fun _ => [], fun _ => [], fun _ => [], fun _ => [], fun _ => [], fun _ => [], fun _ => [], fun _ => [], fun _ => [], fun _ => [], fun _ => [], fun _ => [], fun _ => [], fun _ => [], fun _ => [], fun _ => [], fun _ => [], fun _ => [], fun _ => [], fun _ => [], fun _ => [], fun _ => [], fun _ => [], fun _ => [], fun _ => [], fun _ => [], fun _ => [], fun _ => [], fun _ => [], fun _ => [], fun _ => []]
/-- What the package-level variable internal/bytealg.MaxLen holds: whatever. -/
def Mx2 : Type := Int
variable [Inhabited Mx2]
def tab0 : List Int := [0, 0, 0, 0, 0, 0, 0, 0, 0, 1, 1, 1, 1, 1, 0, 0, 0, 0, 0, 0, 0, 0, 0, 0, 0, 0, 0, 0, 0, 0, 0, 0, 1, 0, 0, 0, 0, 0, 0, 0, 0, 0, 0, 0, 0, 0, 0, 0, 0, 0, 0, 0, 0, 0, 0, 0, 0, 0, 0, 0, 0, 0, 0, 0, 0, 0, 0, 0, 0, 0, 0, 0, 0, 0, 0, 0, 0, 0, 0, 0, 0, 0, 0, 0, 0, 0, 0, 0, 0, 0, 0, 0, 0, 0, 0, 0, 0, 0, 0, 0, 0, 0, 0, 0, 0, 0, 0, 0, 0, 0, 0, 0, 0, 0, 0, 0, 0, 0, 0, 0, 0, 0, 0, 0, 0, 0, 0, 0, 0, 0, 0, 0, 0, 0, 0, 0, 0, 0, 0, 0, 0, 0, 0, 0, 0, 0, 0, 0, 0, 0, 0, 0, 0, 0, 0, 0, 0, 0, 0, 0, 0, 0, 0, 0, 0, 0, 0, 0, 0, 0, 0, 0, 0, 0, 0, 0, 0, 0, 0, 0, 0, 0, 0, 0, 0, 0, 0, 0, 0, 0, 0, 0, 0, 0, 0, 0, 0, 0, 0, 0, 0, 0, 0, 0, 0, 0, 0, 0, 0, 0, 0, 0, 0, 0, 0, 0, 0, 0, 0, 0, 0, 0, 0, 0, 0, 0, 0, 0, 0, 0, 0, 0, 0, 0, 0, 0, 0, 0, 0, 0, 0, 0, 0, 0, 0, 0, 0, 0, 0, 0, 0, 0, 0, 0, 0, 0]
def gl0 : List (Nat × D) := [(2, .agg (tab0.map fun z => .int .u8 z)), (1, .int .i64 (id (α := Int) (default : Mx2)))]
@[simp] theorem glk_0 : glk gl0 2 = some (.agg (tab0.map fun z => .int .u8 z)) := rfl
def orc0 : FuncId → Option (List AV → Option AV)
  | 67 => some (liftO hpO)
  | 69 => some (liftO idxO)
  | 107 => some (liftO ibO)
  | _ => none
noncomputable def ctx : Ctx := ⟨Tryd.prog, gl0, fun f => keepL.getD f (fun _ => []), fun f => ghL.getD f (fun _ => []), fun f => mdL.getD f (fun _ => false), fun f => fpL.getD f ⟨[], false, [], [], false⟩, fun f => odL.getD f (fun _ => []), orc0, fun f => flL.getD f (fun _ => []), none⟩
@[simp] theorem ctx_P : ctx.P = Tryd.prog := rfl
@[simp] theorem ctx_gl : ctx.gl = gl0 := rfl
@[simp] def codeOf (fn : Func) : Code := fn.body.getD .skip
@[simp] theorem keepE3 : ctx.keep 3 = keep3 := rfl
@[simp] theorem ghE3 : ctx.gh 3 = fun _ => [] := rfl
@[simp] theorem mdE3 : ctx.md 3 = md3 := rfl
@[simp] theorem fpE3 : ctx.fp 3 = fp3 := rfl
@[simp] theorem flE3 : ctx.fl 3 = fun _ => [] := rfl
@[simp] theorem odE3 : ctx.od 3 = od3 := rfl
theorem run3 {args : List AV} {cs : List Cont} (h : callOk 93 fp3 args cs = true) : callT ctx 3 args cs = denK ctx 3 (codeOf Tryd.f3) (entry 93 gl0 args cs fp3.sites) (finK Tryd.prog fp3 cs.length [.tmp 4]) :=
  call_run rfl rfl Tryd.func3 rfl (by kernel_rfl) Tryd.ntmps3 (by rw [Tryd.results3]) rfl rfl h
theorem ov3 {cl : CallFn} (hcl : ∀ g a c r, cl g a c = some r → callT ctx g a c = some r) {args : List AV} {cs : List Cont} (h : callOk 93 fp3 args cs = true) : Le (denK (ctx.over cl) 3 (codeOf Tryd.f3) (entry 93 gl0 args cs fp3.sites) (finK Tryd.prog fp3 cs.length [.tmp 4])) (callT ctx 3 args cs) :=
  fun r hr => by rw [run3 h]; exact denK_over hcl hr
@[simp] theorem keepE4 : ctx.keep 4 = keep4 := rfl
@[simp] theorem ghE4 : ctx.gh 4 = fun _ => [] := rfl
@[simp] theorem mdE4 : ctx.md 4 = md4 := rfl
@[simp] theorem fpE4 : ctx.fp 4 = fp4 := rfl
@[simp] theorem flE4 : ctx.fl 4 = fun _ => [] := rfl
@[simp] theorem odE4 : ctx.od 4 = od4 := rfl
theorem run4 {args : List AV} {cs : List Cont} (h : callOk 109 fp4 args cs = true) : callT ctx 4 args cs = denK ctx 4 (codeOf Tryd.f4) (entry 109 gl0 args cs fp4.sites) (finK Tryd.prog fp4 cs.length [.tmp 4]) :=
  call_run rfl rfl Tryd.func4 rfl (by kernel_rfl) Tryd.ntmps4 (by rw [Tryd.results4]) rfl rfl h
theorem ov4 {cl : CallFn} (hcl : ∀ g a c r, cl g a c = some r → callT ctx g a c = some r) {args : List AV} {cs : List Cont} (h : callOk 109 fp4 args cs = true) : Le (denK (ctx.over cl) 4 (codeOf Tryd.f4) (entry 109 gl0 args cs fp4.sites) (finK Tryd.prog fp4 cs.length [.tmp 4])) (callT ctx 4 args cs) :=
  fun r hr => by rw [run4 h]; exact denK_over hcl hr
@[simp] theorem keepE7 : ctx.keep 7 = keep7 := rfl
@[simp] theorem ghE7 : ctx.gh 7 = fun _ => [] := rfl
@[simp] theorem mdE7 : ctx.md 7 = md7 := rfl
@[simp] theorem fpE7 : ctx.fp 7 = fp7 := rfl
@[simp] theorem flE7 : ctx.fl 7 = fun _ => [] := rfl
@[simp] theorem odE7 : ctx.od 7 = od7 := rfl
theorem run7 {args : List AV} {cs : List Cont} (h : callOk 65 fp7 args cs = true) : callT ctx 7 args cs = denK ctx 7 (codeOf Tryd.f7) (entry 65 gl0 args cs fp7.sites) (finK Tryd.prog fp7 cs.length [.tmp 4]) :=
  call_run rfl rfl Tryd.func7 rfl (by kernel_rfl) Tryd.ntmps7 (by rw [Tryd.results7]) rfl rfl h
theorem ov7 {cl : CallFn} (hcl : ∀ g a c r, cl g a c = some r → callT ctx g a c = some r) {args : List AV} {cs : List Cont} (h : callOk 65 fp7 args cs = true) : Le (denK (ctx.over cl) 7 (codeOf Tryd.f7) (entry 65 gl0 args cs fp7.sites) (finK Tryd.prog fp7 cs.length [.tmp 4])) (callT ctx 7 args cs) :=
  fun r hr => by rw [run7 h]; exact denK_over hcl hr
@[simp] theorem keepE8 : ctx.keep 8 = keep8 := rfl
@[simp] theorem ghE8 : ctx.gh 8 = fun _ => [] := rfl
@[simp] theorem mdE8 : ctx.md 8 = md8 := rfl
@[simp] theorem fpE8 : ctx.fp 8 = fp8 := rfl
@[simp] theorem flE8 : ctx.fl 8 = fun _ => [] := rfl
@[simp] theorem odE8 : ctx.od 8 = od8 := rfl
theorem run8 {args : List AV} {cs : List Cont} (h : callOk 71 fp8 args cs = true) : callT ctx 8 args cs = denK ctx 8 (codeOf Tryd.f8) (entry 71 gl0 args cs fp8.sites) (finK Tryd.prog fp8 cs.length [.tmp 2]) :=
  call_run rfl rfl Tryd.func8 rfl (by kernel_rfl) Tryd.ntmps8 (by rw [Tryd.results8]) rfl rfl h
theorem ov8 {cl : CallFn} (hcl : ∀ g a c r, cl g a c = some r → callT ctx g a c = some r) {args : List AV} {cs : List Cont} (h : callOk 71 fp8 args cs = true) : Le (denK (ctx.over cl) 8 (codeOf Tryd.f8) (entry 71 gl0 args cs fp8.sites) (finK Tryd.prog fp8 cs.length [.tmp 2])) (callT ctx 8 args cs) :=
  fun r hr => by rw [run8 h]; exact denK_over hcl hr
@[simp] theorem keepE11 : ctx.keep 11 = keep11 := rfl
@[simp] theorem ghE11 : ctx.gh 11 = fun _ => [] := rfl
@[simp] theorem mdE11 : ctx.md 11 = md11 := rfl
@[simp] theorem fpE11 : ctx.fp 11 = fp11 := rfl
@[simp] theorem flE11 : ctx.fl 11 = fun _ => [] := rfl
@[simp] theorem odE11 : ctx.od 11 = od11 := rfl
theorem run11 {args : List AV} {cs : List Cont} (h : callOk 45 fp11 args cs = true) : callT ctx 11 args cs = denK ctx 11 (codeOf Tryd.f11) (entry 45 gl0 args cs fp11.sites) (finK Tryd.prog fp11 cs.length [.tmp 0]) :=
  call_run rfl rfl Tryd.func11 rfl (by kernel_rfl) Tryd.ntmps11 (by rw [Tryd.results11]) rfl rfl h
theorem ov11 {cl : CallFn} (hcl : ∀ g a c r, cl g a c = some r → callT ctx g a c = some r) {args : List AV} {cs : List Cont} (h : callOk 45 fp11 args cs = true) : Le (denK (ctx.over cl) 11 (codeOf Tryd.f11) (entry 45 gl0 args cs fp11.sites) (finK Tryd.prog fp11 cs.length [.tmp 0])) (callT ctx 11 args cs) :=
  fun r hr => by rw [run11 h]; exact denK_over hcl hr
@[simp] theorem keepE12 : ctx.keep 12 = keep12 := rfl
@[simp] theorem ghE12 : ctx.gh 12 = gh12 := rfl
@[simp] theorem mdE12 : ctx.md 12 = md12 := rfl
@[simp] theorem fpE12 : ctx.fp 12 = fp12 := rfl
@[simp] theorem flE12 : ctx.fl 12 = fun _ => [] := rfl
@[simp] theorem odE12 : ctx.od 12 = od12 := rfl
theorem run12 {args : List AV} {cs : List Cont} (h : callOk 25 fp12 args cs = true) : callT ctx 12 args cs = denKD ctx 12 (codeOf Tryd.f12) (entry 25 gl0 args cs fp12.sites) [] (finKD ctx fp12 cs.length [.cell 2 26, .cell 3 27, .cell 4 29]) :=
  call_runD rfl rfl Tryd.func12 rfl (by kernel_rfl) Tryd.ntmps12 (by rw [Tryd.results12]) rfl h
@[simp] theorem keepE17 : ctx.keep 17 = keep17 := rfl
@[simp] theorem ghE17 : ctx.gh 17 = fun _ => [] := rfl
@[simp] theorem mdE17 : ctx.md 17 = md17 := rfl
@[simp] theorem fpE17 : ctx.fp 17 = fp17 := rfl
@[simp] theorem flE17 : ctx.fl 17 = fun _ => [] := rfl
@[simp] theorem odE17 : ctx.od 17 = od17 := rfl
theorem run17 {args : List AV} {cs : List Cont} (h : callOk 26 fp17 args cs = true) : callT ctx 17 args cs = denK ctx 17 (codeOf Tryd.f17) (entry 26 gl0 args cs fp17.sites) (finK Tryd.prog fp17 cs.length [.tmp 4]) :=
  call_run rfl rfl Tryd.func17 rfl (by kernel_rfl) Tryd.ntmps17 (by rw [Tryd.results17]) rfl rfl h
theorem ov17 {cl : CallFn} (hcl : ∀ g a c r, cl g a c = some r → callT ctx g a c = some r) {args : List AV} {cs : List Cont} (h : callOk 26 fp17 args cs = true) : Le (denK (ctx.over cl) 17 (codeOf Tryd.f17) (entry 26 gl0 args cs fp17.sites) (finK Tryd.prog fp17 cs.length [.tmp 4])) (callT ctx 17 args cs) :=
  fun r hr => by rw [run17 h]; exact denK_over hcl hr
@[simp] theorem keepE18 : ctx.keep 18 = keep18 := rfl
@[simp] theorem ghE18 : ctx.gh 18 = fun _ => [] := rfl
@[simp] theorem mdE18 : ctx.md 18 = md18 := rfl
@[simp] theorem fpE18 : ctx.fp 18 = fp18 := rfl
@[simp] theorem flE18 : ctx.fl 18 = fun _ => [] := rfl
@[simp] theorem odE18 : ctx.od 18 = od18 := rfl
theorem run18 {args : List AV} {cs : List Cont} (h : callOk 54 fp18 args cs = true) : callT ctx 18 args cs = denK ctx 18 (codeOf Tryd.f18) (entry 54 gl0 args cs fp18.sites) (finK Tryd.prog fp18 cs.length [.tmp 6]) :=
  call_run rfl rfl Tryd.func18 rfl (by kernel_rfl) Tryd.ntmps18 (by rw [Tryd.results18]) rfl rfl h
theorem ov18 {cl : CallFn} (hcl : ∀ g a c r, cl g a c = some r → callT ctx g a c = some r) {args : List AV} {cs : List Cont} (h : callOk 54 fp18 args cs = true) : Le (denK (ctx.over cl) 18 (codeOf Tryd.f18) (entry 54 gl0 args cs fp18.sites) (finK Tryd.prog fp18 cs.length [.tmp 6])) (callT ctx 18 args cs) :=
  fun r hr => by rw [run18 h]; exact denK_over hcl hr
@[simp] theorem keepE23 : ctx.keep 23 = keep23 := rfl
@[simp] theorem ghE23 : ctx.gh 23 = fun _ => [] := rfl
@[simp] theorem mdE23 : ctx.md 23 = md23 := rfl
@[simp] theorem fpE23 : ctx.fp 23 = fp23 := rfl
@[simp] theorem flE23 : ctx.fl 23 = fun _ => [] := rfl
@[simp] theorem odE23 : ctx.od 23 = od23 := rfl
theorem run23 {args : List AV} {cs : List Cont} (h : callOk 62 fp23 args cs = true) : callT ctx 23 args cs = denK ctx 23 (codeOf Tryd.f23) (entry 62 gl0 args cs fp23.sites) (finK Tryd.prog fp23 cs.length [.tmp 2, .tmp 3, .cell 4 29]) :=
  call_run rfl rfl Tryd.func23 rfl (by kernel_rfl) Tryd.ntmps23 (by rw [Tryd.results23]) rfl rfl h
theorem ov23 {cl : CallFn} (hcl : ∀ g a c r, cl g a c = some r → callT ctx g a c = some r) {args : List AV} {cs : List Cont} (h : callOk 62 fp23 args cs = true) : Le (denK (ctx.over cl) 23 (codeOf Tryd.f23) (entry 62 gl0 args cs fp23.sites) (finK Tryd.prog fp23 cs.length [.tmp 2, .tmp 3, .cell 4 29])) (callT ctx 23 args cs) :=
  fun r hr => by rw [run23 h]; exact denK_over hcl hr
@[simp] theorem keepE24 : ctx.keep 24 = keep24 := rfl
@[simp] theorem ghE24 : ctx.gh 24 = fun _ => [] := rfl
@[simp] theorem mdE24 : ctx.md 24 = md24 := rfl
@[simp] theorem fpE24 : ctx.fp 24 = fp24 := rfl
@[simp] theorem flE24 : ctx.fl 24 = fun _ => [] := rfl
@[simp] theorem odE24 : ctx.od 24 = od24 := rfl
theorem run24 {args ys : List AV} {rv : AV} {cs : List Cont} (hl : args.getLast? = some rv) (hy : args.dropLast = ys) (h : callOk 22 fp24 ys cs = true) : recT ctx 24 args cs = denRK ctx 24 rv (codeOf Tryd.f24) (entry 22 gl0 ys cs fp24.sites) (finRK Tryd.prog fp24 cs.length []) :=
  rec_run Tryd.func24 rfl Tryd.ntmps24 (by rw [Tryd.results24]) rfl hl hy h
@[simp] theorem keepE25 : ctx.keep 25 = keep25 := rfl
@[simp] theorem ghE25 : ctx.gh 25 = fun _ => [] := rfl
@[simp] theorem mdE25 : ctx.md 25 = md25 := rfl
@[simp] theorem fpE25 : ctx.fp 25 = fp25 := rfl
@[simp] theorem flE25 : ctx.fl 25 = fun _ => [] := rfl
@[simp] theorem odE25 : ctx.od 25 = od25 := rfl
theorem run25 {args : List AV} {cs : List Cont} (h : callOk 26 fp25 args cs = true) : callT ctx 25 args cs = denK ctx 25 (codeOf Tryd.f25) (entry 26 gl0 args cs fp25.sites) (finK Tryd.prog fp25 cs.length [.cell 2 26]) :=
  call_run rfl rfl Tryd.func25 rfl (by kernel_rfl) Tryd.ntmps25 (by rw [Tryd.results25]) rfl rfl h
theorem ov25 {cl : CallFn} (hcl : ∀ g a c r, cl g a c = some r → callT ctx g a c = some r) {args : List AV} {cs : List Cont} (h : callOk 26 fp25 args cs = true) : Le (denK (ctx.over cl) 25 (codeOf Tryd.f25) (entry 26 gl0 args cs fp25.sites) (finK Tryd.prog fp25 cs.length [.cell 2 26])) (callT ctx 25 args cs) :=
  fun r hr => by rw [run25 h]; exact denK_over hcl hr
@[simp] theorem keepE27 : ctx.keep 27 = keep27 := rfl
@[simp] theorem ghE27 : ctx.gh 27 = fun _ => [] := rfl
@[simp] theorem mdE27 : ctx.md 27 = md27 := rfl
@[simp] theorem fpE27 : ctx.fp 27 = fp27 := rfl
@[simp] theorem flE27 : ctx.fl 27 = fun _ => [] := rfl
@[simp] theorem odE27 : ctx.od 27 = od27 := rfl
theorem run27 {args : List AV} {cs : List Cont} (h : callOk 65 fp27 args cs = true) : callT ctx 27 args cs = denK ctx 27 (codeOf Tryd.f27) (entry 65 gl0 args cs fp27.sites) (finK Tryd.prog fp27 cs.length [.tmp 4]) :=
  call_run rfl rfl Tryd.func27 rfl (by kernel_rfl) Tryd.ntmps27 (by rw [Tryd.results27]) rfl rfl h
theorem ov27 {cl : CallFn} (hcl : ∀ g a c r, cl g a c = some r → callT ctx g a c = some r) {args : List AV} {cs : List Cont} (h : callOk 65 fp27 args cs = true) : Le (denK (ctx.over cl) 27 (codeOf Tryd.f27) (entry 65 gl0 args cs fp27.sites) (finK Tryd.prog fp27 cs.length [.tmp 4])) (callT ctx 27 args cs) :=
  fun r hr => by rw [run27 h]; exact denK_over hcl hr
@[simp] theorem keepE34 : ctx.keep 34 = keep34 := rfl
@[simp] theorem ghE34 : ctx.gh 34 = fun _ => [] := rfl
@[simp] theorem mdE34 : ctx.md 34 = md34 := rfl
@[simp] theorem fpE34 : ctx.fp 34 = fp34 := rfl
@[simp] theorem flE34 : ctx.fl 34 = fun _ => [] := rfl
@[simp] theorem odE34 : ctx.od 34 = od34 := rfl
theorem run34 {args : List AV} {cs : List Cont} (h : callOk 32 fp34 args cs = true) : callT ctx 34 args cs = denK ctx 34 (codeOf Tryd.f34) (entry 32 gl0 args cs fp34.sites) (finK Tryd.prog fp34 cs.length [.tmp 6]) :=
  call_run rfl rfl Tryd.func34 rfl (by kernel_rfl) Tryd.ntmps34 (by rw [Tryd.results34]) rfl rfl h
theorem ov34 {cl : CallFn} (hcl : ∀ g a c r, cl g a c = some r → callT ctx g a c = some r) {args : List AV} {cs : List Cont} (h : callOk 32 fp34 args cs = true) : Le (denK (ctx.over cl) 34 (codeOf Tryd.f34) (entry 32 gl0 args cs fp34.sites) (finK Tryd.prog fp34 cs.length [.tmp 6])) (callT ctx 34 args cs) :=
  fun r hr => by rw [run34 h]; exact denK_over hcl hr
@[simp] theorem keepE35 : ctx.keep 35 = keep35 := rfl
@[simp] theorem ghE35 : ctx.gh 35 = fun _ => [] := rfl
@[simp] theorem mdE35 : ctx.md 35 = md35 := rfl
@[simp] theorem fpE35 : ctx.fp 35 = fp35 := rfl
@[simp] theorem flE35 : ctx.fl 35 = fun _ => [] := rfl
@[simp] theorem odE35 : ctx.od 35 = od35 := rfl
theorem run35 {args : List AV} {cs : List Cont} (h : callOk 10 fp35 args cs = true) : callT ctx 35 args cs = denK ctx 35 (codeOf Tryd.f35) (entry 10 gl0 args cs fp35.sites) (finK Tryd.prog fp35 cs.length [.tmp 4]) :=
  call_run rfl rfl Tryd.func35 rfl (by kernel_rfl) Tryd.ntmps35 (by rw [Tryd.results35]) rfl rfl h
theorem ov35 {cl : CallFn} (hcl : ∀ g a c r, cl g a c = some r → callT ctx g a c = some r) {args : List AV} {cs : List Cont} (h : callOk 10 fp35 args cs = true) : Le (denK (ctx.over cl) 35 (codeOf Tryd.f35) (entry 10 gl0 args cs fp35.sites) (finK Tryd.prog fp35 cs.length [.tmp 4])) (callT ctx 35 args cs) :=
  fun r hr => by rw [run35 h]; exact denK_over hcl hr
@[simp] theorem keepE36 : ctx.keep 36 = keep36 := rfl
@[simp] theorem ghE36 : ctx.gh 36 = fun _ => [] := rfl
@[simp] theorem mdE36 : ctx.md 36 = md36 := rfl
@[simp] theorem fpE36 : ctx.fp 36 = fp36 := rfl
@[simp] theorem flE36 : ctx.fl 36 = fun _ => [] := rfl
@[simp] theorem odE36 : ctx.od 36 = od36 := rfl
theorem run36 {args : List AV} {cs : List Cont} (h : callOk 8 fp36 args cs = true) : callT ctx 36 args cs = denK ctx 36 (codeOf Tryd.f36) (entry 8 gl0 args cs fp36.sites) (finK Tryd.prog fp36 cs.length [.tmp 4]) :=
  call_run rfl rfl Tryd.func36 rfl (by kernel_rfl) Tryd.ntmps36 (by rw [Tryd.results36]) rfl rfl h
theorem ov36 {cl : CallFn} (hcl : ∀ g a c r, cl g a c = some r → callT ctx g a c = some r) {args : List AV} {cs : List Cont} (h : callOk 8 fp36 args cs = true) : Le (denK (ctx.over cl) 36 (codeOf Tryd.f36) (entry 8 gl0 args cs fp36.sites) (finK Tryd.prog fp36 cs.length [.tmp 4])) (callT ctx 36 args cs) :=
  fun r hr => by rw [run36 h]; exact denK_over hcl hr
@[simp] theorem keepE37 : ctx.keep 37 = keep37 := rfl
@[simp] theorem ghE37 : ctx.gh 37 = fun _ => [] := rfl
@[simp] theorem mdE37 : ctx.md 37 = md37 := rfl
@[simp] theorem fpE37 : ctx.fp 37 = fp37 := rfl
@[simp] theorem flE37 : ctx.fl 37 = fun _ => [] := rfl
@[simp] theorem odE37 : ctx.od 37 = od37 := rfl
theorem run37 {args : List AV} {cs : List Cont} (h : callOk 160 fp37 args cs = true) : callT ctx 37 args cs = denK ctx 37 (codeOf Tryd.f37) (entry 160 gl0 args cs fp37.sites) (finK Tryd.prog fp37 cs.length [.tmp 6]) :=
  call_run rfl rfl Tryd.func37 rfl (by kernel_rfl) Tryd.ntmps37 (by rw [Tryd.results37]) rfl rfl h
theorem ov37 {cl : CallFn} (hcl : ∀ g a c r, cl g a c = some r → callT ctx g a c = some r) {args : List AV} {cs : List Cont} (h : callOk 160 fp37 args cs = true) : Le (denK (ctx.over cl) 37 (codeOf Tryd.f37) (entry 160 gl0 args cs fp37.sites) (finK Tryd.prog fp37 cs.length [.tmp 6])) (callT ctx 37 args cs) :=
  fun r hr => by rw [run37 h]; exact denK_over hcl hr
@[simp] theorem keepE45 : ctx.keep 45 = keep45 := rfl
@[simp] theorem ghE45 : ctx.gh 45 = fun _ => [] := rfl
@[simp] theorem mdE45 : ctx.md 45 = md45 := rfl
@[simp] theorem fpE45 : ctx.fp 45 = fp45 := rfl
@[simp] theorem flE45 : ctx.fl 45 = fun _ => [] := rfl
@[simp] theorem odE45 : ctx.od 45 = od45 := rfl
theorem run45 {args : List AV} {cs : List Cont} (h : callOk 51 fp45 args cs = true) : callT ctx 45 args cs = denK ctx 45 (codeOf Tryd.f45) (entry 51 gl0 args cs fp45.sites) (finK Tryd.prog fp45 cs.length [.tmp 2]) :=
  call_run rfl rfl Tryd.func45 rfl (by kernel_rfl) Tryd.ntmps45 (by rw [Tryd.results45]) rfl rfl h
theorem ov45 {cl : CallFn} (hcl : ∀ g a c r, cl g a c = some r → callT ctx g a c = some r) {args : List AV} {cs : List Cont} (h : callOk 51 fp45 args cs = true) : Le (denK (ctx.over cl) 45 (codeOf Tryd.f45) (entry 51 gl0 args cs fp45.sites) (finK Tryd.prog fp45 cs.length [.tmp 2])) (callT ctx 45 args cs) :=
  fun r hr => by rw [run45 h]; exact denK_over hcl hr
@[simp] theorem keepE46 : ctx.keep 46 = keep46 := rfl
@[simp] theorem ghE46 : ctx.gh 46 = fun _ => [] := rfl
@[simp] theorem mdE46 : ctx.md 46 = md46 := rfl
@[simp] theorem fpE46 : ctx.fp 46 = fp46 := rfl
@[simp] theorem flE46 : ctx.fl 46 = fun _ => [] := rfl
@[simp] theorem odE46 : ctx.od 46 = od46 := rfl
theorem run46 {args : List AV} {cs : List Cont} (h : callOk 12 fp46 args cs = true) : callT ctx 46 args cs = denK ctx 46 (codeOf Tryd.f46) (entry 12 gl0 args cs fp46.sites) (finK Tryd.prog fp46 cs.length [.tmp 2]) :=
  call_run rfl rfl Tryd.func46 rfl (by kernel_rfl) Tryd.ntmps46 (by rw [Tryd.results46]) rfl rfl h
theorem ov46 {cl : CallFn} (hcl : ∀ g a c r, cl g a c = some r → callT ctx g a c = some r) {args : List AV} {cs : List Cont} (h : callOk 12 fp46 args cs = true) : Le (denK (ctx.over cl) 46 (codeOf Tryd.f46) (entry 12 gl0 args cs fp46.sites) (finK Tryd.prog fp46 cs.length [.tmp 2])) (callT ctx 46 args cs) :=
  fun r hr => by rw [run46 h]; exact denK_over hcl hr
@[simp] theorem keepE47 : ctx.keep 47 = keep47 := rfl
@[simp] theorem ghE47 : ctx.gh 47 = fun _ => [] := rfl
@[simp] theorem mdE47 : ctx.md 47 = md47 := rfl
@[simp] theorem fpE47 : ctx.fp 47 = fp47 := rfl
@[simp] theorem flE47 : ctx.fl 47 = fun _ => [] := rfl
@[simp] theorem odE47 : ctx.od 47 = od47 := rfl
theorem run47 {args : List AV} {cs : List Cont} (h : callOk 54 fp47 args cs = true) : callT ctx 47 args cs = denK ctx 47 (codeOf Tryd.f47) (entry 54 gl0 args cs fp47.sites) (finK Tryd.prog fp47 cs.length [.cell 4 29, .tmp 5]) :=
  call_run rfl rfl Tryd.func47 rfl (by kernel_rfl) Tryd.ntmps47 (by rw [Tryd.results47]) rfl rfl h
theorem ov47 {cl : CallFn} (hcl : ∀ g a c r, cl g a c = some r → callT ctx g a c = some r) {args : List AV} {cs : List Cont} (h : callOk 54 fp47 args cs = true) : Le (denK (ctx.over cl) 47 (codeOf Tryd.f47) (entry 54 gl0 args cs fp47.sites) (finK Tryd.prog fp47 cs.length [.cell 4 29, .tmp 5])) (callT ctx 47 args cs) :=
  fun r hr => by rw [run47 h]; exact denK_over hcl hr
@[simp] theorem keepE48 : ctx.keep 48 = keep48 := rfl
@[simp] theorem ghE48 : ctx.gh 48 = fun _ => [] := rfl
@[simp] theorem mdE48 : ctx.md 48 = md48 := rfl
@[simp] theorem fpE48 : ctx.fp 48 = fp48 := rfl
@[simp] theorem flE48 : ctx.fl 48 = fun _ => [] := rfl
@[simp] theorem odE48 : ctx.od 48 = od48 := rfl
theorem run48 {args : List AV} {cs : List Cont} (h : callOk 42 fp48 args cs = true) : callT ctx 48 args cs = denK ctx 48 (codeOf Tryd.f48) (entry 42 gl0 args cs fp48.sites) (finK Tryd.prog fp48 cs.length []) :=
  call_run rfl rfl Tryd.func48 rfl (by kernel_rfl) Tryd.ntmps48 (by rw [Tryd.results48]) rfl rfl h
theorem ov48 {cl : CallFn} (hcl : ∀ g a c r, cl g a c = some r → callT ctx g a c = some r) {args : List AV} {cs : List Cont} (h : callOk 42 fp48 args cs = true) : Le (denK (ctx.over cl) 48 (codeOf Tryd.f48) (entry 42 gl0 args cs fp48.sites) (finK Tryd.prog fp48 cs.length [])) (callT ctx 48 args cs) :=
  fun r hr => by rw [run48 h]; exact denK_over hcl hr
@[simp] theorem keepE49 : ctx.keep 49 = keep49 := rfl
@[simp] theorem ghE49 : ctx.gh 49 = fun _ => [] := rfl
@[simp] theorem mdE49 : ctx.md 49 = md49 := rfl
@[simp] theorem fpE49 : ctx.fp 49 = fp49 := rfl
@[simp] theorem flE49 : ctx.fl 49 = fun _ => [] := rfl
@[simp] theorem odE49 : ctx.od 49 = od49 := rfl
theorem run49 {args : List AV} {cs : List Cont} (h : callOk 11 fp49 args cs = true) : callT ctx 49 args cs = denK ctx 49 (codeOf Tryd.f49) (entry 11 gl0 args cs fp49.sites) (finK Tryd.prog fp49 cs.length []) :=
  call_run rfl rfl Tryd.func49 rfl (by kernel_rfl) Tryd.ntmps49 (by rw [Tryd.results49]) rfl rfl h
theorem ov49 {cl : CallFn} (hcl : ∀ g a c r, cl g a c = some r → callT ctx g a c = some r) {args : List AV} {cs : List Cont} (h : callOk 11 fp49 args cs = true) : Le (denK (ctx.over cl) 49 (codeOf Tryd.f49) (entry 11 gl0 args cs fp49.sites) (finK Tryd.prog fp49 cs.length [])) (callT ctx 49 args cs) :=
  fun r hr => by rw [run49 h]; exact denK_over hcl hr
@[simp] theorem keepE50 : ctx.keep 50 = keep50 := rfl
@[simp] theorem ghE50 : ctx.gh 50 = fun _ => [] := rfl
@[simp] theorem mdE50 : ctx.md 50 = md50 := rfl
@[simp] theorem fpE50 : ctx.fp 50 = fp50 := rfl
@[simp] theorem flE50 : ctx.fl 50 = fun _ => [] := rfl
@[simp] theorem odE50 : ctx.od 50 = od50 := rfl
theorem run50 {args : List AV} {cs : List Cont} (h : callOk 15 fp50 args cs = true) : callT ctx 50 args cs = denK ctx 50 (codeOf Tryd.f50) (entry 15 gl0 args cs fp50.sites) (finK Tryd.prog fp50 cs.length [.cell 4 29]) :=
  call_run rfl rfl Tryd.func50 rfl (by kernel_rfl) Tryd.ntmps50 (by rw [Tryd.results50]) rfl rfl h
theorem ov50 {cl : CallFn} (hcl : ∀ g a c r, cl g a c = some r → callT ctx g a c = some r) {args : List AV} {cs : List Cont} (h : callOk 15 fp50 args cs = true) : Le (denK (ctx.over cl) 50 (codeOf Tryd.f50) (entry 15 gl0 args cs fp50.sites) (finK Tryd.prog fp50 cs.length [.cell 4 29])) (callT ctx 50 args cs) :=
  fun r hr => by rw [run50 h]; exact denK_over hcl hr
@[simp] theorem keepE51 : ctx.keep 51 = keep51 := rfl
@[simp] theorem ghE51 : ctx.gh 51 = fun _ => [] := rfl
@[simp] theorem mdE51 : ctx.md 51 = md51 := rfl
@[simp] theorem fpE51 : ctx.fp 51 = fp51 := rfl
@[simp] theorem flE51 : ctx.fl 51 = fun _ => [] := rfl
@[simp] theorem odE51 : ctx.od 51 = od51 := rfl
theorem run51 {args : List AV} {cs : List Cont} (h : callOk 18 fp51 args cs = true) : callT ctx 51 args cs = denK ctx 51 (codeOf Tryd.f51) (entry 18 gl0 args cs fp51.sites) (finK Tryd.prog fp51 cs.length []) :=
  call_run rfl rfl Tryd.func51 rfl (by kernel_rfl) Tryd.ntmps51 (by rw [Tryd.results51]) rfl rfl h
theorem ov51 {cl : CallFn} (hcl : ∀ g a c r, cl g a c = some r → callT ctx g a c = some r) {args : List AV} {cs : List Cont} (h : callOk 18 fp51 args cs = true) : Le (denK (ctx.over cl) 51 (codeOf Tryd.f51) (entry 18 gl0 args cs fp51.sites) (finK Tryd.prog fp51 cs.length [])) (callT ctx 51 args cs) :=
  fun r hr => by rw [run51 h]; exact denK_over hcl hr
@[simp] theorem keepE52 : ctx.keep 52 = keep52 := rfl
@[simp] theorem ghE52 : ctx.gh 52 = fun _ => [] := rfl
@[simp] theorem mdE52 : ctx.md 52 = md52 := rfl
@[simp] theorem fpE52 : ctx.fp 52 = fp52 := rfl
@[simp] theorem flE52 : ctx.fl 52 = fun _ => [] := rfl
@[simp] theorem odE52 : ctx.od 52 = od52 := rfl
theorem run52 {args : List AV} {cs : List Cont} (h : callOk 17 fp52 args cs = true) : callT ctx 52 args cs = denK ctx 52 (codeOf Tryd.f52) (entry 17 gl0 args cs fp52.sites) (finK Tryd.prog fp52 cs.length [.tmp 4]) :=
  call_run rfl rfl Tryd.func52 rfl (by kernel_rfl) Tryd.ntmps52 (by rw [Tryd.results52]) rfl rfl h
theorem ov52 {cl : CallFn} (hcl : ∀ g a c r, cl g a c = some r → callT ctx g a c = some r) {args : List AV} {cs : List Cont} (h : callOk 17 fp52 args cs = true) : Le (denK (ctx.over cl) 52 (codeOf Tryd.f52) (entry 17 gl0 args cs fp52.sites) (finK Tryd.prog fp52 cs.length [.tmp 4])) (callT ctx 52 args cs) :=
  fun r hr => by rw [run52 h]; exact denK_over hcl hr
@[simp] theorem keepE57 : ctx.keep 57 = keep57 := rfl
@[simp] theorem ghE57 : ctx.gh 57 = fun _ => [] := rfl
@[simp] theorem mdE57 : ctx.md 57 = md57 := rfl
@[simp] theorem fpE57 : ctx.fp 57 = fp57 := rfl
@[simp] theorem flE57 : ctx.fl 57 = fun _ => [] := rfl
@[simp] theorem odE57 : ctx.od 57 = od57 := rfl
theorem run57 {args : List AV} {cs : List Cont} (h : callOk 32 fp57 args cs = true) : callT ctx 57 args cs = denK ctx 57 (codeOf Tryd.f57) (entry 32 gl0 args cs fp57.sites) (finK Tryd.prog fp57 cs.length [.tmp 6]) :=
  call_run rfl rfl Tryd.func57 rfl (by kernel_rfl) Tryd.ntmps57 (by rw [Tryd.results57]) rfl rfl h
theorem ov57 {cl : CallFn} (hcl : ∀ g a c r, cl g a c = some r → callT ctx g a c = some r) {args : List AV} {cs : List Cont} (h : callOk 32 fp57 args cs = true) : Le (denK (ctx.over cl) 57 (codeOf Tryd.f57) (entry 32 gl0 args cs fp57.sites) (finK Tryd.prog fp57 cs.length [.tmp 6])) (callT ctx 57 args cs) :=
  fun r hr => by rw [run57 h]; exact denK_over hcl hr
@[simp] theorem keepE58 : ctx.keep 58 = keep58 := rfl
@[simp] theorem ghE58 : ctx.gh 58 = fun _ => [] := rfl
@[simp] theorem mdE58 : ctx.md 58 = md58 := rfl
@[simp] theorem fpE58 : ctx.fp 58 = fp58 := rfl
@[simp] theorem flE58 : ctx.fl 58 = fun _ => [] := rfl
@[simp] theorem odE58 : ctx.od 58 = od58 := rfl
theorem run58 {args : List AV} {cs : List Cont} (h : callOk 59 fp58 args cs = true) : callT ctx 58 args cs = denK ctx 58 (codeOf Tryd.f58) (entry 59 gl0 args cs fp58.sites) (finK Tryd.prog fp58 cs.length [.tmp 4]) :=
  call_run rfl rfl Tryd.func58 rfl (by kernel_rfl) Tryd.ntmps58 (by rw [Tryd.results58]) rfl rfl h
theorem ov58 {cl : CallFn} (hcl : ∀ g a c r, cl g a c = some r → callT ctx g a c = some r) {args : List AV} {cs : List Cont} (h : callOk 59 fp58 args cs = true) : Le (denK (ctx.over cl) 58 (codeOf Tryd.f58) (entry 59 gl0 args cs fp58.sites) (finK Tryd.prog fp58 cs.length [.tmp 4])) (callT ctx 58 args cs) :=
  fun r hr => by rw [run58 h]; exact denK_over hcl hr
@[simp] theorem keepE59 : ctx.keep 59 = keep59 := rfl
@[simp] theorem ghE59 : ctx.gh 59 = fun _ => [] := rfl
@[simp] theorem mdE59 : ctx.md 59 = md59 := rfl
@[simp] theorem fpE59 : ctx.fp 59 = fp59 := rfl
@[simp] theorem flE59 : ctx.fl 59 = fun _ => [] := rfl
@[simp] theorem odE59 : ctx.od 59 = od59 := rfl
theorem run59 {args : List AV} {cs : List Cont} (h : callOk 74 fp59 args cs = true) : callT ctx 59 args cs = denK ctx 59 (codeOf Tryd.f59) (entry 74 gl0 args cs fp59.sites) (finK Tryd.prog fp59 cs.length [.tmp 6]) :=
  call_run rfl rfl Tryd.func59 rfl (by kernel_rfl) Tryd.ntmps59 (by rw [Tryd.results59]) rfl rfl h
theorem ov59 {cl : CallFn} (hcl : ∀ g a c r, cl g a c = some r → callT ctx g a c = some r) {args : List AV} {cs : List Cont} (h : callOk 74 fp59 args cs = true) : Le (denK (ctx.over cl) 59 (codeOf Tryd.f59) (entry 74 gl0 args cs fp59.sites) (finK Tryd.prog fp59 cs.length [.tmp 6])) (callT ctx 59 args cs) :=
  fun r hr => by rw [run59 h]; exact denK_over hcl hr
@[simp] theorem keepE60 : ctx.keep 60 = keep60 := rfl
@[simp] theorem ghE60 : ctx.gh 60 = fun _ => [] := rfl
@[simp] theorem mdE60 : ctx.md 60 = md60 := rfl
@[simp] theorem fpE60 : ctx.fp 60 = fp60 := rfl
@[simp] theorem flE60 : ctx.fl 60 = fun _ => [] := rfl
@[simp] theorem odE60 : ctx.od 60 = od60 := rfl
theorem run60 {args : List AV} {cs : List Cont} (h : callOk 26 fp60 args cs = true) : callT ctx 60 args cs = denK ctx 60 (codeOf Tryd.f60) (entry 26 gl0 args cs fp60.sites) (finK Tryd.prog fp60 cs.length [.tmp 4]) :=
  call_run rfl rfl Tryd.func60 rfl (by kernel_rfl) Tryd.ntmps60 (by rw [Tryd.results60]) rfl rfl h
theorem ov60 {cl : CallFn} (hcl : ∀ g a c r, cl g a c = some r → callT ctx g a c = some r) {args : List AV} {cs : List Cont} (h : callOk 26 fp60 args cs = true) : Le (denK (ctx.over cl) 60 (codeOf Tryd.f60) (entry 26 gl0 args cs fp60.sites) (finK Tryd.prog fp60 cs.length [.tmp 4])) (callT ctx 60 args cs) :=
  fun r hr => by rw [run60 h]; exact denK_over hcl hr
@[simp] theorem keepE67 : ctx.keep 67 = keep67 := rfl
@[simp] theorem ghE67 : ctx.gh 67 = fun _ => [] := rfl
@[simp] theorem mdE67 : ctx.md 67 = md67 := rfl
@[simp] theorem fpE67 : ctx.fp 67 = fp67 := rfl
@[simp] theorem flE67 : ctx.fl 67 = fun _ => [] := rfl
@[simp] theorem odE67 : ctx.od 67 = od67 := rfl
@[simp] theorem orc_run67 {args : List AV} {cs : List Cont} : callT ctx 67 args cs = orcAns (liftO hpO) args cs := callT_orc rfl rfl
@[simp] theorem keepE68 : ctx.keep 68 = keep68 := rfl
@[simp] theorem ghE68 : ctx.gh 68 = fun _ => [] := rfl
@[simp] theorem mdE68 : ctx.md 68 = md68 := rfl
@[simp] theorem fpE68 : ctx.fp 68 = fp68 := rfl
@[simp] theorem flE68 : ctx.fl 68 = fun _ => [] := rfl
@[simp] theorem odE68 : ctx.od 68 = od68 := rfl
theorem run68 {args : List AV} {cs : List Cont} (h : callOk 8 fp68 args cs = true) : callT ctx 68 args cs = denK ctx 68 (codeOf Tryd.f68) (entry 8 gl0 args cs fp68.sites) (finK Tryd.prog fp68 cs.length [.tmp 4]) :=
  call_run rfl rfl Tryd.func68 rfl (by kernel_rfl) Tryd.ntmps68 (by rw [Tryd.results68]) rfl rfl h
theorem ov68 {cl : CallFn} (hcl : ∀ g a c r, cl g a c = some r → callT ctx g a c = some r) {args : List AV} {cs : List Cont} (h : callOk 8 fp68 args cs = true) : Le (denK (ctx.over cl) 68 (codeOf Tryd.f68) (entry 8 gl0 args cs fp68.sites) (finK Tryd.prog fp68 cs.length [.tmp 4])) (callT ctx 68 args cs) :=
  fun r hr => by rw [run68 h]; exact denK_over hcl hr
@[simp] theorem keepE69 : ctx.keep 69 = keep69 := rfl
@[simp] theorem ghE69 : ctx.gh 69 = fun _ => [] := rfl
@[simp] theorem mdE69 : ctx.md 69 = md69 := rfl
@[simp] theorem fpE69 : ctx.fp 69 = fp69 := rfl
@[simp] theorem flE69 : ctx.fl 69 = fun _ => [] := rfl
@[simp] theorem odE69 : ctx.od 69 = od69 := rfl
@[simp] theorem orc_run69 {args : List AV} {cs : List Cont} : callT ctx 69 args cs = orcAns (liftO idxO) args cs := callT_orc rfl rfl
@[simp] theorem keepE70 : ctx.keep 70 = keep70 := rfl
@[simp] theorem ghE70 : ctx.gh 70 = fun _ => [] := rfl
@[simp] theorem mdE70 : ctx.md 70 = md70 := rfl
@[simp] theorem fpE70 : ctx.fp 70 = fp70 := rfl
@[simp] theorem flE70 : ctx.fl 70 = fun _ => [] := rfl
@[simp] theorem odE70 : ctx.od 70 = od70 := rfl
theorem run70 {args : List AV} {cs : List Cont} (h : callOk 17 fp70 args cs = true) : callT ctx 70 args cs = denK ctx 70 (codeOf Tryd.f70) (entry 17 gl0 args cs fp70.sites) (finK Tryd.prog fp70 cs.length [.tmp 2]) :=
  call_run rfl rfl Tryd.func70 rfl (by kernel_rfl) Tryd.ntmps70 (by rw [Tryd.results70]) rfl rfl h
theorem ov70 {cl : CallFn} (hcl : ∀ g a c r, cl g a c = some r → callT ctx g a c = some r) {args : List AV} {cs : List Cont} (h : callOk 17 fp70 args cs = true) : Le (denK (ctx.over cl) 70 (codeOf Tryd.f70) (entry 17 gl0 args cs fp70.sites) (finK Tryd.prog fp70 cs.length [.tmp 2])) (callT ctx 70 args cs) :=
  fun r hr => by rw [run70 h]; exact denK_over hcl hr
@[simp] theorem keepE71 : ctx.keep 71 = keep71 := rfl
@[simp] theorem ghE71 : ctx.gh 71 = fun _ => [] := rfl
@[simp] theorem mdE71 : ctx.md 71 = md71 := rfl
@[simp] theorem fpE71 : ctx.fp 71 = fp71 := rfl
@[simp] theorem flE71 : ctx.fl 71 = fun _ => [] := rfl
@[simp] theorem odE71 : ctx.od 71 = od71 := rfl
theorem run71 {args : List AV} {cs : List Cont} (h : callOk 20 fp71 args cs = true) : callT ctx 71 args cs = denK ctx 71 (codeOf Tryd.f71) (entry 20 gl0 args cs fp71.sites) (finK Tryd.prog fp71 cs.length [.tmp 4]) :=
  call_run rfl rfl Tryd.func71 rfl (by kernel_rfl) Tryd.ntmps71 (by rw [Tryd.results71]) rfl rfl h
theorem ov71 {cl : CallFn} (hcl : ∀ g a c r, cl g a c = some r → callT ctx g a c = some r) {args : List AV} {cs : List Cont} (h : callOk 20 fp71 args cs = true) : Le (denK (ctx.over cl) 71 (codeOf Tryd.f71) (entry 20 gl0 args cs fp71.sites) (finK Tryd.prog fp71 cs.length [.tmp 4])) (callT ctx 71 args cs) :=
  fun r hr => by rw [run71 h]; exact denK_over hcl hr
@[simp] theorem keepE72 : ctx.keep 72 = keep72 := rfl
@[simp] theorem ghE72 : ctx.gh 72 = fun _ => [] := rfl
@[simp] theorem mdE72 : ctx.md 72 = md72 := rfl
@[simp] theorem fpE72 : ctx.fp 72 = fp72 := rfl
@[simp] theorem flE72 : ctx.fl 72 = fun _ => [] := rfl
@[simp] theorem odE72 : ctx.od 72 = od72 := rfl
theorem run72 {args : List AV} {cs : List Cont} (h : callOk 13 fp72 args cs = true) : callT ctx 72 args cs = denK ctx 72 (codeOf Tryd.f72) (entry 13 gl0 args cs fp72.sites) (finK Tryd.prog fp72 cs.length [.tmp 2]) :=
  call_run rfl rfl Tryd.func72 rfl (by kernel_rfl) Tryd.ntmps72 (by rw [Tryd.results72]) rfl rfl h
theorem ov72 {cl : CallFn} (hcl : ∀ g a c r, cl g a c = some r → callT ctx g a c = some r) {args : List AV} {cs : List Cont} (h : callOk 13 fp72 args cs = true) : Le (denK (ctx.over cl) 72 (codeOf Tryd.f72) (entry 13 gl0 args cs fp72.sites) (finK Tryd.prog fp72 cs.length [.tmp 2])) (callT ctx 72 args cs) :=
  fun r hr => by rw [run72 h]; exact denK_over hcl hr
@[simp] theorem keepE73 : ctx.keep 73 = keep73 := rfl
@[simp] theorem ghE73 : ctx.gh 73 = fun _ => [] := rfl
@[simp] theorem mdE73 : ctx.md 73 = md73 := rfl
@[simp] theorem fpE73 : ctx.fp 73 = fp73 := rfl
@[simp] theorem flE73 : ctx.fl 73 = fun _ => [] := rfl
@[simp] theorem odE73 : ctx.od 73 = od73 := rfl
theorem run73 {args : List AV} {cs : List Cont} (h : callOk 6 fp73 args cs = true) : callT ctx 73 args cs = denK ctx 73 (codeOf Tryd.f73) (entry 6 gl0 args cs fp73.sites) (finK Tryd.prog fp73 cs.length [.tmp 2]) :=
  call_run rfl rfl Tryd.func73 rfl (by kernel_rfl) Tryd.ntmps73 (by rw [Tryd.results73]) rfl rfl h
theorem ov73 {cl : CallFn} (hcl : ∀ g a c r, cl g a c = some r → callT ctx g a c = some r) {args : List AV} {cs : List Cont} (h : callOk 6 fp73 args cs = true) : Le (denK (ctx.over cl) 73 (codeOf Tryd.f73) (entry 6 gl0 args cs fp73.sites) (finK Tryd.prog fp73 cs.length [.tmp 2])) (callT ctx 73 args cs) :=
  fun r hr => by rw [run73 h]; exact denK_over hcl hr
@[simp] theorem keepE74 : ctx.keep 74 = keep74 := rfl
@[simp] theorem ghE74 : ctx.gh 74 = fun _ => [] := rfl
@[simp] theorem mdE74 : ctx.md 74 = md74 := rfl
@[simp] theorem fpE74 : ctx.fp 74 = fp74 := rfl
@[simp] theorem flE74 : ctx.fl 74 = fun _ => [] := rfl
@[simp] theorem odE74 : ctx.od 74 = od74 := rfl
theorem run74 {args : List AV} {cs : List Cont} (h : callOk 9 fp74 args cs = true) : callT ctx 74 args cs = denK ctx 74 (codeOf Tryd.f74) (entry 9 gl0 args cs fp74.sites) (finK Tryd.prog fp74 cs.length [.tmp 2]) :=
  call_run rfl rfl Tryd.func74 rfl (by kernel_rfl) Tryd.ntmps74 (by rw [Tryd.results74]) rfl rfl h
theorem ov74 {cl : CallFn} (hcl : ∀ g a c r, cl g a c = some r → callT ctx g a c = some r) {args : List AV} {cs : List Cont} (h : callOk 9 fp74 args cs = true) : Le (denK (ctx.over cl) 74 (codeOf Tryd.f74) (entry 9 gl0 args cs fp74.sites) (finK Tryd.prog fp74 cs.length [.tmp 2])) (callT ctx 74 args cs) :=
  fun r hr => by rw [run74 h]; exact denK_over hcl hr
@[simp] theorem keepE75 : ctx.keep 75 = keep75 := rfl
@[simp] theorem ghE75 : ctx.gh 75 = fun _ => [] := rfl
@[simp] theorem mdE75 : ctx.md 75 = md75 := rfl
@[simp] theorem fpE75 : ctx.fp 75 = fp75 := rfl
@[simp] theorem flE75 : ctx.fl 75 = fun _ => [] := rfl
@[simp] theorem odE75 : ctx.od 75 = od75 := rfl
theorem run75 {args : List AV} {cs : List Cont} (h : callOk 83 fp75 args cs = true) : callT ctx 75 args cs = denK ctx 75 (codeOf Tryd.f75) (entry 83 gl0 args cs fp75.sites) (finK Tryd.prog fp75 cs.length [.tmp 2, .tmp 3, .tmp 4]) :=
  call_run rfl rfl Tryd.func75 rfl (by kernel_rfl) Tryd.ntmps75 (by rw [Tryd.results75]) rfl rfl h
theorem ov75 {cl : CallFn} (hcl : ∀ g a c r, cl g a c = some r → callT ctx g a c = some r) {args : List AV} {cs : List Cont} (h : callOk 83 fp75 args cs = true) : Le (denK (ctx.over cl) 75 (codeOf Tryd.f75) (entry 83 gl0 args cs fp75.sites) (finK Tryd.prog fp75 cs.length [.tmp 2, .tmp 3, .tmp 4])) (callT ctx 75 args cs) :=
  fun r hr => by rw [run75 h]; exact denK_over hcl hr
@[simp] theorem keepE76 : ctx.keep 76 = keep76 := rfl
@[simp] theorem ghE76 : ctx.gh 76 = fun _ => [] := rfl
@[simp] theorem mdE76 : ctx.md 76 = md76 := rfl
@[simp] theorem fpE76 : ctx.fp 76 = fp76 := rfl
@[simp] theorem flE76 : ctx.fl 76 = fun _ => [] := rfl
@[simp] theorem odE76 : ctx.od 76 = od76 := rfl
theorem run76 {args : List AV} {cs : List Cont} (h : callOk 19 fp76 args cs = true) : callT ctx 76 args cs = denK ctx 76 (codeOf Tryd.f76) (entry 19 gl0 args cs fp76.sites) (finK Tryd.prog fp76 cs.length [.tmp 2]) :=
  call_run rfl rfl Tryd.func76 rfl (by kernel_rfl) Tryd.ntmps76 (by rw [Tryd.results76]) rfl rfl h
theorem ov76 {cl : CallFn} (hcl : ∀ g a c r, cl g a c = some r → callT ctx g a c = some r) {args : List AV} {cs : List Cont} (h : callOk 19 fp76 args cs = true) : Le (denK (ctx.over cl) 76 (codeOf Tryd.f76) (entry 19 gl0 args cs fp76.sites) (finK Tryd.prog fp76 cs.length [.tmp 2])) (callT ctx 76 args cs) :=
  fun r hr => by rw [run76 h]; exact denK_over hcl hr
@[simp] theorem keepE77 : ctx.keep 77 = keep77 := rfl
@[simp] theorem ghE77 : ctx.gh 77 = fun _ => [] := rfl
@[simp] theorem mdE77 : ctx.md 77 = md77 := rfl
@[simp] theorem fpE77 : ctx.fp 77 = fp77 := rfl
@[simp] theorem flE77 : ctx.fl 77 = fun _ => [] := rfl
@[simp] theorem odE77 : ctx.od 77 = od77 := rfl
theorem run77 {args : List AV} {cs : List Cont} (h : callOk 11 fp77 args cs = true) : callT ctx 77 args cs = denK ctx 77 (codeOf Tryd.f77) (entry 11 gl0 args cs fp77.sites) (finK Tryd.prog fp77 cs.length [.tmp 4]) :=
  call_run rfl rfl Tryd.func77 rfl (by kernel_rfl) Tryd.ntmps77 (by rw [Tryd.results77]) rfl rfl h
theorem ov77 {cl : CallFn} (hcl : ∀ g a c r, cl g a c = some r → callT ctx g a c = some r) {args : List AV} {cs : List Cont} (h : callOk 11 fp77 args cs = true) : Le (denK (ctx.over cl) 77 (codeOf Tryd.f77) (entry 11 gl0 args cs fp77.sites) (finK Tryd.prog fp77 cs.length [.tmp 4])) (callT ctx 77 args cs) :=
  fun r hr => by rw [run77 h]; exact denK_over hcl hr
@[simp] theorem keepE78 : ctx.keep 78 = keep78 := rfl
@[simp] theorem ghE78 : ctx.gh 78 = fun _ => [] := rfl
@[simp] theorem mdE78 : ctx.md 78 = md78 := rfl
@[simp] theorem fpE78 : ctx.fp 78 = fp78 := rfl
@[simp] theorem flE78 : ctx.fl 78 = fun _ => [] := rfl
@[simp] theorem odE78 : ctx.od 78 = od78 := rfl
theorem run78 {args : List AV} {cs : List Cont} (h : callOk 12 fp78 args cs = true) : callT ctx 78 args cs = denK ctx 78 (codeOf Tryd.f78) (entry 12 gl0 args cs fp78.sites) (finK Tryd.prog fp78 cs.length []) :=
  call_run rfl rfl Tryd.func78 rfl (by kernel_rfl) Tryd.ntmps78 (by rw [Tryd.results78]) rfl rfl h
theorem ov78 {cl : CallFn} (hcl : ∀ g a c r, cl g a c = some r → callT ctx g a c = some r) {args : List AV} {cs : List Cont} (h : callOk 12 fp78 args cs = true) : Le (denK (ctx.over cl) 78 (codeOf Tryd.f78) (entry 12 gl0 args cs fp78.sites) (finK Tryd.prog fp78 cs.length [])) (callT ctx 78 args cs) :=
  fun r hr => by rw [run78 h]; exact denK_over hcl hr
@[simp] theorem keepE79 : ctx.keep 79 = keep79 := rfl
@[simp] theorem ghE79 : ctx.gh 79 = fun _ => [] := rfl
@[simp] theorem mdE79 : ctx.md 79 = md79 := rfl
@[simp] theorem fpE79 : ctx.fp 79 = fp79 := rfl
@[simp] theorem flE79 : ctx.fl 79 = fun _ => [] := rfl
@[simp] theorem odE79 : ctx.od 79 = od79 := rfl
theorem run79 {args : List AV} {cs : List Cont} (h : callOk 13 fp79 args cs = true) : callT ctx 79 args cs = denK ctx 79 (codeOf Tryd.f79) (entry 13 gl0 args cs fp79.sites) (finK Tryd.prog fp79 cs.length [.cell 2 29]) :=
  call_run rfl rfl Tryd.func79 rfl (by kernel_rfl) Tryd.ntmps79 (by rw [Tryd.results79]) rfl rfl h
theorem ov79 {cl : CallFn} (hcl : ∀ g a c r, cl g a c = some r → callT ctx g a c = some r) {args : List AV} {cs : List Cont} (h : callOk 13 fp79 args cs = true) : Le (denK (ctx.over cl) 79 (codeOf Tryd.f79) (entry 13 gl0 args cs fp79.sites) (finK Tryd.prog fp79 cs.length [.cell 2 29])) (callT ctx 79 args cs) :=
  fun r hr => by rw [run79 h]; exact denK_over hcl hr
@[simp] theorem keepE80 : ctx.keep 80 = keep80 := rfl
@[simp] theorem ghE80 : ctx.gh 80 = fun _ => [] := rfl
@[simp] theorem mdE80 : ctx.md 80 = md80 := rfl
@[simp] theorem fpE80 : ctx.fp 80 = fp80 := rfl
@[simp] theorem flE80 : ctx.fl 80 = fun _ => [] := rfl
@[simp] theorem odE80 : ctx.od 80 = od80 := rfl
theorem run80 {args : List AV} {cs : List Cont} (h : callOk 17 fp80 args cs = true) : callT ctx 80 args cs = denK ctx 80 (codeOf Tryd.f80) (entry 17 gl0 args cs fp80.sites) (finK Tryd.prog fp80 cs.length [.cell 2 29]) :=
  call_run rfl rfl Tryd.func80 rfl (by kernel_rfl) Tryd.ntmps80 (by rw [Tryd.results80]) rfl rfl h
theorem ov80 {cl : CallFn} (hcl : ∀ g a c r, cl g a c = some r → callT ctx g a c = some r) {args : List AV} {cs : List Cont} (h : callOk 17 fp80 args cs = true) : Le (denK (ctx.over cl) 80 (codeOf Tryd.f80) (entry 17 gl0 args cs fp80.sites) (finK Tryd.prog fp80 cs.length [.cell 2 29])) (callT ctx 80 args cs) :=
  fun r hr => by rw [run80 h]; exact denK_over hcl hr
@[simp] theorem keepE81 : ctx.keep 81 = keep81 := rfl
@[simp] theorem ghE81 : ctx.gh 81 = fun _ => [] := rfl
@[simp] theorem mdE81 : ctx.md 81 = md81 := rfl
@[simp] theorem fpE81 : ctx.fp 81 = fp81 := rfl
@[simp] theorem flE81 : ctx.fl 81 = fun _ => [] := rfl
@[simp] theorem odE81 : ctx.od 81 = od81 := rfl
theorem run81 {args : List AV} {cs : List Cont} (h : callOk 94 fp81 args cs = true) : callT ctx 81 args cs = denK ctx 81 (codeOf Tryd.f81) (entry 94 gl0 args cs fp81.sites) (finK Tryd.prog fp81 cs.length []) :=
  call_run rfl rfl Tryd.func81 rfl (by kernel_rfl) Tryd.ntmps81 (by rw [Tryd.results81]) rfl rfl h
theorem ov81 {cl : CallFn} (hcl : ∀ g a c r, cl g a c = some r → callT ctx g a c = some r) {args : List AV} {cs : List Cont} (h : callOk 94 fp81 args cs = true) : Le (denK (ctx.over cl) 81 (codeOf Tryd.f81) (entry 94 gl0 args cs fp81.sites) (finK Tryd.prog fp81 cs.length [])) (callT ctx 81 args cs) :=
  fun r hr => by rw [run81 h]; exact denK_over hcl hr
@[simp] theorem keepE82 : ctx.keep 82 = keep82 := rfl
@[simp] theorem ghE82 : ctx.gh 82 = fun _ => [] := rfl
@[simp] theorem mdE82 : ctx.md 82 = md82 := rfl
@[simp] theorem fpE82 : ctx.fp 82 = fp82 := rfl
@[simp] theorem flE82 : ctx.fl 82 = fun _ => [] := rfl
@[simp] theorem odE82 : ctx.od 82 = od82 := rfl
theorem run82 {args : List AV} {cs : List Cont} (h : callOk 9 fp82 args cs = true) : callT ctx 82 args cs = denK ctx 82 (codeOf Tryd.f82) (entry 9 gl0 args cs fp82.sites) (finK Tryd.prog fp82 cs.length [.tmp 4]) :=
  call_run rfl rfl Tryd.func82 rfl (by kernel_rfl) Tryd.ntmps82 (by rw [Tryd.results82]) rfl rfl h
theorem ov82 {cl : CallFn} (hcl : ∀ g a c r, cl g a c = some r → callT ctx g a c = some r) {args : List AV} {cs : List Cont} (h : callOk 9 fp82 args cs = true) : Le (denK (ctx.over cl) 82 (codeOf Tryd.f82) (entry 9 gl0 args cs fp82.sites) (finK Tryd.prog fp82 cs.length [.tmp 4])) (callT ctx 82 args cs) :=
  fun r hr => by rw [run82 h]; exact denK_over hcl hr
@[simp] theorem keepE83 : ctx.keep 83 = keep83 := rfl
@[simp] theorem ghE83 : ctx.gh 83 = fun _ => [] := rfl
@[simp] theorem mdE83 : ctx.md 83 = md83 := rfl
@[simp] theorem fpE83 : ctx.fp 83 = fp83 := rfl
@[simp] theorem flE83 : ctx.fl 83 = fun _ => [] := rfl
@[simp] theorem odE83 : ctx.od 83 = od83 := rfl
theorem run83 {args : List AV} {cs : List Cont} (h : callOk 22 fp83 args cs = true) : callT ctx 83 args cs = denK ctx 83 (codeOf Tryd.f83) (entry 22 gl0 args cs fp83.sites) (finK Tryd.prog fp83 cs.length [.tmp 4]) :=
  call_run rfl rfl Tryd.func83 rfl (by kernel_rfl) Tryd.ntmps83 (by rw [Tryd.results83]) rfl rfl h
theorem ov83 {cl : CallFn} (hcl : ∀ g a c r, cl g a c = some r → callT ctx g a c = some r) {args : List AV} {cs : List Cont} (h : callOk 22 fp83 args cs = true) : Le (denK (ctx.over cl) 83 (codeOf Tryd.f83) (entry 22 gl0 args cs fp83.sites) (finK Tryd.prog fp83 cs.length [.tmp 4])) (callT ctx 83 args cs) :=
  fun r hr => by rw [run83 h]; exact denK_over hcl hr
@[simp] theorem keepE84 : ctx.keep 84 = keep84 := rfl
@[simp] theorem ghE84 : ctx.gh 84 = fun _ => [] := rfl
@[simp] theorem mdE84 : ctx.md 84 = md84 := rfl
@[simp] theorem fpE84 : ctx.fp 84 = fp84 := rfl
@[simp] theorem flE84 : ctx.fl 84 = fun _ => [] := rfl
@[simp] theorem odE84 : ctx.od 84 = od84 := rfl
theorem run84 {args : List AV} {cs : List Cont} (h : callOk 19 fp84 args cs = true) : callT ctx 84 args cs = denK ctx 84 (codeOf Tryd.f84) (entry 19 gl0 args cs fp84.sites) (finK Tryd.prog fp84 cs.length [.cell 2 40]) :=
  call_run rfl rfl Tryd.func84 rfl (by kernel_rfl) Tryd.ntmps84 (by rw [Tryd.results84]) rfl rfl h
theorem ov84 {cl : CallFn} (hcl : ∀ g a c r, cl g a c = some r → callT ctx g a c = some r) {args : List AV} {cs : List Cont} (h : callOk 19 fp84 args cs = true) : Le (denK (ctx.over cl) 84 (codeOf Tryd.f84) (entry 19 gl0 args cs fp84.sites) (finK Tryd.prog fp84 cs.length [.cell 2 40])) (callT ctx 84 args cs) :=
  fun r hr => by rw [run84 h]; exact denK_over hcl hr
@[simp] theorem keepE91 : ctx.keep 91 = keep91 := rfl
@[simp] theorem ghE91 : ctx.gh 91 = fun _ => [] := rfl
@[simp] theorem mdE91 : ctx.md 91 = md91 := rfl
@[simp] theorem fpE91 : ctx.fp 91 = fp91 := rfl
@[simp] theorem flE91 : ctx.fl 91 = fun _ => [] := rfl
@[simp] theorem odE91 : ctx.od 91 = od91 := rfl
theorem run91 {args : List AV} {cs : List Cont} (h : callOk 38 fp91 args cs = true) : callT ctx 91 args cs = denK ctx 91 (codeOf Tryd.f91) (entry 38 gl0 args cs fp91.sites) (finK Tryd.prog fp91 cs.length [.tmp 4]) :=
  call_run rfl rfl Tryd.func91 rfl (by kernel_rfl) Tryd.ntmps91 (by rw [Tryd.results91]) rfl rfl h
theorem ov91 {cl : CallFn} (hcl : ∀ g a c r, cl g a c = some r → callT ctx g a c = some r) {args : List AV} {cs : List Cont} (h : callOk 38 fp91 args cs = true) : Le (denK (ctx.over cl) 91 (codeOf Tryd.f91) (entry 38 gl0 args cs fp91.sites) (finK Tryd.prog fp91 cs.length [.tmp 4])) (callT ctx 91 args cs) :=
  fun r hr => by rw [run91 h]; exact denK_over hcl hr
@[simp] theorem keepE92 : ctx.keep 92 = keep92 := rfl
@[simp] theorem ghE92 : ctx.gh 92 = fun _ => [] := rfl
@[simp] theorem mdE92 : ctx.md 92 = md92 := rfl
@[simp] theorem fpE92 : ctx.fp 92 = fp92 := rfl
@[simp] theorem flE92 : ctx.fl 92 = fun _ => [] := rfl
@[simp] theorem odE92 : ctx.od 92 = od92 := rfl
theorem run92 {args : List AV} {cs : List Cont} (h : callOk 32 fp92 args cs = true) : callT ctx 92 args cs = denK ctx 92 (codeOf Tryd.f92) (entry 32 gl0 args cs fp92.sites) (finK Tryd.prog fp92 cs.length [.tmp 6]) :=
  call_run rfl rfl Tryd.func92 rfl (by kernel_rfl) Tryd.ntmps92 (by rw [Tryd.results92]) rfl rfl h
theorem ov92 {cl : CallFn} (hcl : ∀ g a c r, cl g a c = some r → callT ctx g a c = some r) {args : List AV} {cs : List Cont} (h : callOk 32 fp92 args cs = true) : Le (denK (ctx.over cl) 92 (codeOf Tryd.f92) (entry 32 gl0 args cs fp92.sites) (finK Tryd.prog fp92 cs.length [.tmp 6])) (callT ctx 92 args cs) :=
  fun r hr => by rw [run92 h]; exact denK_over hcl hr
@[simp] theorem keepE93 : ctx.keep 93 = keep93 := rfl
@[simp] theorem ghE93 : ctx.gh 93 = fun _ => [] := rfl
@[simp] theorem mdE93 : ctx.md 93 = md93 := rfl
@[simp] theorem fpE93 : ctx.fp 93 = fp93 := rfl
@[simp] theorem flE93 : ctx.fl 93 = fun _ => [] := rfl
@[simp] theorem odE93 : ctx.od 93 = od93 := rfl
theorem run93 {args : List AV} {cs : List Cont} (h : callOk 32 fp93 args cs = true) : callT ctx 93 args cs = denK ctx 93 (codeOf Tryd.f93) (entry 32 gl0 args cs fp93.sites) (finK Tryd.prog fp93 cs.length [.tmp 6]) :=
  call_run rfl rfl Tryd.func93 rfl (by kernel_rfl) Tryd.ntmps93 (by rw [Tryd.results93]) rfl rfl h
theorem ov93 {cl : CallFn} (hcl : ∀ g a c r, cl g a c = some r → callT ctx g a c = some r) {args : List AV} {cs : List Cont} (h : callOk 32 fp93 args cs = true) : Le (denK (ctx.over cl) 93 (codeOf Tryd.f93) (entry 32 gl0 args cs fp93.sites) (finK Tryd.prog fp93 cs.length [.tmp 6])) (callT ctx 93 args cs) :=
  fun r hr => by rw [run93 h]; exact denK_over hcl hr
@[simp] theorem keepE94 : ctx.keep 94 = keep94 := rfl
@[simp] theorem ghE94 : ctx.gh 94 = fun _ => [] := rfl
@[simp] theorem mdE94 : ctx.md 94 = md94 := rfl
@[simp] theorem fpE94 : ctx.fp 94 = fp94 := rfl
@[simp] theorem flE94 : ctx.fl 94 = fun _ => [] := rfl
@[simp] theorem odE94 : ctx.od 94 = od94 := rfl
theorem run94 {args : List AV} {cs : List Cont} (h : callOk 8 fp94 args cs = true) : callT ctx 94 args cs = denK ctx 94 (codeOf Tryd.f94) (entry 8 gl0 args cs fp94.sites) (finK Tryd.prog fp94 cs.length [.tmp 4]) :=
  call_run rfl rfl Tryd.func94 rfl (by kernel_rfl) Tryd.ntmps94 (by rw [Tryd.results94]) rfl rfl h
theorem ov94 {cl : CallFn} (hcl : ∀ g a c r, cl g a c = some r → callT ctx g a c = some r) {args : List AV} {cs : List Cont} (h : callOk 8 fp94 args cs = true) : Le (denK (ctx.over cl) 94 (codeOf Tryd.f94) (entry 8 gl0 args cs fp94.sites) (finK Tryd.prog fp94 cs.length [.tmp 4])) (callT ctx 94 args cs) :=
  fun r hr => by rw [run94 h]; exact denK_over hcl hr
@[simp] theorem keepE95 : ctx.keep 95 = keep95 := rfl
@[simp] theorem ghE95 : ctx.gh 95 = fun _ => [] := rfl
@[simp] theorem mdE95 : ctx.md 95 = md95 := rfl
@[simp] theorem fpE95 : ctx.fp 95 = fp95 := rfl
@[simp] theorem flE95 : ctx.fl 95 = fun _ => [] := rfl
@[simp] theorem odE95 : ctx.od 95 = od95 := rfl
theorem run95 {args : List AV} {cs : List Cont} (h : callOk 26 fp95 args cs = true) : callT ctx 95 args cs = denK ctx 95 (codeOf Tryd.f95) (entry 26 gl0 args cs fp95.sites) (finK Tryd.prog fp95 cs.length [.tmp 4]) :=
  call_run rfl rfl Tryd.func95 rfl (by kernel_rfl) Tryd.ntmps95 (by rw [Tryd.results95]) rfl rfl h
theorem ov95 {cl : CallFn} (hcl : ∀ g a c r, cl g a c = some r → callT ctx g a c = some r) {args : List AV} {cs : List Cont} (h : callOk 26 fp95 args cs = true) : Le (denK (ctx.over cl) 95 (codeOf Tryd.f95) (entry 26 gl0 args cs fp95.sites) (finK Tryd.prog fp95 cs.length [.tmp 4])) (callT ctx 95 args cs) :=
  fun r hr => by rw [run95 h]; exact denK_over hcl hr
@[simp] theorem keepE96 : ctx.keep 96 = keep96 := rfl
@[simp] theorem ghE96 : ctx.gh 96 = fun _ => [] := rfl
@[simp] theorem mdE96 : ctx.md 96 = md96 := rfl
@[simp] theorem fpE96 : ctx.fp 96 = fp96 := rfl
@[simp] theorem flE96 : ctx.fl 96 = fun _ => [] := rfl
@[simp] theorem odE96 : ctx.od 96 = od96 := rfl
theorem run96 {args : List AV} {cs : List Cont} (h : callOk 32 fp96 args cs = true) : callT ctx 96 args cs = denK ctx 96 (codeOf Tryd.f96) (entry 32 gl0 args cs fp96.sites) (finK Tryd.prog fp96 cs.length [.tmp 6]) :=
  call_run rfl rfl Tryd.func96 rfl (by kernel_rfl) Tryd.ntmps96 (by rw [Tryd.results96]) rfl rfl h
theorem ov96 {cl : CallFn} (hcl : ∀ g a c r, cl g a c = some r → callT ctx g a c = some r) {args : List AV} {cs : List Cont} (h : callOk 32 fp96 args cs = true) : Le (denK (ctx.over cl) 96 (codeOf Tryd.f96) (entry 32 gl0 args cs fp96.sites) (finK Tryd.prog fp96 cs.length [.tmp 6])) (callT ctx 96 args cs) :=
  fun r hr => by rw [run96 h]; exact denK_over hcl hr
@[simp] theorem keepE106 : ctx.keep 106 = keep106 := rfl
@[simp] theorem ghE106 : ctx.gh 106 = fun _ => [] := rfl
@[simp] theorem mdE106 : ctx.md 106 = md106 := rfl
@[simp] theorem fpE106 : ctx.fp 106 = fp106 := rfl
@[simp] theorem flE106 : ctx.fl 106 = fun _ => [] := rfl
@[simp] theorem odE106 : ctx.od 106 = od106 := rfl
theorem run106 {args : List AV} {cs : List Cont} (h : callOk 18 fp106 args cs = true) : callT ctx 106 args cs = denK ctx 106 (codeOf Tryd.f106) (entry 18 gl0 args cs fp106.sites) (finK Tryd.prog fp106 cs.length [.tmp 4]) :=
  call_run rfl rfl Tryd.func106 rfl (by kernel_rfl) Tryd.ntmps106 (by rw [Tryd.results106]) rfl rfl h
theorem ov106 {cl : CallFn} (hcl : ∀ g a c r, cl g a c = some r → callT ctx g a c = some r) {args : List AV} {cs : List Cont} (h : callOk 18 fp106 args cs = true) : Le (denK (ctx.over cl) 106 (codeOf Tryd.f106) (entry 18 gl0 args cs fp106.sites) (finK Tryd.prog fp106 cs.length [.tmp 4])) (callT ctx 106 args cs) :=
  fun r hr => by rw [run106 h]; exact denK_over hcl hr
@[simp] theorem keepE107 : ctx.keep 107 = keep107 := rfl
@[simp] theorem ghE107 : ctx.gh 107 = fun _ => [] := rfl
@[simp] theorem mdE107 : ctx.md 107 = md107 := rfl
@[simp] theorem fpE107 : ctx.fp 107 = fp107 := rfl
@[simp] theorem flE107 : ctx.fl 107 = fun _ => [] := rfl
@[simp] theorem odE107 : ctx.od 107 = od107 := rfl
@[simp] theorem orc_run107 {args : List AV} {cs : List Cont} : callT ctx 107 args cs = orcAns (liftO ibO) args cs := callT_orc rfl rfl
@[simp] theorem keepE108 : ctx.keep 108 = keep108 := rfl
@[simp] theorem ghE108 : ctx.gh 108 = fun _ => [] := rfl
@[simp] theorem mdE108 : ctx.md 108 = md108 := rfl
@[simp] theorem fpE108 : ctx.fp 108 = fp108 := rfl
@[simp] theorem flE108 : ctx.fl 108 = fun _ => [] := rfl
@[simp] theorem odE108 : ctx.od 108 = od108 := rfl
theorem run108 {args : List AV} {cs : List Cont} (h : callOk 143 fp108 args cs = true) : callT ctx 108 args cs = denK ctx 108 (codeOf Tryd.f108) (entry 143 gl0 args cs fp108.sites) (finK Tryd.prog fp108 cs.length [.tmp 4]) :=
  call_run rfl rfl Tryd.func108 rfl (by kernel_rfl) Tryd.ntmps108 (by rw [Tryd.results108]) rfl rfl h
theorem ov108 {cl : CallFn} (hcl : ∀ g a c r, cl g a c = some r → callT ctx g a c = some r) {args : List AV} {cs : List Cont} (h : callOk 143 fp108 args cs = true) : Le (denK (ctx.over cl) 108 (codeOf Tryd.f108) (entry 143 gl0 args cs fp108.sites) (finK Tryd.prog fp108 cs.length [.tmp 4])) (callT ctx 108 args cs) :=
  fun r hr => by rw [run108 h]; exact denK_over hcl hr
@[simp] theorem keepE109 : ctx.keep 109 = keep109 := rfl
@[simp] theorem ghE109 : ctx.gh 109 = fun _ => [] := rfl
@[simp] theorem mdE109 : ctx.md 109 = md109 := rfl
@[simp] theorem fpE109 : ctx.fp 109 = fp109 := rfl
@[simp] theorem flE109 : ctx.fl 109 = fun _ => [] := rfl
@[simp] theorem odE109 : ctx.od 109 = od109 := rfl
theorem run109 {args : List AV} {cs : List Cont} (h : callOk 9 fp109 args cs = true) : callT ctx 109 args cs = denK ctx 109 (codeOf Tryd.f109) (entry 9 gl0 args cs fp109.sites) (finK Tryd.prog fp109 cs.length [.tmp 4]) :=
  call_run rfl rfl Tryd.func109 rfl (by kernel_rfl) Tryd.ntmps109 (by rw [Tryd.results109]) rfl rfl h
theorem ov109 {cl : CallFn} (hcl : ∀ g a c r, cl g a c = some r → callT ctx g a c = some r) {args : List AV} {cs : List Cont} (h : callOk 9 fp109 args cs = true) : Le (denK (ctx.over cl) 109 (codeOf Tryd.f109) (entry 9 gl0 args cs fp109.sites) (finK Tryd.prog fp109 cs.length [.tmp 4])) (callT ctx 109 args cs) :=
  fun r hr => by rw [run109 h]; exact denK_over hcl hr
@[simp] theorem keepE110 : ctx.keep 110 = keep110 := rfl
@[simp] theorem ghE110 : ctx.gh 110 = fun _ => [] := rfl
@[simp] theorem mdE110 : ctx.md 110 = md110 := rfl
@[simp] theorem fpE110 : ctx.fp 110 = fp110 := rfl
@[simp] theorem flE110 : ctx.fl 110 = fun _ => [] := rfl
@[simp] theorem odE110 : ctx.od 110 = od110 := rfl
theorem run110 {args : List AV} {cs : List Cont} (h : callOk 106 fp110 args cs = true) : callT ctx 110 args cs = denK ctx 110 (codeOf Tryd.f110) (entry 106 gl0 args cs fp110.sites) (finK Tryd.prog fp110 cs.length [.tmp 2]) :=
  call_run rfl rfl Tryd.func110 rfl (by kernel_rfl) Tryd.ntmps110 (by rw [Tryd.results110]) rfl rfl h
theorem ov110 {cl : CallFn} (hcl : ∀ g a c r, cl g a c = some r → callT ctx g a c = some r) {args : List AV} {cs : List Cont} (h : callOk 106 fp110 args cs = true) : Le (denK (ctx.over cl) 110 (codeOf Tryd.f110) (entry 106 gl0 args cs fp110.sites) (finK Tryd.prog fp110 cs.length [.tmp 2])) (callT ctx 110 args cs) :=
  fun r hr => by rw [run110 h]; exact denK_over hcl hr
@[simp] theorem keepE111 : ctx.keep 111 = keep111 := rfl
@[simp] theorem ghE111 : ctx.gh 111 = fun _ => [] := rfl
@[simp] theorem mdE111 : ctx.md 111 = md111 := rfl
@[simp] theorem fpE111 : ctx.fp 111 = fp111 := rfl
@[simp] theorem flE111 : ctx.fl 111 = fun _ => [] := rfl
@[simp] theorem odE111 : ctx.od 111 = od111 := rfl
theorem run111 {args : List AV} {cs : List Cont} (h : callOk 8 fp111 args cs = true) : callT ctx 111 args cs = denK ctx 111 (codeOf Tryd.f111) (entry 8 gl0 args cs fp111.sites) (finK Tryd.prog fp111 cs.length [.tmp 3]) :=
  call_run rfl rfl Tryd.func111 rfl (by kernel_rfl) Tryd.ntmps111 (by rw [Tryd.results111]) rfl rfl h
theorem ov111 {cl : CallFn} (hcl : ∀ g a c r, cl g a c = some r → callT ctx g a c = some r) {args : List AV} {cs : List Cont} (h : callOk 8 fp111 args cs = true) : Le (denK (ctx.over cl) 111 (codeOf Tryd.f111) (entry 8 gl0 args cs fp111.sites) (finK Tryd.prog fp111 cs.length [.tmp 3])) (callT ctx 111 args cs) :=
  fun r hr => by rw [run111 h]; exact denK_over hcl hr
@[simp] theorem keepE112 : ctx.keep 112 = keep112 := rfl
@[simp] theorem ghE112 : ctx.gh 112 = fun _ => [] := rfl
@[simp] theorem mdE112 : ctx.md 112 = md112 := rfl
@[simp] theorem fpE112 : ctx.fp 112 = fp112 := rfl
@[simp] theorem flE112 : ctx.fl 112 = fun _ => [] := rfl
@[simp] theorem odE112 : ctx.od 112 = od112 := rfl
theorem run112 {args : List AV} {cs : List Cont} (h : callOk 20 fp112 args cs = true) : callT ctx 112 args cs = denK ctx 112 (codeOf Tryd.f112) (entry 20 gl0 args cs fp112.sites) (finK Tryd.prog fp112 cs.length [.tmp 2]) :=
  call_run rfl rfl Tryd.func112 rfl (by kernel_rfl) Tryd.ntmps112 (by rw [Tryd.results112]) rfl rfl h
theorem ov112 {cl : CallFn} (hcl : ∀ g a c r, cl g a c = some r → callT ctx g a c = some r) {args : List AV} {cs : List Cont} (h : callOk 20 fp112 args cs = true) : Le (denK (ctx.over cl) 112 (codeOf Tryd.f112) (entry 20 gl0 args cs fp112.sites) (finK Tryd.prog fp112 cs.length [.tmp 2])) (callT ctx 112 args cs) :=
  fun r hr => by rw [run112 h]; exact denK_over hcl hr
@[simp] theorem keepE113 : ctx.keep 113 = keep113 := rfl
@[simp] theorem ghE113 : ctx.gh 113 = fun _ => [] := rfl
@[simp] theorem mdE113 : ctx.md 113 = md113 := rfl
@[simp] theorem fpE113 : ctx.fp 113 = fp113 := rfl
@[simp] theorem flE113 : ctx.fl 113 = fun _ => [] := rfl
@[simp] theorem odE113 : ctx.od 113 = od113 := rfl
theorem run113 {args : List AV} {cs : List Cont} (h : callOk 36 fp113 args cs = true) : callT ctx 113 args cs = denK ctx 113 (codeOf Tryd.f113) (entry 36 gl0 args cs fp113.sites) (finK Tryd.prog fp113 cs.length [.cell 2 180]) :=
  call_run rfl rfl Tryd.func113 rfl (by kernel_rfl) Tryd.ntmps113 (by rw [Tryd.results113]) rfl rfl h
theorem ov113 {cl : CallFn} (hcl : ∀ g a c r, cl g a c = some r → callT ctx g a c = some r) {args : List AV} {cs : List Cont} (h : callOk 36 fp113 args cs = true) : Le (denK (ctx.over cl) 113 (codeOf Tryd.f113) (entry 36 gl0 args cs fp113.sites) (finK Tryd.prog fp113 cs.length [.cell 2 180])) (callT ctx 113 args cs) :=
  fun r hr => by rw [run113 h]; exact denK_over hcl hr
@[simp] theorem keepE114 : ctx.keep 114 = keep114 := rfl
@[simp] theorem ghE114 : ctx.gh 114 = fun _ => [] := rfl
@[simp] theorem mdE114 : ctx.md 114 = md114 := rfl
@[simp] theorem fpE114 : ctx.fp 114 = fp114 := rfl
@[simp] theorem flE114 : ctx.fl 114 = fun _ => [] := rfl
@[simp] theorem odE114 : ctx.od 114 = od114 := rfl
theorem run114 {args : List AV} {cs : List Cont} (h : callOk 12 fp114 args cs = true) : callT ctx 114 args cs = denK ctx 114 (codeOf Tryd.f114) (entry 12 gl0 args cs fp114.sites) (finK Tryd.prog fp114 cs.length [.tmp 2, .tmp 3]) :=
  call_run rfl rfl Tryd.func114 rfl (by kernel_rfl) Tryd.ntmps114 (by rw [Tryd.results114]) rfl rfl h
theorem ov114 {cl : CallFn} (hcl : ∀ g a c r, cl g a c = some r → callT ctx g a c = some r) {args : List AV} {cs : List Cont} (h : callOk 12 fp114 args cs = true) : Le (denK (ctx.over cl) 114 (codeOf Tryd.f114) (entry 12 gl0 args cs fp114.sites) (finK Tryd.prog fp114 cs.length [.tmp 2, .tmp 3])) (callT ctx 114 args cs) :=
  fun r hr => by rw [run114 h]; exact denK_over hcl hr
@[simp] theorem keepE115 : ctx.keep 115 = keep115 := rfl
@[simp] theorem ghE115 : ctx.gh 115 = fun _ => [] := rfl
@[simp] theorem mdE115 : ctx.md 115 = md115 := rfl
@[simp] theorem fpE115 : ctx.fp 115 = fp115 := rfl
@[simp] theorem flE115 : ctx.fl 115 = fun _ => [] := rfl
@[simp] theorem odE115 : ctx.od 115 = od115 := rfl
theorem run115 {args : List AV} {cs : List Cont} (h : callOk 19 fp115 args cs = true) : callT ctx 115 args cs = denK ctx 115 (codeOf Tryd.f115) (entry 19 gl0 args cs fp115.sites) (finK Tryd.prog fp115 cs.length [.tmp 4]) :=
  call_run rfl rfl Tryd.func115 rfl (by kernel_rfl) Tryd.ntmps115 (by rw [Tryd.results115]) rfl rfl h
theorem ov115 {cl : CallFn} (hcl : ∀ g a c r, cl g a c = some r → callT ctx g a c = some r) {args : List AV} {cs : List Cont} (h : callOk 19 fp115 args cs = true) : Le (denK (ctx.over cl) 115 (codeOf Tryd.f115) (entry 19 gl0 args cs fp115.sites) (finK Tryd.prog fp115 cs.length [.tmp 4])) (callT ctx 115 args cs) :=
  fun r hr => by rw [run115 h]; exact denK_over hcl hr
@[simp] theorem keepE116 : ctx.keep 116 = keep116 := rfl
@[simp] theorem ghE116 : ctx.gh 116 = fun _ => [] := rfl
@[simp] theorem mdE116 : ctx.md 116 = md116 := rfl
@[simp] theorem fpE116 : ctx.fp 116 = fp116 := rfl
@[simp] theorem flE116 : ctx.fl 116 = fun _ => [] := rfl
@[simp] theorem odE116 : ctx.od 116 = od116 := rfl
theorem run116 {args : List AV} {cs : List Cont} (h : callOk 17 fp116 args cs = true) : callT ctx 116 args cs = denK ctx 116 (codeOf Tryd.f116) (entry 17 gl0 args cs fp116.sites) (finK Tryd.prog fp116 cs.length []) :=
  call_run rfl rfl Tryd.func116 rfl (by kernel_rfl) Tryd.ntmps116 (by rw [Tryd.results116]) rfl rfl h
theorem ov116 {cl : CallFn} (hcl : ∀ g a c r, cl g a c = some r → callT ctx g a c = some r) {args : List AV} {cs : List Cont} (h : callOk 17 fp116 args cs = true) : Le (denK (ctx.over cl) 116 (codeOf Tryd.f116) (entry 17 gl0 args cs fp116.sites) (finK Tryd.prog fp116 cs.length [])) (callT ctx 116 args cs) :=
  fun r hr => by rw [run116 h]; exact denK_over hcl hr
@[simp] theorem keepE117 : ctx.keep 117 = keep117 := rfl
@[simp] theorem ghE117 : ctx.gh 117 = fun _ => [] := rfl
@[simp] theorem mdE117 : ctx.md 117 = md117 := rfl
@[simp] theorem fpE117 : ctx.fp 117 = fp117 := rfl
@[simp] theorem flE117 : ctx.fl 117 = fun _ => [] := rfl
@[simp] theorem odE117 : ctx.od 117 = od117 := rfl
theorem run117 {args : List AV} {cs : List Cont} (h : callOk 91 fp117 args cs = true) : callT ctx 117 args cs = denK ctx 117 (codeOf Tryd.f117) (entry 91 gl0 args cs fp117.sites) (finK Tryd.prog fp117 cs.length [.cell 2 40]) :=
  call_run rfl rfl Tryd.func117 rfl (by kernel_rfl) Tryd.ntmps117 (by rw [Tryd.results117]) rfl rfl h
theorem ov117 {cl : CallFn} (hcl : ∀ g a c r, cl g a c = some r → callT ctx g a c = some r) {args : List AV} {cs : List Cont} (h : callOk 91 fp117 args cs = true) : Le (denK (ctx.over cl) 117 (codeOf Tryd.f117) (entry 91 gl0 args cs fp117.sites) (finK Tryd.prog fp117 cs.length [.cell 2 40])) (callT ctx 117 args cs) :=
  fun r hr => by rw [run117 h]; exact denK_over hcl hr
@[simp] theorem keepE118 : ctx.keep 118 = keep118 := rfl
@[simp] theorem ghE118 : ctx.gh 118 = fun _ => [] := rfl
@[simp] theorem mdE118 : ctx.md 118 = md118 := rfl
@[simp] theorem fpE118 : ctx.fp 118 = fp118 := rfl
@[simp] theorem flE118 : ctx.fl 118 = fun _ => [] := rfl
@[simp] theorem odE118 : ctx.od 118 = od118 := rfl
theorem run118 {args : List AV} {cs : List Cont} (h : callOk 9 fp118 args cs = true) : callT ctx 118 args cs = denK ctx 118 (codeOf Tryd.f118) (entry 9 gl0 args cs fp118.sites) (finK Tryd.prog fp118 cs.length []) :=
  call_run rfl rfl Tryd.func118 rfl (by kernel_rfl) Tryd.ntmps118 (by rw [Tryd.results118]) rfl rfl h
theorem ov118 {cl : CallFn} (hcl : ∀ g a c r, cl g a c = some r → callT ctx g a c = some r) {args : List AV} {cs : List Cont} (h : callOk 9 fp118 args cs = true) : Le (denK (ctx.over cl) 118 (codeOf Tryd.f118) (entry 9 gl0 args cs fp118.sites) (finK Tryd.prog fp118 cs.length [])) (callT ctx 118 args cs) :=
  fun r hr => by rw [run118 h]; exact denK_over hcl hr
@[simp] theorem keepE123 : ctx.keep 123 = keep123 := rfl
@[simp] theorem ghE123 : ctx.gh 123 = fun _ => [] := rfl
@[simp] theorem mdE123 : ctx.md 123 = md123 := rfl
@[simp] theorem fpE123 : ctx.fp 123 = fp123 := rfl
@[simp] theorem flE123 : ctx.fl 123 = fun _ => [] := rfl
@[simp] theorem odE123 : ctx.od 123 = od123 := rfl
theorem run123 {args : List AV} {cs : List Cont} (h : callOk 26 fp123 args cs = true) : callT ctx 123 args cs = denK ctx 123 (codeOf Tryd.f123) (entry 26 gl0 args cs fp123.sites) (finK Tryd.prog fp123 cs.length [.tmp 4]) :=
  call_run rfl rfl Tryd.func123 rfl (by kernel_rfl) Tryd.ntmps123 (by rw [Tryd.results123]) rfl rfl h
theorem ov123 {cl : CallFn} (hcl : ∀ g a c r, cl g a c = some r → callT ctx g a c = some r) {args : List AV} {cs : List Cont} (h : callOk 26 fp123 args cs = true) : Le (denK (ctx.over cl) 123 (codeOf Tryd.f123) (entry 26 gl0 args cs fp123.sites) (finK Tryd.prog fp123 cs.length [.tmp 4])) (callT ctx 123 args cs) :=
  fun r hr => by rw [run123 h]; exact denK_over hcl hr
@[simp] theorem keepE137 : ctx.keep 137 = keep137 := rfl
@[simp] theorem ghE137 : ctx.gh 137 = fun _ => [] := rfl
@[simp] theorem mdE137 : ctx.md 137 = md137 := rfl
@[simp] theorem fpE137 : ctx.fp 137 = fp137 := rfl
@[simp] theorem flE137 : ctx.fl 137 = fun _ => [] := rfl
@[simp] theorem odE137 : ctx.od 137 = od137 := rfl
theorem run137 {args : List AV} {cs : List Cont} (h : callOk 6 fp137 args cs = true) : callT ctx 137 args cs = denK ctx 137 (codeOf Tryd.f137) (entry 6 gl0 args cs fp137.sites) (finK Tryd.prog fp137 cs.length [.tmp 2]) :=
  call_run rfl rfl Tryd.func137 rfl (by kernel_rfl) Tryd.ntmps137 (by rw [Tryd.results137]) rfl rfl h
theorem ov137 {cl : CallFn} (hcl : ∀ g a c r, cl g a c = some r → callT ctx g a c = some r) {args : List AV} {cs : List Cont} (h : callOk 6 fp137 args cs = true) : Le (denK (ctx.over cl) 137 (codeOf Tryd.f137) (entry 6 gl0 args cs fp137.sites) (finK Tryd.prog fp137 cs.length [.tmp 2])) (callT ctx 137 args cs) :=
  fun r hr => by rw [run137 h]; exact denK_over hcl hr
@[simp] theorem keepE138 : ctx.keep 138 = keep138 := rfl
@[simp] theorem ghE138 : ctx.gh 138 = fun _ => [] := rfl
@[simp] theorem mdE138 : ctx.md 138 = md138 := rfl
@[simp] theorem fpE138 : ctx.fp 138 = fp138 := rfl
@[simp] theorem flE138 : ctx.fl 138 = fun _ => [] := rfl
@[simp] theorem odE138 : ctx.od 138 = od138 := rfl
theorem run138 {args : List AV} {cs : List Cont} (h : callOk 81 fp138 args cs = true) : callT ctx 138 args cs = denK ctx 138 (codeOf Tryd.f138) (entry 81 gl0 args cs fp138.sites) (finK Tryd.prog fp138 cs.length [.tmp 4]) :=
  call_run rfl rfl Tryd.func138 rfl (by kernel_rfl) Tryd.ntmps138 (by rw [Tryd.results138]) rfl rfl h
theorem ov138 {cl : CallFn} (hcl : ∀ g a c r, cl g a c = some r → callT ctx g a c = some r) {args : List AV} {cs : List Cont} (h : callOk 81 fp138 args cs = true) : Le (denK (ctx.over cl) 138 (codeOf Tryd.f138) (entry 81 gl0 args cs fp138.sites) (finK Tryd.prog fp138 cs.length [.tmp 4])) (callT ctx 138 args cs) :=
  fun r hr => by rw [run138 h]; exact denK_over hcl hr
@[simp] theorem keepE139 : ctx.keep 139 = keep139 := rfl
@[simp] theorem ghE139 : ctx.gh 139 = fun _ => [] := rfl
@[simp] theorem mdE139 : ctx.md 139 = md139 := rfl
@[simp] theorem fpE139 : ctx.fp 139 = fp139 := rfl
@[simp] theorem flE139 : ctx.fl 139 = fun _ => [] := rfl
@[simp] theorem odE139 : ctx.od 139 = od139 := rfl
theorem run139 {args : List AV} {cs : List Cont} (h : callOk 19 fp139 args cs = true) : callT ctx 139 args cs = denK ctx 139 (codeOf Tryd.f139) (entry 19 gl0 args cs fp139.sites) (finK Tryd.prog fp139 cs.length [.tmp 4]) :=
  call_run rfl rfl Tryd.func139 rfl (by kernel_rfl) Tryd.ntmps139 (by rw [Tryd.results139]) rfl rfl h
theorem ov139 {cl : CallFn} (hcl : ∀ g a c r, cl g a c = some r → callT ctx g a c = some r) {args : List AV} {cs : List Cont} (h : callOk 19 fp139 args cs = true) : Le (denK (ctx.over cl) 139 (codeOf Tryd.f139) (entry 19 gl0 args cs fp139.sites) (finK Tryd.prog fp139 cs.length [.tmp 4])) (callT ctx 139 args cs) :=
  fun r hr => by rw [run139 h]; exact denK_over hcl hr
@[simp] theorem keepE140 : ctx.keep 140 = keep140 := rfl
@[simp] theorem ghE140 : ctx.gh 140 = fun _ => [] := rfl
@[simp] theorem mdE140 : ctx.md 140 = md140 := rfl
@[simp] theorem fpE140 : ctx.fp 140 = fp140 := rfl
@[simp] theorem flE140 : ctx.fl 140 = fun _ => [] := rfl
@[simp] theorem odE140 : ctx.od 140 = od140 := rfl
theorem run140 {args : List AV} {cs : List Cont} (h : callOk 19 fp140 args cs = true) : callT ctx 140 args cs = denK ctx 140 (codeOf Tryd.f140) (entry 19 gl0 args cs fp140.sites) (finK Tryd.prog fp140 cs.length [.tmp 2]) :=
  call_run rfl rfl Tryd.func140 rfl (by kernel_rfl) Tryd.ntmps140 (by rw [Tryd.results140]) rfl rfl h
theorem ov140 {cl : CallFn} (hcl : ∀ g a c r, cl g a c = some r → callT ctx g a c = some r) {args : List AV} {cs : List Cont} (h : callOk 19 fp140 args cs = true) : Le (denK (ctx.over cl) 140 (codeOf Tryd.f140) (entry 19 gl0 args cs fp140.sites) (finK Tryd.prog fp140 cs.length [.tmp 2])) (callT ctx 140 args cs) :=
  fun r hr => by rw [run140 h]; exact denK_over hcl hr
@[simp] theorem keepE141 : ctx.keep 141 = keep141 := rfl
@[simp] theorem ghE141 : ctx.gh 141 = fun _ => [] := rfl
@[simp] theorem mdE141 : ctx.md 141 = md141 := rfl
@[simp] theorem fpE141 : ctx.fp 141 = fp141 := rfl
@[simp] theorem flE141 : ctx.fl 141 = fun _ => [] := rfl
@[simp] theorem odE141 : ctx.od 141 = od141 := rfl
theorem run141 {args : List AV} {cs : List Cont} (h : callOk 10 fp141 args cs = true) : callT ctx 141 args cs = denK ctx 141 (codeOf Tryd.f141) (entry 10 gl0 args cs fp141.sites) (finK Tryd.prog fp141 cs.length [.tmp 2, .tmp 3]) :=
  call_run rfl rfl Tryd.func141 rfl (by kernel_rfl) Tryd.ntmps141 (by rw [Tryd.results141]) rfl rfl h
theorem ov141 {cl : CallFn} (hcl : ∀ g a c r, cl g a c = some r → callT ctx g a c = some r) {args : List AV} {cs : List Cont} (h : callOk 10 fp141 args cs = true) : Le (denK (ctx.over cl) 141 (codeOf Tryd.f141) (entry 10 gl0 args cs fp141.sites) (finK Tryd.prog fp141 cs.length [.tmp 2, .tmp 3])) (callT ctx 141 args cs) :=
  fun r hr => by rw [run141 h]; exact denK_over hcl hr
@[simp] theorem keepE142 : ctx.keep 142 = keep142 := rfl
@[simp] theorem ghE142 : ctx.gh 142 = fun _ => [] := rfl
@[simp] theorem mdE142 : ctx.md 142 = md142 := rfl
@[simp] theorem fpE142 : ctx.fp 142 = fp142 := rfl
@[simp] theorem flE142 : ctx.fl 142 = fun _ => [] := rfl
@[simp] theorem odE142 : ctx.od 142 = od142 := rfl
theorem run142 {args : List AV} {cs : List Cont} (h : callOk 51 fp142 args cs = true) : callT ctx 142 args cs = denK ctx 142 (codeOf Tryd.f142) (entry 51 gl0 args cs fp142.sites) (finK Tryd.prog fp142 cs.length [.cell 4 180]) :=
  call_run rfl rfl Tryd.func142 rfl (by kernel_rfl) Tryd.ntmps142 (by rw [Tryd.results142]) rfl rfl h
theorem ov142 {cl : CallFn} (hcl : ∀ g a c r, cl g a c = some r → callT ctx g a c = some r) {args : List AV} {cs : List Cont} (h : callOk 51 fp142 args cs = true) : Le (denK (ctx.over cl) 142 (codeOf Tryd.f142) (entry 51 gl0 args cs fp142.sites) (finK Tryd.prog fp142 cs.length [.cell 4 180])) (callT ctx 142 args cs) :=
  fun r hr => by rw [run142 h]; exact denK_over hcl hr
@[simp] theorem keepE143 : ctx.keep 143 = keep143 := rfl
@[simp] theorem ghE143 : ctx.gh 143 = fun _ => [] := rfl
@[simp] theorem mdE143 : ctx.md 143 = md143 := rfl
@[simp] theorem fpE143 : ctx.fp 143 = fp143 := rfl
@[simp] theorem flE143 : ctx.fl 143 = fun _ => [] := rfl
@[simp] theorem odE143 : ctx.od 143 = od143 := rfl
theorem run143 {args : List AV} {cs : List Cont} (h : callOk 16 fp143 args cs = true) : callT ctx 143 args cs = denK ctx 143 (codeOf Tryd.f143) (entry 16 gl0 args cs fp143.sites) (finK Tryd.prog fp143 cs.length [.tmp 2]) :=
  call_run rfl rfl Tryd.func143 rfl (by kernel_rfl) Tryd.ntmps143 (by rw [Tryd.results143]) rfl rfl h
theorem ov143 {cl : CallFn} (hcl : ∀ g a c r, cl g a c = some r → callT ctx g a c = some r) {args : List AV} {cs : List Cont} (h : callOk 16 fp143 args cs = true) : Le (denK (ctx.over cl) 143 (codeOf Tryd.f143) (entry 16 gl0 args cs fp143.sites) (finK Tryd.prog fp143 cs.length [.tmp 2])) (callT ctx 143 args cs) :=
  fun r hr => by rw [run143 h]; exact denK_over hcl hr
@[simp] theorem keepE144 : ctx.keep 144 = keep144 := rfl
@[simp] theorem ghE144 : ctx.gh 144 = fun _ => [] := rfl
@[simp] theorem mdE144 : ctx.md 144 = md144 := rfl
@[simp] theorem fpE144 : ctx.fp 144 = fp144 := rfl
@[simp] theorem flE144 : ctx.fl 144 = fun _ => [] := rfl
@[simp] theorem odE144 : ctx.od 144 = od144 := rfl
theorem run144 {args : List AV} {cs : List Cont} (h : callOk 12 fp144 args cs = true) : callT ctx 144 args cs = denK ctx 144 (codeOf Tryd.f144) (entry 12 gl0 args cs fp144.sites) (finK Tryd.prog fp144 cs.length [.tmp 2]) :=
  call_run rfl rfl Tryd.func144 rfl (by kernel_rfl) Tryd.ntmps144 (by rw [Tryd.results144]) rfl rfl h
theorem ov144 {cl : CallFn} (hcl : ∀ g a c r, cl g a c = some r → callT ctx g a c = some r) {args : List AV} {cs : List Cont} (h : callOk 12 fp144 args cs = true) : Le (denK (ctx.over cl) 144 (codeOf Tryd.f144) (entry 12 gl0 args cs fp144.sites) (finK Tryd.prog fp144 cs.length [.tmp 2])) (callT ctx 144 args cs) :=
  fun r hr => by rw [run144 h]; exact denK_over hcl hr
@[simp] theorem keepE145 : ctx.keep 145 = keep145 := rfl
@[simp] theorem ghE145 : ctx.gh 145 = gh145 := rfl
@[simp] theorem mdE145 : ctx.md 145 = md145 := rfl
@[simp] theorem fpE145 : ctx.fp 145 = fp145 := rfl
@[simp] theorem flE145 : ctx.fl 145 = fun _ => [] := rfl
@[simp] theorem odE145 : ctx.od 145 = od145 := rfl
theorem run145 {args : List AV} {cs : List Cont} (h : callOk 38 fp145 args cs = true) : callT ctx 145 args cs = denK ctx 145 (codeOf Tryd.f145) (entry 38 gl0 args cs fp145.sites) (finK Tryd.prog fp145 cs.length [.cell 2 40]) :=
  call_run rfl rfl Tryd.func145 rfl (by kernel_rfl) Tryd.ntmps145 (by rw [Tryd.results145]) rfl rfl h
theorem ov145 {cl : CallFn} (hcl : ∀ g a c r, cl g a c = some r → callT ctx g a c = some r) {args : List AV} {cs : List Cont} (h : callOk 38 fp145 args cs = true) : Le (denK (ctx.over cl) 145 (codeOf Tryd.f145) (entry 38 gl0 args cs fp145.sites) (finK Tryd.prog fp145 cs.length [.cell 2 40])) (callT ctx 145 args cs) :=
  fun r hr => by rw [run145 h]; exact denK_over hcl hr
@[simp] theorem keepE146 : ctx.keep 146 = keep146 := rfl
@[simp] theorem ghE146 : ctx.gh 146 = gh146 := rfl
@[simp] theorem mdE146 : ctx.md 146 = md146 := rfl
@[simp] theorem fpE146 : ctx.fp 146 = fp146 := rfl
@[simp] theorem flE146 : ctx.fl 146 = fun _ => [] := rfl
@[simp] theorem odE146 : ctx.od 146 = od146 := rfl
theorem run146 {args : List AV} {cs : List Cont} (h : callOk 56 fp146 args cs = true) : callT ctx 146 args cs = denK ctx 146 (codeOf Tryd.f146) (entry 56 gl0 args cs fp146.sites) (finK Tryd.prog fp146 cs.length [.cell 2 40]) :=
  call_run rfl rfl Tryd.func146 rfl (by kernel_rfl) Tryd.ntmps146 (by rw [Tryd.results146]) rfl rfl h
theorem ov146 {cl : CallFn} (hcl : ∀ g a c r, cl g a c = some r → callT ctx g a c = some r) {args : List AV} {cs : List Cont} (h : callOk 56 fp146 args cs = true) : Le (denK (ctx.over cl) 146 (codeOf Tryd.f146) (entry 56 gl0 args cs fp146.sites) (finK Tryd.prog fp146 cs.length [.cell 2 40])) (callT ctx 146 args cs) :=
  fun r hr => by rw [run146 h]; exact denK_over hcl hr
@[simp] theorem keepE147 : ctx.keep 147 = keep147 := rfl
@[simp] theorem ghE147 : ctx.gh 147 = fun _ => [] := rfl
@[simp] theorem mdE147 : ctx.md 147 = md147 := rfl
@[simp] theorem fpE147 : ctx.fp 147 = fp147 := rfl
@[simp] theorem flE147 : ctx.fl 147 = fun _ => [] := rfl
@[simp] theorem odE147 : ctx.od 147 = od147 := rfl
theorem run147 {args : List AV} {cs : List Cont} (h : callOk 45 fp147 args cs = true) : callT ctx 147 args cs = denK ctx 147 (codeOf Tryd.f147) (entry 45 gl0 args cs fp147.sites) (finK Tryd.prog fp147 cs.length [.cell 2 40]) :=
  call_run rfl rfl Tryd.func147 rfl (by kernel_rfl) Tryd.ntmps147 (by rw [Tryd.results147]) rfl rfl h
theorem ov147 {cl : CallFn} (hcl : ∀ g a c r, cl g a c = some r → callT ctx g a c = some r) {args : List AV} {cs : List Cont} (h : callOk 45 fp147 args cs = true) : Le (denK (ctx.over cl) 147 (codeOf Tryd.f147) (entry 45 gl0 args cs fp147.sites) (finK Tryd.prog fp147 cs.length [.cell 2 40])) (callT ctx 147 args cs) :=
  fun r hr => by rw [run147 h]; exact denK_over hcl hr
@[simp] theorem keepE148 : ctx.keep 148 = keep148 := rfl
@[simp] theorem ghE148 : ctx.gh 148 = fun _ => [] := rfl
@[simp] theorem mdE148 : ctx.md 148 = md148 := rfl
@[simp] theorem fpE148 : ctx.fp 148 = fp148 := rfl
@[simp] theorem flE148 : ctx.fl 148 = fun _ => [] := rfl
@[simp] theorem odE148 : ctx.od 148 = od148 := rfl
theorem run148 {args : List AV} {cs : List Cont} (h : callOk 5 fp148 args cs = true) : callT ctx 148 args cs = denK ctx 148 (codeOf Tryd.f148) (entry 5 gl0 args cs fp148.sites) (finK Tryd.prog fp148 cs.length [.cell 2 35]) :=
  call_run rfl rfl Tryd.func148 rfl (by kernel_rfl) Tryd.ntmps148 (by rw [Tryd.results148]) rfl rfl h
theorem ov148 {cl : CallFn} (hcl : ∀ g a c r, cl g a c = some r → callT ctx g a c = some r) {args : List AV} {cs : List Cont} (h : callOk 5 fp148 args cs = true) : Le (denK (ctx.over cl) 148 (codeOf Tryd.f148) (entry 5 gl0 args cs fp148.sites) (finK Tryd.prog fp148 cs.length [.cell 2 35])) (callT ctx 148 args cs) :=
  fun r hr => by rw [run148 h]; exact denK_over hcl hr
@[simp] theorem keepE149 : ctx.keep 149 = keep149 := rfl
@[simp] theorem ghE149 : ctx.gh 149 = gh149 := rfl
@[simp] theorem mdE149 : ctx.md 149 = md149 := rfl
@[simp] theorem fpE149 : ctx.fp 149 = fp149 := rfl
@[simp] theorem flE149 : ctx.fl 149 = fun _ => [] := rfl
@[simp] theorem odE149 : ctx.od 149 = od149 := rfl
theorem run149 {args : List AV} {cs : List Cont} (h : callOk 34 fp149 args cs = true) : callT ctx 149 args cs = denK ctx 149 (codeOf Tryd.f149) (entry 34 gl0 args cs fp149.sites) (finK Tryd.prog fp149 cs.length [.cell 4 40]) :=
  call_run rfl rfl Tryd.func149 rfl (by kernel_rfl) Tryd.ntmps149 (by rw [Tryd.results149]) rfl rfl h
theorem ov149 {cl : CallFn} (hcl : ∀ g a c r, cl g a c = some r → callT ctx g a c = some r) {args : List AV} {cs : List Cont} (h : callOk 34 fp149 args cs = true) : Le (denK (ctx.over cl) 149 (codeOf Tryd.f149) (entry 34 gl0 args cs fp149.sites) (finK Tryd.prog fp149 cs.length [.cell 4 40])) (callT ctx 149 args cs) :=
  fun r hr => by rw [run149 h]; exact denK_over hcl hr
@[simp] theorem keepE150 : ctx.keep 150 = keep150 := rfl
@[simp] theorem ghE150 : ctx.gh 150 = fun _ => [] := rfl
@[simp] theorem mdE150 : ctx.md 150 = md150 := rfl
@[simp] theorem fpE150 : ctx.fp 150 = fp150 := rfl
@[simp] theorem flE150 : ctx.fl 150 = fun _ => [] := rfl
@[simp] theorem odE150 : ctx.od 150 = od150 := rfl
theorem run150 {args : List AV} {cs : List Cont} (h : callOk 15 fp150 args cs = true) : callT ctx 150 args cs = denK ctx 150 (codeOf Tryd.f150) (entry 15 gl0 args cs fp150.sites) (finK Tryd.prog fp150 cs.length [.cell 2 35]) :=
  call_run rfl rfl Tryd.func150 rfl (by kernel_rfl) Tryd.ntmps150 (by rw [Tryd.results150]) rfl rfl h
theorem ov150 {cl : CallFn} (hcl : ∀ g a c r, cl g a c = some r → callT ctx g a c = some r) {args : List AV} {cs : List Cont} (h : callOk 15 fp150 args cs = true) : Le (denK (ctx.over cl) 150 (codeOf Tryd.f150) (entry 15 gl0 args cs fp150.sites) (finK Tryd.prog fp150 cs.length [.cell 2 35])) (callT ctx 150 args cs) :=
  fun r hr => by rw [run150 h]; exact denK_over hcl hr
@[simp] theorem keepE157 : ctx.keep 157 = keep157 := rfl
@[simp] theorem ghE157 : ctx.gh 157 = fun _ => [] := rfl
@[simp] theorem mdE157 : ctx.md 157 = md157 := rfl
@[simp] theorem fpE157 : ctx.fp 157 = fp157 := rfl
@[simp] theorem flE157 : ctx.fl 157 = fun _ => [] := rfl
@[simp] theorem odE157 : ctx.od 157 = od157 := rfl
theorem run157 {args : List AV} {cs : List Cont} (h : callOk 39 fp157 args cs = true) : callT ctx 157 args cs = denK ctx 157 (codeOf Tryd.f157) (entry 39 gl0 args cs fp157.sites) (finK Tryd.prog fp157 cs.length [.tmp 2, .tmp 3]) :=
  call_run rfl rfl Tryd.func157 rfl (by kernel_rfl) Tryd.ntmps157 (by rw [Tryd.results157]) rfl rfl h
theorem ov157 {cl : CallFn} (hcl : ∀ g a c r, cl g a c = some r → callT ctx g a c = some r) {args : List AV} {cs : List Cont} (h : callOk 39 fp157 args cs = true) : Le (denK (ctx.over cl) 157 (codeOf Tryd.f157) (entry 39 gl0 args cs fp157.sites) (finK Tryd.prog fp157 cs.length [.tmp 2, .tmp 3])) (callT ctx 157 args cs) :=
  fun r hr => by rw [run157 h]; exact denK_over hcl hr
@[simp] theorem keepE158 : ctx.keep 158 = keep158 := rfl
@[simp] theorem ghE158 : ctx.gh 158 = fun _ => [] := rfl
@[simp] theorem mdE158 : ctx.md 158 = md158 := rfl
@[simp] theorem fpE158 : ctx.fp 158 = fp158 := rfl
@[simp] theorem flE158 : ctx.fl 158 = fun _ => [] := rfl
@[simp] theorem odE158 : ctx.od 158 = od158 := rfl
theorem run158 {args : List AV} {cs : List Cont} (h : callOk 59 fp158 args cs = true) : callT ctx 158 args cs = denK ctx 158 (codeOf Tryd.f158) (entry 59 gl0 args cs fp158.sites) (finK Tryd.prog fp158 cs.length [.tmp 4]) :=
  call_run rfl rfl Tryd.func158 rfl (by kernel_rfl) Tryd.ntmps158 (by rw [Tryd.results158]) rfl rfl h
theorem ov158 {cl : CallFn} (hcl : ∀ g a c r, cl g a c = some r → callT ctx g a c = some r) {args : List AV} {cs : List Cont} (h : callOk 59 fp158 args cs = true) : Le (denK (ctx.over cl) 158 (codeOf Tryd.f158) (entry 59 gl0 args cs fp158.sites) (finK Tryd.prog fp158 cs.length [.tmp 4])) (callT ctx 158 args cs) :=
  fun r hr => by rw [run158 h]; exact denK_over hcl hr
@[simp] theorem keepE159 : ctx.keep 159 = keep159 := rfl
@[simp] theorem ghE159 : ctx.gh 159 = fun _ => [] := rfl
@[simp] theorem mdE159 : ctx.md 159 = md159 := rfl
@[simp] theorem fpE159 : ctx.fp 159 = fp159 := rfl
@[simp] theorem flE159 : ctx.fl 159 = fun _ => [] := rfl
@[simp] theorem odE159 : ctx.od 159 = od159 := rfl
theorem run159 {args : List AV} {cs : List Cont} (h : callOk 23 fp159 args cs = true) : callT ctx 159 args cs = denK ctx 159 (codeOf Tryd.f159) (entry 23 gl0 args cs fp159.sites) (finK Tryd.prog fp159 cs.length [.tmp 0]) :=
  call_run rfl rfl Tryd.func159 rfl (by kernel_rfl) Tryd.ntmps159 (by rw [Tryd.results159]) rfl rfl h
theorem ov159 {cl : CallFn} (hcl : ∀ g a c r, cl g a c = some r → callT ctx g a c = some r) {args : List AV} {cs : List Cont} (h : callOk 23 fp159 args cs = true) : Le (denK (ctx.over cl) 159 (codeOf Tryd.f159) (entry 23 gl0 args cs fp159.sites) (finK Tryd.prog fp159 cs.length [.tmp 0])) (callT ctx 159 args cs) :=
  fun r hr => by rw [run159 h]; exact denK_over hcl hr
@[simp] theorem keepE160 : ctx.keep 160 = keep160 := rfl
@[simp] theorem ghE160 : ctx.gh 160 = fun _ => [] := rfl
@[simp] theorem mdE160 : ctx.md 160 = md160 := rfl
@[simp] theorem fpE160 : ctx.fp 160 = fp160 := rfl
@[simp] theorem flE160 : ctx.fl 160 = fun _ => [] := rfl
@[simp] theorem odE160 : ctx.od 160 = od160 := rfl
theorem run160 {args : List AV} {cs : List Cont} (h : callOk 19 fp160 args cs = true) : callT ctx 160 args cs = denK ctx 160 (codeOf Tryd.f160) (entry 19 gl0 args cs fp160.sites) (finK Tryd.prog fp160 cs.length [.tmp 4]) :=
  call_run rfl rfl Tryd.func160 rfl (by kernel_rfl) Tryd.ntmps160 (by rw [Tryd.results160]) rfl rfl h
theorem ov160 {cl : CallFn} (hcl : ∀ g a c r, cl g a c = some r → callT ctx g a c = some r) {args : List AV} {cs : List Cont} (h : callOk 19 fp160 args cs = true) : Le (denK (ctx.over cl) 160 (codeOf Tryd.f160) (entry 19 gl0 args cs fp160.sites) (finK Tryd.prog fp160 cs.length [.tmp 4])) (callT ctx 160 args cs) :=
  fun r hr => by rw [run160 h]; exact denK_over hcl hr
@[simp] theorem keepE161 : ctx.keep 161 = keep161 := rfl
@[simp] theorem ghE161 : ctx.gh 161 = fun _ => [] := rfl
@[simp] theorem mdE161 : ctx.md 161 = md161 := rfl
@[simp] theorem fpE161 : ctx.fp 161 = fp161 := rfl
@[simp] theorem flE161 : ctx.fl 161 = fun _ => [] := rfl
@[simp] theorem odE161 : ctx.od 161 = od161 := rfl
theorem run161 {args : List AV} {cs : List Cont} (h : callOk 8 fp161 args cs = true) : callT ctx 161 args cs = denK ctx 161 (codeOf Tryd.f161) (entry 8 gl0 args cs fp161.sites) (finK Tryd.prog fp161 cs.length [.tmp 3]) :=
  call_run rfl rfl Tryd.func161 rfl (by kernel_rfl) Tryd.ntmps161 (by rw [Tryd.results161]) rfl rfl h
theorem ov161 {cl : CallFn} (hcl : ∀ g a c r, cl g a c = some r → callT ctx g a c = some r) {args : List AV} {cs : List Cont} (h : callOk 8 fp161 args cs = true) : Le (denK (ctx.over cl) 161 (codeOf Tryd.f161) (entry 8 gl0 args cs fp161.sites) (finK Tryd.prog fp161 cs.length [.tmp 3])) (callT ctx 161 args cs) :=
  fun r hr => by rw [run161 h]; exact denK_over hcl hr
@[simp] theorem keepE162 : ctx.keep 162 = keep162 := rfl
@[simp] theorem ghE162 : ctx.gh 162 = fun _ => [] := rfl
@[simp] theorem mdE162 : ctx.md 162 = md162 := rfl
@[simp] theorem fpE162 : ctx.fp 162 = fp162 := rfl
@[simp] theorem flE162 : ctx.fl 162 = fun _ => [] := rfl
@[simp] theorem odE162 : ctx.od 162 = od162 := rfl
theorem run162 {args : List AV} {cs : List Cont} (h : callOk 11 fp162 args cs = true) : callT ctx 162 args cs = denK ctx 162 (codeOf Tryd.f162) (entry 11 gl0 args cs fp162.sites) (finK Tryd.prog fp162 cs.length [.tmp 2]) :=
  call_run rfl rfl Tryd.func162 rfl (by kernel_rfl) Tryd.ntmps162 (by rw [Tryd.results162]) rfl rfl h
theorem ov162 {cl : CallFn} (hcl : ∀ g a c r, cl g a c = some r → callT ctx g a c = some r) {args : List AV} {cs : List Cont} (h : callOk 11 fp162 args cs = true) : Le (denK (ctx.over cl) 162 (codeOf Tryd.f162) (entry 11 gl0 args cs fp162.sites) (finK Tryd.prog fp162 cs.length [.tmp 2])) (callT ctx 162 args cs) :=
  fun r hr => by rw [run162 h]; exact denK_over hcl hr
@[simp] theorem keepE163 : ctx.keep 163 = keep163 := rfl
@[simp] theorem ghE163 : ctx.gh 163 = fun _ => [] := rfl
@[simp] theorem mdE163 : ctx.md 163 = md163 := rfl
@[simp] theorem fpE163 : ctx.fp 163 = fp163 := rfl
@[simp] theorem flE163 : ctx.fl 163 = fun _ => [] := rfl
@[simp] theorem odE163 : ctx.od 163 = od163 := rfl
theorem run163 {args : List AV} {cs : List Cont} (h : callOk 24 fp163 args cs = true) : callT ctx 163 args cs = denK ctx 163 (codeOf Tryd.f163) (entry 24 gl0 args cs fp163.sites) (finK Tryd.prog fp163 cs.length [.tmp 2]) :=
  call_run rfl rfl Tryd.func163 rfl (by kernel_rfl) Tryd.ntmps163 (by rw [Tryd.results163]) rfl rfl h
theorem ov163 {cl : CallFn} (hcl : ∀ g a c r, cl g a c = some r → callT ctx g a c = some r) {args : List AV} {cs : List Cont} (h : callOk 24 fp163 args cs = true) : Le (denK (ctx.over cl) 163 (codeOf Tryd.f163) (entry 24 gl0 args cs fp163.sites) (finK Tryd.prog fp163 cs.length [.tmp 2])) (callT ctx 163 args cs) :=
  fun r hr => by rw [run163 h]; exact denK_over hcl hr
@[simp] theorem keepE164 : ctx.keep 164 = keep164 := rfl
@[simp] theorem ghE164 : ctx.gh 164 = fun _ => [] := rfl
@[simp] theorem mdE164 : ctx.md 164 = md164 := rfl
@[simp] theorem fpE164 : ctx.fp 164 = fp164 := rfl
@[simp] theorem flE164 : ctx.fl 164 = fun _ => [] := rfl
@[simp] theorem odE164 : ctx.od 164 = od164 := rfl
theorem run164 {args : List AV} {cs : List Cont} (h : callOk 43 fp164 args cs = true) : callT ctx 164 args cs = denK ctx 164 (codeOf Tryd.f164) (entry 43 gl0 args cs fp164.sites) (finK Tryd.prog fp164 cs.length [.cell 4 35]) :=
  call_run rfl rfl Tryd.func164 rfl (by kernel_rfl) Tryd.ntmps164 (by rw [Tryd.results164]) rfl rfl h
theorem ov164 {cl : CallFn} (hcl : ∀ g a c r, cl g a c = some r → callT ctx g a c = some r) {args : List AV} {cs : List Cont} (h : callOk 43 fp164 args cs = true) : Le (denK (ctx.over cl) 164 (codeOf Tryd.f164) (entry 43 gl0 args cs fp164.sites) (finK Tryd.prog fp164 cs.length [.cell 4 35])) (callT ctx 164 args cs) :=
  fun r hr => by rw [run164 h]; exact denK_over hcl hr
@[simp] theorem keepE172 : ctx.keep 172 = keep172 := rfl
@[simp] theorem ghE172 : ctx.gh 172 = fun _ => [] := rfl
@[simp] theorem mdE172 : ctx.md 172 = md172 := rfl
@[simp] theorem fpE172 : ctx.fp 172 = fp172 := rfl
@[simp] theorem flE172 : ctx.fl 172 = fun _ => [] := rfl
@[simp] theorem odE172 : ctx.od 172 = od172 := rfl
theorem run172 {args : List AV} {cs : List Cont} (h : callOk 114 fp172 args cs = true) : callT ctx 172 args cs = denK ctx 172 (codeOf Tryd.f172) (entry 114 gl0 args cs fp172.sites) (finK Tryd.prog fp172 cs.length [.tmp 4]) :=
  call_run rfl rfl Tryd.func172 rfl (by kernel_rfl) Tryd.ntmps172 (by rw [Tryd.results172]) rfl rfl h
theorem ov172 {cl : CallFn} (hcl : ∀ g a c r, cl g a c = some r → callT ctx g a c = some r) {args : List AV} {cs : List Cont} (h : callOk 114 fp172 args cs = true) : Le (denK (ctx.over cl) 172 (codeOf Tryd.f172) (entry 114 gl0 args cs fp172.sites) (finK Tryd.prog fp172 cs.length [.tmp 4])) (callT ctx 172 args cs) :=
  fun r hr => by rw [run172 h]; exact denK_over hcl hr
@[simp] theorem keepE173 : ctx.keep 173 = keep173 := rfl
@[simp] theorem ghE173 : ctx.gh 173 = fun _ => [] := rfl
@[simp] theorem mdE173 : ctx.md 173 = md173 := rfl
@[simp] theorem fpE173 : ctx.fp 173 = fp173 := rfl
@[simp] theorem flE173 : ctx.fl 173 = fun _ => [] := rfl
@[simp] theorem odE173 : ctx.od 173 = od173 := rfl
theorem run173 {args : List AV} {cs : List Cont} (h : callOk 99 fp173 args cs = true) : callT ctx 173 args cs = denK ctx 173 (codeOf Tryd.f173) (entry 99 gl0 args cs fp173.sites) (finK Tryd.prog fp173 cs.length [.tmp 4]) :=
  call_run rfl rfl Tryd.func173 rfl (by kernel_rfl) Tryd.ntmps173 (by rw [Tryd.results173]) rfl rfl h
theorem ov173 {cl : CallFn} (hcl : ∀ g a c r, cl g a c = some r → callT ctx g a c = some r) {args : List AV} {cs : List Cont} (h : callOk 99 fp173 args cs = true) : Le (denK (ctx.over cl) 173 (codeOf Tryd.f173) (entry 99 gl0 args cs fp173.sites) (finK Tryd.prog fp173 cs.length [.tmp 4])) (callT ctx 173 args cs) :=
  fun r hr => by rw [run173 h]; exact denK_over hcl hr
@[simp] theorem keepE174 : ctx.keep 174 = keep174 := rfl
@[simp] theorem ghE174 : ctx.gh 174 = fun _ => [] := rfl
@[simp] theorem mdE174 : ctx.md 174 = md174 := rfl
@[simp] theorem fpE174 : ctx.fp 174 = fp174 := rfl
@[simp] theorem flE174 : ctx.fl 174 = fun _ => [] := rfl
@[simp] theorem odE174 : ctx.od 174 = od174 := rfl
theorem run174 {args : List AV} {cs : List Cont} (h : callOk 8 fp174 args cs = true) : callT ctx 174 args cs = denK ctx 174 (codeOf Tryd.f174) (entry 8 gl0 args cs fp174.sites) (finK Tryd.prog fp174 cs.length [.tmp 0]) :=
  call_run rfl rfl Tryd.func174 rfl (by kernel_rfl) Tryd.ntmps174 (by rw [Tryd.results174]) rfl rfl h
theorem ov174 {cl : CallFn} (hcl : ∀ g a c r, cl g a c = some r → callT ctx g a c = some r) {args : List AV} {cs : List Cont} (h : callOk 8 fp174 args cs = true) : Le (denK (ctx.over cl) 174 (codeOf Tryd.f174) (entry 8 gl0 args cs fp174.sites) (finK Tryd.prog fp174 cs.length [.tmp 0])) (callT ctx 174 args cs) :=
  fun r hr => by rw [run174 h]; exact denK_over hcl hr
@[simp] theorem keepE175 : ctx.keep 175 = keep175 := rfl
@[simp] theorem ghE175 : ctx.gh 175 = fun _ => [] := rfl
@[simp] theorem mdE175 : ctx.md 175 = md175 := rfl
@[simp] theorem fpE175 : ctx.fp 175 = fp175 := rfl
@[simp] theorem flE175 : ctx.fl 175 = fun _ => [] := rfl
@[simp] theorem odE175 : ctx.od 175 = od175 := rfl
theorem run175 {args : List AV} {cs : List Cont} (h : callOk 30 fp175 args cs = true) : callT ctx 175 args cs = denK ctx 175 (codeOf Tryd.f175) (entry 30 gl0 args cs fp175.sites) (finK Tryd.prog fp175 cs.length [.cell 2 35]) :=
  call_run rfl rfl Tryd.func175 rfl (by kernel_rfl) Tryd.ntmps175 (by rw [Tryd.results175]) rfl rfl h
theorem ov175 {cl : CallFn} (hcl : ∀ g a c r, cl g a c = some r → callT ctx g a c = some r) {args : List AV} {cs : List Cont} (h : callOk 30 fp175 args cs = true) : Le (denK (ctx.over cl) 175 (codeOf Tryd.f175) (entry 30 gl0 args cs fp175.sites) (finK Tryd.prog fp175 cs.length [.cell 2 35])) (callT ctx 175 args cs) :=
  fun r hr => by rw [run175 h]; exact denK_over hcl hr
@[simp] theorem keepE176 : ctx.keep 176 = keep176 := rfl
@[simp] theorem ghE176 : ctx.gh 176 = fun _ => [] := rfl
@[simp] theorem mdE176 : ctx.md 176 = md176 := rfl
@[simp] theorem fpE176 : ctx.fp 176 = fp176 := rfl
@[simp] theorem flE176 : ctx.fl 176 = fun _ => [] := rfl
@[simp] theorem odE176 : ctx.od 176 = od176 := rfl
theorem run176 {args : List AV} {cs : List Cont} (h : callOk 9 fp176 args cs = true) : callT ctx 176 args cs = denK ctx 176 (codeOf Tryd.f176) (entry 9 gl0 args cs fp176.sites) (finK Tryd.prog fp176 cs.length [.tmp 2]) :=
  call_run rfl rfl Tryd.func176 rfl (by kernel_rfl) Tryd.ntmps176 (by rw [Tryd.results176]) rfl rfl h
theorem ov176 {cl : CallFn} (hcl : ∀ g a c r, cl g a c = some r → callT ctx g a c = some r) {args : List AV} {cs : List Cont} (h : callOk 9 fp176 args cs = true) : Le (denK (ctx.over cl) 176 (codeOf Tryd.f176) (entry 9 gl0 args cs fp176.sites) (finK Tryd.prog fp176 cs.length [.tmp 2])) (callT ctx 176 args cs) :=
  fun r hr => by rw [run176 h]; exact denK_over hcl hr
@[simp] theorem keepE181 : ctx.keep 181 = keep181 := rfl
@[simp] theorem ghE181 : ctx.gh 181 = fun _ => [] := rfl
@[simp] theorem mdE181 : ctx.md 181 = md181 := rfl
@[simp] theorem fpE181 : ctx.fp 181 = fp181 := rfl
@[simp] theorem flE181 : ctx.fl 181 = fun _ => [] := rfl
@[simp] theorem odE181 : ctx.od 181 = od181 := rfl
theorem run181 {args : List AV} {cs : List Cont} (h : callOk 72 fp181 args cs = true) : callT ctx 181 args cs = denK ctx 181 (codeOf Tryd.f181) (entry 72 gl0 args cs fp181.sites) (finK Tryd.prog fp181 cs.length [.cell 2 35]) :=
  call_run rfl rfl Tryd.func181 rfl (by kernel_rfl) Tryd.ntmps181 (by rw [Tryd.results181]) rfl rfl h
theorem ov181 {cl : CallFn} (hcl : ∀ g a c r, cl g a c = some r → callT ctx g a c = some r) {args : List AV} {cs : List Cont} (h : callOk 72 fp181 args cs = true) : Le (denK (ctx.over cl) 181 (codeOf Tryd.f181) (entry 72 gl0 args cs fp181.sites) (finK Tryd.prog fp181 cs.length [.cell 2 35])) (callT ctx 181 args cs) :=
  fun r hr => by rw [run181 h]; exact denK_over hcl hr
end Go.Am
end
section
namespace Go.Am
open Go
@[simp] theorem range_2 : List.range 2 = [0, 1] := rfl
@[simp] theorem range_3 : List.range 3 = [0, 1, 2] := rfl
@[simp] theorem range_4 : List.range 4 = [0, 1, 2, 3] := rfl
@[simp] theorem range_5 : List.range 5 = [0, 1, 2, 3, 4] := rfl
@[simp] theorem range_6 : List.range 6 = [0, 1, 2, 3, 4, 5] := rfl
@[simp] theorem int_beq (a b : Int) : (a == b) = decide (a = b) := by by_cases h : a = b <;> simp [h]
def I64 (n : Int) : Prop := -9223372036854775808 ≤ n ∧ n ≤ 9223372036854775807
theorem wrap_id {n : Int} (h : I64 n) : IntKind.i64.wrap n = n := IntWalk.i64_in _ (by unfold I64 at h; omega)
end Go.Am
end

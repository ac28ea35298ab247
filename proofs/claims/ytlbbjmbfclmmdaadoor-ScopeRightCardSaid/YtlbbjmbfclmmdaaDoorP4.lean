/-
  Texts of one proof, one behind the other.
-/
import Derived.Test.YtlbbjmbfclmmdaaDoorP3
import Derived.Test.YtlbbjmbfclmmdaaDoorChecked
import Derived.Lib.ItoaNum
import Derived.Lib.ItoaLen
import Derived.ProofKit
import Derived.ChangeArms
set_option linter.all false
section
namespace Go.Am
open Go Go.Proofs
set_option maxRecDepth 10000

/- 2 gosem.cut.init -/
@[simp] def keep2 : Nat → List Nat
  | 0 => []
  | _ => []
@[simp] def md2 : Nat → Bool
  | _ => false
@[simp] def fp2 : FPol := { inpl := [], exp := false, sites := [], mut_ := [], split := false }
/- 3 servitor servitorlaw35.ScopeRight -/
@[simp] def keep3 : Nat → List Nat
  | 0 => [1, 2]
  | 1 => [1, 2, 12]
  | 2 => [4]
  | 3 => [1, 2, 15]
  | 4 => [4]
  | 5 => [1, 2, 5, 6]
  | 6 => [1, 2, 5, 6, 34]
  | 7 => [4]
  | 8 => [1, 2, 5, 6, 7]
  | 9 => [1, 2, 5, 7, 67]
  | 10 => [4]
  | 11 => [1, 2, 5, 7, 8]
  | 12 => [1, 2, 5, 7, 8, 9]
  | 13 => [1, 2, 5, 7, 8, 9, 71]
  | 14 => [1, 2, 5, 7, 8, 9]
  | 15 => [1, 2, 5, 7, 8, 9]
  | 16 => [1, 2, 5, 7, 8, 9, 87]
  | 17 => [1, 2, 5, 7, 8, 9]
  | 18 => [1, 2, 5, 7, 8, 9, 97]
  | 19 => [4]
  | 20 => [5, 10]
  | 21 => [4]
  | _ => []
@[simp] def md3 : Nat → Bool
  | 7 => true
  | 9 => true
  | 21 => true
  | _ => false
@[simp] def fp3 : FPol := { inpl := [], exp := false, sites := [200, 350, 450, 500, 600], mut_ := [], split := false }
/- 4 servitor servitorlaw35.ScopeFirst -/
@[simp] def keep4 : Nat → List Nat
  | 0 => [1, 2]
  | 1 => [1, 2, 10]
  | 2 => [4]
  | 3 => [1, 2, 18]
  | 4 => [4]
  | 5 => [1, 2, 5]
  | 6 => [1, 2, 5, 7]
  | 7 => [1, 2, 5, 7, 38]
  | 8 => [1, 2, 5, 7]
  | 9 => [1, 2, 5, 7, 8]
  | 10 => [1, 2, 5, 7, 8, 85]
  | 11 => [4]
  | 12 => [1, 2, 5, 7]
  | 13 => [4]
  | _ => []
@[simp] def md4 : Nat → Bool
  | 3 => true
  | 10 => true
  | _ => false
@[simp] def fp4 : FPol := { inpl := [], exp := false, sites := [200, 350, 500], mut_ := [], split := false }
/- 5 servitor servitorlaw35.ScopeRaw -/
@[simp] def keep5 : Nat → List Nat
  | 0 => [1, 2]
  | 1 => [1, 2, 8]
  | 2 => [4]
  | 3 => [1, 2, 17]
  | 4 => [4]
  | 5 => [1, 2, 5]
  | 6 => [1, 2, 5, 6]
  | 7 => [1, 2, 6, 27]
  | 8 => [4]
  | 9 => [1, 2, 6, 30]
  | 10 => [4]
  | 11 => [4]
  | _ => []
@[simp] def md5 : Nat → Bool
  | 10 => true
  | 11 => true
  | _ => false
@[simp] def gh5 : Nat → List Gh
  | 5 => [.freeze 1000]
  | _ => []
@[simp] def fp5 : FPol := { inpl := [], exp := false, sites := [200, 400, 1000], mut_ := [], split := false }
/- 6 servitor servitorlaw35.awake -/
@[simp] def keep6 : Nat → List Nat
  | 0 => []
  | 1 => [1, 2]
  | 2 => [1, 2, 9, 10, 11]
  | 3 => [1, 2, 9, 10, 11, 12]
  | 4 => [1, 2, 4, 9, 10, 11]
  | 5 => [1, 2, 9, 10, 11]
  | 6 => [1, 2, 9, 10, 11]
  | 7 => [0]
  | _ => []
@[simp] def md6 : Nat → Bool
  | 7 => true
  | _ => false
@[simp] def fp6 : FPol := { inpl := [], exp := false, sites := [150], mut_ := [], split := false }
/- 7 servitor servitorlaw35.small -/
@[simp] def keep7 : Nat → List Nat
  | 0 => [0]
  | 1 => [0, 6]
  | 2 => [2]
  | 3 => [0, 3]
  | 4 => [0, 3, 10]
  | 5 => [0, 3]
  | 6 => [0, 3, 18]
  | 7 => [2]
  | 8 => [2]
  | _ => []
@[simp] def md7 : Nat → Bool
  | _ => false
@[simp] def fp7 : FPol := { inpl := [], exp := false, sites := [], mut_ := [], split := false }
/- 8 servitor scope.New -/
@[simp] def keep8 : Nat → List Nat
  | 0 => [0, 1, 2, 3, 4, 5, 12]
  | 1 => [12, 14]
  | 2 => [12, 14, 24]
  | 3 => [12, 13]
  | 4 => [12, 13]
  | _ => []
@[simp] def md8 : Nat → Bool
  | _ => false
@[simp] def fp8 : FPol := { inpl := [], exp := false, sites := [700, 800], mut_ := [], split := false }
/- 9 servitor servitorlaw35.fits -/
@[simp] def keep9 : Nat → List Nat
  | 0 => [1]
  | 1 => [2]
  | _ => []
@[simp] def md9 : Nat → Bool
  | _ => false
@[simp] def fp9 : FPol := { inpl := [], exp := false, sites := [150], mut_ := [], split := false }
/- 10 servitor servitorref35.Same -/
@[simp] def keep10 : Nat → List Nat
  | 0 => [2, 3]
  | 1 => [2, 3, 76]
  | 2 => [4]
  | 3 => [2, 3, 5]
  | 4 => [2, 3, 5, 81]
  | 5 => [2, 3, 5]
  | 6 => [2, 3, 5, 96]
  | 7 => [4]
  | 8 => [2, 3, 5, 6]
  | 9 => [2, 3, 5, 6, 104]
  | 10 => [2, 3, 5, 6]
  | 11 => [2, 3, 5, 6, 123]
  | 12 => [4]
  | 13 => [4]
  | _ => []
@[simp] def md10 : Nat → Bool
  | _ => false
@[simp] def fp10 : FPol := { inpl := [], exp := false, sites := [200, 250], mut_ := [], split := false }
/- 11 servitor scope.Right -/
@[simp] def keep11 : Nat → List Nat
  | 0 => [1]
  | 1 => [1, 13]
  | 2 => [2]
  | 3 => [1, 3]
  | 4 => [1, 3, 20]
  | 5 => [2]
  | 6 => [1, 3, 23]
  | 7 => [2]
  | 8 => [1, 4]
  | 9 => [2]
  | _ => []
@[simp] def md11 : Nat → Bool
  | 1 => true
  | _ => false
@[simp] def fp11 : FPol := { inpl := [], exp := false, sites := [150], mut_ := [], split := false }
/- 12 servitor scope.Tell -/
@[simp] def keep12 : Nat → List Nat
  | 0 => [1, 2, 4]
  | 1 => [1, 2, 4]
  | 2 => [1, 2, 4, 26]
  | 3 => [4]
  | 4 => [1, 2, 4]
  | 5 => [1, 2, 4, 5]
  | 6 => [1, 2, 4, 5, 60]
  | 7 => [1, 2, 4]
  | 8 => [1, 2, 4]
  | 9 => [2, 4]
  | 10 => [2, 4, 83]
  | 11 => [2, 4]
  | 12 => [2, 4]
  | 13 => [4]
  | _ => []
@[simp] def md12 : Nat → Bool
  | 6 => true
  | _ => false
@[simp] def fp12 : FPol := { inpl := [], exp := false, sites := [200, 300, 451], mut_ := [], split := false }
/- 13 servitor servitorref35.Of -/
@[simp] def keep13 : Nat → List Nat
  | 0 => [1, 2, 4]
  | 1 => [1, 2, 4, 5]
  | 2 => [1, 2, 4, 5, 6]
  | 3 => [1, 2, 4, 5, 6, 19]
  | 4 => [1, 2, 4, 5, 6]
  | 5 => [1, 2, 4, 5, 6, 7, 8]
  | 6 => [1, 2, 4, 5, 6, 69]
  | 7 => [1, 2, 4, 5, 6]
  | 8 => [1, 2, 4, 5, 9, 10]
  | 9 => [1, 2, 4, 5, 9, 10, 80]
  | 10 => [1, 2, 4, 5, 9]
  | 11 => [1, 2, 4, 5, 9, 10]
  | 12 => [1, 2, 4, 5, 9, 10]
  | 13 => [1, 2, 4, 5, 9, 10]
  | 14 => [1, 2, 4, 5, 9, 10, 11]
  | 15 => [1, 2, 4, 5, 9, 10, 11, 98]
  | 16 => [1, 2, 4, 5, 9, 10, 11]
  | 17 => [1, 2, 4, 5, 9, 10, 11]
  | 18 => [2, 4, 5, 9, 10]
  | 19 => [2, 4, 5, 9, 10]
  | 20 => [2, 4, 5, 9, 10]
  | 21 => [2, 4, 5, 9, 10, 117]
  | 22 => [2, 4, 5, 10]
  | 23 => [2, 4]
  | 24 => [4]
  | _ => []
@[simp] def md13 : Nat → Bool
  | 6 => true
  | _ => false
@[simp] def gh13 : Nat → List Gh
  | 13 => [.adopt 200 6 451 1]
  | _ => []
@[simp] def fp13 : FPol := { inpl := [0], exp := false, sites := [200, 300, 451, 5250, 5500], mut_ := [1], split := false }
/- 14 servitor scope.Lines -/
@[simp] def keep14 : Nat → List Nat
  | 0 => [1]
  | 1 => [1, 11]
  | 2 => [2]
  | 3 => [1, 3]
  | 4 => [1, 3, 17]
  | 5 => [1, 3]
  | 6 => [1, 3, 4]
  | 7 => [3, 4, 23, 24, 25]
  | 8 => [3, 4, 23, 24, 25, 26]
  | 9 => [3, 4, 5, 6, 23, 24, 25]
  | 10 => [3, 4, 6, 23, 24, 25]
  | 11 => [3, 4, 23, 24, 25, 37, 38, 39]
  | 12 => [3, 4, 23, 24, 25, 37, 38, 39, 40]
  | 13 => [3, 4, 8, 23, 24, 25, 37, 38, 39]
  | 14 => [3, 4, 23, 24, 25, 37, 38, 39]
  | 15 => [3, 4, 23, 24, 25, 37, 38, 39]
  | 16 => [3, 4, 23, 24, 25]
  | 17 => [3, 4, 23, 24, 25]
  | 18 => [2]
  | _ => []
@[simp] def md14 : Nat → Bool
  | _ => false
@[simp] def fp14 : FPol := { inpl := [], exp := false, sites := [150, 300], mut_ := [], split := false }
/- 15 servitor servitorref35.Lines -/
@[simp] def keep15 : Nat → List Nat
  | 0 => [1]
  | 1 => [1, 3]
  | 2 => [1, 3, 4]
  | 3 => [1, 3, 4, 11]
  | 4 => [1, 3, 4]
  | 5 => [1, 3, 4, 5]
  | 6 => [1, 3, 4, 5, 21]
  | 7 => [1, 3, 4, 5]
  | 8 => [1, 3, 4]
  | 9 => [1, 3, 4, 6]
  | 10 => [1, 3, 4, 6, 38]
  | 11 => [1, 3, 4, 6]
  | 12 => [1, 3, 4, 6]
  | 13 => [1, 3, 4]
  | 14 => [2]
  | _ => []
@[simp] def md15 : Nat → Bool
  | _ => false
@[simp] def fp15 : FPol := { inpl := [], exp := false, sites := [150], mut_ := [], split := false }
/- 16 servitor servitorref16.Same -/
@[simp] def keep16 : Nat → List Nat
  | 0 => [0, 1]
  | 1 => [0, 1, 10]
  | 2 => [4]
  | 3 => [0, 1, 5]
  | 4 => [0, 1, 5, 14]
  | 5 => [0, 1, 5]
  | 6 => [0, 1, 5, 25]
  | 7 => [4]
  | 8 => [4]
  | _ => []
@[simp] def md16 : Nat → Bool
  | _ => false
@[simp] def fp16 : FPol := { inpl := [], exp := false, sites := [], mut_ := [], split := false }
/- 17 servitor scope.asked -/
@[simp] def keep17 : Nat → List Nat
  | 0 => [1]
  | 1 => [2]
  | _ => []
@[simp] def md17 : Nat → Bool
  | _ => false
@[simp] def fp17 : FPol := { inpl := [], exp := false, sites := [150], mut_ := [], split := false }
/- 18 slices.ContainsFunc[[][]int64,[]int64] -/
@[simp] def keep18 : Nat → List Nat
  | 0 => [0, 1]
  | 1 => [4]
  | _ => []
@[simp] def md18 : Nat → Bool
  | _ => false
@[simp] def fp18 : FPol := { inpl := [], exp := false, sites := [], mut_ := [], split := false }
/- 19 servitor scope.Right$1 -/
@[simp] def keep19 : Nat → List Nat
  | 0 => [0, 1]
  | 1 => [3]
  | _ => []
@[simp] def md19 : Nat → Bool
  | _ => false
@[simp] def fp19 : FPol := { inpl := [], exp := false, sites := [], mut_ := [], split := false }
/- 20 servitor scope.copied -/
@[simp] def keep20 : Nat → List Nat
  | 0 => [1, 2]
  | 1 => [1, 2, 3]
  | 2 => [1, 2, 3, 7, 8, 9]
  | 3 => [1, 2, 3, 7, 8, 9, 10]
  | 4 => [1, 2, 3, 5, 7, 8, 9]
  | 5 => [1, 2, 3, 7, 8, 9]
  | 6 => [1, 2, 3, 7, 8, 9]
  | 7 => [1, 2]
  | 8 => [2]
  | _ => []
@[simp] def md20 : Nat → Bool
  | _ => false
@[simp] def fp20 : FPol := { inpl := [], exp := true, sites := [150, 200, 250], mut_ := [], split := false }
/- 21 servitor scope.crosses -/
@[simp] def keep21 : Nat → List Nat
  | 0 => [1, 2, 3]
  | 1 => [1, 2, 3, 8]
  | 2 => [6]
  | 3 => [6]
  | _ => []
@[simp] def md21 : Nat → Bool
  | _ => false
@[simp] def fp21 : FPol := { inpl := [], exp := false, sites := [250], mut_ := [], split := false }
/- 22 slices.Clone[[]int64,int64] -/
@[simp] def keep22 : Nat → List Nat
  | 0 => [0]
  | 1 => [0, 4]
  | 2 => [2]
  | 3 => [2]
  | _ => []
@[simp] def md22 : Nat → Bool
  | _ => false
@[simp] def fp22 : FPol := { inpl := [], exp := true, sites := [200, 350], mut_ := [], split := true }
/- 23 strconv.AppendInt -/
@[simp] def keep23 : Nat → List Nat
  | 0 => [0, 1, 2]
  | 1 => [6]
  | _ => []
@[simp] def md23 : Nat → Bool
  | _ => false
@[simp] def fp23 : FPol := { inpl := [], exp := false, sites := [], mut_ := [0], split := false }
/- 24 servitor servitorref35.num -/
@[simp] def keep24 : Nat → List Nat
  | 0 => [0]
  | 1 => [0, 4]
  | 2 => [2]
  | 3 => [2]
  | _ => []
@[simp] def md24 : Nat → Bool
  | _ => false
@[simp] def fp24 : FPol := { inpl := [], exp := false, sites := [], mut_ := [], split := false }
/- 25 slices.IndexFunc[[][]int64,[]int64] -/
@[simp] def keep25 : Nat → List Nat
  | 0 => [0, 1]
  | 1 => [0, 1, 7, 8]
  | 2 => [0, 1, 7, 8, 9]
  | 3 => [0, 1, 5, 7, 8]
  | 4 => [0, 1, 5, 7, 8, 16]
  | 5 => [4]
  | 6 => [0, 1, 7, 8]
  | 7 => [4]
  | _ => []
@[simp] def md25 : Nat → Bool
  | _ => false
@[simp] def fp25 : FPol := { inpl := [], exp := false, sites := [], mut_ := [], split := false }
/- 26 internal strconv.AppendInt -/
@[simp] def keep26 : Nat → List Nat
  | 0 => [0, 1, 2]
  | 1 => [0, 1, 2, 7]
  | 2 => [0, 2, 7, 11]
  | 3 => [0, 2, 7]
  | 4 => [0, 2, 7]
  | 5 => [6]
  | _ => []
@[simp] def md26 : Nat → Bool
  | _ => false
@[simp] def fp26 : FPol := { inpl := [], exp := false, sites := [], mut_ := [0], split := false }
/- 27 servitor servitorref35.size -/
@[simp] def keep27 : Nat → List Nat
  | 0 => [0]
  | 1 => [0, 4]
  | 2 => [2]
  | 3 => [2]
  | _ => []
@[simp] def md27 : Nat → Bool
  | _ => false
@[simp] def fp27 : FPol := { inpl := [], exp := false, sites := [], mut_ := [], split := false }
/- 28 internal strconv.AppendUint -/
@[simp] def keep28 : Nat → List Nat
  | 0 => [0, 1, 2]
  | 1 => [0, 1, 2, 10]
  | 2 => [0, 1, 12]
  | 3 => [6]
  | 4 => [0, 1, 7]
  | 5 => [0, 1, 7, 8]
  | 6 => [0, 7, 8]
  | 7 => [6]
  | 8 => [0]
  | 9 => [6]
  | _ => []
@[simp] def md28 : Nat → Bool
  | _ => false
@[simp] def fp28 : FPol := { inpl := [], exp := false, sites := [400, 450], mut_ := [0], split := false }
/- 29 internal strconv.small -/
@[simp] def keep29 : Nat → List Nat
  | 0 => [0]
  | 1 => [0, 4]
  | 2 => [2]
  | 3 => [2]
  | _ => []
@[simp] def md29 : Nat → Bool
  | _ => false
@[simp] def fp29 : FPol := { inpl := [], exp := false, sites := [], mut_ := [], split := false }
/- 30 internal strconv.numDigits -/
@[simp] def keep30 : Nat → List Nat
  | 0 => [0]
  | 1 => [0, 3]
  | 2 => [2]
  | _ => []
@[simp] def md30 : Nat → Bool
  | _ => false
@[simp] def fp30 : FPol := { inpl := [], exp := false, sites := [], mut_ := [], split := false }
/- 31 internal strconv.formatBase10 -/
@[simp] def keep31 : Nat → List Nat
  | 0 => [0, 1, 4]
  | 1 => [0, 1, 4, 20]
  | 2 => [0, 1, 4, 5]
  | 3 => [0, 1, 4, 5]
  | 4 => [0, 1, 4, 6, 7]
  | 5 => [0, 1, 4, 6, 8, 9]
  | 6 => [0, 1, 4, 8, 9, 10, 11]
  | 7 => [0, 1, 4, 8, 10, 11]
  | 8 => [0, 1, 4, 10, 11]
  | 9 => [0, 1, 4, 10]
  | 10 => [0, 1, 4]
  | 11 => [0, 1, 4]
  | 12 => [0, 4, 12]
  | 13 => [0, 4, 12, 99]
  | 14 => [0, 4, 12, 13]
  | 15 => [0, 4, 12, 13]
  | 16 => [0, 4, 12, 14, 15]
  | 17 => [0, 4, 12, 14]
  | 18 => [0, 4, 12]
  | 19 => [0, 4, 12]
  | 20 => [0, 4, 12, 139]
  | 21 => [0, 4, 12, 16]
  | 22 => [0, 4, 12, 16]
  | 23 => [0, 4, 12]
  | 24 => [0, 4, 12]
  | 25 => [0, 12, 161]
  | 26 => []
  | _ => []
@[simp] def md31 : Nat → Bool
  | _ => false
@[simp] def fp31 : FPol := { inpl := [0], exp := false, sites := [], mut_ := [0], split := false }
/- 32 internal strconv.formatBits -/
@[simp] def keep32 : Nat → List Nat
  | 0 => [0, 1, 2, 3, 4, 10, 11]
  | 1 => [0, 1, 2, 3, 4, 10, 11, 28]
  | 2 => [0, 1, 2, 3, 4, 10, 11]
  | 3 => [0, 1, 2, 3, 4, 10, 11, 12]
  | 4 => [0, 1, 2, 3, 4, 10, 11, 12, 13]
  | 5 => [0, 1, 2, 3, 4, 10, 11, 12, 13, 30]
  | 6 => [0, 1, 2, 3, 4, 10, 11, 12, 13]
  | 7 => [0, 1, 2, 3, 4, 10, 11, 12, 13, 34]
  | 8 => [0, 1, 2, 3, 4, 10, 11, 12, 13, 14]
  | 9 => [0, 1, 2, 3, 4, 10, 11, 12, 13, 14, 15]
  | 10 => [0, 1, 3, 4, 10, 11, 12, 13, 14, 15, 16]
  | 11 => [0, 1, 3, 4, 10, 11, 12, 13, 14, 15, 16, 46]
  | 12 => [0, 1, 3, 4, 10, 11, 12, 13, 14, 15, 16]
  | 13 => [0, 1, 3, 4, 10, 11, 12, 13, 14, 15, 16]
  | 14 => [0, 1, 3, 4, 10, 11, 12, 13, 14, 15, 16]
  | 15 => [0, 1, 3, 4, 10, 11, 12, 13]
  | 16 => [0, 3, 4, 10, 11, 12, 13]
  | 17 => [0, 1, 3, 4, 10, 11, 12, 13, 17]
  | 18 => [0, 1, 3, 4, 10, 11, 12, 13, 17, 68]
  | 19 => [0, 1, 3, 4, 10, 11, 12, 13, 17]
  | 20 => [0, 1, 3, 4, 10, 11, 12, 13, 17, 18]
  | 21 => [0, 3, 4, 10, 11, 12, 13, 17, 18]
  | 22 => [0, 1, 3, 4, 10, 11, 12, 13, 17]
  | 23 => [0, 1, 3, 4, 10, 11, 12, 13]
  | 24 => [0, 3, 4, 10, 11, 12, 13]
  | 25 => [0, 4, 10, 11, 12, 13, 89]
  | 26 => [0, 4, 10, 11, 12, 13]
  | 27 => [0, 4, 10, 11, 12, 13]
  | 28 => [0, 10, 11, 12, 13, 94]
  | 29 => [10, 11]
  | 30 => [10, 11]
  | _ => []
@[simp] def md32 : Nat → Bool
  | _ => false
@[simp] def fp32 : FPol := { inpl := [], exp := false, sites := [600, 700], mut_ := [], split := false }
/- 33 internal strconv.log10Pow2 -/
@[simp] def keep33 : Nat → List Nat
  | 0 => [0]
  | 1 => [2]
  | _ => []
@[simp] def md33 : Nat → Bool
  | _ => false
@[simp] def fp33 : FPol := { inpl := [], exp := false, sites := [], mut_ := [], split := false }
/- 34 math bits.Len64 -/
@[simp] def keep34 : Nat → List Nat
  | 0 => [0, 2]
  | 1 => [0, 2, 4]
  | 2 => [0]
  | 3 => [0, 2]
  | 4 => [0, 2, 8]
  | 5 => [0, 2]
  | 6 => [0, 2]
  | 7 => [0, 2, 14]
  | 8 => [0, 2]
  | 9 => [0, 2]
  | 10 => [2]
  | _ => []
@[simp] def md34 : Nat → Bool
  | _ => false
@[simp] def fp34 : FPol := { inpl := [], exp := false, sites := [], mut_ := [], split := false }
/- 35 internal strconv.bool2[int] -/
@[simp] def keep35 : Nat → List Nat
  | 0 => [0]
  | 1 => [3]
  | 2 => [2]
  | 3 => [2]
  | _ => []
@[simp] def md35 : Nat → Bool
  | _ => false
@[simp] def fp35 : FPol := { inpl := [], exp := false, sites := [], mut_ := [], split := false }
/- 36 internal strconv.isPowerOfTwo -/
@[simp] def keep36 : Nat → List Nat
  | 0 => [0]
  | 1 => [2]
  | _ => []
@[simp] def md36 : Nat → Bool
  | _ => false
@[simp] def fp36 : FPol := { inpl := [], exp := false, sites := [], mut_ := [], split := false }
/- 37 math bits.TrailingZeros -/
@[simp] def keep37 : Nat → List Nat
  | 0 => [0]
  | 1 => [2]
  | 2 => [2]
  | _ => []
@[simp] def md37 : Nat → Bool
  | _ => false
@[simp] def fp37 : FPol := { inpl := [], exp := false, sites := [], mut_ := [], split := false }
/- 38 math bits.TrailingZeros32 -/
@[simp] def keep38 : Nat → List Nat
  | 0 => [0]
  | 1 => [0, 4]
  | 2 => [2]
  | 3 => [2]
  | _ => []
@[simp] def md38 : Nat → Bool
  | _ => false
@[simp] def fp38 : FPol := { inpl := [], exp := false, sites := [], mut_ := [], split := false }
/- 39 math bits.TrailingZeros64 -/
@[simp] def keep39 : Nat → List Nat
  | 0 => [0]
  | 1 => [0, 4]
  | 2 => [2]
  | 3 => [2]
  | _ => []
@[simp] def md39 : Nat → Bool
  | _ => false
@[simp] def fp39 : FPol := { inpl := [], exp := false, sites := [], mut_ := [], split := false }
noncomputable def keepL : List (Nat → List Nat) := [fun _ => [], fun _ => [], keep2, keep3, keep4, keep5, keep6, keep7, keep8, keep9, keep10, keep11, keep12, keep13, keep14, keep15, keep16, keep17, keep18, keep19, keep20, keep21, keep22, keep23, keep24, keep25, keep26, keep27, keep28, keep29, keep30, keep31, keep32, keep33, keep34, keep35, keep36, keep37, keep38, keep39]
noncomputable def ghL : List (Nat → List Gh) := [fun _ => [], fun _ => [], fun _ => [], fun _ => [], fun _ => [], gh5, fun _ => [], fun _ => [], fun _ => [], fun _ => [], fun _ => [], fun _ => [], fun _ => [], gh13, fun _ => [], fun _ => [], fun _ => [], fun _ => [], fun _ => [], fun _ => [], fun _ => [], fun _ => [], fun _ => [], fun _ => [], fun _ => [], fun _ => [], fun _ => [], fun _ => [], fun _ => [], fun _ => [], fun _ => [], fun _ => [], fun _ => [], fun _ => [], fun _ => [], fun _ => [], fun _ => [], fun _ => [], fun _ => [], fun _ => []]
noncomputable def mdL : List (Nat → Bool) := [fun _ => false, fun _ => false, md2, md3, md4, md5, md6, md7, md8, md9, md10, md11, md12, md13, md14, md15, md16, md17, md18, md19, md20, md21, md22, md23, md24, md25, md26, md27, md28, md29, md30, md31, md32, md33, md34, md35, md36, md37, md38, md39]
noncomputable def fpL : List FPol := [⟨[], false, [], [], false⟩, ⟨[], false, [], [], false⟩, fp2, fp3, fp4, fp5, fp6, fp7, fp8, fp9, fp10, fp11, fp12, fp13, fp14, fp15, fp16, fp17, fp18, fp19, fp20, fp21, fp22, fp23, fp24, fp25, fp26, fp27, fp28, fp29, fp30, fp31, fp32, fp33, fp34, fp35, fp36, fp37, fp38, fp39]
def tab1 : List Int := [0, 1, 28, 2, 29, 14, 24, 3, 30, 22, 20, 15, 25, 17, 4, 8, 31, 27, 13, 23, 21, 19, 16, 7, 26, 12, 18, 6, 11, 5, 10, 9]
def tab2 : List Int := [0, 1, 56, 2, 57, 49, 28, 3, 61, 58, 42, 50, 38, 29, 17, 4, 62, 47, 59, 36, 45, 43, 51, 22, 53, 39, 33, 30, 24, 18, 12, 5, 63, 55, 48, 27, 60, 41, 37, 16, 46, 35, 44, 21, 52, 32, 23, 11, 54, 26, 40, 15, 34, 20, 31, 10, 25, 14, 19, 9, 13, 8, 7, 6]
def tab0 : List Int := [1, 10, 100, 1000, 10000, 100000, 1000000, 10000000, 100000000, 1000000000, 10000000000, 100000000000, 1000000000000, 10000000000000, 100000000000000, 1000000000000000, 10000000000000000, 100000000000000000, 1000000000000000000, 10000000000000000000]
def gl0 : List (Nat × D) := [(1, .agg (tab1.map fun z => .int .u8 z)), (2, .agg (tab2.map fun z => .int .u8 z)), (0, .agg (tab0.map fun z => .int .u64 z))]
@[simp] theorem glk_1 : glk gl0 1 = some (.agg (tab1.map fun z => .int .u8 z)) := rfl
@[simp] theorem glk_2 : glk gl0 2 = some (.agg (tab2.map fun z => .int .u8 z)) := rfl
@[simp] theorem glk_0 : glk gl0 0 = some (.agg (tab0.map fun z => .int .u64 z)) := rfl
noncomputable def ctx : Ctx := ⟨Tryd.prog, gl0, fun f => keepL.getD f (fun _ => []), fun f => ghL.getD f (fun _ => []), fun f => mdL.getD f (fun _ => false), fun f => fpL.getD f ⟨[], false, [], [], false⟩⟩
@[simp] theorem ctx_P : ctx.P = Tryd.prog := rfl
@[simp] theorem ctx_gl : ctx.gl = gl0 := rfl
@[simp] def codeOf (fn : Func) : Code := fn.body.getD .skip
@[simp] theorem keepE2 : ctx.keep 2 = keep2 := rfl
@[simp] theorem ghE2 : ctx.gh 2 = fun _ => [] := rfl
@[simp] theorem mdE2 : ctx.md 2 = md2 := rfl
@[simp] theorem fpE2 : ctx.fp 2 = fp2 := rfl
theorem run2 {args : List AV} {cs : List Cont} (h : callOk 1 fp2 args cs = true) : callT ctx 2 args cs = denK ctx 2 (codeOf Tryd.f2) (entry 1 gl0 args cs fp2.sites) (finK Tryd.prog fp2 cs.length []) :=
  call_run Tryd.func2 rfl Tryd.ntmps2 (by rw [Tryd.results2]) rfl rfl h
@[simp] theorem keepE3 : ctx.keep 3 = keep3 := rfl
@[simp] theorem ghE3 : ctx.gh 3 = fun _ => [] := rfl
@[simp] theorem mdE3 : ctx.md 3 = md3 := rfl
@[simp] theorem fpE3 : ctx.fp 3 = fp3 := rfl
theorem run3 {args : List AV} {cs : List Cont} (h : callOk 111 fp3 args cs = true) : callT ctx 3 args cs = denK ctx 3 (codeOf Tryd.f3) (entry 111 gl0 args cs fp3.sites) (finK Tryd.prog fp3 cs.length [.tmp 4]) :=
  call_run Tryd.func3 rfl Tryd.ntmps3 (by rw [Tryd.results3]) rfl rfl h
@[simp] theorem keepE4 : ctx.keep 4 = keep4 := rfl
@[simp] theorem ghE4 : ctx.gh 4 = fun _ => [] := rfl
@[simp] theorem mdE4 : ctx.md 4 = md4 := rfl
@[simp] theorem fpE4 : ctx.fp 4 = fp4 := rfl
theorem run4 {args : List AV} {cs : List Cont} (h : callOk 87 fp4 args cs = true) : callT ctx 4 args cs = denK ctx 4 (codeOf Tryd.f4) (entry 87 gl0 args cs fp4.sites) (finK Tryd.prog fp4 cs.length [.tmp 4]) :=
  call_run Tryd.func4 rfl Tryd.ntmps4 (by rw [Tryd.results4]) rfl rfl h
@[simp] theorem keepE5 : ctx.keep 5 = keep5 := rfl
@[simp] theorem ghE5 : ctx.gh 5 = gh5 := rfl
@[simp] theorem mdE5 : ctx.md 5 = md5 := rfl
@[simp] theorem fpE5 : ctx.fp 5 = fp5 := rfl
theorem run5 {args : List AV} {cs : List Cont} (h : callOk 53 fp5 args cs = true) : callT ctx 5 args cs = denK ctx 5 (codeOf Tryd.f5) (entry 53 gl0 args cs fp5.sites) (finK Tryd.prog fp5 cs.length [.tmp 4]) :=
  call_run Tryd.func5 rfl Tryd.ntmps5 (by rw [Tryd.results5]) rfl rfl h
@[simp] theorem keepE6 : ctx.keep 6 = keep6 := rfl
@[simp] theorem ghE6 : ctx.gh 6 = fun _ => [] := rfl
@[simp] theorem mdE6 : ctx.md 6 = md6 := rfl
@[simp] theorem fpE6 : ctx.fp 6 = fp6 := rfl
theorem run6 {args : List AV} {cs : List Cont} (h : callOk 36 fp6 args cs = true) : callT ctx 6 args cs = denK ctx 6 (codeOf Tryd.f6) (entry 36 gl0 args cs fp6.sites) (finK Tryd.prog fp6 cs.length [.tmp 0]) :=
  call_run Tryd.func6 rfl Tryd.ntmps6 (by rw [Tryd.results6]) rfl rfl h
@[simp] theorem keepE7 : ctx.keep 7 = keep7 := rfl
@[simp] theorem ghE7 : ctx.gh 7 = fun _ => [] := rfl
@[simp] theorem mdE7 : ctx.md 7 = md7 := rfl
@[simp] theorem fpE7 : ctx.fp 7 = fp7 := rfl
theorem run7 {args : List AV} {cs : List Cont} (h : callOk 19 fp7 args cs = true) : callT ctx 7 args cs = denK ctx 7 (codeOf Tryd.f7) (entry 19 gl0 args cs fp7.sites) (finK Tryd.prog fp7 cs.length [.tmp 2]) :=
  call_run Tryd.func7 rfl Tryd.ntmps7 (by rw [Tryd.results7]) rfl rfl h
@[simp] theorem keepE8 : ctx.keep 8 = keep8 := rfl
@[simp] theorem ghE8 : ctx.gh 8 = fun _ => [] := rfl
@[simp] theorem mdE8 : ctx.md 8 = md8 := rfl
@[simp] theorem fpE8 : ctx.fp 8 = fp8 := rfl
theorem run8 {args : List AV} {cs : List Cont} (h : callOk 27 fp8 args cs = true) : callT ctx 8 args cs = denK ctx 8 (codeOf Tryd.f8) (entry 27 gl0 args cs fp8.sites) (finK Tryd.prog fp8 cs.length [.cell 12 28, .tmp 13]) :=
  call_run Tryd.func8 rfl Tryd.ntmps8 (by rw [Tryd.results8]) rfl rfl h
@[simp] theorem keepE9 : ctx.keep 9 = keep9 := rfl
@[simp] theorem ghE9 : ctx.gh 9 = fun _ => [] := rfl
@[simp] theorem mdE9 : ctx.md 9 = md9 := rfl
@[simp] theorem fpE9 : ctx.fp 9 = fp9 := rfl
theorem run9 {args : List AV} {cs : List Cont} (h : callOk 43 fp9 args cs = true) : callT ctx 9 args cs = denK ctx 9 (codeOf Tryd.f9) (entry 43 gl0 args cs fp9.sites) (finK Tryd.prog fp9 cs.length [.tmp 2]) :=
  call_run Tryd.func9 rfl Tryd.ntmps9 (by rw [Tryd.results9]) rfl rfl h
@[simp] theorem keepE10 : ctx.keep 10 = keep10 := rfl
@[simp] theorem ghE10 : ctx.gh 10 = fun _ => [] := rfl
@[simp] theorem mdE10 : ctx.md 10 = md10 := rfl
@[simp] theorem fpE10 : ctx.fp 10 = fp10 := rfl
theorem run10 {args : List AV} {cs : List Cont} (h : callOk 124 fp10 args cs = true) : callT ctx 10 args cs = denK ctx 10 (codeOf Tryd.f10) (entry 124 gl0 args cs fp10.sites) (finK Tryd.prog fp10 cs.length [.tmp 4]) :=
  call_run Tryd.func10 rfl Tryd.ntmps10 (by rw [Tryd.results10]) rfl rfl h
@[simp] theorem keepE11 : ctx.keep 11 = keep11 := rfl
@[simp] theorem ghE11 : ctx.gh 11 = fun _ => [] := rfl
@[simp] theorem mdE11 : ctx.md 11 = md11 := rfl
@[simp] theorem fpE11 : ctx.fp 11 = fp11 := rfl
theorem run11 {args : List AV} {cs : List Cont} (h : callOk 67 fp11 args cs = true) : callT ctx 11 args cs = denK ctx 11 (codeOf Tryd.f11) (entry 67 gl0 args cs fp11.sites) (finK Tryd.prog fp11 cs.length [.tmp 2]) :=
  call_run Tryd.func11 rfl Tryd.ntmps11 (by rw [Tryd.results11]) rfl rfl h
@[simp] theorem keepE12 : ctx.keep 12 = keep12 := rfl
@[simp] theorem ghE12 : ctx.gh 12 = fun _ => [] := rfl
@[simp] theorem mdE12 : ctx.md 12 = md12 := rfl
@[simp] theorem fpE12 : ctx.fp 12 = fp12 := rfl
theorem run12 {args : List AV} {cs : List Cont} (h : callOk 112 fp12 args cs = true) : callT ctx 12 args cs = denK ctx 12 (codeOf Tryd.f12) (entry 112 gl0 args cs fp12.sites) (finK Tryd.prog fp12 cs.length [.cell 4 28]) :=
  call_run Tryd.func12 rfl Tryd.ntmps12 (by rw [Tryd.results12]) rfl rfl h
@[simp] theorem keepE13 : ctx.keep 13 = keep13 := rfl
@[simp] theorem ghE13 : ctx.gh 13 = gh13 := rfl
@[simp] theorem mdE13 : ctx.md 13 = md13 := rfl
@[simp] theorem fpE13 : ctx.fp 13 = fp13 := rfl
theorem run13 {args : List AV} {cs : List Cont} (h : callOk 130 fp13 args cs = true) : callT ctx 13 args cs = denK ctx 13 (codeOf Tryd.f13) (entry 130 gl0 args cs fp13.sites) (finK Tryd.prog fp13 cs.length [.cell 4 28]) :=
  call_run Tryd.func13 rfl Tryd.ntmps13 (by rw [Tryd.results13]) rfl rfl h
@[simp] theorem keepE14 : ctx.keep 14 = keep14 := rfl
@[simp] theorem ghE14 : ctx.gh 14 = fun _ => [] := rfl
@[simp] theorem mdE14 : ctx.md 14 = md14 := rfl
@[simp] theorem fpE14 : ctx.fp 14 = fp14 := rfl
theorem run14 {args : List AV} {cs : List Cont} (h : callOk 55 fp14 args cs = true) : callT ctx 14 args cs = denK ctx 14 (codeOf Tryd.f14) (entry 55 gl0 args cs fp14.sites) (finK Tryd.prog fp14 cs.length [.tmp 2]) :=
  call_run Tryd.func14 rfl Tryd.ntmps14 (by rw [Tryd.results14]) rfl rfl h
@[simp] theorem keepE15 : ctx.keep 15 = keep15 := rfl
@[simp] theorem ghE15 : ctx.gh 15 = fun _ => [] := rfl
@[simp] theorem mdE15 : ctx.md 15 = md15 := rfl
@[simp] theorem fpE15 : ctx.fp 15 = fp15 := rfl
theorem run15 {args : List AV} {cs : List Cont} (h : callOk 56 fp15 args cs = true) : callT ctx 15 args cs = denK ctx 15 (codeOf Tryd.f15) (entry 56 gl0 args cs fp15.sites) (finK Tryd.prog fp15 cs.length [.tmp 2]) :=
  call_run Tryd.func15 rfl Tryd.ntmps15 (by rw [Tryd.results15]) rfl rfl h
@[simp] theorem keepE16 : ctx.keep 16 = keep16 := rfl
@[simp] theorem ghE16 : ctx.gh 16 = fun _ => [] := rfl
@[simp] theorem mdE16 : ctx.md 16 = md16 := rfl
@[simp] theorem fpE16 : ctx.fp 16 = fp16 := rfl
theorem run16 {args : List AV} {cs : List Cont} (h : callOk 26 fp16 args cs = true) : callT ctx 16 args cs = denK ctx 16 (codeOf Tryd.f16) (entry 26 gl0 args cs fp16.sites) (finK Tryd.prog fp16 cs.length [.tmp 4]) :=
  call_run Tryd.func16 rfl Tryd.ntmps16 (by rw [Tryd.results16]) rfl rfl h
@[simp] theorem keepE17 : ctx.keep 17 = keep17 := rfl
@[simp] theorem ghE17 : ctx.gh 17 = fun _ => [] := rfl
@[simp] theorem mdE17 : ctx.md 17 = md17 := rfl
@[simp] theorem fpE17 : ctx.fp 17 = fp17 := rfl
theorem run17 {args : List AV} {cs : List Cont} (h : callOk 43 fp17 args cs = true) : callT ctx 17 args cs = denK ctx 17 (codeOf Tryd.f17) (entry 43 gl0 args cs fp17.sites) (finK Tryd.prog fp17 cs.length [.tmp 2]) :=
  call_run Tryd.func17 rfl Tryd.ntmps17 (by rw [Tryd.results17]) rfl rfl h
@[simp] theorem keepE18 : ctx.keep 18 = keep18 := rfl
@[simp] theorem ghE18 : ctx.gh 18 = fun _ => [] := rfl
@[simp] theorem mdE18 : ctx.md 18 = md18 := rfl
@[simp] theorem fpE18 : ctx.fp 18 = fp18 := rfl
theorem run18 {args : List AV} {cs : List Cont} (h : callOk 9 fp18 args cs = true) : callT ctx 18 args cs = denK ctx 18 (codeOf Tryd.f18) (entry 9 gl0 args cs fp18.sites) (finK Tryd.prog fp18 cs.length [.tmp 4]) :=
  call_run Tryd.func18 rfl Tryd.ntmps18 (by rw [Tryd.results18]) rfl rfl h
@[simp] theorem keepE19 : ctx.keep 19 = keep19 := rfl
@[simp] theorem ghE19 : ctx.gh 19 = fun _ => [] := rfl
@[simp] theorem mdE19 : ctx.md 19 = md19 := rfl
@[simp] theorem fpE19 : ctx.fp 19 = fp19 := rfl
theorem run19 {args : List AV} {cs : List Cont} (h : callOk 9 fp19 args cs = true) : callT ctx 19 args cs = denK ctx 19 (codeOf Tryd.f19) (entry 9 gl0 args cs fp19.sites) (finK Tryd.prog fp19 cs.length [.tmp 3]) :=
  call_run Tryd.func19 rfl Tryd.ntmps19 (by rw [Tryd.results19]) rfl rfl h
@[simp] theorem keepE20 : ctx.keep 20 = keep20 := rfl
@[simp] theorem ghE20 : ctx.gh 20 = fun _ => [] := rfl
@[simp] theorem mdE20 : ctx.md 20 = md20 := rfl
@[simp] theorem fpE20 : ctx.fp 20 = fp20 := rfl
theorem run20 {args : List AV} {cs : List Cont} (h : callOk 22 fp20 args cs = true) : callT ctx 20 args cs = denK ctx 20 (codeOf Tryd.f20) (entry 22 gl0 args cs fp20.sites) (finK Tryd.prog fp20 cs.length [.cell 2 28]) :=
  call_run Tryd.func20 rfl Tryd.ntmps20 (by rw [Tryd.results20]) rfl rfl h
@[simp] theorem keepE21 : ctx.keep 21 = keep21 := rfl
@[simp] theorem ghE21 : ctx.gh 21 = fun _ => [] := rfl
@[simp] theorem mdE21 : ctx.md 21 = md21 := rfl
@[simp] theorem fpE21 : ctx.fp 21 = fp21 := rfl
theorem run21 {args : List AV} {cs : List Cont} (h : callOk 29 fp21 args cs = true) : callT ctx 21 args cs = denK ctx 21 (codeOf Tryd.f21) (entry 29 gl0 args cs fp21.sites) (finK Tryd.prog fp21 cs.length [.tmp 6]) :=
  call_run Tryd.func21 rfl Tryd.ntmps21 (by rw [Tryd.results21]) rfl rfl h
@[simp] theorem keepE22 : ctx.keep 22 = keep22 := rfl
@[simp] theorem ghE22 : ctx.gh 22 = fun _ => [] := rfl
@[simp] theorem mdE22 : ctx.md 22 = md22 := rfl
@[simp] theorem fpE22 : ctx.fp 22 = fp22 := rfl
theorem run22 {args : List AV} {cs : List Cont} (h : callOk 8 fp22 args cs = true) : callT ctx 22 args cs = runSplit (fun args => denK ctx 22 (codeOf Tryd.f22) (entry 8 gl0 args cs fp22.sites) (finK Tryd.prog fp22 cs.length [.tmp 2])) args true :=
  call_run_split Tryd.func22 rfl Tryd.ntmps22 (by rw [Tryd.results22]) rfl rfl h
@[simp] theorem keepE23 : ctx.keep 23 = keep23 := rfl
@[simp] theorem ghE23 : ctx.gh 23 = fun _ => [] := rfl
@[simp] theorem mdE23 : ctx.md 23 = md23 := rfl
@[simp] theorem fpE23 : ctx.fp 23 = fp23 := rfl
theorem run23 {args : List AV} {cs : List Cont} (h : callOk 11 fp23 args cs = true) : callT ctx 23 args cs = denK ctx 23 (codeOf Tryd.f23) (entry 11 gl0 args cs fp23.sites) (finK Tryd.prog fp23 cs.length [.tmp 6]) :=
  call_run Tryd.func23 rfl Tryd.ntmps23 (by rw [Tryd.results23]) rfl rfl h
@[simp] theorem keepE24 : ctx.keep 24 = keep24 := rfl
@[simp] theorem ghE24 : ctx.gh 24 = fun _ => [] := rfl
@[simp] theorem mdE24 : ctx.md 24 = md24 := rfl
@[simp] theorem fpE24 : ctx.fp 24 = fp24 := rfl
theorem run24 {args : List AV} {cs : List Cont} (h : callOk 13 fp24 args cs = true) : callT ctx 24 args cs = denK ctx 24 (codeOf Tryd.f24) (entry 13 gl0 args cs fp24.sites) (finK Tryd.prog fp24 cs.length [.tmp 2]) :=
  call_run Tryd.func24 rfl Tryd.ntmps24 (by rw [Tryd.results24]) rfl rfl h
@[simp] theorem keepE25 : ctx.keep 25 = keep25 := rfl
@[simp] theorem ghE25 : ctx.gh 25 = fun _ => [] := rfl
@[simp] theorem mdE25 : ctx.md 25 = md25 := rfl
@[simp] theorem fpE25 : ctx.fp 25 = fp25 := rfl
theorem run25 {args : List AV} {cs : List Cont} (h : callOk 19 fp25 args cs = true) : callT ctx 25 args cs = denK ctx 25 (codeOf Tryd.f25) (entry 19 gl0 args cs fp25.sites) (finK Tryd.prog fp25 cs.length [.tmp 4]) :=
  call_run Tryd.func25 rfl Tryd.ntmps25 (by rw [Tryd.results25]) rfl rfl h
@[simp] theorem keepE26 : ctx.keep 26 = keep26 := rfl
@[simp] theorem ghE26 : ctx.gh 26 = fun _ => [] := rfl
@[simp] theorem mdE26 : ctx.md 26 = md26 := rfl
@[simp] theorem fpE26 : ctx.fp 26 = fp26 := rfl
theorem run26 {args : List AV} {cs : List Cont} (h : callOk 21 fp26 args cs = true) : callT ctx 26 args cs = denK ctx 26 (codeOf Tryd.f26) (entry 21 gl0 args cs fp26.sites) (finK Tryd.prog fp26 cs.length [.tmp 6]) :=
  call_run Tryd.func26 rfl Tryd.ntmps26 (by rw [Tryd.results26]) rfl rfl h
@[simp] theorem keepE27 : ctx.keep 27 = keep27 := rfl
@[simp] theorem ghE27 : ctx.gh 27 = fun _ => [] := rfl
@[simp] theorem mdE27 : ctx.md 27 = md27 := rfl
@[simp] theorem fpE27 : ctx.fp 27 = fp27 := rfl
theorem run27 {args : List AV} {cs : List Cont} (h : callOk 18 fp27 args cs = true) : callT ctx 27 args cs = denK ctx 27 (codeOf Tryd.f27) (entry 18 gl0 args cs fp27.sites) (finK Tryd.prog fp27 cs.length [.tmp 2]) :=
  call_run Tryd.func27 rfl Tryd.ntmps27 (by rw [Tryd.results27]) rfl rfl h
@[simp] theorem keepE28 : ctx.keep 28 = keep28 := rfl
@[simp] theorem ghE28 : ctx.gh 28 = fun _ => [] := rfl
@[simp] theorem mdE28 : ctx.md 28 = md28 := rfl
@[simp] theorem fpE28 : ctx.fp 28 = fp28 := rfl
theorem run28 {args : List AV} {cs : List Cont} (h : callOk 36 fp28 args cs = true) : callT ctx 28 args cs = denK ctx 28 (codeOf Tryd.f28) (entry 36 gl0 args cs fp28.sites) (finK Tryd.prog fp28 cs.length [.tmp 6]) :=
  call_run Tryd.func28 rfl Tryd.ntmps28 (by rw [Tryd.results28]) rfl rfl h
@[simp] theorem keepE29 : ctx.keep 29 = keep29 := rfl
@[simp] theorem ghE29 : ctx.gh 29 = fun _ => [] := rfl
@[simp] theorem mdE29 : ctx.md 29 = md29 := rfl
@[simp] theorem fpE29 : ctx.fp 29 = fp29 := rfl
theorem run29 {args : List AV} {cs : List Cont} (h : callOk 15 fp29 args cs = true) : callT ctx 29 args cs = denK ctx 29 (codeOf Tryd.f29) (entry 15 gl0 args cs fp29.sites) (finK Tryd.prog fp29 cs.length [.tmp 2]) :=
  call_run Tryd.func29 rfl Tryd.ntmps29 (by rw [Tryd.results29]) rfl rfl h
@[simp] theorem keepE30 : ctx.keep 30 = keep30 := rfl
@[simp] theorem ghE30 : ctx.gh 30 = fun _ => [] := rfl
@[simp] theorem mdE30 : ctx.md 30 = md30 := rfl
@[simp] theorem fpE30 : ctx.fp 30 = fp30 := rfl
theorem run30 {args : List AV} {cs : List Cont} (h : callOk 15 fp30 args cs = true) : callT ctx 30 args cs = denK ctx 30 (codeOf Tryd.f30) (entry 15 gl0 args cs fp30.sites) (finK Tryd.prog fp30 cs.length [.tmp 2]) :=
  call_run Tryd.func30 rfl Tryd.ntmps30 (by rw [Tryd.results30]) rfl rfl h
@[simp] theorem keepE31 : ctx.keep 31 = keep31 := rfl
@[simp] theorem ghE31 : ctx.gh 31 = fun _ => [] := rfl
@[simp] theorem mdE31 : ctx.md 31 = md31 := rfl
@[simp] theorem fpE31 : ctx.fp 31 = fp31 := rfl
theorem run31 {args : List AV} {cs : List Cont} (h : callOk 167 fp31 args cs = true) : callT ctx 31 args cs = denK ctx 31 (codeOf Tryd.f31) (entry 167 gl0 args cs fp31.sites) (finK Tryd.prog fp31 cs.length []) :=
  call_run Tryd.func31 rfl Tryd.ntmps31 (by rw [Tryd.results31]) rfl rfl h
@[simp] theorem keepE32 : ctx.keep 32 = keep32 := rfl
@[simp] theorem ghE32 : ctx.gh 32 = fun _ => [] := rfl
@[simp] theorem mdE32 : ctx.md 32 = md32 := rfl
@[simp] theorem fpE32 : ctx.fp 32 = fp32 := rfl
theorem run32 {args : List AV} {cs : List Cont} (h : callOk 102 fp32 args cs = true) : callT ctx 32 args cs = denK ctx 32 (codeOf Tryd.f32) (entry 102 gl0 args cs fp32.sites) (finK Tryd.prog fp32 cs.length [.tmp 10, .tmp 11]) :=
  call_run Tryd.func32 rfl Tryd.ntmps32 (by rw [Tryd.results32]) rfl rfl h
@[simp] theorem keepE33 : ctx.keep 33 = keep33 := rfl
@[simp] theorem ghE33 : ctx.gh 33 = fun _ => [] := rfl
@[simp] theorem mdE33 : ctx.md 33 = md33 := rfl
@[simp] theorem fpE33 : ctx.fp 33 = fp33 := rfl
theorem run33 {args : List AV} {cs : List Cont} (h : callOk 6 fp33 args cs = true) : callT ctx 33 args cs = denK ctx 33 (codeOf Tryd.f33) (entry 6 gl0 args cs fp33.sites) (finK Tryd.prog fp33 cs.length [.tmp 2]) :=
  call_run Tryd.func33 rfl Tryd.ntmps33 (by rw [Tryd.results33]) rfl rfl h
@[simp] theorem keepE34 : ctx.keep 34 = keep34 := rfl
@[simp] theorem ghE34 : ctx.gh 34 = fun _ => [] := rfl
@[simp] theorem mdE34 : ctx.md 34 = md34 := rfl
@[simp] theorem fpE34 : ctx.fp 34 = fp34 := rfl
theorem run34 {args : List AV} {cs : List Cont} (h : callOk 25 fp34 args cs = true) : callT ctx 34 args cs = denK ctx 34 (codeOf Tryd.f34) (entry 25 gl0 args cs fp34.sites) (finK Tryd.prog fp34 cs.length [.tmp 2]) :=
  call_run Tryd.func34 rfl Tryd.ntmps34 (by rw [Tryd.results34]) rfl rfl h
@[simp] theorem keepE35 : ctx.keep 35 = keep35 := rfl
@[simp] theorem ghE35 : ctx.gh 35 = fun _ => [] := rfl
@[simp] theorem mdE35 : ctx.md 35 = md35 := rfl
@[simp] theorem fpE35 : ctx.fp 35 = fp35 := rfl
theorem run35 {args : List AV} {cs : List Cont} (h : callOk 4 fp35 args cs = true) : callT ctx 35 args cs = denK ctx 35 (codeOf Tryd.f35) (entry 4 gl0 args cs fp35.sites) (finK Tryd.prog fp35 cs.length [.tmp 2]) :=
  call_run Tryd.func35 rfl Tryd.ntmps35 (by rw [Tryd.results35]) rfl rfl h
@[simp] theorem keepE36 : ctx.keep 36 = keep36 := rfl
@[simp] theorem ghE36 : ctx.gh 36 = fun _ => [] := rfl
@[simp] theorem mdE36 : ctx.md 36 = md36 := rfl
@[simp] theorem fpE36 : ctx.fp 36 = fp36 := rfl
theorem run36 {args : List AV} {cs : List Cont} (h : callOk 8 fp36 args cs = true) : callT ctx 36 args cs = denK ctx 36 (codeOf Tryd.f36) (entry 8 gl0 args cs fp36.sites) (finK Tryd.prog fp36 cs.length [.tmp 2]) :=
  call_run Tryd.func36 rfl Tryd.ntmps36 (by rw [Tryd.results36]) rfl rfl h
@[simp] theorem keepE37 : ctx.keep 37 = keep37 := rfl
@[simp] theorem ghE37 : ctx.gh 37 = fun _ => [] := rfl
@[simp] theorem mdE37 : ctx.md 37 = md37 := rfl
@[simp] theorem fpE37 : ctx.fp 37 = fp37 := rfl
theorem run37 {args : List AV} {cs : List Cont} (h : callOk 8 fp37 args cs = true) : callT ctx 37 args cs = denK ctx 37 (codeOf Tryd.f37) (entry 8 gl0 args cs fp37.sites) (finK Tryd.prog fp37 cs.length [.tmp 2]) :=
  call_run Tryd.func37 rfl Tryd.ntmps37 (by rw [Tryd.results37]) rfl rfl h
@[simp] theorem keepE38 : ctx.keep 38 = keep38 := rfl
@[simp] theorem ghE38 : ctx.gh 38 = fun _ => [] := rfl
@[simp] theorem mdE38 : ctx.md 38 = md38 := rfl
@[simp] theorem fpE38 : ctx.fp 38 = fp38 := rfl
theorem run38 {args : List AV} {cs : List Cont} (h : callOk 14 fp38 args cs = true) : callT ctx 38 args cs = denK ctx 38 (codeOf Tryd.f38) (entry 14 gl0 args cs fp38.sites) (finK Tryd.prog fp38 cs.length [.tmp 2]) :=
  call_run Tryd.func38 rfl Tryd.ntmps38 (by rw [Tryd.results38]) rfl rfl h
@[simp] theorem keepE39 : ctx.keep 39 = keep39 := rfl
@[simp] theorem ghE39 : ctx.gh 39 = fun _ => [] := rfl
@[simp] theorem mdE39 : ctx.md 39 = md39 := rfl
@[simp] theorem fpE39 : ctx.fp 39 = fp39 := rfl
theorem run39 {args : List AV} {cs : List Cont} (h : callOk 14 fp39 args cs = true) : callT ctx 39 args cs = denK ctx 39 (codeOf Tryd.f39) (entry 14 gl0 args cs fp39.sites) (finK Tryd.prog fp39 cs.length [.tmp 2]) :=
  call_run Tryd.func39 rfl Tryd.ntmps39 (by rw [Tryd.results39]) rfl rfl h
end Go.Am
end
section
namespace Go.Am
open Go Go.Proofs
set_option maxRecDepth 20000
structure Scope where
  channels : Int
  before : Int
  after : Int
  channel : Int
  level : Int
  up : Bool
  rows : List (List Int)
  seen : Int
  moment : Int
  done : Bool
@[simp] def ints (l : List Int) : D := .list (l.map fun n => .int .i64 n)
@[simp] def Scope.enc (s : Scope) : D := .agg [.int .i64 s.channels, .int .i64 s.before, .int .i64 s.after, .int .i64 s.channel, .int .i64 s.level, .bool s.up, .list (s.rows.map ints), .int .i64 s.seen, .int .i64 s.moment, .bool s.done]
def asked (s : Scope) : Bool :=
  decide (1 ≤ s.channels) && decide (s.channels ≤ 16) && decide (0 ≤ s.before) && decide (s.before ≤ 500) && decide (1 ≤ s.after) && decide (s.after ≤ 500) && decide (0 ≤ s.channel) && decide (s.channel < s.channels)
def crosses (s : Scope) (was is : Int) : Bool := if s.up then decide (was < s.level) && decide (s.level ≤ is) else decide (s.level < was) && decide (is ≤ s.level)

theorem asked_run (s : Scope) : callT ctx 17 [.d s.enc] [] = some (.ret (.d (.bool (asked s))), []) := by
  rw [run17 (by simp)]
  simp [Tryd.f17, asked]
theorem crosses_run (s : Scope) (was is : Int) : callT ctx 21 [.d s.enc, .d (.int .i64 was), .d (.int .i64 is)] [] = some (.ret (.d (.bool (crosses s was is))), []) := by
  rw [run21 (by simp)]
  simp [Tryd.f21, crosses]
  split <;> rfl
end Go.Am
end
section
namespace Go.Am
open Go Go.Proofs
set_option maxRecDepth 20000
def Scope.cells (s : Scope) : List D := [.int .i64 s.channels, .int .i64 s.before, .int .i64 s.after, .int .i64 s.channel, .int .i64 s.level, .bool s.up, .list (s.rows.map ints), .int .i64 s.seen, .int .i64 s.moment, .bool s.done]

theorem right1_run (s : Scope) (r : List Int) : callT ctx 19 [.d (ints r), .ptr 0 0 0] [.box (s.cells.map .d)] = some (.ret (.d (.bool ((r.length : Int) != s.channels))), [(0, .box (s.cells.map .d))]) := by
  rw [run19 (by simp)]
  simp [Tryd.f19, ints, Scope.cells]


/-- The first element with a property. -/
def firstIdx {α : Type} (p : α → Bool) : List α → Nat → Option Nat
  | [], _ => none
  | x :: r, i => if p x = true then some i else firstIdx p r (i + 1)

theorem index_loop {α : Type} (enc : α → D) (p : α → Bool) (g : FuncId) (c : List D) (hm : (ctx.fp g).mut_ = []) (hsz : ∀ x, (enc x).size = 1) (hce : ∀ x, (enc x).cells = [enc x])
    (hc : ∀ x, callT ctx g [.d (enc x), .ptr 0 0 0] [.box (c.map .d)] = some (.ret (.d (.bool (p x))), [(0, .box (c.map .d))])) :
    ∀ (rest pre : List α), (pre ++ rest).length < 1000000 → ∀ k : Kt,
      denK ctx 25 (.loop (Code.at (codeOf Tryd.f25) [1, 0, 1, 0, 0])) ⟨19, gl0, [(0, true, .d (.list ((pre ++ rest).map enc))), (1, true, .fn g [.ptr 0 0 0]), (7, true, .d (.int .i64 (pre ++ rest).length)), (8, true, .d (.int .i64 pre.length))], [⟨0, 0, .box (c.map .d)⟩]⟩ k =
        match firstIdx p rest pre.length with
        | some i => k .ret ⟨19, gl0, [(4, true, .d (.int .i64 i))], [⟨0, 0, .box (c.map .d)⟩]⟩
        | none => k (.exit 0) ⟨19, gl0, [(0, true, .d (.list ((pre ++ rest).map enc))), (1, true, .fn g [.ptr 0 0 0]), (7, true, .d (.int .i64 (pre ++ rest).length)), (8, true, .d (.int .i64 (pre ++ rest).length)), (9, true, .d (.bool false))], [⟨0, 0, .box (c.map .d)⟩]⟩
  | [], pre, hl, k => by
    rw [denK_loop]
    simp [Tryd.f25, firstIdx]
  | x :: rest, pre, hl, k => by
    have ih := index_loop enc p g c hm hsz hce hc rest (pre ++ [x])
    rw [denK_loop]
    simp [Tryd.f25, firstIdx] at hl ih ⊢
    have h1 : (pre.length : Int) < pre.length + (rest.length + 1) := by omega
    have h2 : IntKind.i64.wrap ((pre.length : Int) + 1) = pre.length + 1 := IntWalk.i64_in _ (by omega)
    simp [hm, hsz, hce, hc, h1, h2, ih hl]
    cases p x <;> simp

theorem index_run {α : Type} (enc : α → D) (p : α → Bool) (g : FuncId) (c : List D) (hm : (ctx.fp g).mut_ = []) (hsz : ∀ x, (enc x).size = 1) (hce : ∀ x, (enc x).cells = [enc x])
    (hc : ∀ x, callT ctx g [.d (enc x), .ptr 0 0 0] [.box (c.map .d)] = some (.ret (.d (.bool (p x))), [(0, .box (c.map .d))])) (xs : List α) (hl : xs.length < 1000000) :
    callT ctx 25 [.d (.list (xs.map enc)), .fn g [.ptr 0 0 0]] [.box (c.map .d)] = some (.ret (.d (.int .i64 (match firstIdx p xs 0 with | some i => (i : Int) | none => -1))), [(0, .box (c.map .d))]) := by
  have h := index_loop enc p g c hm hsz hce hc xs [] (by simpa using hl)
  rw [run25 (by simp)]
  simp [Tryd.f25] at h ⊢
  rw [h]
  split <;> simp
end Go.Am
end
section
namespace Go.Am
open Go Go.Proofs
set_option maxRecDepth 20000

theorem firstIdx_none {α : Type} (p : α → Bool) : ∀ (xs : List α) (i : Nat), firstIdx p xs i = none ↔ xs.any p = false
  | [], i => by simp [firstIdx]
  | x :: r, i => by
    simp only [firstIdx, List.any_cons, Bool.or_eq_false_iff]
    cases p x <;> simp [firstIdx_none p r (i + 1)]

theorem contains_run {α : Type} (enc : α → D) (p : α → Bool) (g : FuncId) (c : List D) (hm : (ctx.fp g).mut_ = []) (hsz : ∀ x, (enc x).size = 1) (hce : ∀ x, (enc x).cells = [enc x])
    (hc : ∀ x, callT ctx g [.d (enc x), .ptr 0 0 0] [.box (c.map .d)] = some (.ret (.d (.bool (p x))), [(0, .box (c.map .d))])) (xs : List α) (hl : xs.length < 1000000) :
    callT ctx 18 [.d (.list (xs.map enc)), .fn g [.ptr 0 0 0]] [.box (c.map .d)] = some (.ret (.d (.bool (xs.any p))), [(0, .box (c.map .d))]) := by
  rw [run18 (by simp)]
  simp [Tryd.f18, index_run enc p g c hm hsz hce hc xs hl]
  have := firstIdx_none p xs 0
  cases h : firstIdx p xs 0 with
  | none => simp [this.1 h]
  | some i =>
    have h2 : xs.any p = true := by
      cases h3 : xs.any p with
      | true => rfl
      | false => rw [this.2 h3] at h; cases h
    simp [h2]

def rowsBad (s : Scope) : Bool := s.rows.any fun r => (r.length : Int) != s.channels
def right (s : Scope) : Bool :=
  if asked s = false ∨ rowsBad s = true then false
  else if s.seen < s.rows.length then false
  else if s.moment = -1 then decide ((s.rows.length : Int) ≤ max s.before 1) && !s.done
  else decide (0 ≤ s.moment) && decide (s.moment ≤ s.before) && decide (1 ≤ s.rows.length - s.moment) && decide (s.rows.length - s.moment ≤ s.after) && (s.done == decide (s.rows.length - s.moment = s.after))

def I64 (n : Int) : Prop := -9223372036854775808 ≤ n ∧ n ≤ 9223372036854775807
theorem wrap_id {n : Int} (h : I64 n) : IntKind.i64.wrap n = n := IntWalk.i64_in _ (by unfold I64 at h; omega)
theorem right_run (s : Scope) (hl : s.rows.length < 1000000) (hm : I64 s.moment) : callT ctx 11 [.d s.enc] [] = some (.ret (.d (.bool (right s))), []) := by
  have h0 := asked_run s
  have h1 := contains_run ints (fun r => (r.length : Int) != s.channels) 19 s.cells (by simp) (fun _ => rfl) (fun _ => rfl) (right1_run s) s.rows hl
  have h2 : (s.rows.any fun r => (r.length : Int) != s.channels) = rowsBad s := rfl
  rw [h2] at h1
  simp [Scope.cells] at h0 h1
  rw [run11 (by simp)]
  simp [Tryd.f11, h0, h1]
  unfold right
  unfold I64 at hm
  cases asked s
  · simp
  · cases rowsBad s
    · simp only [Bool.true_eq_false, if_false, if_true, Bool.false_eq_true, or_self]
      split
      · rfl
      · split
        · congr 5
          rw [Bool.eq_iff_iff]
          simp
          omega
        · by_cases h5 : 0 ≤ s.moment
          · rw [wrap_id (by unfold I64; omega)]
            congr 6
          · simp [h5]
    · simp
end Go.Am
end
section
namespace Go.Am
open Go

theorem bitLen_unique {x L : Nat} (hx : x ≠ 0) (h64 : x < 2 ^ 64) (h1 : 1 ≤ L) (h2 : 2 ^ (L - 1) ≤ x) (h3 : x < 2 ^ L) : Lib.bitLen x = L := by
  obtain ⟨a, b, c⟩ := Lib.bitLenAux_bounds 64 x h64 hx
  unfold Lib.bitLen
  generalize Lib.bitLenAux 64 x = M at a b c
  rcases Nat.lt_trichotomy M L with h | h | h
  · have : 2 ^ M ≤ 2 ^ (L - 1) := Nat.pow_le_pow_right (by decide) (by omega)
    omega
  · exact h
  · have : 2 ^ L ≤ 2 ^ (M - 1) := Nat.pow_le_pow_right (by decide) (by omega)
    omega
theorem bitLen_shift {x : Nat} (k : Nat) (h64 : x < 2 ^ 64) (h : 2 ^ k ≤ x) : Lib.bitLen x = k + Lib.bitLen (x / 2 ^ k) := by
  have hk : 0 < 2 ^ k := Nat.two_pow_pos k
  have hq : x / 2 ^ k ≠ 0 := by
    have := Nat.div_pos h hk
    omega
  have hq64 : x / 2 ^ k < 2 ^ 64 := Nat.lt_of_le_of_lt (Nat.div_le_self _ _) h64
  obtain ⟨a, b, c⟩ := Lib.bitLenAux_bounds 64 (x / 2 ^ k) hq64 hq
  have e : Lib.bitLenAux 64 (x / 2 ^ k) = Lib.bitLen (x / 2 ^ k) := rfl
  rw [e] at a b c
  generalize Lib.bitLen (x / 2 ^ k) = M at a b c
  refine bitLen_unique (by omega) h64 (by omega) ?_ ?_
  · rw [show k + M - 1 = (M - 1) + k by omega, Nat.pow_add]
    exact (Nat.le_div_iff_mul_le hk).1 b
  · rw [Nat.add_comm, Nat.pow_add]
    exact (Nat.div_lt_iff_lt_mul hk).1 c
def len8 (l : List UInt8) : Prop := l.length = 256 ∧ ∀ i, i < 256 → ((l.getD i 0).toNat = Lib.bitLen i)
/-- What Len64's four steps give. -/
def len64 (x : Nat) : Nat := Lib.bitLen x
theorem len64_steps {x : Nat} (h64 : x < 2 ^ 64) :
    let x1 := if 4294967296 ≤ x then x / 4294967296 else x
    let n1 := if 4294967296 ≤ x then 32 else 0
    let x2 := if 65536 ≤ x1 then x1 / 65536 else x1
    let n2 := if 65536 ≤ x1 then n1 + 16 else n1
    let x3 := if 256 ≤ x2 then x2 / 256 else x2
    let n3 := if 256 ≤ x2 then n2 + 8 else n2
    x3 < 256 ∧ Lib.bitLen x = n3 + Lib.bitLen x3 := by
  intro x1 n1 x2 n2 x3 n3
  have e1 : Lib.bitLen x = n1 + Lib.bitLen x1 ∧ x1 < 4294967296 := by
    by_cases h : 4294967296 ≤ x
    · simp only [x1, n1, h, if_true]
      exact ⟨bitLen_shift 32 h64 h, by omega⟩
    · simp only [x1, n1, h, if_false]
      exact ⟨by simp, by omega⟩
  have e2 : Lib.bitLen x1 + n1 = n2 + Lib.bitLen x2 ∧ x2 < 65536 := by
    by_cases h : 65536 ≤ x1
    · simp only [x2, n2, h, if_true]
      have := bitLen_shift (x := x1) 16 (by omega) h
      simp at this
      exact ⟨by omega, by omega⟩
    · simp only [x2, n2, h, if_false]
      exact ⟨by omega, by omega⟩
  have e3 : Lib.bitLen x2 + n2 = n3 + Lib.bitLen x3 ∧ x3 < 256 := by
    by_cases h : 256 ≤ x2
    · simp only [x3, n3, h, if_true]
      have := bitLen_shift (x := x2) 8 (by omega) h
      simp at this
      exact ⟨by omega, by omega⟩
    · simp only [x3, n3, h, if_false]
      exact ⟨by omega, by omega⟩
  omega
end Go.Am
end
section
namespace Go.Am
open Go Go.Proofs
set_option maxRecDepth 20000

theorem bool2_run (b : Bool) : callT ctx 35 [.d (.bool b)] [] = some (.ret (.d (.int .i64 (if b = true then 1 else 0))), []) := by
  rw [run35 (by simp)]
  simp [Tryd.f35]
  cases b <;> simp
theorem shr_nat (n k : Nat) (b : Nat) (h : k ≤ b) : ((n : Int)).fdiv (2 ^ min k b) = ((n / 2 ^ k : Nat) : Int) := by
  rw [Nat.min_eq_left h, Int.ofNat_fdiv]
  simp
theorem fin64 {l : List UInt8} {x n : Nat} (hx : x < 256) (hn : n ≤ 56) (hl : ∀ p : Fin 256, (strAt l p.val).toNat = Lib.bitLen p.val) :
    IntKind.i64.wrap ((n : Int) + IntKind.i64.wrap (((strAt l x).toNat : Nat) : Int)) = ((n + Lib.bitLen x : Nat) : Int) := by
  have h1 := hl ⟨x, hx⟩
  simp only at h1
  have h2 := (strAt l x).toNat_lt
  rw [h1] at h2 ⊢
  rw [wrap_id (n := ((Lib.bitLen x : Nat) : Int)) (by unfold I64; omega), wrap_id (by unfold I64; omega)]
  simp
theorem fin0 {l : List UInt8} {x : Nat} (hx : x < 256) (hl : ∀ p : Fin 256, (strAt l p.val).toNat = Lib.bitLen p.val) :
    IntKind.i64.wrap (IntKind.i64.wrap (((strAt l x).toNat : Nat) : Int)) = ((Lib.bitLen x : Nat) : Int) := by
  have := fin64 (n := 0) hx (by decide) hl
  simpa using this
theorem u8_of {x : Nat} (hx : x < 256) : IntKind.u8.wrap (x : Int) = x := by rw [IntKind.wrap_u8]; omega
theorem log_run (L : Nat) (h : L ≤ 64) : callT ctx 33 [.d (.int .i64 L)] [] = some (.ret (.d (.int .i64 (Lib.l10 L : Nat))), []) := by
  have h1 : IntKind.i64.wrap ((L : Int) * 78913) = L * 78913 := wrap_id (by unfold I64; omega)
  have h2 := shr_nat (L * 78913) 18 IntKind.i64.bits (by decide)
  simp at h2
  rw [run33 (by simp)]
  simp [Tryd.f33, h1, h2, Lib.l10]
theorem len64_run (u : Nat) (h : u < 2 ^ 64) : callT ctx 34 [.d (.int .u64 u)] [] = some (.ret (.d (.int .i64 (Lib.bitLen u : Nat))), []) := by
  have s := len64_steps h
  simp only at s
  have q1 := shr_nat u 32 IntKind.u64.bits (by decide)
  have q2 := shr_nat u 16 IntKind.u64.bits (by decide)
  have q3 := shr_nat u 8 IntKind.u64.bits (by decide)
  have q4 := shr_nat (u / 2 ^ 32) 16 IntKind.u64.bits (by decide)
  have q5 := shr_nat (u / 2 ^ 32) 8 IntKind.u64.bits (by decide)
  have q6 := shr_nat (u / 2 ^ 16) 8 IntKind.u64.bits (by decide)
  have q7 := shr_nat (u / 2 ^ 32 / 2 ^ 16) 8 IntKind.u64.bits (by decide)
  simp at q1 q2 q3 q4 q5 q6 q7
  have key : ∀ x : Nat, x < 256 → IntKind.u8.wrap (x : Int) = x := fun x hx => by rw [IntKind.wrap_u8]; omega
  have w1 : IntKind.i64.wrap 8 = 8 := rfl
  have w2 : IntKind.i64.wrap 16 = 16 := rfl
  have w3 : IntKind.i64.wrap 24 = 24 := rfl
  have w4 : IntKind.i64.wrap 40 = 40 := rfl
  have w5 : IntKind.i64.wrap 48 = 48 := rfl
  have w6 : IntKind.i64.wrap 56 = 56 := rfl
  rw [run34 (by simp)]
  by_cases c0 : 4294967296 ≤ u
  · have d0 : (4294967296 : Int) ≤ (u : Int) := by omega
    simp only [c0, if_true] at s
    by_cases c1 : 65536 ≤ u / 4294967296
    · have d1 : (65536 : Int) ≤ (u : Int) / 4294967296 := by omega
      simp only [c1, if_true] at s
      by_cases c2 : 256 ≤ u / 4294967296 / 65536
      · have d2 : (256 : Int) ≤ (u : Int) / 4294967296 / 65536 := by omega
        simp only [c2, if_true] at s
        have e := u8_of s.1
        simp at e
        have hx : (u : Int) / 4294967296 / 65536 / 256 = ((u / 4294967296 / 65536 / 256 : Nat) : Int) := by simp
        simp [Tryd.f34, w1, w2, w3, w4, w5, w6, d0, q1, d1, q4, d2, q7]
        rw [e, hx, Int.toNat_natCast]
        refine ⟨⟨by omega, by have := s.1; omega⟩, ?_⟩
        exact (fin64 (n := 56) s.1 (by decide) (by decide +kernel)).trans (by rw [s.2])
      · have d2 : ¬ ((256 : Int) ≤ (u : Int) / 4294967296 / 65536) := by omega
        simp only [c2, if_false] at s
        have e := u8_of s.1
        simp at e
        have hx : (u : Int) / 4294967296 / 65536 = ((u / 4294967296 / 65536 : Nat) : Int) := by simp
        simp [Tryd.f34, w1, w2, w3, w4, w5, w6, d0, q1, d1, q4, d2]
        rw [e, hx, Int.toNat_natCast]
        refine ⟨⟨by omega, by have := s.1; omega⟩, ?_⟩
        exact (fin64 (n := 48) s.1 (by decide) (by decide +kernel)).trans (by rw [s.2])
    · have d1 : ¬ ((65536 : Int) ≤ (u : Int) / 4294967296) := by omega
      simp only [c1, if_false] at s
      by_cases c2 : 256 ≤ u / 4294967296
      · have d2 : (256 : Int) ≤ (u : Int) / 4294967296 := by omega
        simp only [c2, if_true] at s
        have e := u8_of s.1
        simp at e
        have hx : (u : Int) / 4294967296 / 256 = ((u / 4294967296 / 256 : Nat) : Int) := by simp
        simp [Tryd.f34, w1, w2, w3, w4, w5, w6, d0, q1, d1, d2, q5]
        rw [e, hx, Int.toNat_natCast]
        refine ⟨⟨by omega, by have := s.1; omega⟩, ?_⟩
        exact (fin64 (n := 40) s.1 (by decide) (by decide +kernel)).trans (by rw [s.2])
      · have d2 : ¬ ((256 : Int) ≤ (u : Int) / 4294967296) := by omega
        simp only [c2, if_false] at s
        have e := u8_of s.1
        simp at e
        have hx : (u : Int) / 4294967296 = ((u / 4294967296 : Nat) : Int) := by simp
        simp [Tryd.f34, w1, w2, w3, w4, w5, w6, d0, q1, d1, d2]
        rw [e, hx, Int.toNat_natCast]
        refine ⟨⟨by omega, by have := s.1; omega⟩, ?_⟩
        exact (fin64 (n := 32) s.1 (by decide) (by decide +kernel)).trans (by rw [s.2])
  · have d0 : ¬ ((4294967296 : Int) ≤ (u : Int)) := by omega
    simp only [c0, if_false] at s
    by_cases c1 : 65536 ≤ u
    · have d1 : (65536 : Int) ≤ (u : Int) := by omega
      simp only [c1, if_true] at s
      by_cases c2 : 256 ≤ u / 65536
      · have d2 : (256 : Int) ≤ (u : Int) / 65536 := by omega
        simp only [c2, if_true] at s
        have e := u8_of s.1
        simp at e
        have hx : (u : Int) / 65536 / 256 = ((u / 65536 / 256 : Nat) : Int) := by simp
        simp [Tryd.f34, w1, w2, w3, w4, w5, w6, d0, d1, q2, d2, q6]
        rw [e, hx, Int.toNat_natCast]
        refine ⟨⟨by omega, by have := s.1; omega⟩, ?_⟩
        exact (fin64 (n := 24) s.1 (by decide) (by decide +kernel)).trans (by rw [s.2])
      · have d2 : ¬ ((256 : Int) ≤ (u : Int) / 65536) := by omega
        simp only [c2, if_false] at s
        have e := u8_of s.1
        simp at e
        have hx : (u : Int) / 65536 = ((u / 65536 : Nat) : Int) := by simp
        simp [Tryd.f34, w1, w2, w3, w4, w5, w6, d0, d1, q2, d2]
        rw [e, hx, Int.toNat_natCast]
        refine ⟨⟨by omega, by have := s.1; omega⟩, ?_⟩
        exact (fin64 (n := 16) s.1 (by decide) (by decide +kernel)).trans (by rw [s.2])
    · have d1 : ¬ ((65536 : Int) ≤ (u : Int)) := by omega
      simp only [c1, if_false] at s
      by_cases c2 : 256 ≤ u
      · have d2 : (256 : Int) ≤ (u : Int) := by omega
        simp only [c2, if_true] at s
        have e := u8_of s.1
        simp at e
        have hx : (u : Int) / 256 = ((u / 256 : Nat) : Int) := by simp
        simp [Tryd.f34, w1, w2, w3, w4, w5, w6, d0, d1, d2, q3]
        rw [e, hx, Int.toNat_natCast]
        refine ⟨⟨by omega, by have := s.1; omega⟩, ?_⟩
        exact (fin64 (n := 8) s.1 (by decide) (by decide +kernel)).trans (by rw [s.2])
      · have d2 : ¬ ((256 : Int) ≤ (u : Int)) := by omega
        simp only [c2, if_false] at s
        have e := u8_of s.1
        have hx : (u : Int) = ((u : Nat) : Int) := by simp
        simp [Tryd.f34, w1, w2, w3, w4, w5, w6, d0, d1, d2]
        rw [e, Int.toNat_natCast]
        refine ⟨⟨by omega, by have := s.1; omega⟩, ?_⟩
        exact (fin0 s.1 (by decide +kernel)).trans (by first | (rw [s.2]; simp; done) | rw [s.2])

@[simp] theorem loadR_rptr {P : Program} {m : Mem} {t : TypeId} {x : D} {j : Nat} (h : (tk P t).agg = false) : loadR P m t (.rptr x j) = .val (tk P t ≠ .other ∧ j < x.size) (.d (x.cell j)) := by
  simp [loadR, h]
theorem tab0_at (i : Nat) (h : i < 20) : tab0[i]? = some ((10 ^ i : Nat) : Int) := by
  have : ∀ i : Fin 20, tab0[i.val]? = some ((10 ^ i.val : Nat) : Int) := by decide +kernel
  exact this ⟨i, h⟩
theorem numDigits_run (u : Nat) (h1 : 1 ≤ u) (h : u < 2 ^ 64) : callT ctx 30 [.d (.int .u64 u)] [] = some (.ret (.d (.int .i64 (Lib.nDigits u : Nat))), []) := by
  obtain ⟨q1, q2⟩ := Lib.numDigits_eq u h1 (by simpa using h)
  have l1 : Lib.bitLen u ≤ 64 := Lib.bitLen_le u 64 (Nat.le_refl _) h
  have r1 := len64_run u h
  have r2 := log_run (Lib.bitLen u) l1
  have r3 := tab0_at (Lib.l10 (Lib.bitLen u)) (by omega)
  generalize Lib.l10 (Lib.bitLen u) = L at q1 q2 r2 r3
  have l2 : L < 20 := by omega
  have t1 : tab0.length = 20 := rfl
  have r5 : tab0[L]'(by omega) = ((10 ^ L : Nat) : Int) := by
    have := r3
    rw [List.getElem?_eq_getElem (by omega)] at this
    exact Option.some.inj this
  have n20 := Lib.nDigits_le20 u (by simpa using h)
  rw [run30 (by simp)]
  simp [Tryd.f30, r1, r2, l2, t1, D.cell, D.size, bool2_run, r5]
  by_cases hp : 10 ^ L ≤ u
  · have hp' : ((10 : Int) ^ L) ≤ u := by exact_mod_cast hp
    simp only [hp, if_true] at q1
    simp only [hp', if_true]
    rw [wrap_id (by unfold I64; omega)]
    omega
  · have hp' : ¬ (((10 : Int) ^ L) ≤ u) := by exact_mod_cast hp
    simp only [hp, if_false] at q1
    simp only [hp', if_false]
    rw [wrap_id (by unfold I64; omega)]
    omega
end Go.Am
end
section
namespace Go.Am
open Go

def digD (v j : Nat) : D := .int .u8 ((48 + v / 10 ^ j % 10 : Nat) : Int)
def fill (nd v : Nat) (R : List D) : List D := (List.range nd).map (fun t => digD v (nd - 1 - t)) ++ R.drop nd
theorem fill_get (nd v : Nat) (R : List D) (i : Nat) : (fill nd v R)[i]? = if i < nd then some (digD v (nd - 1 - i)) else R[i]? := by
  unfold fill
  split
  · rename_i h
    rw [List.getElem?_append_left (by simpa using h)]
    simp [h]
  · rename_i h
    rw [List.getElem?_append_right (by simp; omega)]
    simp only [List.length_map, List.length_range, List.getElem?_drop]
    congr 1
    omega
theorem fill_zero (v : Nat) (R : List D) : fill 0 v R = R := by simp [fill]
theorem digD_div (v j : Nat) : digD (v / 100) j = digD v (j + 2) := by
  unfold digD
  rw [Nat.div_div_eq_div_mul, show 100 * 10 ^ j = 10 ^ (j + 2) by rw [Nat.pow_add]; omega]
theorem fill_step2 {k v : Nat} {R : List D} (h : k + 2 ≤ R.length) : fill k (v / 100) ((R.set (k + 1) (digD v 0)).set k (digD v 1)) = fill (k + 2) v R := by
  apply List.ext_getElem?
  intro i
  rw [fill_get, fill_get]
  by_cases h1 : i < k
  · rw [if_pos h1, if_pos (by omega), digD_div]
    congr 2
    omega
  · rw [if_neg h1]
    by_cases h2 : i = k
    · subst h2
      rw [if_pos (by omega), List.getElem?_set_self (by simp; omega)]
      congr 2
      omega
    · rw [List.getElem?_set_ne (by omega)]
      by_cases h3 : i = k + 1
      · subst h3
        rw [if_pos (by omega), List.getElem?_set_self (by omega)]
        congr 2
        omega
      · rw [List.getElem?_set_ne (by omega), if_neg (by omega)]
theorem fill_step1 {v : Nat} {R : List D} (hv : v < 10) (h : 1 ≤ R.length) : R.set 0 (digD v 0) = fill 1 v R := by
  apply List.ext_getElem?
  intro i
  rw [fill_get]
  by_cases h1 : i = 0
  · subst h1
    rw [if_pos (by omega), List.getElem?_set_self (by omega)]
  · rw [if_neg (by omega), List.getElem?_set_ne (by omega)]
/-- The whole numeral. -/
theorem fill_dec {u : Nat} {R : List D} : (fill (Lib.nDigits u) u R).take (Lib.nDigits u) = (Lib.decDigits u).map fun b => D.int .u8 (b.toNat : Int) := by
  rw [Lib.decDigits_eq]
  unfold fill
  rw [List.take_left' (by simp)]
  rw [List.map_map]
  apply List.map_congr_left
  intro t _
  simp only [digD, Function.comp, Lib.dg]
  have : 48 + u / 10 ^ (Lib.nDigits u - 1 - t) % 10 < 256 := by omega
  simp only [UInt8.toNat_ofNat']
  rw [Nat.mod_eq_of_lt (a := 48 + u / 10 ^ (Lib.nDigits u - 1 - t) % 10) (by omega)]
end Go.Am
end
section
namespace Go.Am
open Go Go.Proofs
set_option maxRecDepth 20000

theorem smalls_lo {l : List UInt8} {p : Nat} (hp : p < 100) (hl : ∀ p : Fin 100, (strAt l (p.val * 2 + 1)).toNat = 48 + p.val % 10) : (strAt l (p * 2 + 1)).toNat = 48 + p % 10 := hl ⟨p, hp⟩
theorem smalls_hi {l : List UInt8} {p : Nat} (hp : p < 100) (hl : ∀ p : Fin 100, (strAt l (p.val * 2)).toNat = 48 + p.val / 10) : (strAt l (p * 2)).toNat = 48 + p / 10 := hl ⟨p, hp⟩

theorem u32_of {x : Nat} (hx : x < 4294967296) : IntKind.u32.wrap (x : Int) = x := by rw [IntKind.wrap_u32]; omega
theorem digD0 (v : Nat) : D.int .u8 ((48 + v % 10 : Nat) : Int) = digD v 0 := by simp [digD]
theorem digD1 (v : Nat) : D.int .u8 ((48 + v / 10 % 10 : Nat) : Int) = digD v 1 := by simp [digD]

/-- From the test whether one place is left. -/
theorem fmt_one (n0 nd v : Nat) (R : List D) (h1 : nd ≤ n0) (h2 : n0 ≤ R.length) (h3 : nd < 2) (hv : v < 10 ^ nd) (E : List (Nat × Bool × AV)) (hE : E = [] ∨ E = [(99, true, .d (.bool false))]) (k : Kt) :
    ∃ env, denK ctx 31 (Code.at (codeOf Tryd.f31) [1, 1, 1, 1]) ⟨167, gl0, (0, true, .vec 0 0 0 n0) :: (4, true, .d (.int .i64 nd)) :: (12, true, .d (.int .u32 v)) :: E, [⟨0, 0, .vec 1 R⟩]⟩ k =
      k .normal ⟨167, gl0, env, [⟨0, 0, .vec 1 (fill nd v R)⟩]⟩ := by
  have h : nd = 0 ∨ nd = 1 := by omega
  rcases h with rfl | rfl
  · refine ⟨[(0, true, .vec 0 0 0 n0), (12, true, .d (.int .u32 v)), (161, true, .d (.bool false))], ?_⟩
    rcases hE with rfl | rfl <;> simp [Tryd.f31, fill_zero]
  · refine ⟨[], ?_⟩
    simp at hv
    have e1 : IntKind.u32.wrap (48 + (v : Int)) = ((48 + v : Nat) : Int) := by
      rw [show (48 : Int) + v = ((48 + v : Nat) : Int) by omega, u32_of (by omega)]
    have e2 : IntKind.u8.wrap ((48 + v : Nat) : Int) = ((48 + v % 10 : Nat) : Int) := by rw [u8_of (by omega)]; omega
    have l1 : 0 < n0 := by omega
    have l2 : 0 < R.length := by omega
    simp only [Int.natCast_add] at e1 e2
    have e3 : IntKind.u8.wrap (48 + (v : Int)) = 48 + (v : Int) % 10 := by simpa using e2
    rw [← fill_step1 hv (by omega), ← digD0]
    rcases hE with rfl | rfl <;> simp [Tryd.f31, e1, e3, l1, l2]

theorem two_facts {v : Nat} (hv : v < 4294967296) : ∃ p q q1 : Nat, p = v % 100 ∧ q = p * 2 ∧ q1 = p * 2 + 1 ∧ ((v : Int)).tmod 100 = (p : Int) ∧ ((v : Int)).tdiv 100 = ((v / 100 : Nat) : Int) ∧ IntKind.u32.wrap ((p : Int) * 2) = (q : Int) ∧
    IntKind.u32.wrap ((q : Int) + 1) = (q1 : Int) := by
  refine ⟨v % 100, v % 100 * 2, v % 100 * 2 + 1, rfl, rfl, rfl, by simp [Int.tmod], by simp [Int.tdiv], ?_, ?_⟩
  · rw [show ((v % 100 : Nat) : Int) * 2 = ((v % 100 * 2 : Nat) : Int) by omega, u32_of (by omega)]
  · rw [show ((v % 100 * 2 : Nat) : Int) + 1 = ((v % 100 * 2 + 1 : Nat) : Int) by omega, u32_of (by omega)]
theorem byte_of {l : List UInt8} {i : Nat} {n : Nat} (h : (strAt l i).toNat = n) : (((strAt l i).toNat : Nat) : Int) = n := by rw [h]

theorem fmt_two2 (n0 v : Nat) (R : List D) (h1 : 2 ≤ n0) (h2 : n0 ≤ R.length) (hv : v < 100) (E : List (Nat × Bool × AV)) (hE : E = [] ∨ E = [(99, true, .d (.bool false))]) (k : Kt) :
    ∃ env, denK ctx 31 (Code.at (codeOf Tryd.f31) [1, 1, 1, 1]) ⟨167, gl0, (0, true, .vec 0 0 0 n0) :: (4, true, .d (.int .i64 2)) :: (12, true, .d (.int .u32 v)) :: E, [⟨0, 0, .vec 1 R⟩]⟩ k =
      k .normal ⟨167, gl0, env, [⟨0, 0, .vec 1 (fill 2 v R)⟩]⟩ := by
  refine ⟨[(0, true, .vec 0 0 0 n0), (12, true, .d (.int .u32 (v / 100 : Nat))), (161, true, .d (.bool false))], ?_⟩
  obtain ⟨p, q, q1, hp, hq, hq1, t1, t2, t3, t4⟩ := two_facts (v := v) (by omega)
  have w0 : IntKind.i64.wrap 0 = 0 := rfl
  have w1 : IntKind.i64.wrap 1 = 1 := rfl
  have l0 : q < 200 := by omega
  have l1 : q1 < 200 := by omega
  have l2 : 1 < n0 := by omega
  have l3 : 1 < R.length := by omega
  have l4 : 0 < n0 := by omega
  have l5 : 0 < R.length := by omega
  rw [← fill_step2 (k := 0) (v := v) (R := R) (by omega), fill_zero, ← digD0, ← digD1]
  rcases hE with rfl | rfl
  all_goals (
    simp [Tryd.f31, t1, t3, t4, w0, w1, l0, l1, l2, l3, l4, l5]
    rw [drwK_nil (by kernel_rfl)]
    have z1 : IntKind.u32.wrap ((v : Int) / 100) = ((v / 100 : Nat) : Int) := by rw [show (v : Int) / 100 = ((v / 100 : Nat) : Int) by omega, u32_of (by omega)]
    simp only [Int.natCast_ediv] at z1
    simp [t2, w0, z1]
    subst hq hq1
    rw [smalls_lo (p := p) (by omega) (by decide +kernel), smalls_hi (p := p) (by omega) (by decide +kernel)]
    have a1 : ((48 + p % 10 : Nat) : Int) = 48 + (v : Int) % 10 := by omega
    have a2 : ((48 + p / 10 : Nat) : Int) = 48 + (v : Int) / 10 % 10 := by omega
    rw [a1, a2])

theorem fmt_two3 (n0 v : Nat) (R : List D) (h1 : 3 ≤ n0) (h2 : n0 ≤ R.length) (hv : v < 1000) (E : List (Nat × Bool × AV)) (hE : E = [] ∨ E = [(99, true, .d (.bool false))]) (k : Kt) :
    ∃ env, denK ctx 31 (Code.at (codeOf Tryd.f31) [1, 1, 1, 1]) ⟨167, gl0, (0, true, .vec 0 0 0 n0) :: (4, true, .d (.int .i64 3)) :: (12, true, .d (.int .u32 v)) :: E, [⟨0, 0, .vec 1 R⟩]⟩ k =
      k .normal ⟨167, gl0, env, [⟨0, 0, .vec 1 (fill 3 v R)⟩]⟩ := by
  refine ⟨[], ?_⟩
  obtain ⟨p, q, q1, hp, hq, hq1, t1, t2, t3, t4⟩ := two_facts (v := v) (by omega)
  have w0 : IntKind.i64.wrap 0 = 0 := rfl
  have w1 : IntKind.i64.wrap 1 = 1 := rfl
  have w2 : IntKind.i64.wrap 2 = 2 := rfl
  have l0 : q < 200 := by omega
  have l1 : q1 < 200 := by omega
  have l2 : 1 < n0 := by omega
  have l3 : 1 < R.length := by omega
  have l4 : 0 < n0 := by omega
  have l5 : 0 < R.length := by omega
  have l6 : 2 < n0 := by omega
  have l7 : 2 < R.length := by omega
  have z1 : IntKind.u32.wrap ((v : Int) / 100) = ((v / 100 : Nat) : Int) := by rw [show (v : Int) / 100 = ((v / 100 : Nat) : Int) by omega, u32_of (by omega)]
  have e1 : IntKind.u32.wrap (48 + ((v / 100 : Nat) : Int)) = ((48 + v / 100 : Nat) : Int) := by
    rw [show (48 : Int) + ((v / 100 : Nat) : Int) = ((48 + v / 100 : Nat) : Int) by omega, u32_of (by omega)]
  have e2 : IntKind.u8.wrap ((48 + v / 100 : Nat) : Int) = ((48 + v / 100 % 10 : Nat) : Int) := by rw [u8_of (by omega)]; omega
  rw [← fill_step2 (k := 1) (v := v) (R := R) (by omega), ← fill_step1 (by omega) (by simp; omega), ← digD0, ← digD0, ← digD1]
  rcases hE with rfl | rfl
  all_goals (
    simp [Tryd.f31, t1, t3, t4, w0, w1, w2, l0, l1, l2, l3, l4, l5, l6, l7]
    rw [drwK_nil (by kernel_rfl)]
    simp only [Int.natCast_ediv, Int.natCast_add] at z1 e1 e2
    simp [t2, w0, w1, z1, e1, e2, l4, l5]
    subst hq hq1
    rw [smalls_lo (p := p) (by omega) (by decide +kernel), smalls_hi (p := p) (by omega) (by decide +kernel)]
    have a1 : ((48 + p % 10 : Nat) : Int) = 48 + (v : Int) % 10 := by omega
    have a2 : ((48 + p / 10 : Nat) : Int) = 48 + (v : Int) / 10 % 10 := by omega
    have a3 : IntKind.u8.wrap (IntKind.u32.wrap (48 + (v : Int) / 100)) = 48 + (v : Int) / 100 % 10 := by
      rw [show (48 : Int) + (v : Int) / 100 = ((48 + v / 100 : Nat) : Int) by omega, u32_of (by omega), u8_of (by omega)]
      omega
    rw [a1, a2, a3])
end Go.Am
end
section
namespace Go.Am
open Go Go.Proofs
set_option maxRecDepth 20000
theorem dig_hi {v w p : Nat} {l : List UInt8} (j : Nat) (hw : w = v / 10 ^ j) (hp : p = w % 100) (hl : ∀ p : Fin 100, (strAt l (p.val * 2)).toNat = 48 + p.val / 10) : D.int .u8 (((strAt l (p * 2)).toNat : Nat) : Int) = digD v (j + 1) := by
  rw [smalls_hi (p := p) (by omega) hl, digD, Nat.pow_succ, ← Nat.div_div_eq_div_mul, ← hw]
  congr 2
  omega
theorem dig_lo {v w p : Nat} {l : List UInt8} (j : Nat) (hw : w = v / 10 ^ j) (hp : p = w % 100) (hl : ∀ p : Fin 100, (strAt l (p.val * 2 + 1)).toNat = 48 + p.val % 10) : D.int .u8 (((strAt l (p * 2 + 1)).toNat : Nat) : Int) = digD v j := by
  rw [smalls_lo (p := p) (by omega) hl, digD, ← hw]
  congr 2
  omega
theorem fill_step4 {k v : Nat} {R : List D} (h : k + 4 ≤ R.length) : fill k (v / 10000) ((((R.set (k + 3) (digD v 0)).set (k + 2) (digD v 1)).set (k + 1) (digD v 2)).set k (digD v 3)) = fill (k + 4) v R := by
  rw [← fill_step2 (k := k + 2) h, ← fill_step2 (k := k) (by simp; omega), digD_div, digD_div, Nat.div_div_eq_div_mul]

theorem w_of {x : Int} {y : Nat} (h : x = y) (hy : y < 1000000) : IntKind.i64.wrap x = y := by rw [wrap_id (by unfold I64; omega), h]
theorem four_facts {v : Nat} (hv : v < 4294967296) : ∃ y z : Nat, y = v % 10000 ∧ z = v / 10000 ∧ ((v : Int)).tmod 10000 = (y : Int) ∧ ((v : Int)).tdiv 10000 = (z : Int) ∧ IntKind.u32.wrap (z : Int) = z ∧ IntKind.u32.wrap (y : Int) = y :=
  ⟨v % 10000, v / 10000, rfl, rfl, by simp [Int.tmod], by simp [Int.tdiv], u32_of (by omega), u32_of (by omega)⟩

theorem fmt_four (n0 m v : Nat) (R : List D) (h1 : m + 4 ≤ n0) (h2 : n0 ≤ R.length) (h3 : n0 < 100) (hv : v < 4294967296) (k : Kt) :
    denK ctx 31 (Code.at (codeOf Tryd.f31) [1, 1, 1, 0]) ⟨167, gl0, [(0, true, .vec 0 0 0 n0), (4, true, .d (.int .i64 ((m : Int) + 4))), (12, true, .d (.int .u32 v))], [⟨0, 0, .vec 1 R⟩]⟩ k =
      k .normal ⟨167, gl0, [(0, true, .vec 0 0 0 n0), (4, true, .d (.int .i64 m)), (12, true, .d (.int .u32 ((v / 10000 : Nat) : Int)))], [⟨0, 0, .vec 1 ((((R.set (m + 3) (digD v 0)).set (m + 2) (digD v 1)).set (m + 1) (digD v 2)).set m (digD v 3))⟩]⟩ := by
  obtain ⟨y, z, hy, hz, t1, t2, t3, t4⟩ := four_facts hv
  obtain ⟨p, q, q1, hp, hq, hq1, s1, s2, s3, s4⟩ := two_facts (v := y) (by omega)
  obtain ⟨y2, hy2⟩ : ∃ y2 : Nat, y2 = y / 100 := ⟨_, rfl⟩
  rw [← hy2] at s2
  rw [← hz]
  obtain ⟨u, hu⟩ : ∃ u : Nat, u = y2 * 2 := ⟨_, rfl⟩
  obtain ⟨u1, hu1⟩ : ∃ u1 : Nat, u1 = y2 * 2 + 1 := ⟨_, rfl⟩
  have v1 : IntKind.u32.wrap (y2 : Int) = y2 := u32_of (by omega)
  have v2 : IntKind.u32.wrap ((y2 : Int) * 2) = u := by rw [show (y2 : Int) * 2 = (u : Nat) by omega, u32_of (by omega)]
  have v3 : IntKind.u32.wrap ((u : Int) + 1) = u1 := by rw [show (u : Int) + 1 = (u1 : Nat) by omega, u32_of (by omega)]
  have v4 : IntKind.u32.wrap (u : Int) = u := u32_of (by omega)
  have l2 : u < 200 := by omega
  have l3 : u1 < 200 := by omega
  have w3 : IntKind.i64.wrap ((m : Int) + 4 - 1) = ((m + 3 : Nat) : Int) := w_of (by omega) (by omega)
  have w2 : IntKind.i64.wrap ((m : Int) + 4 - 2) = ((m + 2 : Nat) : Int) := w_of (by omega) (by omega)
  have w1 : IntKind.i64.wrap ((m : Int) + 4 - 3) = ((m + 1 : Nat) : Int) := w_of (by omega) (by omega)
  have w0 : IntKind.i64.wrap ((m : Int) + 4 - 4) = (m : Int) := w_of (by omega) (by omega)
  simp at w0 w1 w2 w3
  have n3 : ((m : Int) + 3).toNat = m + 3 := by omega
  have n2 : ((m : Int) + 2).toNat = m + 2 := by omega
  have n1 : ((m : Int) + 1).toNat = m + 1 := by omega
  have p3 : (0 : Int) ≤ (m : Int) + 3 := by omega
  have p2 : (0 : Int) ≤ (m : Int) + 2 := by omega
  have p1 : (0 : Int) ≤ (m : Int) + 1 := by omega
  have c4 : (4 : Int) ≤ (m : Int) + 4 := by omega
  have l0 : q < 200 := by omega
  have l1 : q1 < 200 := by omega
  have m1 : m < n0 := by omega
  have m2 : m + 1 < n0 := by omega
  have m3 : m + 2 < n0 := by omega
  have m4 : m + 3 < n0 := by omega
  have r1 : m < R.length := by omega
  have r2 : m + 1 < R.length := by omega
  have r3 : m + 2 < R.length := by omega
  have r4 : m + 3 < R.length := by omega
  simp [Tryd.f31, v1, v2, v3, v4, l2, l3, t3, t4, t1, t2, s1, s2, s3, s4, w0, w1, w2, w3, n1, n2, n3, p1, p2, p3, c4, l0, l1, m1, m2, m3, m4, r1, r2, r3, r4]
  rw [drwK_nil (by kernel_rfl)]
  simp [t3, v1, v2, v3, v4, l2, l3, w0, w1, w2, w3, n1, n2, n3, p1, p2, p3, c4, m1, m2, m3, m4, r1, r2, r3, r4]
  rw [drwK_nil (by kernel_rfl)]
  simp [t3, w0]
  subst hq hq1 hu hu1
  rw [dig_lo (v := v) (w := v) (p := p) 0 (by simp) (by omega) (by decide +kernel), dig_hi (v := v) (w := v) (p := p) 0 (by simp) (by omega) (by decide +kernel),
    dig_lo (v := v) (w := v / 100) (p := y2) 2 (by simp) (by omega) (by decide +kernel), dig_hi (v := v) (w := v / 100) (p := y2) 2 (by simp) (by omega) (by decide +kernel)]
end Go.Am
end
section
namespace Go.Am
open Go Go.Proofs
set_option maxRecDepth 20000
theorem fill_step8 {k v : Nat} {R : List D} (h : k + 8 ≤ R.length) : fill k (v / 100000000) ((((((((R.set (k + 7) (digD v 0)).set (k + 6) (digD v 1)).set (k + 5) (digD v 2)).set (k + 4) (digD v 3)).set (k + 3) (digD v 4)).set (k + 2) (digD v 5)).set (k + 1) (digD v 6)).set k (digD v 7)) = fill (k + 8) v R := by
  have e : ∀ w j, digD (w / 10000) j = digD w (j + 4) := fun w j => by rw [← digD_div, ← digD_div, Nat.div_div_eq_div_mul]
  have h4 := fill_step4 (k := k + 4) (v := v) (R := R) (by omega)
  rw [← fill_step4 (k := k) (v := v / 10000) (by simp; omega)] at h4
  simp only [e, Nat.div_div_eq_div_mul] at h4
  exact h4
theorem pair_facts {x : Nat} (hx : x < 10000) : ∃ p q q1 r s s1 : Nat, p = x % 100 ∧ q = p * 2 ∧ q1 = p * 2 + 1 ∧ r = x / 100 ∧ s = r * 2 ∧ s1 = r * 2 + 1 ∧ q < 200 ∧ q1 < 200 ∧ s < 200 ∧ s1 < 200 ∧
    ((x : Int)).tmod 100 = (p : Int) ∧ ((x : Int)).tdiv 100 = (r : Int) ∧ IntKind.u32.wrap ((p : Int) * 2) = (q : Int) ∧ IntKind.u32.wrap ((q : Int) + 1) = (q1 : Int) ∧ IntKind.u32.wrap (r : Int) = r ∧ IntKind.u32.wrap ((r : Int) * 2) = (s : Int) ∧ IntKind.u32.wrap ((s : Int) + 1) = (s1 : Int) := by
  refine ⟨x % 100, x % 100 * 2, x % 100 * 2 + 1, x / 100, x / 100 * 2, x / 100 * 2 + 1, rfl, rfl, rfl, rfl, rfl, rfl, by omega, by omega, by omega, by omega, by simp [Int.tmod], by simp [Int.tdiv], ?_, ?_, u32_of (by omega), ?_, ?_⟩
  · rw [show ((x % 100 : Nat) : Int) * 2 = ((x % 100 * 2 : Nat) : Int) by omega, u32_of (by omega)]
  · rw [show ((x % 100 * 2 : Nat) : Int) + 1 = ((x % 100 * 2 + 1 : Nat) : Int) by omega, u32_of (by omega)]
  · rw [show ((x / 100 : Nat) : Int) * 2 = ((x / 100 * 2 : Nat) : Int) by omega, u32_of (by omega)]
  · rw [show ((x / 100 * 2 : Nat) : Int) + 1 = ((x / 100 * 2 + 1 : Nat) : Int) by omega, u32_of (by omega)]
theorem eight_facts {v : Nat} (hv : v < 2 ^ 64) : ∃ y z a b : Nat, a < 10000 ∧ b < 10000 ∧ y = v % 100000000 ∧ z = v / 100000000 ∧ a = y / 10000 ∧ b = y % 10000 ∧ ((v : Int)).tmod 100000000 = (y : Int) ∧ ((v : Int)).tdiv 100000000 = (z : Int) ∧ IntKind.u32.wrap (y : Int) = y ∧ IntKind.u64.wrap (z : Int) = z ∧
    ((y : Int)).tmod 10000 = (b : Int) ∧ ((y : Int)).tdiv 10000 = (a : Int) ∧ IntKind.u32.wrap (a : Int) = a := by
  refine ⟨v % 100000000, v / 100000000, v % 100000000 / 10000, v % 100000000 % 10000, by omega, by omega, rfl, rfl, rfl, rfl, by simp [Int.tmod], by simp [Int.tdiv], u32_of (by omega), ?_, by simp [Int.tmod], by simp [Int.tdiv], u32_of (by omega)⟩
  rw [IntKind.wrap_u64]; omega

theorem quot_facts (v : Nat) : v % 100000000 % 10000 % 100 = v % 100 ∧ v % 100000000 % 10000 / 100 = v / 100 % 100 ∧ v % 100000000 / 10000 % 100 = v / 10000 % 100 ∧ v % 100000000 / 10000 / 100 = v / 1000000 % 100 := by omega
theorem pl (m n0 L j : Nat) (h : m + j < n0) (h2 : n0 ≤ L) : ((m : Int) + j).toNat = m + j ∧ (0 : Int) ≤ (m : Int) + j ∧ m + j < n0 ∧ m + j < L := by omega
set_option maxHeartbeats 1000000 in
theorem fmt_eight (n0 m v : Nat) (R : List D) (h1 : m + 8 ≤ n0) (h2 : n0 ≤ R.length) (h3 : n0 < 100) (hv : v < 2 ^ 64) (k : Kt) :
    denK ctx 31 (Code.at (codeOf Tryd.f31) [1, 0, 0, 0]) ⟨167, gl0, [(0, true, .vec 0 0 0 n0), (1, true, .d (.int .u64 v)), (4, true, .d (.int .i64 ((m : Int) + 8)))], [⟨0, 0, .vec 1 R⟩]⟩ k =
      k .normal ⟨167, gl0, [(0, true, .vec 0 0 0 n0), (1, true, .d (.int .u64 ((v / 100000000 : Nat) : Int))), (4, true, .d (.int .i64 m))], [⟨0, 0, .vec 1 ((((((((R.set (m + 7) (digD v 0)).set (m + 6) (digD v 1)).set (m + 5) (digD v 2)).set (m + 4) (digD v 3)).set (m + 3) (digD v 4)).set (m + 2) (digD v 5)).set (m + 1) (digD v 6)).set m (digD v 7))⟩]⟩ := by
  have w8 : (IntKind.i64.wrap ((m : Int) + 8 - 8)) = m := w_of (by omega) (by omega)
  have w7 : (IntKind.i64.wrap ((m : Int) + 8 - 1)) = ((m + 7 : Nat) : Int) := w_of (by omega) (by omega)
  have w6 : (IntKind.i64.wrap ((m : Int) + 8 - 2)) = ((m + 6 : Nat) : Int) := w_of (by omega) (by omega)
  have w5 : (IntKind.i64.wrap ((m : Int) + 8 - 3)) = ((m + 5 : Nat) : Int) := w_of (by omega) (by omega)
  have w4 : (IntKind.i64.wrap ((m : Int) + 8 - 4)) = ((m + 4 : Nat) : Int) := w_of (by omega) (by omega)
  have w3 : (IntKind.i64.wrap ((m : Int) + 8 - 5)) = ((m + 3 : Nat) : Int) := w_of (by omega) (by omega)
  have w2 : (IntKind.i64.wrap ((m : Int) + 8 - 6)) = ((m + 2 : Nat) : Int) := w_of (by omega) (by omega)
  have w1 : (IntKind.i64.wrap ((m : Int) + 8 - 7)) = ((m + 1 : Nat) : Int) := w_of (by omega) (by omega)
  simp at w1 w2 w3 w4 w5 w6 w7 w8
  have n7 := pl m n0 R.length 7 (by omega) h2
  have n6 := pl m n0 R.length 6 (by omega) h2
  have n5 := pl m n0 R.length 5 (by omega) h2
  have n4 := pl m n0 R.length 4 (by omega) h2
  have n3 := pl m n0 R.length 3 (by omega) h2
  have n2 := pl m n0 R.length 2 (by omega) h2
  have n1 := pl m n0 R.length 1 (by omega) h2
  simp at n1 n2 n3 n4 n5 n6 n7
  have n0' : m < n0 ∧ m < R.length := by omega
  have c8 : (8 : Int) ≤ (m : Int) + 8 := by omega
  obtain ⟨y, z, a, b, za, zb, hy, hz, ha, hb, t1, t2, t3, t4, t5, t6, t7⟩ := eight_facts hv
  obtain ⟨bp, bq, bq1, br, bs, bs1, hbp, hbq, hbq1, hbr, hbs, hbs1, b1, b2, b3, b4, b5, b6, b7, b8, b9, b10, b11⟩ := pair_facts (x := b) zb
  obtain ⟨ap, aq, aq1, ar, au, au1, hap, haq, haq1, har, hau, hau1, a1, a2, a3, a4, a5, a6, a7, a8, a9, a10, a11⟩ := pair_facts (x := a) za
  rw [← hz]
  obtain ⟨e1, e2, e3, e4⟩ := quot_facts v
  simp [Tryd.f31, c8, t1, t2, t3, t4, t5, t6, t7, w1, w2, w3, w4, w5, w6, w7, w8, n1, n2, n3, n4, n5, n6, n7, n0', b1, b2, b3, b4, b5, b6, b7, b8, b9, b10, b11, a1, a2, a3, a4, a5, a6, a7, a8, a9, a10, a11]
  rw [drwK_nil (by kernel_rfl)]
  simp [t7, w1, w2, w3, w4, w5, w6, w7, w8, n1, n2, n3, n4, n5, n6, n7, n0', b1, b2, b3, b4, b5, b6, b7, b8, b9, b10, b11, a1, a2, a3, a4, a5, a6, a7, a8, a9, a10, a11]
  rw [drwK_nil (by kernel_rfl)]
  simp [t7, w1, w2, w3, w4, w5, w6, w7, w8, n1, n2, n3, n4, n5, n6, n7, n0', b1, b2, b3, b4, b5, b6, b7, b8, b9, b10, b11, a1, a2, a3, a4, a5, a6, a7, a8, a9, a10, a11]
  rw [drwK_nil (by kernel_rfl)]
  simp [t7, w1, w2, w3, w4, w5, w6, w7, w8, n1, n2, n3, n4, n5, n6, n7, n0', b1, b2, b3, b4, b5, b6, b7, b8, b9, b10, b11, a1, a2, a3, a4, a5, a6, a7, a8, a9, a10, a11]
  rw [drwK_nil (by kernel_rfl)]
  simp [w8]
  subst hbq hbq1 hbs hbs1 haq haq1 hau hau1
  rw [dig_lo (v := v) (w := v) (p := bp) 0 (by simp) (by rw [hbp, hb, hy]; exact e1) (by decide +kernel), dig_hi (v := v) (w := v) (p := bp) 0 (by simp) (by rw [hbp, hb, hy]; exact e1) (by decide +kernel),
    dig_lo (v := v) (w := v / 100) (p := br) 2 (by simp) (by rw [hbr, hb, hy]; exact e2) (by decide +kernel), dig_hi (v := v) (w := v / 100) (p := br) 2 (by simp) (by rw [hbr, hb, hy]; exact e2) (by decide +kernel),
    dig_lo (v := v) (w := v / 10000) (p := ap) 4 (by simp) (by rw [hap, ha, hy]; exact e3) (by decide +kernel), dig_hi (v := v) (w := v / 10000) (p := ap) 4 (by simp) (by rw [hap, ha, hy]; exact e3) (by decide +kernel),
    dig_lo (v := v) (w := v / 1000000) (p := ar) 6 (by simp) (by rw [har, ha, hy]; exact e4) (by decide +kernel), dig_hi (v := v) (w := v / 1000000) (p := ar) 6 (by simp) (by rw [har, ha, hy]; exact e4) (by decide +kernel)]
end Go.Am
end
section
namespace Go.Am
open Go Go.Proofs
set_option maxRecDepth 20000

theorem fmt_small (n0 nd v : Nat) (R : List D) (h1 : nd ≤ n0) (h2 : n0 ≤ R.length) (h3 : nd < 4) (hv : v < 10 ^ nd) (E : List (Nat × Bool × AV)) (hE : E = [] ∨ E = [(99, true, .d (.bool false))]) (k : Kt) :
    ∃ env, denK ctx 31 (Code.at (codeOf Tryd.f31) [1, 1, 1, 1]) ⟨167, gl0, (0, true, .vec 0 0 0 n0) :: (4, true, .d (.int .i64 nd)) :: (12, true, .d (.int .u32 v)) :: E, [⟨0, 0, .vec 1 R⟩]⟩ k =
      k .normal ⟨167, gl0, env, [⟨0, 0, .vec 1 (fill nd v R)⟩]⟩ := by
  have h : nd < 2 ∨ nd = 2 ∨ nd = 3 := by omega
  rcases h with h | rfl | rfl
  · exact fmt_one n0 nd v R h1 h2 h hv E hE k
  · exact fmt_two2 n0 v R h1 h2 (by simpa using hv) E hE k
  · exact fmt_two3 n0 v R h1 h2 (by simpa using hv) E hE k

theorem fmt_rest (n0 nd v : Nat) (R : List D) (h1 : nd ≤ n0) (h2 : n0 ≤ R.length) (h3 : nd < 8) (h4 : n0 < 100) (hv : v < 10 ^ nd) (k : Kt) :
    ∃ env, denK ctx 31 (Code.at (codeOf Tryd.f31) [1, 1, 1]) ⟨167, gl0, [(0, true, .vec 0 0 0 n0), (4, true, .d (.int .i64 nd)), (12, true, .d (.int .u32 v))], [⟨0, 0, .vec 1 R⟩]⟩ k =
      k .normal ⟨167, gl0, env, [⟨0, 0, .vec 1 (fill nd v R)⟩]⟩ := by
  have hv8 : v < 4294967296 := by
    have : 10 ^ nd ≤ 10 ^ 7 := Nat.pow_le_pow_right (by decide) (by omega)
    omega
  by_cases hn : nd < 4
  · obtain ⟨env, h⟩ := fmt_small n0 nd v R h1 h2 hn hv [(99, true, .d (.bool false))] (.inr rfl) k
    refine ⟨env, ?_⟩
    rw [← h]
    have c : ¬ ((4 : Int) ≤ (nd : Int)) := by omega
    simp [Tryd.f31, c]
  · obtain ⟨m, rfl⟩ : ∃ m, nd = m + 4 := ⟨nd - 4, by omega⟩
    have hm : v / 10000 < 10 ^ m := by
      rw [Nat.pow_add] at hv
      omega
    obtain ⟨env, h⟩ := fmt_small n0 m (v / 10000) ((((R.set (m + 3) (digD v 0)).set (m + 2) (digD v 1)).set (m + 1) (digD v 2)).set m (digD v 3)) (by omega) (by simpa using h2) (by omega) hm [] (.inl rfl) k
    have h6 := fmt_four n0 m v R h1 h2 h4 hv8 (seqK ctx 31 (Code.at (codeOf Tryd.f31) [1, 1, 1, 1]) k)
    refine ⟨env, ?_⟩
    rw [← fill_step4 (by omega), ← h]
    have e : Code.at (codeOf Tryd.f31) [1, 1, 1] = .seq (Code.at (codeOf Tryd.f31) [1, 1, 1, 0]) (Code.at (codeOf Tryd.f31) [1, 1, 1, 1]) := rfl
    rw [e, denK_seq, show ((m + 4 : Nat) : Int) = (m : Int) + 4 by omega, h6, seqK_n]

structure FmtRes where
  nd : Nat
  v : Nat
  R : List D
def FmtEnd (nd n0 v : Nat) (R : List D) (t : FmtRes) : Prop := t.nd < 8 ∧ t.nd ≤ n0 ∧ t.v < 10 ^ t.nd ∧ t.R.length = R.length ∧ fill t.nd t.v t.R = fill nd v R
theorem fmt_loop : ∀ (nd n0 v : Nat) (R : List D), nd ≤ n0 → n0 ≤ R.length → n0 < 100 → v < 2 ^ 64 → v < 10 ^ nd → ∀ k : Kt,
    ∃ t, FmtEnd nd n0 v R t ∧
    denK ctx 31 (.loop (Code.at (codeOf Tryd.f31) [1, 0, 0, 0])) ⟨167, gl0, [(0, true, .vec 0 0 0 n0), (1, true, .d (.int .u64 v)), (4, true, .d (.int .i64 nd))], [⟨0, 0, .vec 1 R⟩]⟩ k =
      k (.exit 0) ⟨167, gl0, [(0, true, .vec 0 0 0 n0), (1, true, .d (.int .u64 t.v)), (4, true, .d (.int .i64 t.nd)), (20, true, .d (.bool false))], [⟨0, 0, .vec 1 t.R⟩]⟩ := by
  intro nd
  induction nd using Nat.strongRecOn with
  | _ nd ih =>
    intro n0 v R h1 h2 h3 h4 h5 k
    by_cases hn : nd < 8
    · refine ⟨⟨nd, v, R⟩, ⟨hn, h1, h5, rfl, rfl⟩, ?_⟩
      have c : ¬ ((8 : Int) ≤ (nd : Int)) := by omega
      rw [denK_loop]
      simp [Tryd.f31, c]
    · obtain ⟨m, rfl⟩ : ∃ m, nd = m + 8 := ⟨nd - 8, by omega⟩
      have hm : v / 100000000 < 10 ^ m := by
        rw [Nat.pow_add] at h5
        omega
      obtain ⟨t, ⟨q1, q2, q3, q4, q5⟩, q6⟩ := ih m (by omega) n0 (v / 100000000) ((((((((R.set (m + 7) (digD v 0)).set (m + 6) (digD v 1)).set (m + 5) (digD v 2)).set (m + 4) (digD v 3)).set (m + 3) (digD v 4)).set (m + 2) (digD v 5)).set (m + 1) (digD v 6)).set m (digD v 7)) (by omega) (by simpa using h2) h3 (by omega) hm k
      refine ⟨t, ⟨q1, q2, q3, by simpa using q4, ?_⟩, ?_⟩
      · rw [q5, fill_step8 (by omega)]
      · rw [denK_loop, show ((m + 8 : Nat) : Int) = (m : Int) + 8 by omega, fmt_eight n0 m v R h1 h2 h3 h4, loopK_n, q6]

theorem fmt_run (nd v : Nat) (R : List D) (h1 : nd ≤ R.length) (h2 : nd < 100) (hv : v < 10 ^ nd) (hv2 : v < 2 ^ 64) :
    callT ctx 31 [.vec 0 0 0 nd, .d (.int .u64 v)] [.vec 1 R] = some (.ret (.tup []), [(0, .vec 1 (fill nd v R))]) := by
  rw [run31 (by simp)]
  have e : codeOf Tryd.f31 = .seq (Code.at (codeOf Tryd.f31) [0]) (.seq (.block 0 (.loop (Code.at (codeOf Tryd.f31) [1, 0, 0, 0]))) (.seq (Code.at (codeOf Tryd.f31) [1, 1, 0]) (Code.at (codeOf Tryd.f31) [1, 1, 1]))) := rfl
  rw [e, denK_seq]
  have e0 : ∀ k : Kt, denK ctx 31 (Code.at (codeOf Tryd.f31) [0]) (entry 167 gl0 [.vec 0 0 0 nd, .d (.int .u64 v)] [.vec 1 R] fp31.sites) k = k .normal ⟨167, gl0, [(0, true, .vec 0 0 0 nd), (1, true, .d (.int .u64 v)), (4, true, .d (.int .i64 nd))], [⟨0, 0, .vec 1 R⟩]⟩ := by
    intro k
    simp [Tryd.f31]
  rw [e0, seqK_n, denK_seq, denK_block]
  obtain ⟨t, ⟨q1, q2, q3, q4, q5⟩, q6⟩ := fmt_loop nd nd v R (Nat.le_refl _) h1 h2 hv2 hv (blkK 0 (seqK ctx 31 (.seq (Code.at (codeOf Tryd.f31) [1, 1, 0]) (Code.at (codeOf Tryd.f31) [1, 1, 1])) (finK Tryd.prog fp31 [Cont.vec 1 R].length [])))
  rw [q6, blkK_x, if_pos rfl, seqK_n, denK_seq]
  have hv8 : t.v < 4294967296 := by
    have : 10 ^ t.nd ≤ 10 ^ 7 := Nat.pow_le_pow_right (by decide) (by omega)
    omega
  have w := u32_of hv8
  have e1 : ∀ k : Kt, denK ctx 31 (Code.at (codeOf Tryd.f31) [1, 1, 0]) ⟨167, gl0, [(0, true, .vec 0 0 0 nd), (1, true, .d (.int .u64 t.v)), (4, true, .d (.int .i64 t.nd)), (20, true, .d (.bool false))], [⟨0, 0, .vec 1 t.R⟩]⟩ k = k .normal ⟨167, gl0, [(0, true, .vec 0 0 0 nd), (4, true, .d (.int .i64 t.nd)), (12, true, .d (.int .u32 t.v))], [⟨0, 0, .vec 1 t.R⟩]⟩ := by
    intro k
    simp [Tryd.f31, w]
  rw [e1, seqK_n]
  obtain ⟨env, h⟩ := fmt_rest nd t.nd t.v t.R q2 (by omega) q1 h2 q3 (finK Tryd.prog fp31 [Cont.vec 1 R].length [])
  rw [h, q5]
  simp
end Go.Am
end
section
namespace Go.Am
open Go Go.Proofs
set_option maxRecDepth 20000
def decD (u : Nat) : List D := (Lib.decDigits u).map fun b => D.int .u8 (b.toNat : Int)

theorem small_lo {u : Nat} {l : List UInt8} (h : u < 10) (hl : ∀ p : Fin 10, List.drop p.val (48 :: List.take p.val l) = Lib.decDigits p.val) : List.drop u (48 :: List.take u l) = Lib.decDigits u := hl ⟨u, h⟩
theorem small_hi {u : Nat} {l : List UInt8} (h : u < 100) (hl : ∀ p : Fin 100, 10 ≤ p.val → List.drop (p.val * 2) (List.take (p.val * 2 + 2) l) = Lib.decDigits p.val) (hu : 10 ≤ u) : List.drop (u * 2) (List.take (u * 2 + 2) l) = Lib.decDigits u := hl ⟨u, h⟩ hu
theorem smallD_run (u : Nat) (h : u < 100) : callT ctx 29 [.d (.int .i64 u)] [] = some (.ret (.d (.str (Lib.decDigits u))), []) := by
  rw [run29 (by simp)]
  by_cases c : u < 10
  · have c1 : (u : Int) < 10 := by omega
    have w1 : IntKind.i64.wrap ((u : Int) + 1) = ((u + 1 : Nat) : Int) := w_of (by omega) (by omega)
    simp at w1
    simp [Tryd.f29, c1, w1]
    exact ⟨by omega, small_lo c (by decide +kernel)⟩
  · have c1 : ¬ (u : Int) < 10 := by omega
    have w1 : IntKind.i64.wrap ((u : Int) * 2) = ((u * 2 : Nat) : Int) := w_of (by omega) (by omega)
    have w2 : IntKind.i64.wrap (((u * 2 : Nat) : Int) + 2) = ((u * 2 + 2 : Nat) : Int) := w_of (by omega) (by omega)
    have h2 : u * 2 + 2 ≤ 200 := by omega
    obtain ⟨x, hx⟩ : ∃ x, x = u * 2 := ⟨_, rfl⟩
    obtain ⟨y, hy⟩ : ∃ y, y = u * 2 + 2 := ⟨_, rfl⟩
    have hy' : x + 2 = y := by omega
    rw [← hx] at w1 w2
    rw [hy'] at w2
    have h3 : x ≤ y := by omega
    have h4 : y ≤ 200 := by omega
    simp [Tryd.f29, c1, w1, w2, h3, h4]
    subst hx hy
    exact small_hi h (by decide +kernel) (by omega)
theorem nD_len (u : Nat) (h1 : 1 ≤ u) (h : u < 2 ^ 64) : Lib.nDigits u ≤ 20 := by
  exact Lib.nDigits_le20 u (by omega)
theorem appU_run (u : Nat) (h : u < 2 ^ 64) (R : List D) (hR : R.length < 100000000) :
    callT ctx 28 [.vec 0 0 0 R.length, .d (.int .u64 u), .d (.int .i64 10)] [.vec 1 R] = some (.ret (.vec 0 1 0 (R.length + (decD u).length)), [(1, .vec 1 (R ++ decD u))]) := by
  rw [run28 (by simp)]
  by_cases c : u < 100
  · have c1 : (u : Int) < 100 := by omega
    have s := smallD_run u c
    have w1 : IntKind.i64.wrap (u : Int) = (u : Int) := w_of rfl (by omega)
    have hl := Lib.nDigits_le20 u (by omega)
    rw [← Lib.decDigits_length] at hl
    simp [Tryd.f28, c1, s, w1, decD]
    omega
  · have c1 : ¬ (u : Int) < 100 := by omega
    have hl := Lib.nDigits_le20 u (by omega)
    have hn := numDigits_run u (by omega) h
    have hf := fmt_run (Lib.nDigits u) u (List.replicate 24 (.int .u8 0)) (by simp; omega) (by omega) (Lib.lt_pow_nDigits u) h
    simp at hf
    have hl2 : Lib.nDigits u ≤ 24 := by omega
    have hF : (fill (Lib.nDigits u) u (List.replicate 24 (.int .u8 0))).length = 24 := by simp [fill]; omega
    have hT : (fill (Lib.nDigits u) u (List.replicate 24 (.int .u8 0))).take (Lib.nDigits u) = decD u := fill_dec
    have hD : (decD u).length = Lib.nDigits u := by rw [decD, List.length_map, Lib.decDigits_length]
    have hM : ∀ d : D, d ∈ decD u → d.size = 1 := by
      intro d hd
      simp only [decD, List.mem_map] at hd
      obtain ⟨b, _, rfl⟩ := hd
      rfl
    simp at hF hT
    generalize fill (Lib.nDigits u) u _ = F at hf hF hT
    simp [Tryd.f28, c1, hn, hf, allocR, arrR, zeroByte, hl2, hF, hT, hD]
    exact ⟨hM, by omega⟩

def intD (i : Int) : List D := if i < 0 then .int .u8 45 :: decD (-i).toNat else decD i.toNat
theorem appI2_run (i : Int) (h : I64 i) (R : List D) (hR : R.length < 10000000) :
    callT ctx 26 [.vec 0 0 0 R.length, .d (.int .i64 i), .d (.int .i64 10)] [.vec 1 R] = some (.ret (.vec 0 1 0 (R.length + (intD i).length)), [(1, .vec 1 (R ++ intD i))]) := by
  unfold I64 at h
  rw [run26 (by simp)]
  by_cases c : i < 0
  · obtain ⟨u, hu0⟩ : ∃ u : Nat, u = (-i).toNat := ⟨_, rfl⟩
    have hu := appU_run u (by omega) (R ++ [.int .u8 45]) (by simp; omega)
    have hi : IntKind.u64.wrap (-(IntKind.u64.wrap i)) = (u : Int) := by
      simp only [IntKind.wrap_u64]; omega
    simp at hu
    have e : R.length + 1 + (decD u).length = R.length + ((decD u).length + 1) := by omega
    simp [Tryd.f26, c, hi, hu, intD, ← hu0, e]
    omega
  · obtain ⟨u, hu0⟩ : ∃ u : Nat, u = i.toNat := ⟨_, rfl⟩
    have hu := appU_run u (by omega) R (by omega)
    have hi : IntKind.u64.wrap i = (u : Int) := by rw [IntKind.wrap_u64]; omega
    simp [Tryd.f26, c, hi, hu, intD, ← hu0]
theorem appI_run (i : Int) (h : I64 i) (R : List D) (hR : R.length < 10000000) :
    callT ctx 23 [.vec 0 0 0 R.length, .d (.int .i64 i), .d (.int .i64 10)] [.vec 1 R] = some (.ret (.vec 0 1 0 (R.length + (intD i).length)), [(1, .vec 1 (R ++ intD i))]) := by
  have h1 := appI2_run i h R hR
  rw [run23 (by simp)]
  simp [Tryd.f23, h1]
end Go.Am
end
section
namespace Go.Am
open Go Go.Proofs
set_option maxRecDepth 20000

theorem encode_digit {d : Nat} (h : d < 10) : (Utf8.encode ((48 + d : Nat) : Int)).data.toList = [UInt8.ofNat (48 + d)] := by
  have : d = 0 ∨ d = 1 ∨ d = 2 ∨ d = 3 ∨ d = 4 ∨ d = 5 ∨ d = 6 ∨ d = 7 ∨ d = 8 ∨ d = 9 := by omega
  rcases this with rfl | rfl | rfl | rfl | rfl | rfl | rfl | rfl | rfl | rfl <;> decide +kernel
theorem i32_of {x : Nat} (hx : x < 1000000) : IntKind.i32.wrap (x : Int) = x := by rw [IntKind.wrap_i32]; omega
theorem u64_of {x : Nat} (hx : x < 2 ^ 64) : IntKind.u64.wrap (x : Int) = x := by rw [IntKind.wrap_u64]; omega
theorem size_run (u : Nat) : u < 2 ^ 64 → callT ctx 27 [.d (.int .u64 u)] [] = some (.ret (.d (.str (Lib.decDigits u))), []) := by
  induction u using Nat.strongRecOn with
  | _ u ih =>
    intro h
    rw [run27 (by simp)]
    obtain ⟨d, hd⟩ : ∃ d, d = u % 10 := ⟨_, rfl⟩
    obtain ⟨q, hq⟩ : ∃ q, q = u / 10 := ⟨_, rfl⟩
    have w3 : ((u : Int)).tmod 10 = (d : Int) := by rw [hd]; simp [Int.tmod]
    have w4 : ((u : Int)).tdiv 10 = (q : Int) := by rw [hq]; simp [Int.tdiv]
    have w5 : IntKind.u64.wrap (q : Int) = (q : Int) := u64_of (by omega)
    have w1 : IntKind.u64.wrap (48 + (d : Int)) = (48 + (d : Int)) := by
      have := u64_of (x := 48 + d) (by omega)
      simpa using this
    have w2 : IntKind.i32.wrap (48 + (d : Int)) = (48 + (d : Int)) := by
      have := i32_of (x := 48 + d) (by omega)
      simpa using this
    have we := encode_digit (d := d) (by omega)
    have w6 : IntKind.u64.wrap (d : Int) = (d : Int) := u64_of (by omega)
    simp at we
    by_cases c : u < 10
    · have c1 : (u : Int) < 10 := by omega
      obtain rfl : d = u := by omega
      simp [Tryd.f27, c1, w1, w2, we]
      rw [Lib.decDigits_one c]
      simp
    · have c1 : ¬ (u : Int) < 10 := by omega
      have hr := ih q (by omega) (by omega)
      simp [Tryd.f27, c1, w3, w4, w1, w2, w5, w6, hr, we]
      have hl := Lib.nDigits_le20 q (by omega)
      rw [← Lib.decDigits_length] at hl
      rw [Lib.decDigits.eq_def u, dif_neg c, ← hq, ← hd]
      simp
      omega
theorem num_run (i : Int) (h : I64 i) : callT ctx 24 [.d (.int .i64 i)] [] = some (.ret (.d (.str (Lib.itoa i))), []) := by
  unfold I64 at h
  rw [run24 (by simp)]
  by_cases c : 0 ≤ i
  · obtain ⟨u, hu⟩ : ∃ u : Nat, u = i.toNat := ⟨_, rfl⟩
    have hi : IntKind.u64.wrap i = (u : Int) := by rw [IntKind.wrap_u64]; omega
    have hr := size_run u (by omega)
    simp [Tryd.f24, c, hi, hr, Lib.itoa, ← hu, Int.not_lt.2 c]
  · obtain ⟨u, hu⟩ : ∃ u : Nat, u = i.natAbs := ⟨_, rfl⟩
    have hi : IntKind.u64.wrap (0 - (IntKind.u64.wrap i)) = (u : Int) := by
      simp only [IntKind.wrap_u64]; omega
    simp at hi
    have hr := size_run u (by omega)
    simp [Tryd.f24, c, hi, hr, Lib.itoa, ← hu, Int.not_le.1 c]
    have hl := Lib.nDigits_le20 u (by omega)
    rw [← Lib.decDigits_length] at hl
    omega
theorem intD_itoa (i : Int) : intD i = bytesD (Lib.itoa i) := by
  unfold intD Lib.itoa decD bytesD
  split
  · rename_i h
    rw [show (-i).toNat = i.natAbs by omega]
    rfl
  · rfl
theorem itoa_len (i : Int) (h : I64 i) : (Lib.itoa i).length ≤ 21 := by
  unfold I64 at h
  unfold Lib.itoa
  split
  · have := Lib.nDigits_le20 i.natAbs (by omega)
    simp [Lib.decDigits_length]; omega
  · have := Lib.nDigits_le20 i.toNat (by omega)
    simp [Lib.decDigits_length]; omega
end Go.Am
end
section
namespace Go.Am
open Go Go.Proofs
set_option maxRecDepth 20000
def numsT (r : List Int) : List UInt8 := r.flatMap fun n => 32 :: Lib.itoa n
def rowT (k : Int) (r : List Int) : List UInt8 := Lib.itoa k ++ [58] ++ numsT r ++ [10]
def linesT : Int → List (List Int) → List UInt8
  | _, [] => []
  | k, r :: rest => rowT k r ++ linesT (k + 1) rest

theorem rl_in (c b a h l : Int) (u : Bool) (P Q : List (List Int)) (seen mom : Int) (dn : Bool) (hP : P.length < 1000000) : ∀ (rest pre : List Int) (acc : List UInt8), (∀ n ∈ rest, I64 n) → (pre ++ rest).length < 1000000 → acc.length + 22 * rest.length < 100000000 → ∀ k : Kt,
    denK ctx 15 (.loop (Code.at (codeOf Tryd.f15) [1, 1, 0, 1, 0, 0, 1, 0, 0, 1, 1, 1, 0, 1, 0, 0])) ⟨56, gl0, [(1, true, .ptr 150 1 0), (3, true, .d (.str acc)), (4, true, .d (.int .i64 P.length)), (6, true, .d (.int .i64 pre.length))], [⟨150, 1, .box ((Scope.cells ⟨c, b, a, h, l, u, P ++ (pre ++ rest) :: Q, seen, mom, dn⟩).map .d)⟩]⟩ k =
      k (.exit 2) ⟨56, gl0, [(1, true, .ptr 150 1 0), (3, true, .d (.str (acc ++ numsT rest))), (4, true, .d (.int .i64 P.length)), (6, true, .d (.int .i64 (pre ++ rest).length)), (38, true, .d (.bool false))], [⟨150, 1, .box ((Scope.cells ⟨c, b, a, h, l, u, P ++ (pre ++ rest) :: Q, seen, mom, dn⟩).map .d)⟩]⟩
  | [], pre, acc, hI, hl, ha, k => by
    rw [denK_loop]
    simp [Tryd.f15, Scope.cells, numsT, ints]
  | x :: rest, pre, acc, hI, hl, ha, k => by
    have ih := rl_in c b a h l u P Q seen mom dn hP rest (pre ++ [x]) (acc ++ 32 :: Lib.itoa x) (fun n h => hI n (by simp [h])) (by simpa using hl) (by
      have := itoa_len x (hI x (by simp))
      simp at ha ⊢; omega) k
    have hx := num_run x (hI x (by simp))
    have hxl := itoa_len x (hI x (by simp))
    simp at hl ha
    rw [denK_loop]
    simp [Tryd.f15, Scope.cells, numsT, ints] at ih ⊢
    have h1 : (pre.length : Int) < pre.length + (rest.length + 1) := by omega
    have h2 : IntKind.i64.wrap ((pre.length : Int) + 1) = pre.length + 1 := wrap_id (by unfold I64; omega)
    have g1 : 1 + (Lib.itoa x).length ≤ 4611686018427387904 := by omega
    have g2 : acc.length + ((Lib.itoa x).length + 1) ≤ 4611686018427387904 := by omega
    simp [hx, h1, h2, ih, g1, g2]

def rowOk (r : List Int) : Prop := r.length ≤ 16 ∧ ∀ n ∈ r, I64 n
theorem numsT_len (r : List Int) (h : ∀ n ∈ r, I64 n) : (numsT r).length ≤ 22 * r.length := by
  induction r with
  | nil => simp [numsT]
  | cons x r ih =>
    have h1 := itoa_len x (h x (by simp))
    have h2 := ih (fun n hn => h n (by simp [hn]))
    simp only [numsT, List.flatMap_cons, List.length_append, List.length_cons] at h2 ⊢
    omega
def keyOfRow (len mom : Int) (i : Nat) : Int := if 0 ≤ mom then (i : Int) - mom else (i : Int) - len
theorem rl_out (c b a h l : Int) (u : Bool) (seen mom : Int) (dn : Bool) (hm : I64 mom) (hm2 : mom ≤ 1000) : ∀ (rest P : List (List Int)) (acc : List UInt8) (cc : Nat), (P ++ rest).length = cc → cc < 2000 → (∀ r ∈ rest, rowOk r) → acc.length + 400 * rest.length < 10000000 → ∀ k : Kt,
    ∃ env, denK ctx 15 (.loop (Code.at (codeOf Tryd.f15) [1, 1, 0, 1, 0, 0])) ⟨56, gl0, [(1, true, .ptr 150 1 0), (3, true, .d (.str acc)), (4, true, .d (.int .i64 P.length))], [⟨150, 1, .box ((Scope.cells ⟨c, b, a, h, l, u, P ++ rest, seen, mom, dn⟩).map .d)⟩]⟩ k =
      k (.exit 0) ⟨56, gl0, (1, true, .ptr 150 1 0) :: (3, true, .d (.str (acc ++ linesT (keyOfRow cc mom P.length) rest))) :: env, [⟨150, 1, .box ((Scope.cells ⟨c, b, a, h, l, u, P ++ rest, seen, mom, dn⟩).map .d)⟩]⟩
  | [], P, acc, cc, hcc, hl, hr, ha, k => by
    refine ⟨[(4, true, .d (.int .i64 P.length)), (11, true, .d (.bool false))], ?_⟩
    rw [denK_loop]
    simp [Tryd.f15, Scope.cells, linesT]
  | r :: rest, P, acc, cc, hcc, hl, hr, ha, k => by
    have hrr := hr r (by simp)
    obtain ⟨K, hK⟩ : ∃ K, K = keyOfRow cc mom P.length := ⟨_, rfl⟩
    have hK1 : keyOfRow cc mom (P ++ [r]).length = K + 1 := by
      rw [hK]; unfold keyOfRow; simp; split <;> omega
    unfold I64 at hm
    have hKI : I64 K := by
      have hp : P.length ≤ cc := by simp at hcc; omega
      rw [hK]; unfold keyOfRow I64; split <;> omega
    have hn := num_run K hKI
    have hnl := itoa_len K hKI
    have hnn := numsT_len r hrr.2
    have hin := rl_in c b a h l u P rest seen mom dn (by simp at hcc; omega) r [] (acc ++ (Lib.itoa K ++ [58])) hrr.2 (by have := hrr.1; simp; omega) (by have := hrr.1; simp at ha ⊢; omega)
    obtain ⟨env, ih⟩ := rl_out c b a h l u seen mom dn hm hm2 rest (P ++ [r]) (acc ++ rowT K r) cc (by simpa using hcc) hl (fun x hx => hr x (by simp [hx])) (by
      have := hrr.1; simp [rowT] at ha ⊢; omega) k
    refine ⟨env, ?_⟩
    rw [hK1] at ih
    rw [← hK]
    rw [denK_loop]
    have h1 : (P.length : Int) < P.length + (rest.length + 1) := by omega
    have h2 : IntKind.i64.wrap ((P.length : Int) + 1) = P.length + 1 := wrap_id (by unfold I64; simp at hcc; omega)
    have k1 : 0 ≤ mom → IntKind.i64.wrap ((P.length : Int) - mom) = K := by
      intro h; rw [wrap_id (by unfold I64; simp at hcc; omega), hK]; unfold keyOfRow; rw [if_pos h]
    have k2 : ¬ 0 ≤ mom → IntKind.i64.wrap ((P.length : Int) - (P.length + (rest.length + 1))) = K := by
      intro h; rw [wrap_id (by unfold I64; simp at hcc; omega), hK]; unfold keyOfRow; rw [if_neg h]; simp at hcc; omega
    have g1 : (Lib.itoa K).length ≤ 4611686018427387903 := by omega
    have g2 : acc.length + ((Lib.itoa K).length + 1) ≤ 4611686018427387904 := by simp at ha; omega
    have g3 : acc.length + ((Lib.itoa K).length + ((numsT r).length + 1)) ≤ 4611686018427387903 := by simp at ha; have := hrr.1; omega
    simp [Tryd.f15, Scope.cells, ints, linesT, rowT] at ih hin ⊢
    by_cases hmm : 0 ≤ mom
    · replace k1 := k1 hmm
      simp [h1, h2, hmm, k1, hn, g1, g2, hin, g3, ih]
    · replace k2 := k2 hmm
      simp [h1, h2, hmm, k2, hn, g1, g2, hin, g3, ih]

theorem refLines_run (s : Scope) (hm : I64 s.moment) (hm2 : s.moment ≤ 1000) (hl : s.rows.length < 2000) (hr : ∀ r ∈ s.rows, rowOk r) :
    callT ctx 15 [.d s.enc] [] = some (.ret (.d (.str (linesT (keyOfRow s.rows.length s.moment 0) s.rows))), []) := by
  obtain ⟨c, b, a, h, l, u, rows, seen, mom, dn⟩ := s
  have h1 := rl_out c b a h l u seen mom dn hm hm2 rows [] [] rows.length rfl hl hr (by simp at hl ⊢; omega)
  rw [run15 (by simp)]
  simp [Tryd.f15, Scope.cells] at h1 ⊢
  rw [Classical.choose_spec (h1 _)]
  generalize Classical.choose _ = env
  simp
end Go.Am
end
section
namespace Go.Am
open Go Go.Proofs
set_option maxRecDepth 20000
theorem app_at (x : Int) (h : I64 x) (A : List D) (n : Nat) (hn : n = A.length) (hA : A.length < 10000000) :
    callT ctx 23 [.vec 0 0 0 n, .d (.int .i64 x), .d (.int .i64 10)] [.vec 1 A] = some (.ret (.vec 0 1 0 (n + (Lib.itoa x).length)), [(1, .vec 1 (A ++ bytesD (Lib.itoa x)))]) := by
  subst hn
  have := appI_run x h A hA
  rw [intD_itoa] at this
  simpa [bytesD] using this

theorem pl_in (B : Cont) (f0 ln ii : Int) (rowsD : D) : ∀ (rest pre : List Int) (acc : List UInt8) (v : Nat), (∀ n ∈ rest, I64 n) → (pre ++ rest).length < 1000000 → acc.length + 22 * rest.length < 10000000 → ∀ k : Kt,
    ∃ v', denK ctx 14 (.loop (Code.at (codeOf Tryd.f14) [1, 1, 1, 1, 1, 0, 1, 0, 0, 1, 1, 0, 0, 1, 1, 0, 1, 0, 0])) ⟨55, gl0, [(3, true, .d (.int .i64 f0)), (4, true, .vec 300 v 0 acc.length), (23, true, .d rowsD), (24, true, .d (.int .i64 ln)), (25, true, .d (.int .i64 ii)), (37, true, .d (ints (pre ++ rest))), (38, true, .d (.int .i64 (pre ++ rest).length)), (39, true, .d (.int .i64 pre.length))], [⟨150, 1, B⟩, ⟨300, v, .vec 1 (bytesD acc)⟩]⟩ k =
      k (.exit 2) ⟨55, gl0, [(3, true, .d (.int .i64 f0)), (4, true, .vec 300 v' 0 (acc ++ numsT rest).length), (23, true, .d rowsD), (24, true, .d (.int .i64 ln)), (25, true, .d (.int .i64 ii)), (37, true, .d (ints (pre ++ rest))), (38, true, .d (.int .i64 (pre ++ rest).length)), (39, true, .d (.int .i64 (pre ++ rest).length)), (40, true, .d (.bool false))], [⟨150, 1, B⟩, ⟨300, v', .vec 1 (bytesD (acc ++ numsT rest))⟩]⟩
  | [], pre, acc, v, hI, hl, ha, k => by
    refine ⟨v, ?_⟩
    rw [denK_loop]
    simp [Tryd.f14, numsT, ints]
  | x :: rest, pre, acc, v, hI, hl, ha, k => by
    have hxl := itoa_len x (hI x (by simp))
    obtain ⟨v', ih⟩ := pl_in B f0 ln ii rowsD rest (pre ++ [x]) (acc ++ 32 :: Lib.itoa x) (v + 1 + 1) (fun n h => hI n (by simp [h])) (by simpa using hl) (by simp at ha ⊢; omega) k
    refine ⟨v', ?_⟩
    have hx := app_at x (hI x (by simp)) (bytesD acc ++ [.int .u8 32]) (acc.length + 1) (by simp [bytesD]) (by simp [bytesD] at ha ⊢; omega)
    rw [denK_loop]
    simp at hl ha
    have h1 : (pre.length : Int) < pre.length + (rest.length + 1) := by omega
    have h2 : IntKind.i64.wrap ((pre.length : Int) + 1) = pre.length + 1 := wrap_id (by unfold I64; omega)
    simp [Tryd.f14, numsT, ints, bytesD] at ih hx ⊢
    have g1 : acc.length ≤ 140737488355327 ∧ acc.length ≤ 4611686018427387903 := by omega
    have e : acc.length + 1 + (Lib.itoa x).length = acc.length + ((Lib.itoa x).length + 1) := by omega
    have e2 : ∀ y, acc.length + ((Lib.itoa x).length + (y + 1)) = acc.length + ((Lib.itoa x).length + 1 + y) := by omega
    simp [hx, h1, h2, g1, e, ih]

theorem pl_out (B : Cont) (f0 : Int) (hf : -2000 ≤ f0 ∧ f0 ≤ 2000) : ∀ (rest P : List (List Int)) (acc : List UInt8) (v : Nat), (P ++ rest).length < 2000 → (∀ r ∈ rest, rowOk r) → acc.length + 400 * rest.length < 8000000 → ∀ k : Kt,
    ∃ v', denK ctx 14 (.loop (Code.at (codeOf Tryd.f14) [1, 1, 1, 1, 1, 0, 1, 0, 0])) ⟨55, gl0, [(3, true, .d (.int .i64 f0)), (4, true, .vec 300 v 0 acc.length), (23, true, .d (.list ((P ++ rest).map ints))), (24, true, .d (.int .i64 (P ++ rest).length)), (25, true, .d (.int .i64 P.length))], [⟨150, 1, B⟩, ⟨300, v, .vec 1 (bytesD acc)⟩]⟩ k =
      k (.exit 0) ⟨55, gl0, [(3, true, .d (.int .i64 f0)), (4, true, .vec 300 v' 0 (acc ++ linesT (f0 + P.length) rest).length), (23, true, .d (.list ((P ++ rest).map ints))), (24, true, .d (.int .i64 (P ++ rest).length)), (25, true, .d (.int .i64 (P ++ rest).length)), (26, true, .d (.bool false))], [⟨150, 1, B⟩, ⟨300, v', .vec 1 (bytesD (acc ++ linesT (f0 + P.length) rest))⟩]⟩
  | [], P, acc, v, hl, hr, ha, k => by
    refine ⟨v, ?_⟩
    rw [denK_loop]
    simp [Tryd.f14, linesT]
  | r :: rest, P, acc, v, hl, hr, ha, k => by
    have hrr := hr r (by simp)
    obtain ⟨K, hK⟩ : ∃ K, K = f0 + P.length := ⟨_, rfl⟩
    have hp : P.length < 2000 := by simp at hl; omega
    have hKI : I64 K := by unfold I64; omega
    have hnl := itoa_len K hKI
    have hnn := numsT_len r hrr.2
    have hn := app_at K hKI (bytesD acc) acc.length (by simp [bytesD]) (by simp [bytesD] at ha ⊢; omega)
    obtain ⟨v1, hin⟩ := pl_in B f0 (P ++ r :: rest).length P.length (.list ((P ++ r :: rest).map ints)) r [] (acc ++ (Lib.itoa K ++ [58])) (v + 1 + 1) hrr.2 (by have := hrr.1; simp; omega) (by have := hrr.1; simp at ha ⊢; omega)
      (blkK 2 (seqK ctx 14 (Code.at (codeOf Tryd.f14) [1, 1, 1, 1, 1, 0, 1, 0, 0, 1, 1, 0, 0, 1, 1, 1]) (blkK 1 (seqK ctx 14 (Code.at (codeOf Tryd.f14) [1, 1, 1, 1, 1, 0, 1, 0, 0, 1, 1, 1]) (loopK ctx 14 (Code.at (codeOf Tryd.f14) [1, 1, 1, 1, 1, 0, 1, 0, 0]) k)))))
    obtain ⟨v', ih⟩ := pl_out B f0 hf rest (P ++ [r]) (acc ++ rowT K r) (v1 + 1) (by simpa using hl) (fun x hx => hr x (by simp [hx])) (by
      have := hrr.1; simp [rowT] at ha ⊢; omega) k
    refine ⟨v', ?_⟩
    rw [show f0 + ((P ++ [r]).length : Int) = K + 1 by simp; omega] at ih
    rw [← hK]
    rw [denK_loop]
    have h1 : (P.length : Int) < P.length + (rest.length + 1) := by omega
    have h2 : IntKind.i64.wrap ((P.length : Int) + 1) = P.length + 1 := wrap_id (by unfold I64; omega)
    have k1 : IntKind.i64.wrap (f0 + (P.length : Int)) = K := by rw [← hK]; exact wrap_id hKI
    have g1 : acc.length + (Lib.itoa K).length ≤ 140737488355327 ∧ acc.length + (Lib.itoa K).length ≤ 4611686018427387903 := by omega
    have g2 : acc.length + ((Lib.itoa K).length + ((numsT r).length + 1)) ≤ 140737488355327 ∧ acc.length + ((Lib.itoa K).length + ((numsT r).length + 1)) ≤ 4611686018427387903 := by have := hrr.1; omega
    have e : acc.length + (Lib.itoa K).length + 1 = acc.length + ((Lib.itoa K).length + 1) := by omega
    simp [Tryd.f14, ints, linesT, rowT, bytesD] at ih hin hn ⊢
    have g3 : acc.length + ((Lib.itoa K).length + 1) ≤ 140737488355328 ∧ acc.length + ((Lib.itoa K).length + 1) ≤ 4611686018427387904 := by omega
    have e3 : acc.length + ((Lib.itoa K).length + ((numsT r).length + 1)) + 1 = acc.length + ((Lib.itoa K).length + ((numsT r).length + 1 + 1)) := by omega
    simp [h1, h2, k1, hn, g1, g2, g3, e, e3, hin, ih]

theorem bytes_back (t : List UInt8) : (bytesD t).map byteOf = t := by
  induction t with
  | nil => rfl
  | cons x t ih =>
    simp only [bytesD, List.map_cons, List.map_map] at ih ⊢
    rw [ih]
    simp [byteOf]
theorem bytes_byte (t : List UInt8) : ∀ d ∈ bytesD t, d.isByte = true := by
  intro d hd
  simp only [bytesD, List.mem_map] at hd
  obtain ⟨b, _, rfl⟩ := hd
  have := b.toNat_lt
  simp [D.isByte]
theorem lines_run (s : Scope) (hm : I64 s.moment) (hm2 : s.moment ≤ 1000) (hl : s.rows.length < 1000) (hrr : ∀ r ∈ s.rows, r.length < 1000000) (hr : right s = true → ∀ r ∈ s.rows, rowOk r) :
    callT ctx 14 [.d s.enc] [] = some (.ret (.d (.str (if right s = true then linesT (keyOfRow s.rows.length s.moment 0) s.rows else []))), []) := by
  have h0 := right_run s (by omega) hm
  cases h : right s
  · rw [run14 (by simp)]
    rw [h] at h0
    simp at h0
    simp [Tryd.f14, h0]
  · rw [h] at h0
    obtain ⟨c, b, a, hh, l, u, rows, seen, mom, dn⟩ := s
    simp only at hm hm2 hl hrr
    replace hr := hr h
    simp only at hr
    unfold I64 at hm
    obtain ⟨f0, hf0⟩ : ∃ f0, f0 = keyOfRow rows.length mom 0 := ⟨_, rfl⟩
    have hf1 : (mom < 0 → f0 = -(rows.length : Int)) ∧ (0 ≤ mom → f0 = -mom) := by
      rw [hf0]; unfold keyOfRow
      constructor <;> intro q
      · rw [if_neg (by omega)]; simp
      · rw [if_pos (by omega)]; simp
    have h1 := fun cc => pl_out cc f0 (by omega) rows [] [] 1 (by simp; omega) hr (by simp at hl ⊢; omega)
    have e1 : mom < 0 → IntKind.i64.wrap (-(rows.length : Int)) = f0 := by
      intro q; rw [wrap_id (by unfold I64; omega), hf1.1 q]
    have e2 : 0 ≤ mom → IntKind.i64.wrap (-mom) = f0 := by
      intro q; rw [wrap_id (by unfold I64; omega), hf1.2 q]
    rw [← hf0]
    have hb := bytes_back (linesT f0 rows)
    have hc := bytes_byte (linesT f0 rows)
    rw [run14 (by simp)]
    simp [Tryd.f14, bytesD] at h0 h1 hb hc ⊢
    by_cases cm : mom < 0
    · replace e1 := e1 cm
      simp [h0, cm, e1]
      rw [Classical.choose_spec (h1 _ _)]
      generalize Classical.choose _ = v'
      simp [hb, hc]
    · replace e2 := e2 (by omega)
      simp [h0, cm, e2]
      rw [Classical.choose_spec (h1 _ _)]
      generalize Classical.choose _ = v'
      simp [hb, hc]
end Go.Am
end
section
namespace Go.Am
open Go Go.Proofs
set_option maxRecDepth 20000

theorem new_run (c b a h : Int) (l : Int) (u : Bool) : callT ctx 8 [.d (.int .i64 c), .d (.int .i64 b), .d (.int .i64 a), .d (.int .i64 h), .d (.int .i64 l), .d (.bool u)] [] =
    some (.ret (.tup [.d (if asked ⟨c, b, a, h, l, u, [], 0, -1, false⟩ = true then Scope.enc ⟨c, b, a, h, l, u, [], 0, -1, false⟩ else Scope.enc ⟨0, 0, 0, 0, 0, false, [], 0, 0, false⟩), .d (.int .i64 (if asked ⟨c, b, a, h, l, u, [], 0, -1, false⟩ = true then 0 else 1))]), []) := by
  have h0 := asked_run ⟨c, b, a, h, l, u, [], 0, -1, false⟩
  simp at h0
  rw [run8 (by simp)]
  simp [Tryd.f8, h0]
  cases asked ⟨c, b, a, h, l, u, [], 0, -1, false⟩ <;> simp

theorem clone_run (xs : List D) (hs : ∀ d ∈ xs, d.size = 1) (hl : xs.length < 1000000) : callT ctx 22 [.d (.list xs)] [] = some (.ret (.vec 0 0 0 xs.length), [(0, .vec 1 xs)]) := by
  rw [run22 (by simp)]
  cases xs with
  | nil => simp [Tryd.f22]
  | cons x r =>
    simp at hs hl
    have h2 : ((r.length : Int) + 1) * 8 ≤ 140737488355328 := by omega
    have h3 : (r.length + 1) * 8 ≤ 140737488355328 := by omega
    have h4 : r.length + 1 ≤ 4611686018427387904 := by omega
    simp [Tryd.f22, hs.1, h3, h4]
    exact hs.2
end Go.Am
end
section
namespace Go.Am
open Go Go.Proofs
set_option maxRecDepth 20000

theorem clone_ints (l : List Int) (hl : l.length < 1000000) : callT ctx 22 [.d (ints l)] [] = some (.ret (.vec 0 0 0 l.length), [(0, .vec 1 (l.map fun n => .int .i64 n))]) := by
  have := clone_run (l.map fun n => .int .i64 n) (by simp) (by simpa using hl)
  simpa [ints] using this
def shortRows (rows : List (List Int)) : Prop := rows.length < 1000000 ∧ ∀ r ∈ rows, r.length < 1000000

theorem copied_loop (b1 b2 : List AV) : ∀ (rest pre : List (List Int)) (v : Nat), (pre ++ rest).length < 1000000 → (∀ r ∈ rest, r.length < 1000000) → ∀ k : Kt,
      denK ctx 20 (.loop (Code.at (codeOf Tryd.f20) [1, 1, 0, 1, 0, 0])) ⟨22, gl0, [(1, true, .ptr 150 1 0), (2, true, .ptr 200 1 0), (3, true, .vec 250 v 0 pre.length), (7, true, .d (.list ((pre ++ rest).map ints))), (8, true, .d (.int .i64 (pre ++ rest).length)), (9, true, .d (.int .i64 pre.length))],
          [⟨150, 1, .box b1⟩, ⟨200, 1, .box b2⟩, ⟨250, v, .vec 1 (pre.map ints)⟩]⟩ k =
        k (.exit 0) ⟨22, gl0, [(1, true, .ptr 150 1 0), (2, true, .ptr 200 1 0), (3, true, .vec 250 (v + rest.length) 0 (pre ++ rest).length), (7, true, .d (.list ((pre ++ rest).map ints))), (8, true, .d (.int .i64 (pre ++ rest).length)), (9, true, .d (.int .i64 (pre ++ rest).length)), (10, true, .d (.bool false))],
          [⟨150, 1, .box b1⟩, ⟨200, 1, .box b2⟩, ⟨250, v + rest.length, .vec 1 ((pre ++ rest).map ints)⟩]⟩
  | [], pre, v, hl, hr, k => by
    rw [denK_loop]
    simp [Tryd.f20]
  | x :: rest, pre, v, hl, hr, k => by
    have ih := copied_loop b1 b2 rest (pre ++ [x]) (v + 1)
    rw [denK_loop]
    simp [Tryd.f20] at hl hr ih ⊢
    have h1 : (pre.length : Int) < pre.length + (rest.length + 1) := by omega
    have h2 : IntKind.i64.wrap ((pre.length : Int) + 1) = pre.length + 1 := wrap_id (by unfold I64; omega)
    have hx := clone_ints x hr.1
    simp at hx
    have h3 : (pre.length + 1) * 24 ≤ 140737488355328 := by omega
    have h4 : pre.length ≤ 4611686018427387903 := by omega
    have h5 : v + 1 + rest.length = v + (rest.length + 1) := by omega
    simp [h1, h2, hx, h3, h4, ih hl hr.2, h5]

theorem copied_run (s : Scope) (hl : shortRows s.rows) : callT ctx 20 [.d s.enc] [] = some (.ret (.agg [.d (.int .i64 s.channels), .d (.int .i64 s.before), .d (.int .i64 s.after), .d (.int .i64 s.channel), .d (.int .i64 s.level), .d (.bool s.up), .vec 0 0 0 s.rows.length, .d (.int .i64 s.seen), .d (.int .i64 s.moment), .d (.bool s.done)]), [(0, .vec 1 (s.rows.map ints))]) := by
  rw [run20 (by simp)]
  have h := fun b1 b2 v => copied_loop b1 b2 s.rows [] v (by simpa using hl.1) hl.2
  simp [Tryd.f20] at h ⊢
  simp [h]
end Go.Am
end
section
namespace Go.Am
open Go Go.Proofs
set_option maxRecDepth 20000

/-- An element by a place that may be any number. -/
def nth (l : List Int) (i : Int) : Int := l[i.toNat]?.getD 0
theorem nth_get {l : List Int} {i : Int} (h0 : 0 ≤ i) (h : i < l.length) : l[i.toNat]? = some (nth l i) := by
  have : i.toNat < l.length := by omega
  simp [nth, this]
/-- Where it has to begin: the rows ahead of the moment. -/
def cut (rows : List (List Int)) (n : Int) : List (List Int) := rows.drop (rows.length - n).toNat
def hits (s : Scope) (row : List Int) : Bool :=
  decide (s.moment < 0) && (match s.rows.getLast? with | some r => crosses s (nth r s.channel) (nth row s.channel) | none => false)
def tell (s : Scope) (row : List Int) : Scope :=
  if right s = false ∨ s.done = true ∨ (row.length : Int) ≠ s.channels ∨ s.seen = 9223372036854775807 then s
  else
    let rows1 := if hits s row = true then cut s.rows s.before else s.rows
    let mom := if hits s row = true then (rows1.length : Int) else s.moment
    let rows2 := rows1 ++ [row]
    let rows3 := if mom < 0 then cut rows2 (max s.before 1) else rows2
    { s with seen := s.seen + 1, rows := rows3, moment := mom, done := decide (0 ≤ mom) && decide ((rows3.length : Int) - mom = s.after) }

theorem right_facts {s : Scope} (h : right s = true) : (1 ≤ s.channels ∧ s.channels ≤ 16 ∧ 0 ≤ s.before ∧ s.before ≤ 500 ∧ 1 ≤ s.after ∧ s.after ≤ 500 ∧ 0 ≤ s.channel ∧ s.channel < s.channels) ∧ (∀ r ∈ s.rows, (r.length : Int) = s.channels) ∧
    ((s.rows.length : Int) ≤ s.seen) ∧ (if s.moment = -1 then (s.rows.length : Int) ≤ max s.before 1 ∧ s.done = false else 0 ≤ s.moment ∧ s.moment ≤ s.before ∧ 1 ≤ s.rows.length - s.moment ∧ s.rows.length - s.moment ≤ s.after ∧ s.done = decide (s.rows.length - s.moment = s.after)) := by
  unfold right at h
  split at h
  · cases h
  · rename_i h1
    split at h
    · cases h
    · rename_i h2
      simp only [not_or, Bool.not_eq_false, Bool.not_eq_true] at h1
      obtain ⟨h3, h4⟩ := h1
      refine ⟨?_, ?_, by omega, ?_⟩
      · unfold asked at h3
        simp at h3
        omega
      · unfold rowsBad at h4
        simpa using h4
      · split at h
        · rename_i h5
          simp only [h5, if_true]
          simpa using h
        · rename_i h5
          simp only [h5, if_false]
          simp at h
          exact ⟨h.1.1.1.1, h.1.1.1.2, by omega, by omega, h.2⟩

/-- A row that counts for nothing. -/
theorem tell_none (s : Scope) (row : List Int) (hl : shortRows s.rows) (hm : I64 s.moment) (hc : right s = false ∨ s.done = true ∨ (row.length : Int) ≠ s.channels ∨ s.seen = 9223372036854775807) :
    callT ctx 12 [.d s.enc, .d (ints row)] [] = some (.ret (.d (Scope.enc s)), []) := by
  have h0 := copied_run s hl
  have h1 := right_run s hl.1 hm
  simp at h0 h1
  rw [run12 (by simp)]
  simp [Tryd.f12, h0, h1]
  intro a b c d
  simp_all

theorem tell_a (c b a h l : Int) (u : Bool) (rows : List (List Int)) (seen mom : Int) (row : List Int) (hl : shortRows rows) (hr : row.length < 1000000) (hm : I64 mom) (hs : I64 seen)
    (h1 : right ⟨c, b, a, h, l, u, rows, seen, mom, false⟩ = true) (hc : (row.length : Int) = c) (hsn : seen ≠ 9223372036854775807) (hmom : 0 ≤ mom) :
    callT ctx 12 [.d (Scope.enc ⟨c, b, a, h, l, u, rows, seen, mom, false⟩), .d (ints row)] [] = some (.ret (.d (Scope.enc ⟨c, b, a, h, l, u, rows ++ [row], seen + 1, mom, decide ((rows.length : Int) + 1 - mom = a)⟩)), []) := by
  have h0 := copied_run ⟨c, b, a, h, l, u, rows, seen, mom, false⟩ hl
  have h2 := right_run ⟨c, b, a, h, l, u, rows, seen, mom, false⟩ hl.1 hm
  have h3 := clone_ints row hr
  simp at h0 h2 h3
  unfold I64 at hs hm
  have g1 : IntKind.i64.wrap (seen + 1) = seen + 1 := wrap_id (by unfold I64; omega)
  have g2 : ¬ (mom < 0) := by omega
  have g3 : rows.length ≤ 4611686018427387903 := by have := hl.1; omega
  have g4 : (rows.length + 1) * 24 ≤ 140737488355328 := by have := hl.1; omega
  have g5 : IntKind.i64.wrap ((rows.length : Int) + 1 - mom) = rows.length + 1 - mom := wrap_id (by have := hl.1; unfold I64; omega)
  rw [run12 (by simp)]
  simp [Tryd.f12, h0, h2, h3, h1, hc, hsn, g1, g2, g3, g4, g5]
  rw [drwK_nil (by kernel_rfl)]
  simp [h3, g1, g2, g3, g4, g5]
  rw [drwK_nil (by kernel_rfl)]
  simp [h3, g1, g2, g3, g4, g5, hmom]
  rfl

theorem tell_b (c b a h l : Int) (u : Bool) (seen : Int) (row : List Int) (hr : row.length < 1000000) (hs : I64 seen)
    (h1 : right ⟨c, b, a, h, l, u, [], seen, -1, false⟩ = true) (hc : (row.length : Int) = c) (hsn : seen ≠ 9223372036854775807) :
    callT ctx 12 [.d (Scope.enc ⟨c, b, a, h, l, u, [], seen, -1, false⟩), .d (ints row)] [] = some (.ret (.d (Scope.enc ⟨c, b, a, h, l, u, [row], seen + 1, -1, false⟩)), []) := by
  have h0 := copied_run ⟨c, b, a, h, l, u, [], seen, -1, false⟩ ⟨by simp, by simp⟩
  have h2 := right_run ⟨c, b, a, h, l, u, [], seen, -1, false⟩ (by simp) (by unfold I64; simp)
  have h3 := clone_ints row hr
  have hf := (right_facts h1).1
  simp at h0 h2 h3 hf
  unfold I64 at hs
  have g1 : IntKind.i64.wrap (seen + 1) = seen + 1 := wrap_id (by unfold I64; omega)
  have g2 : (if 0 < IntKind.i64.wrap (1 - if b < 1 then 1 else b) then IntKind.i64.wrap (1 - if b < 1 then 1 else b) else 0) = 0 := by
    rw [wrap_id (by unfold I64; split <;> omega)]
    by_cases hb : b < 1 <;> simp [hb] <;> omega
  rw [run12 (by simp)]
  simp [Tryd.f12, h0, h2, h3, h1, hc, hsn, g1]
  rw [drwK_nil (by kernel_rfl)]
  simp [h3, g1]
  rw [drwK_nil (by kernel_rfl)]
  simp [h3, g1, g2]

theorem far4 {n L : Nat} (h : n + 1 < 1000000) : (n + 1 - L + 1) * 24 ≤ 140737488355328 := by
  have : n + 1 - L + 1 ≤ 1000001 := by omega
  omega
theorem far5 {n L : Nat} (h : n + 1 < 1000000) : n + 1 ≤ 4611686018427387903 + L := by omega
theorem far6 {n L : Nat} (h : L ≤ n) : (L : Int) ≤ n := by omega
set_option maxHeartbeats 1000000 in
theorem tell_c (c b a h l : Int) (u : Bool) (ini : List (List Int)) (last : List Int) (seen : Int) (row : List Int) (hl : shortRows (ini ++ [last])) (hr : row.length < 1000000) (hs : I64 seen)
    (h1 : right ⟨c, b, a, h, l, u, ini ++ [last], seen, -1, false⟩ = true) (hc : (row.length : Int) = c) (hsn : seen ≠ 9223372036854775807) (s' : Scope)
    (hs' : s' = if crosses ⟨c, b, a, h, l, u, ini ++ [last], seen + 1, -1, false⟩ (nth last h) (nth row h) = true then ⟨c, b, a, h, l, u, (ini ++ [last]).drop ((ini.length : Int) + 1 - b).toNat ++ [row], seen + 1, ((ini.length + 1 - ((ini.length : Int) + 1 - b).toNat : Nat) : Int), decide (1 = a)⟩
      else ⟨c, b, a, h, l, u, (ini ++ [last] ++ [row]).drop ((ini.length : Int) + 2 - max b 1).toNat, seen + 1, -1, false⟩) :
    callT ctx 12 [.d (Scope.enc ⟨c, b, a, h, l, u, ini ++ [last], seen, -1, false⟩), .d (ints row)] [] = some (.ret (.d (Scope.enc s')), []) := by
  have h0 := copied_run ⟨c, b, a, h, l, u, ini ++ [last], seen, -1, false⟩ hl
  have h2 := right_run ⟨c, b, a, h, l, u, ini ++ [last], seen, -1, false⟩ hl.1 (by unfold I64; simp)
  have h3 := clone_ints row hr
  have h4 := crosses_run ⟨c, b, a, h, l, u, ini ++ [last], seen + 1, -1, false⟩ (nth last h) (nth row h)
  have hf := right_facts h1
  have hlast : (last.length : Int) = c := hf.2.1 last (by simp)
  replace hf := hf.1
  obtain ⟨hl1, hl2⟩ := hl
  simp at h0 h2 h3 h4 hf hl1
  unfold I64 at hs
  have g1 : IntKind.i64.wrap (seen + 1) = seen + 1 := wrap_id (by unfold I64; omega)
  have g2 : IntKind.i64.wrap (ini.length : Int) = ini.length := wrap_id (by unfold I64; omega)
  have g3 : last[h.toNat]? = some (nth last h) := nth_get (by omega) (by omega)
  have g4 : row[h.toNat]? = some (nth row h) := nth_get (by omega) (by omega)
  have g5 : h.toNat < last.length := by omega
  have g6 : h.toNat < row.length := by omega
  have g7 : 0 ≤ h := by omega
  have g8 : 0 < (ini.length : Int) + 1 := by omega
  have e1 : (if 0 < IntKind.i64.wrap ((ini.length : Int) + 1 - b) then IntKind.i64.wrap ((ini.length : Int) + 1 - b) else 0) = (((ini.length : Int) + 1 - b).toNat : Int) := by
    rw [wrap_id (by unfold I64; omega)]
    split <;> omega
  have e2 : (if 0 < IntKind.i64.wrap ((ini.length : Int) + 1 + 1 - if b < 1 then 1 else b) then IntKind.i64.wrap ((ini.length : Int) + 1 + 1 - if b < 1 then 1 else b) else 0) = (((ini.length : Int) + 2 - max b 1).toNat : Int) := by
    rw [wrap_id (by unfold I64; split <;> omega)]
    by_cases hb : b < 1 <;> simp only [hb, if_true, if_false] <;> split <;> omega
  simp [nth, g5, g6] at h4 hs'
  have l1 : ((ini.length : Int) + 1 - b).toNat ≤ ini.length + 1 := by omega
  have l2 : ((ini.length : Int) + 2 - max b 1).toNat ≤ ini.length + 2 := by omega
  generalize ((ini.length : Int) + 1 - b).toNat = L1 at e1 l1 hs'
  generalize ((ini.length : Int) + 2 - max b 1).toNat = L2 at e2 l2 hs'
  have m1 : (ini.length + 1 + 1) * 24 ≤ 140737488355328 := by omega
  have m2 : ini.length ≤ 4611686018427387902 := by omega
  have m3 : L1 + (ini.length + 1 - L1) = ini.length + 1 := by omega
  have m4 : (ini.length + 1 - L1 + 1) * 24 ≤ 140737488355328 := far4 (by omega)
  have m5 : ini.length + 1 ≤ 4611686018427387903 + L1 := far5 (by omega)
  have m6 : (L1 : Int) ≤ ini.length + 1 := by exact far6 l1
  have m7 : (L2 : Int) ≤ ini.length + 1 + 1 := by exact far6 (n := ini.length + 1 + 1) l2
  have m8 : L2 + (ini.length + 1 + 1 - L2) = ini.length + 1 + 1 := by omega
  have m9 : L2 ≤ ini.length + 1 + 1 := by omega
  have m10 : ((ini.length : Int) + 1 + 1).toNat = ini.length + 2 := by omega
  have m11 : L2 + (ini.length + 2 - L2) = ini.length + 2 := by omega
  have m12 : ¬ (((ini.length + 1 - L1 : Nat) : Int) < 0) := by omega
  rw [run12 (by simp)]
  simp [Tryd.f12, h0, h2, h3, h1, hc, hsn, g1, g2, g5, g6, g7, g8, h4]
  rw [drwK_nil (by kernel_rfl)]
  generalize hcr : crosses _ _ _ = cr at hs' ⊢
  cases cr
  · simp at hs'
    subst hs'
    simp [h3, g1, e1, e2, m1, m2]
    rw [drwK_nil (by kernel_rfl)]
    simp [h3, g1, e1, e2, m1, m2, m7, m8, m9, m10, m11]
  · simp at hs'
    subst hs'
    simp [h3, g1, e1, e2, m3, m4, m5, m6, l1, m12]
    rw [drwK_nil (by kernel_rfl)]
    simp [h3, g1, e1, e2, m3, m4, m5, m6, l1, m12]
    have m13 : IntKind.i64.wrap (((ini.length + 1 - L1 : Nat) : Int) + 1 - ((ini.length + 1 - L1 : Nat) : Int)) = 1 := by rw [show (((ini.length + 1 - L1 : Nat) : Int) + 1 - ((ini.length + 1 - L1 : Nat) : Int)) = 1 by omega]; rfl
    rw [m13]; rfl

theorem tell_run (s : Scope) (row : List Int) (hl : shortRows s.rows) (hr : row.length < 1000000) (hm : I64 s.moment) (hs : I64 s.seen) :
    callT ctx 12 [.d s.enc, .d (ints row)] [] = some (.ret (.d (tell s row).enc), []) := by
  by_cases hc : right s = false ∨ s.done = true ∨ (row.length : Int) ≠ s.channels ∨ s.seen = 9223372036854775807
  · rw [tell_none s row hl hm hc]
    unfold tell
    rw [if_pos hc]
  · unfold tell
    rw [if_neg hc]
    simp only [not_or, Bool.not_eq_false, Bool.not_eq_true, ne_eq, Decidable.not_not] at hc
    obtain ⟨c1, c2, c3, c4⟩ := hc
    obtain ⟨c, b, a, h, l, u, rows, seen, mom, done⟩ := s
    simp only at c2 c3 c4 hm hs hl
    subst c2
    have hf := right_facts c1
    by_cases hmom : 0 ≤ mom
    · have g : ¬ (mom < 0) := by omega
      rw [tell_a c b a h l u rows seen mom row hl hr hm hs c1 c3 c4 hmom]
      simp [hits, g, hmom]
    · have hmm : mom = -1 := by
        have := hf.2.2.2
        simp only at this
        split at this
        · assumption
        · omega
      subst hmm
      rcases List.eq_nil_or_concat rows with rfl | ⟨ini, last, rfl⟩
      · rw [tell_b c b a h l u seen row hr hs c1 c3 c4]
        have : (1 - max b 1).toNat = 0 := by omega
        simp [hits, cut, this]
      · rw [List.concat_eq_append] at *
        rw [tell_c c b a h l u ini last seen row hl hr hs c1 c3 c4 _ rfl]
        congr 5
        have hx : hits ⟨c, b, a, h, l, u, ini ++ [last], seen, -1, false⟩ row = crosses ⟨c, b, a, h, l, u, ini ++ [last], seen + 1, -1, false⟩ (nth last h) (nth row h) := by
          simp [hits, crosses]
        rw [hx]
        cases crosses ⟨c, b, a, h, l, u, ini ++ [last], seen + 1, -1, false⟩ (nth last h) (nth row h)
        · simp [cut]
        · simp [cut]
          have h2 : ¬ (((ini.length + 1 - ((ini.length : Int) + 1 - b).toNat : Nat) : Int) < 0) := by omega
          simp [h2]
          generalize ((ini.length + 1 - ((ini.length : Int) + 1 - b).toNat : Nat) : Int) = z
          rw [show z + 1 - z = 1 by omega]
end Go.Am
end
section
namespace Go.Am
open Go Go.Proofs
set_option maxRecDepth 20000

theorem awake_run : callT ctx 6 [] [] = some (.ret (.d (.bool true)), []) := callT_of 12 (by kernel_rfl)

def smallRows (rows : List (List Int)) : Bool := decide (rows.length ≤ 300) && rows.all (fun r => decide (r.length ≤ 40))
theorem small_loop : ∀ (rest pre : List (List Int)), (pre ++ rest).length < 1000000 → ∀ k : Kt,
    denK ctx 7 (.loop (Code.at (codeOf Tryd.f7) [1, 1, 0, 1, 0, 0])) ⟨19, gl0, [(0, true, .d (.list ((pre ++ rest).map ints))), (3, true, .d (.int .i64 pre.length))], []⟩ k =
      if rest.all (fun r => decide (r.length ≤ 40)) = true then k (.exit 0) ⟨19, gl0, [(0, true, .d (.list ((pre ++ rest).map ints))), (3, true, .d (.int .i64 (pre ++ rest).length)), (10, true, .d (.bool false))], []⟩
      else k .ret ⟨19, gl0, [(2, true, .d (.bool false))], []⟩
  | [], pre, hl, k => by
    rw [denK_loop]
    simp [Tryd.f7]
  | x :: rest, pre, hl, k => by
    have ih := small_loop rest (pre ++ [x])
    rw [denK_loop]
    simp [Tryd.f7] at hl ih ⊢
    have h1 : (pre.length : Int) < pre.length + (rest.length + 1) := by omega
    have h2 : IntKind.i64.wrap ((pre.length : Int) + 1) = pre.length + 1 := wrap_id (by unfold I64; omega)
    simp [h1, h2, ih hl]
    by_cases hx : x.length ≤ 40
    · have : ¬ (40 < (x.length : Int)) := by omega
      simp [hx, this]
    · have : 40 < (x.length : Int) := by omega
      simp [hx, this]
theorem small_run (rows : List (List Int)) : callT ctx 7 [.d (.list (rows.map ints))] [] = some (.ret (.d (.bool (smallRows rows))), []) := by
  rw [run7 (by simp)]
  simp [Tryd.f7]
  by_cases hr : rows.length ≤ 300
  · have h := small_loop rows [] (by simp; omega)
    have h2 : ¬ (300 < (rows.length : Int)) := by omega
    simp [Tryd.f7] at h
    simp [h, h2]
    simp only [smallRows, hr]
    by_cases h3 : ∀ x ∈ rows, x.length ≤ 40
    · have h4 : (rows.all fun r => decide (r.length ≤ 40)) = true := by simpa using h3
      simp [h4, h3]
      exact h3
    · have h4 : (rows.all fun r => decide (r.length ≤ 40)) = false := by simpa using h3
      simp [h4, h3]
  · have h2 : 300 < (rows.length : Int) := by omega
    simp [h2, smallRows, hr]

theorem fits_run (c b a h l : Int) (u : Bool) : callT ctx 9 [.d (.agg [.int .i64 c, .int .i64 b, .int .i64 a, .int .i64 h, .int .i64 l, .bool u])] [] = some (.ret (.d (.bool (asked ⟨c, b, a, h, l, u, [], 0, 0, false⟩))), []) := by
  rw [run9 (by simp)]
  simp [Tryd.f9, asked]

def sameHead (s t : Scope) : Bool := s.channels == t.channels && s.before == t.before && s.after == t.after && s.channel == t.channel && s.level == t.level && s.up == t.up && s.seen == t.seen && s.moment == t.moment && s.done == t.done
theorem same_in (x0 x1 x2 x3 x4 x5 x7 x8 x9 y0 y1 y2 y3 y4 y5 y7 y8 y9 : AV) (P1 P2 Q1 Q2 : List (List Int)) (hP : P1.length = P2.length) (hl1 : (P1 ++ Q1).length < 1000000) : ∀ (r1 r2 p1 p2 : List Int), p1.length = p2.length → r1.length = r2.length → (p1 ++ r1).length < 1000000 → ∀ k : Kt,
    denK ctx 10 (.loop (Code.at (codeOf Tryd.f10) [1, 1, 0, 1, 0, 0, 1, 0, 0, 1, 1, 0, 0])) ⟨124, gl0, [(2, true, .ptr 200 1 0), (3, true, .ptr 250 1 0), (5, true, .d (.int .i64 P1.length)), (6, true, .d (.int .i64 p1.length))],
        [⟨200, 1, .box [x0, x1, x2, x3, x4, x5, .d (.list ((P1 ++ (p1 ++ r1) :: Q1).map ints)), x7, x8, x9]⟩, ⟨250, 1, .box [y0, y1, y2, y3, y4, y5, .d (.list ((P2 ++ (p2 ++ r2) :: Q2).map ints)), y7, y8, y9]⟩]⟩ k =
      if r1 = r2 then k (.exit 2) ⟨124, gl0, [(2, true, .ptr 200 1 0), (3, true, .ptr 250 1 0), (5, true, .d (.int .i64 P1.length)), (6, true, .d (.int .i64 (p1 ++ r1).length)), (104, true, .d (.bool false))],
        [⟨200, 1, .box [x0, x1, x2, x3, x4, x5, .d (.list ((P1 ++ (p1 ++ r1) :: Q1).map ints)), x7, x8, x9]⟩, ⟨250, 1, .box [y0, y1, y2, y3, y4, y5, .d (.list ((P2 ++ (p2 ++ r2) :: Q2).map ints)), y7, y8, y9]⟩]⟩
      else k .ret ⟨124, gl0, [(4, true, .d (.bool false))],
        [⟨200, 1, .box [x0, x1, x2, x3, x4, x5, .d (.list ((P1 ++ (p1 ++ r1) :: Q1).map ints)), x7, x8, x9]⟩, ⟨250, 1, .box [y0, y1, y2, y3, y4, y5, .d (.list ((P2 ++ (p2 ++ r2) :: Q2).map ints)), y7, y8, y9]⟩]⟩
  | [], [], p1, p2, hp, hr, hl, k => by
    rw [denK_loop]
    simp [Tryd.f10] at hl hl1 ⊢
  | x :: r1, y :: r2, p1, p2, hp, hr, hl, k => by
    have ih := same_in x0 x1 x2 x3 x4 x5 x7 x8 x9 y0 y1 y2 y3 y4 y5 y7 y8 y9 P1 P2 Q1 Q2 hP hl1 r1 r2 (p1 ++ [x]) (p2 ++ [y]) (by simpa using hp) (by simpa using hr)
    rw [denK_loop]
    simp [Tryd.f10, hP, hp] at hl hl1 ih ⊢
    have h1 : (p2.length : Int) < p2.length + (r1.length + 1) := by omega
    have h2 : IntKind.i64.wrap ((p2.length : Int) + 1) = p2.length + 1 := wrap_id (by unfold I64; omega)
    simp [h1, h2, hP, hp]
    rw [drwK_nil (by kernel_rfl)]
    simp [h1, h2, hP, hp, ih hl]
    by_cases hxy : x = y
    · simp [hxy]
    · simp [hxy]

theorem same_out (x0 x1 x2 x3 x4 x5 x7 x8 x9 y0 y1 y2 y3 y4 y5 y7 y8 y9 : AV) : ∀ (Q1 Q2 P1 P2 : List (List Int)), P1.length = P2.length → Q1.length = Q2.length → (P1 ++ Q1).length < 1000000 → (∀ r ∈ Q1, r.length < 1000000) → ∀ k : Kt,
    denK ctx 10 (.loop (Code.at (codeOf Tryd.f10) [1, 1, 0, 1, 0, 0])) ⟨124, gl0, [(2, true, .ptr 200 1 0), (3, true, .ptr 250 1 0), (5, true, .d (.int .i64 P1.length))],
        [⟨200, 1, .box [x0, x1, x2, x3, x4, x5, .d (.list ((P1 ++ Q1).map ints)), x7, x8, x9]⟩, ⟨250, 1, .box [y0, y1, y2, y3, y4, y5, .d (.list ((P2 ++ Q2).map ints)), y7, y8, y9]⟩]⟩ k =
      if Q1 = Q2 then k (.exit 0) ⟨124, gl0, [(2, true, .ptr 200 1 0), (3, true, .ptr 250 1 0), (5, true, .d (.int .i64 (P1 ++ Q1).length)), (81, true, .d (.bool false))],
        [⟨200, 1, .box [x0, x1, x2, x3, x4, x5, .d (.list ((P1 ++ Q1).map ints)), x7, x8, x9]⟩, ⟨250, 1, .box [y0, y1, y2, y3, y4, y5, .d (.list ((P2 ++ Q2).map ints)), y7, y8, y9]⟩]⟩
      else k .ret ⟨124, gl0, [(4, true, .d (.bool false))],
        [⟨200, 1, .box [x0, x1, x2, x3, x4, x5, .d (.list ((P1 ++ Q1).map ints)), x7, x8, x9]⟩, ⟨250, 1, .box [y0, y1, y2, y3, y4, y5, .d (.list ((P2 ++ Q2).map ints)), y7, y8, y9]⟩]⟩
  | [], [], P1, P2, hP, hQ, hl, hr, k => by
    rw [denK_loop]
    simp [Tryd.f10] at hl ⊢
  | x :: Q1, y :: Q2, P1, P2, hP, hQ, hl, hr, k => by
    have ih := same_out x0 x1 x2 x3 x4 x5 x7 x8 x9 y0 y1 y2 y3 y4 y5 y7 y8 y9 Q1 Q2 (P1 ++ [x]) (P2 ++ [y]) (by simpa using hP) (by simpa using hQ) (by simpa using hl) (fun r h => hr r (by simp [h]))
    have hin := fun h => same_in x0 x1 x2 x3 x4 x5 x7 x8 x9 y0 y1 y2 y3 y4 y5 y7 y8 y9 P1 P2 Q1 Q2 hP (by simp at hl ⊢; omega) x y [] [] rfl h (by simpa using hr x (by simp))
    rw [denK_loop]
    simp [Tryd.f10, hP] at hl ih hin ⊢
    have h1 : (P2.length : Int) < P2.length + (Q1.length + 1) := by omega
    have h2 : IntKind.i64.wrap ((P2.length : Int) + 1) = P2.length + 1 := wrap_id (by unfold I64; omega)
    simp [h1, h2, hP]
    rw [drwK_nil (by kernel_rfl)]
    by_cases hxy : x.length = y.length
    · simp [h1, h2, hP, hxy, hin hxy, ih]
      by_cases hxx : x = y
      · simp [hxx]
      · simp [hxx]
    · have : ¬ ((x.length : Int) = y.length) := by omega
      have h3 : x ≠ y := fun h => hxy (by rw [h])
      simp [h1, h2, hP, this, h3]

theorem same_run (s t : Scope) (hl : shortRows s.rows) : callT ctx 10 [.d s.enc, .d t.enc] [] = some (.ret (.d (.bool (sameHead s t && decide (s.rows = t.rows)))), []) := by
  have h := fun x0 x1 x2 x3 x4 x5 x7 x8 x9 y0 y1 y2 y3 y4 y5 y7 y8 y9 hq => same_out x0 x1 x2 x3 x4 x5 x7 x8 x9 y0 y1 y2 y3 y4 y5 y7 y8 y9 s.rows t.rows [] [] rfl hq (by simpa using hl.1) hl.2
  rw [run10 (by simp)]
  simp [Tryd.f10] at h ⊢
  by_cases hq : s.rows.length = t.rows.length
  · simp [h, hq]
    cases hh : sameHead s t
    · simp [sameHead] at hh
      rw [if_pos (by grind)]
      rfl
    · simp [sameHead] at hh
      simp [hh]
      split <;> simp_all
  · have h3 : s.rows ≠ t.rows := fun h => hq (by rw [h])
    have h4 : ¬ ((s.rows.length : Int) = t.rows.length) := by omega
    simp [h4, h3]
end Go.Am
end
section
namespace Go.Am
open Go Go.Proofs
set_option maxRecDepth 20000

theorem same16_loop : ∀ (r1 r2 p1 p2 : List Int), p1.length = p2.length → r1.length = r2.length → (p1 ++ r1).length < 1000000 → ∀ k : Kt,
    denK ctx 16 (.loop (Code.at (codeOf Tryd.f16) [1, 1, 0, 1, 0, 0])) ⟨26, gl0, [(0, true, .d (ints (p1 ++ r1))), (1, true, .d (ints (p2 ++ r2))), (5, true, .d (.int .i64 p1.length))], []⟩ k =
      if r1 = r2 then k (.exit 0) ⟨26, gl0, [(0, true, .d (ints (p1 ++ r1))), (1, true, .d (ints (p2 ++ r2))), (5, true, .d (.int .i64 (p1 ++ r1).length)), (14, true, .d (.bool false))], []⟩
      else k .ret ⟨26, gl0, [(4, true, .d (.bool false))], []⟩
  | [], [], p1, p2, hp, hr, hl, k => by
    rw [denK_loop]
    simp [Tryd.f16] at hl ⊢
  | x :: r1, y :: r2, p1, p2, hp, hr, hl, k => by
    have ih := same16_loop r1 r2 (p1 ++ [x]) (p2 ++ [y]) (by simpa using hp) (by simpa using hr)
    rw [denK_loop]
    simp [Tryd.f16, hp] at hl ih ⊢
    have h1 : (p2.length : Int) < p2.length + (r1.length + 1) := by omega
    have h2 : IntKind.i64.wrap ((p2.length : Int) + 1) = p2.length + 1 := wrap_id (by unfold I64; omega)
    simp [h1, h2, hp]
    rw [drwK_nil (by kernel_rfl)]
    simp [h1, h2, hp, ih hl]
    by_cases hxy : x = y
    · simp [hxy]
    · simp [hxy]
theorem same16_run (xs ys : List Int) (hl : xs.length < 1000000) : callT ctx 16 [.d (ints xs), .d (ints ys)] [] = some (.ret (.d (.bool (decide (xs = ys)))), []) := by
  have h := fun hq => same16_loop xs ys [] [] rfl hq (by simpa using hl)
  rw [run16 (by simp)]
  simp [Tryd.f16] at h ⊢
  by_cases hq : xs.length = ys.length
  · simp [h, hq]
    by_cases hxy : xs = ys
    · simp [hxy]
    · simp [hxy]
  · have h3 : xs ≠ ys := fun h => hq (by rw [h])
    have h4 : ¬ ((xs.length : Int) = ys.length) := by omega
    simp [h4, h3]

theorem lines_none (s : Scope) (hl : s.rows.length < 1000000) (hm : I64 s.moment) (hr : right s = false) : callT ctx 14 [.d s.enc] [] = some (.ret (.d (.str [])), []) := by
  have h1 := right_run s hl hm
  simp [hr] at h1
  rw [run14 (by simp)]
  simp [Tryd.f14, h1]
end Go.Am
end
section
namespace Go.Am
open Go Go.Proofs
set_option maxRecDepth 20000

theorem right_of {s : Scope} (h1 : asked s = true) (h2 : ∀ r ∈ s.rows, (r.length : Int) = s.channels) (h3 : (s.rows.length : Int) ≤ s.seen)
    (h4 : if s.moment = -1 then (s.rows.length : Int) ≤ max s.before 1 ∧ s.done = false else 0 ≤ s.moment ∧ s.moment ≤ s.before ∧ 1 ≤ s.rows.length - s.moment ∧ s.rows.length - s.moment ≤ s.after ∧ s.done = decide (s.rows.length - s.moment = s.after)) : right s = true := by
  have hb : rowsBad s = false := by
    unfold rowsBad
    simpa using h2
  unfold right
  rw [if_neg (by simp [h1, hb]), if_neg (by omega)]
  split at h4
  · rename_i h5
    rw [if_pos h5]
    simpa using h4
  · rename_i h5
    rw [if_neg h5]
    obtain ⟨a, b, c, d, e⟩ := h4
    simp [a, b, c, d, e]

theorem asked_of_right {s : Scope} (h : right s = true) : asked s = true := by
  unfold right at h
  split at h
  · cases h
  · rename_i h1
    simp only [not_or, Bool.not_eq_false] at h1
    exact h1.1

theorem cut_length2 (rows : List (List Int)) (n : Int) (h : 0 ≤ n) : ((cut rows n).length : Int) = min (rows.length : Int) n := by
  simp only [cut, List.length_drop]
  omega
theorem cut_mem2 {rows : List (List Int)} {n : Int} {r : List Int} (h : r ∈ cut rows n) : r ∈ rows := List.mem_of_mem_drop h

theorem right_tell {s : Scope} {row : List Int} (h : right s = true) : right (tell s row) = true := by
  unfold tell
  split
  · exact h
  · rename_i hc
    simp only [not_or, Bool.not_eq_false, Bool.not_eq_true, ne_eq, Decidable.not_not] at hc
    obtain ⟨c1, c2, c3, c4⟩ := hc
    obtain ⟨f1, f2, f3, f4⟩ := right_facts c1
    have ha := asked_of_right c1
    simp only [c2, false_eq_decide_iff] at f4
    have hh : hits s row = true → s.moment < 0 := by
      intro hh
      simp only [hits, Bool.and_eq_true, decide_eq_true_eq] at hh
      exact hh.1
    have b0 : 0 ≤ s.before := by omega
    have l1 := cut_length2 s.rows s.before b0
    have l2 := cut_length2 (s.rows ++ [row]) (max s.before 1) (by omega)
    simp only [List.length_append, List.length_cons, List.length_nil] at l2
    cases hq : hits s row
    · simp only [hq, Bool.false_eq_true, if_false]
      by_cases hm : s.moment < 0
      · have hm1 : s.moment = -1 := by
          split at f4
          · assumption
          · omega
        simp only [hm, if_true]
        refine right_of ha ?_ ?_ ?_
        · intro r hr
          have := cut_mem2 hr
          simp only [List.mem_append, List.mem_singleton] at this
          rcases this with h1 | rfl
          · exact f2 r h1
          · exact c3
        · simp only []
          omega
        · simp only [hm1, if_true]
          refine ⟨by omega, by simp⟩
      · simp only [hm, if_false]
        rw [if_neg (by omega)] at f4
        refine right_of ha ?_ ?_ ?_
        · intro r hr
          simp only [List.mem_append, List.mem_singleton] at hr
          rcases hr with h1 | rfl
          · exact f2 r h1
          · exact c3
        · simp only [List.length_append, List.length_cons, List.length_nil]
          omega
        · simp only [List.length_append, List.length_cons, List.length_nil]
          rw [if_neg (by omega)]
          have : 0 ≤ s.moment := by omega
          refine ⟨by omega, by omega, by omega, by omega, by simp [this]⟩
    · have hm := hh hq
      simp only [if_true]
      rw [if_neg (by omega)]
      refine right_of ha ?_ ?_ ?_
      · intro r hr
        simp only [List.mem_append, List.mem_singleton] at hr
        rcases hr with h1 | rfl
        · exact f2 r (cut_mem2 h1)
        · exact c3
      · simp only [List.length_append, List.length_cons, List.length_nil]
        omega
      · simp only [List.length_append, List.length_cons, List.length_nil]
        rw [if_neg (by omega)]
        have : (0 : Int) ≤ (cut s.rows s.before).length := by omega
        refine ⟨by omega, by omega, by omega, by omega, by simp [this]⟩
end Go.Am
end
section
namespace Go.Am
open Go Go.Proofs
set_option maxRecDepth 20000
def crossB (h l : Int) (u : Bool) (r q : List Int) : Bool := crosses ⟨0, 0, 0, h, l, u, [], 0, 0, false⟩ (nth r h) (nth q h)
/-- The first place from i on whose row crosses, with the row ahead of it. -/
def crossAt (h l : Int) (u : Bool) : List Int → List (List Int) → Nat → Int
  | _, [], _ => -1
  | r, q :: rest, i => if crossB h l u r q = true then (i : Int) else crossAt h l u q rest (i + 1)
def momentOf (h l : Int) (u : Bool) : List (List Int) → Int
  | [] => -1
  | r :: rest => crossAt h l u r rest 1
theorem crossAt_snoc (h l : Int) (u : Bool) (row : List Int) : ∀ (rest : List (List Int)) (r : List Int) (i : Nat),
    crossAt h l u r (rest ++ [row]) i = if 0 ≤ crossAt h l u r rest i then crossAt h l u r rest i else if crossB h l u ((r :: rest).getLast (by simp)) row = true then ((i + rest.length : Nat) : Int) else -1
  | [], r, i => by
    simp [crossAt]
    rfl
  | q :: rest, r, i => by
    have ih := crossAt_snoc h l u row rest q (i + 1)
    simp only [List.cons_append, crossAt]
    split
    · rw [if_pos (by omega)]
    · rw [ih]
      simp only [List.getLast_cons_cons, List.length_cons]
      rw [show i + 1 + rest.length = i + (rest.length + 1) by omega]
      rfl
theorem crossAt_range (h l : Int) (u : Bool) : ∀ (rest : List (List Int)) (r : List Int) (i : Nat), crossAt h l u r rest i = -1 ∨ ((i : Int) ≤ crossAt h l u r rest i ∧ crossAt h l u r rest i < i + rest.length)
  | [], r, i => .inl rfl
  | q :: rest, r, i => by
    simp only [crossAt, List.length_cons]
    split
    · right; omega
    · rcases crossAt_range h l u rest q (i + 1) with h1 | h1
      · exact .inl h1
      · right; omega
theorem momentOf_range (h l : Int) (u : Bool) (all : List (List Int)) : momentOf h l u all = -1 ∨ (1 ≤ momentOf h l u all ∧ momentOf h l u all < all.length) := by
  cases all with
  | nil => exact .inl rfl
  | cons r rest =>
    rcases crossAt_range h l u rest r 1 with h1 | h1
    · exact .inl h1
    · right; simp only [momentOf, List.length_cons]; omega
theorem momentOf_snoc (h l : Int) (u : Bool) (all : List (List Int)) (row : List Int) :
    momentOf h l u (all ++ [row]) = if 0 ≤ momentOf h l u all then momentOf h l u all else match all.getLast? with
      | some r => if crossB h l u r row = true then (all.length : Int) else -1
      | none => -1 := by
  cases all with
  | nil => simp [momentOf, crossAt]
  | cons r rest =>
    simp only [momentOf, List.cons_append]
    rw [crossAt_snoc]
    have e : (r :: rest).getLast? = some ((r :: rest).getLast (by simp)) := List.getLast?_eq_some_getLast (by simp)
    rw [e]
    simp only [List.length_cons]
    rw [show 1 + rest.length = rest.length + 1 by omega]
/-- Where what is kept begins and ends. -/
def fromOf (b : Int) (m : Int) (n : Int) : Int := max (if 0 ≤ m then m - b else n - max b 1) 0
def toOf (a : Int) (m : Int) (n : Int) : Int := if 0 ≤ m then min n (m + a) else n
def keptOf (b a m : Int) (all : List (List Int)) : List (List Int) := (all.take (toOf a m all.length).toNat).drop (fromOf b m all.length).toNat
def ofM (c b a h l : Int) (u : Bool) (m : Int) (all : List (List Int)) : Scope :=
  ⟨c, b, a, h, l, u, keptOf b a m all, toOf a m all.length, if 0 ≤ m then m - fromOf b m all.length else -1, decide (0 ≤ m) && decide (toOf a m all.length = m + a)⟩
def ofS (c b a h l : Int) (u : Bool) (all : List (List Int)) : Scope := ofM c b a h l u (momentOf h l u all) all

theorem hits_eq (c b a h l : Int) (u : Bool) (rows : List (List Int)) (seen mom : Int) (dn : Bool) (row : List Int) :
    hits ⟨c, b, a, h, l, u, rows, seen, mom, dn⟩ row = (decide (mom < 0) && (match rows.getLast? with | some r => crossB h l u r row | none => false)) := rfl

theorem of_tell (c b a h l : Int) (u : Bool) (all : List (List Int)) (row : List Int) (hb : 0 ≤ b) (ha : 1 ≤ a) (hn : all.length < 1000000) (hc : (row.length : Int) = c) (hr : right (ofS c b a h l u all) = true) :
    tell (ofS c b a h l u all) row = ofS c b a h l u (all ++ [row]) := by
  have hm := momentOf_range h l u all
  unfold ofS
  rw [momentOf_snoc]
  unfold ofS at hr
  generalize momentOf h l u all = m at hm hr
  by_cases h0 : 0 ≤ m
  · rw [if_pos h0]
    unfold tell
    by_cases hd : toOf a m all.length = m + a
    · rw [if_pos (by right; left; simp [ofM, h0, hd])]
      unfold toOf at hd
      rw [if_pos h0] at hd
      have e1 : toOf a m (all ++ [row]).length = m + a := by unfold toOf; rw [if_pos h0]; simp; omega
      have e2 : toOf a m all.length = m + a := by unfold toOf; rw [if_pos h0]; omega
      have e3 : fromOf b m (all ++ [row]).length = fromOf b m all.length := by unfold fromOf; rw [if_pos h0, if_pos h0]
      have e4 : keptOf b a m (all ++ [row]) = keptOf b a m all := by
        unfold keptOf; rw [e1, e2, e3, List.take_append_of_le_length (by omega)]
      simp only [ofM, e1, e2, e3, e4]
    · have hto : toOf a m all.length = all.length := by unfold toOf at hd ⊢; rw [if_pos h0] at hd ⊢; omega
      have hlt : (all.length : Int) < m + a := by unfold toOf at hd hto; rw [if_pos h0] at hd hto; omega
      have hto' : toOf a m (all ++ [row]).length = all.length + 1 := by unfold toOf; rw [if_pos h0]; simp; omega
      obtain ⟨f, hf⟩ : ∃ f : Nat, fromOf b m all.length = f := ⟨(fromOf b m all.length).toNat, by unfold fromOf; omega⟩
      have hfr : fromOf b m (all ++ [row]).length = f := by rw [← hf]; unfold fromOf; rw [if_pos h0, if_pos h0]
      have hfm : (f : Int) ≤ m := by rw [← hf]; unfold fromOf; rw [if_pos h0]; omega
      have hk : keptOf b a m all = all.drop f := by unfold keptOf; rw [hto, hf]; simp
      have hk' : keptOf b a m (all ++ [row]) = all.drop f ++ [row] := by
        unfold keptOf; rw [hto', hfr]
        rw [List.take_of_length_le (by simp), show ((f : Int)).toNat = f by simp, List.drop_append_of_le_length (by omega)]
      have hh : hits (ofM c b a h l u m all) row = false := by
        unfold ofM; rw [hits_eq, if_pos h0, hf]; simp; omega
      rw [if_neg (by
        simp only [not_or]
        refine ⟨by simp [hr], ?_, ?_, ?_⟩
        · simp [ofM, hd]
        · simp [ofM, hc]
        · simp only [ofM, hto]; omega)]
      rw [hh]
      simp only [ofM, hk, hk', hto, hto', hf, hfr, h0, if_true, Bool.false_eq_true, if_false, decide_true, Bool.true_and]
      rw [if_neg (by omega)]
      simp only [Scope.mk.injEq, true_and, List.length_append, List.length_drop, List.length_cons, List.length_nil]
      rw [decide_eq_true (by omega : 0 ≤ m - (f : Int))]
      simp only [Bool.true_and, decide_eq_decide]
      omega
  · rw [if_neg h0]
    have hm1 : m = -1 := by omega
    subst hm1
    obtain ⟨f, hf⟩ : ∃ f : Nat, fromOf b (-1) all.length = f := ⟨(fromOf b (-1) all.length).toNat, by unfold fromOf; omega⟩
    have hf2 : (f : Int) = max ((all.length : Int) - max b 1) 0 := by rw [← hf]; unfold fromOf; rw [if_neg (by omega)]
    have hto : toOf a (-1) all.length = all.length := by unfold toOf; rw [if_neg (by omega)]
    have hk : keptOf b a (-1) all = all.drop f := by unfold keptOf; rw [hto, hf]; simp
    have hlast : (all.drop f).getLast? = all.getLast? := by
      rw [List.getLast?_drop]
      split
      · rename_i h1
        have : all.length = 0 := by omega
        rw [List.length_eq_zero_iff.1 this]; rfl
      · rfl
    have hh : hits (ofM c b a h l u (-1) all) row = (match all.getLast? with | some r => crossB h l u r row | none => false) := by
      unfold ofM; rw [hits_eq, hk, hlast]; simp
    unfold tell
    rw [if_neg (by
      simp only [not_or]
      refine ⟨by simp [hr], ?_, ?_, ?_⟩
      · simp [ofM]
      · simp [ofM, hc]
      · simp only [ofM, hto]; omega)]
    rw [hh]
    have key : ∀ cr : Bool, (match all.getLast? with | some r => crossB h l u r row | none => false) = cr → (match all.getLast? with | some r => if crossB h l u r row = true then (all.length : Int) else -1 | none => -1) = (if cr = true then (all.length : Int) else -1) := by
      intro cr h1; subst h1
      cases all.getLast? <;> rfl
    have hne : (match all.getLast? with | some r => crossB h l u r row | none => false) = true → 1 ≤ all.length := by
      intro h1
      cases all with
      | nil => simp at h1
      | cons x y => simp
    generalize (match all.getLast? with | some r => crossB h l u r row | none => false) = cr at key hne
    rw [key cr rfl]
    cases cr
    · simp only [Bool.false_eq_true, if_false, ofM, hk, hto]
      have hto' : toOf a (-1) (all ++ [row]).length = all.length + 1 := by unfold toOf; rw [if_neg (by omega)]; simp
      obtain ⟨f', hf'⟩ : ∃ f' : Nat, fromOf b (-1) (all ++ [row]).length = f' := ⟨(fromOf b (-1) (all ++ [row]).length).toNat, by unfold fromOf; omega⟩
      have hf2' : (f' : Int) = max ((all.length : Int) + 1 - max b 1) 0 := by rw [← hf']; unfold fromOf; rw [if_neg (by omega)]; simp
      have hk' : keptOf b a (-1) (all ++ [row]) = (all ++ [row]).drop f' := by
        unfold keptOf; rw [hto', hf']
        rw [List.take_of_length_le (by simp)]; simp
      rw [hk', hto']
      simp only [Scope.mk.injEq, true_and, show ¬ ((0 : Int) ≤ -1) by omega, if_false, show ((-1 : Int) < 0) by omega, if_true, decide_false, Bool.false_and, and_true]
      unfold cut
      rw [← List.drop_append_of_le_length (by omega), List.drop_drop]
      congr 1
      simp only [List.length_drop, List.length_append, List.length_cons, List.length_nil]
      omega
    · have hne := hne rfl
      simp only [if_true, ofM, hk, hto]
      have hn0 : (0 : Int) ≤ all.length := by omega
      have hto' : toOf a (all.length : Int) (all ++ [row]).length = all.length + 1 := by unfold toOf; rw [if_pos hn0]; simp; omega
      obtain ⟨f', hf'⟩ : ∃ f' : Nat, fromOf b (all.length : Int) (all ++ [row]).length = f' := ⟨(fromOf b (all.length : Int) (all ++ [row]).length).toNat, by unfold fromOf; omega⟩
      have hf2' : (f' : Int) = max ((all.length : Int) - b) 0 := by rw [← hf']; unfold fromOf; rw [if_pos hn0]
      have hk' : keptOf b a (all.length : Int) (all ++ [row]) = all.drop f' ++ [row] := by
        unfold keptOf; rw [hto', hf']
        rw [List.take_of_length_le (by simp), show ((f' : Int)).toNat = f' by simp, List.drop_append_of_le_length (by omega)]
      have hcut : cut (all.drop f) b = all.drop f' := by
        unfold cut
        rw [List.drop_drop]
        congr 1
        simp only [List.length_drop]
        omega
      rw [hk', hto', hcut, hf']
      simp only [Scope.mk.injEq, true_and, List.length_drop, List.length_append, List.length_cons, List.length_nil, hn0, if_true]
      rw [if_neg (by omega)]
      refine ⟨rfl, by omega, ?_⟩
      simp
      omega
end Go.Am
end
section
namespace Go.Am
open Go Go.Proofs
set_option maxRecDepth 20000
theorem of_loop1 (c b a h l : Int) (u : Bool) (rw0 : D) (s0 m0 d0 : AV) (Z : Cont) (hh : 0 ≤ h) : ∀ (rest P : List (List Int)) (r : List Int), (P ++ r :: rest).length < 1000000 → (∀ q ∈ r :: rest, h < (q.length : Int)) → ∀ k : Kt,
    ∃ i', denK ctx 13 (.loop (Code.at (codeOf Tryd.f13) [1, 1, 0, 1, 0, 0])) ⟨130, gl0, [(1, true, .vec 0 0 0 (P ++ r :: rest).length), (2, true, .ptr 200 1 0), (4, true, .ptr 300 1 0), (5, true, .d (.int .i64 (-1))), (6, true, .d (.int .i64 ((P.length : Int) + 1)))],
        [⟨0, 0, .vec 1 ((P ++ r :: rest).map ints)⟩, ⟨200, 1, .box [.d (.int .i64 c), .d (.int .i64 b), .d (.int .i64 a), .d (.int .i64 h), .d (.int .i64 l), .d (.bool u), .d rw0, s0, m0, d0]⟩, ⟨300, 1, Z⟩, ⟨451, 0, .dead⟩, ⟨5250, 0, .dead⟩, ⟨5500, 0, .dead⟩]⟩ k =
      k (.exit 0) ⟨130, gl0, [(1, true, .vec 0 0 0 (P ++ r :: rest).length), (2, true, .ptr 200 1 0), (4, true, .ptr 300 1 0), (5, true, .d (.int .i64 (crossAt h l u r rest (P.length + 1)))), (6, true, .d (.int .i64 i')), (19, true, .d (.bool false))],
        [⟨0, 0, .vec 1 ((P ++ r :: rest).map ints)⟩, ⟨200, 1, .box [.d (.int .i64 c), .d (.int .i64 b), .d (.int .i64 a), .d (.int .i64 h), .d (.int .i64 l), .d (.bool u), .d rw0, s0, m0, d0]⟩, ⟨300, 1, Z⟩, ⟨451, 0, .dead⟩, ⟨5250, 0, .dead⟩, ⟨5500, 0, .dead⟩]⟩
  | [], P, r, hl, hr, k => by
    refine ⟨P.length + 1, ?_⟩
    rw [denK_loop]
    simp [Tryd.f13, crossAt]
  | q :: rest, P, r, hl, hr, k => by
    obtain ⟨i', ih⟩ := of_loop1 c b a h l u rw0 s0 m0 d0 Z hh rest (P ++ [r]) q (by simpa using hl) (fun x hx => hr x (by simp [hx])) k
    have g3 : r[h.toNat]? = some (nth r h) := nth_get (by omega) (by have := hr r (by simp); omega)
    have g4 : q[h.toNat]? = some (nth q h) := nth_get (by omega) (by have := hr q (by simp); omega)
    have g5 : h.toNat < r.length := by have := hr r (by simp); omega
    have g6 : h.toNat < q.length := by have := hr q (by simp); omega
    have h2 : IntKind.i64.wrap ((P.length : Int) + 1 + 1) = P.length + 1 + 1 := wrap_id (by unfold I64; simp at hl; omega)
    have h3 : IntKind.i64.wrap ((P.length : Int) + 1 - 1) = P.length := by rw [wrap_id (by unfold I64; simp at hl; omega)]; omega
    have h1 : (P.length : Int) + 1 < P.length + (rest.length + 1 + 1) := by omega
    have h4 : ¬ ((P.length : Int) + 1 < 0) := by omega
    have h5 : (0 : Int) ≤ (P.length : Int) + 1 := by omega
    have h6 : ((P.length : Int) + 1).toNat = P.length + 1 := by omega
    simp at h3
    have h7 : (1 : Int) < (rest.length : Int) + 1 + 1 := by omega
    have hn1 : nth r h = r[h.toNat] := by simp [nth, g5]
    have hn2 : nth q h = q[h.toNat] := by simp [nth, g6]
    by_cases hx : crossB h l u r q = true
    · refine ⟨P.length + 1 + 1, ?_⟩
      rw [denK_loop]
      simp [Tryd.f13, crossAt, hx]
      simp [h1, h2, h3, hh, g5, g6, h5, h6, h7]
      rw [drwK_nil (by kernel_rfl)]
      simp only [crossB, crosses, hn1, hn2] at hx
      cases u
      · simp at hx
        simp [hx, h1, h2, h4]
        rw [denK_loop]
        simp [h4]
      · simp at hx
        simp [hx, h1, h2, h4]
        rw [denK_loop]
        simp [h4]
    · refine ⟨i', ?_⟩
      rw [denK_loop]
      simp [Tryd.f13, crossAt, hx] at ih ⊢
      simp [h1, h2, h3, hh, g5, g6, h5, h6, h7]
      rw [drwK_nil (by kernel_rfl)]
      simp only [crossB, crosses, hn1, hn2] at hx
      cases u
      · simp at hx
        by_cases hz : l < r[h.toNat]
        · have hz2 := Int.not_le.2 (hx hz)
          simp [h1, h2, h4, hz, hz2]
          exact ih
        · simp [h1, h2, h4, hz]
          exact ih
      · simp at hx
        by_cases hz : r[h.toNat] < l
        · have hz2 := Int.not_le.2 (hx hz)
          simp [h1, h2, h4, hz, hz2]
          exact ih
        · simp [h1, h2, h4, hz]
          exact ih

theorem of_loop2 (x0 x1 x2 x3 x4 x5 s0 m0 d0 : AV) (Z : Cont) (tail : List (List Int)) (m fr : Int) : ∀ (rest P acc : List (List Int)) (v v2 v3 : Nat) (ct ct3 : Cont), (P ++ rest).length < 1000000 → acc.length + rest.length < 1000000 → (∀ q ∈ rest, q.length < 1000000) → ∀ k : Kt,
    ∃ v' v2' v3' ct' ct3', denK ctx 13 (.loop (Code.at (codeOf Tryd.f13) [1, 1, 1, 1, 1, 1, 1, 0, 1, 0, 0])) ⟨130, gl0, [(1, true, .vec 0 0 0 (P ++ rest ++ tail).length), (2, true, .ptr 200 1 0), (4, true, .ptr 300 1 0), (5, true, .d (.int .i64 m)), (9, true, .d (.int .i64 fr)), (10, true, .d (.int .i64 (P ++ rest).length)), (11, true, .d (.int .i64 P.length))],
        [⟨0, 0, .vec 1 ((P ++ rest ++ tail).map ints)⟩, ⟨200, 1, .box [x0, x1, x2, x3, x4, x5, .vec 451 v 0 acc.length, s0, m0, d0]⟩, ⟨300, 1, Z⟩, ⟨451, v, .vec 1 (acc.map ints)⟩, ⟨5250, v2, ct⟩, ⟨5500, v3, ct3⟩]⟩ k =
      k (.exit 2) ⟨130, gl0, [(1, true, .vec 0 0 0 (P ++ rest ++ tail).length), (2, true, .ptr 200 1 0), (4, true, .ptr 300 1 0), (5, true, .d (.int .i64 m)), (9, true, .d (.int .i64 fr)), (10, true, .d (.int .i64 (P ++ rest).length)), (11, true, .d (.int .i64 (P ++ rest).length)), (98, true, .d (.bool false))],
        [⟨0, 0, .vec 1 ((P ++ rest ++ tail).map ints)⟩, ⟨200, 1, .box [x0, x1, x2, x3, x4, x5, .vec 451 v' 0 (acc ++ rest).length, s0, m0, d0]⟩, ⟨300, 1, Z⟩, ⟨451, v', .vec 1 ((acc ++ rest).map ints)⟩, ⟨5250, v2', ct'⟩, ⟨5500, v3', ct3'⟩]⟩
  | [], P, acc, v, v2, v3, ct, ct3, hl, ha, hr, k => by
    refine ⟨v, v2, v3, ct, ct3, ?_⟩
    rw [denK_loop]
    simp [Tryd.f13]
  | q :: rest, P, acc, v, v2, v3, ct, ct3, hl, ha, hr, k => by
    have h1 : (P.length : Int) < P.length + (rest.length + 1) := by omega
    have h2 : IntKind.i64.wrap ((P.length : Int) + 1) = P.length + 1 := wrap_id (by unfold I64; simp at hl; omega)
    obtain ⟨v', v2', v3', ct', ct3', ih⟩ := of_loop2 x0 x1 x2 x3 x4 x5 s0 m0 d0 Z tail m fr rest (P ++ [q]) (acc ++ [q]) (v + 1) (v2 + 1 + 1 + 1) v3 .dead ct3 (by simpa using hl) (by simp at ha ⊢; omega) (fun x hx => hr x (by simp [hx])) k
    refine ⟨v', v2', v3', ct', ct3', ?_⟩
    have hq := hr q (by simp)
    simp at hl ha
    have g1 : q.length * 8 ≤ 140737488355328 ∧ q.length ≤ 4611686018427387904 := by omega
    have g2 : (acc.length + 1) * 24 ≤ 140737488355328 ∧ acc.length ≤ 4611686018427387903 := by omega
    rw [denK_loop]
    simp [Tryd.f13] at ih ⊢
    simp [h1, h2, g1, g2]
    rw [drwK_nil (by kernel_rfl)]
    simp [h2, ih]

/-- The first loop, whatever rows there are. -/
theorem of_first (c b a h l : Int) (u : Bool) (rw0 : D) (s0 m0 d0 : AV) (Z : Cont) (hh : 0 ≤ h) (all : List (List Int)) (hl : all.length < 1000000) (hr : ∀ q ∈ all, h < (q.length : Int)) (k : Kt) :
    ∃ i', denK ctx 13 (.loop (Code.at (codeOf Tryd.f13) [1, 1, 0, 1, 0, 0])) ⟨130, gl0, [(1, true, .vec 0 0 0 all.length), (2, true, .ptr 200 1 0), (4, true, .ptr 300 1 0), (5, true, .d (.int .i64 (-1))), (6, true, .d (.int .i64 1))],
        [⟨0, 0, .vec 1 (all.map ints)⟩, ⟨200, 1, .box [.d (.int .i64 c), .d (.int .i64 b), .d (.int .i64 a), .d (.int .i64 h), .d (.int .i64 l), .d (.bool u), .d rw0, s0, m0, d0]⟩, ⟨300, 1, Z⟩, ⟨451, 0, .dead⟩, ⟨5250, 0, .dead⟩, ⟨5500, 0, .dead⟩]⟩ k =
      k (.exit 0) ⟨130, gl0, [(1, true, .vec 0 0 0 all.length), (2, true, .ptr 200 1 0), (4, true, .ptr 300 1 0), (5, true, .d (.int .i64 (momentOf h l u all))), (6, true, .d (.int .i64 i')), (19, true, .d (.bool false))],
        [⟨0, 0, .vec 1 (all.map ints)⟩, ⟨200, 1, .box [.d (.int .i64 c), .d (.int .i64 b), .d (.int .i64 a), .d (.int .i64 h), .d (.int .i64 l), .d (.bool u), .d rw0, s0, m0, d0]⟩, ⟨300, 1, Z⟩, ⟨451, 0, .dead⟩, ⟨5250, 0, .dead⟩, ⟨5500, 0, .dead⟩]⟩ := by
  cases all with
  | nil =>
    refine ⟨1, ?_⟩
    rw [denK_loop]
    simp [Tryd.f13, momentOf]
  | cons r rest => simpa [momentOf] using of_loop1 c b a h l u rw0 s0 m0 d0 Z hh rest [] r hl hr k
end Go.Am
end
section
namespace Go.Am
open Go Go.Proofs
set_option maxRecDepth 20000

theorem of_run (c b a h l : Int) (u : Bool) (rw0 : List (List Int)) (s0 m0 : Int) (d0 : Bool) (hb : 0 ≤ b ∧ b ≤ 500) (ha : 1 ≤ a ∧ a ≤ 500) (hh : 0 ≤ h) (all : List (List Int)) (hl : all.length < 100000) (hr : ∀ q ∈ all, h < (q.length : Int)) (hr2 : ∀ q ∈ all, q.length < 1000000) :
    callT ctx 13 [.d (Scope.enc ⟨c, b, a, h, l, u, rw0, s0, m0, d0⟩), .vec 0 0 0 all.length] [.vec 1 (all.map ints)] = some (.ret (.d (Scope.enc (ofS c b a h l u all))), [(0, .vec 1 (all.map ints))]) := by
  have h1 := fun Z => of_first c b a h l u (.list (rw0.map ints)) (.d (.int .i64 s0)) (.d (.int .i64 m0)) (.d (.bool d0)) Z hh all (by omega) hr
  have hm := momentOf_range h l u all
  unfold ofS
  generalize momentOf h l u all = m at h1 hm
  obtain ⟨f, hf⟩ : ∃ f : Nat, fromOf b m all.length = f := ⟨(fromOf b m all.length).toNat, by unfold fromOf; omega⟩
  obtain ⟨t, ht⟩ : ∃ t : Nat, toOf a m all.length = t := ⟨(toOf a m all.length).toNat, by unfold toOf; omega⟩
  have hft : f ≤ t ∧ t ≤ all.length := by unfold fromOf at hf; unfold toOf at ht; omega
  have hk : keptOf b a m all = (all.drop f).take (t - f) := by unfold keptOf; rw [hf, ht, List.drop_take]; simp
  have hsplit : all = all.take f ++ (all.drop f).take (t - f) ++ all.drop t := by
    conv => lhs; rw [← List.take_append_drop f all, ← List.take_append_drop (t - f) (all.drop f), List.drop_drop]
    rw [List.append_assoc, show f + (t - f) = t by omega]
  have hlen : (all.take f).length = f := by simp; omega
  have hlen2 : (all.take f ++ (all.drop f).take (t - f)).length = t := by simp; omega
  have hacc : ((all.drop f).take (t - f)).length = t - f := by simp; omega
  have h2 := fun x0 x1 x2 x3 x4 x5 s0 m0 d0 Z => of_loop2 x0 x1 x2 x3 x4 x5 s0 m0 d0 Z (all.drop t) m f ((all.drop f).take (t - f)) (all.take f) [] 1 0 0 .dead .dead (by omega) (by simp; omega) (fun q hq => hr2 q (List.mem_of_mem_drop (List.mem_of_mem_take hq)))
  rw [← hsplit, hlen, hlen2] at h2
  generalize (all.drop f).take (t - f) = kept at hk hacc h2
  rw [run13 (by simp)]
  simp [Tryd.f13] at h1 h2 ⊢
  rw [Classical.choose_spec (h1 _ _)]
  generalize Classical.choose _ = i'
  by_cases h0 : 0 ≤ m
  · have e1 : IntKind.i64.wrap (m - b) = m - b := wrap_id (by unfold I64; omega)
    have e2 : IntKind.i64.wrap (m + a) = m + a := wrap_id (by unfold I64; omega)
    have e3 : (if m - b < 0 then 0 else m - b) = (f : Int) := by rw [← hf]; unfold fromOf; rw [if_pos h0]; split <;> omega
    have e4 : (if m + a < (all.length : Int) then m + a else (all.length : Int)) = (t : Int) := by rw [← ht]; unfold toOf; rw [if_pos h0]; split <;> omega
    have e5 : IntKind.i64.wrap (m - (f : Int)) = m - f := wrap_id (by unfold I64; omega)
    simp [h0, e1, e2, e3, e4]
    have h3 := fun x0 x1 x2 x3 x4 x5 s0 m0 d0 Z k => h2 x0 x1 x2 x3 x4 x5 s0 m0 d0 Z k
    obtain ⟨v', v2', v3', ct', ct3', h4⟩ := h3 (.d (.int .i64 c)) (.d (.int .i64 b)) (.d (.int .i64 a)) (.d (.int .i64 h)) (.d (.int .i64 l)) (.d (.bool u)) (.d (.int .i64 s0)) (.d (.int .i64 m0)) (.d (.bool d0)) _ _
    rw [h4]
    simp [h0, e2, e5, hacc]
    simp [ofM, hf, ht, hk, h0]
    by_cases q : (t : Int) = m + a <;> simp [q]
  · have hm1 : m = -1 := by omega
    subst hm1
    have e1 : IntKind.i64.wrap ((all.length : Int) - if b < 1 then 1 else b) = (all.length : Int) - if b < 1 then 1 else b := wrap_id (by unfold I64; split <;> omega)
    have e3 : (if ((all.length : Int) - if b < 1 then 1 else b) < 0 then 0 else (all.length : Int) - if b < 1 then 1 else b) = (f : Int) := by rw [← hf]; unfold fromOf; rw [if_neg h0]; split <;> split <;> omega
    have e4 : (all.length : Int) = (t : Int) := by rw [← ht]; unfold toOf; rw [if_neg h0]
    simp [h0, e1, e3]
    rw [e4]
    obtain ⟨v', v2', v3', ct', ct3', h4⟩ := h2 (.d (.int .i64 c)) (.d (.int .i64 b)) (.d (.int .i64 a)) (.d (.int .i64 h)) (.d (.int .i64 l)) (.d (.bool u)) (.d (.int .i64 s0)) (.d (.int .i64 m0)) (.d (.bool d0)) _ _
    rw [h4]
    simp [hacc]
    simp [ofM, hf, ht, hk, h0]
end Go.Am
end
section
namespace Go.Am
open Go Go.Proofs
set_option maxRecDepth 20000

/-- What a law about a scope keeps of it. -/
def Kept (c b a h l : Int) (u : Bool) (s : Scope) : Prop :=
  s.channels = c ∧ s.before = b ∧ s.after = a ∧ s.channel = h ∧ s.level = l ∧ s.up = u ∧ (s.rows.length : Int) ≤ max b 1 + a ∧ (∀ r ∈ s.rows, r.length < 1000000) ∧ I64 s.moment ∧ I64 s.seen

theorem cut_length (rows : List (List Int)) (n : Int) (h : 0 ≤ n) : ((cut rows n).length : Int) ≤ n ∧ (cut rows n).length ≤ rows.length := by
  simp only [cut, List.length_drop]
  omega
theorem cut_mem {rows : List (List Int)} {n : Int} {r : List Int} (h : r ∈ cut rows n) : r ∈ rows := List.mem_of_mem_drop h
theorem Kept.tell {c b a h l : Int} {u : Bool} {s : Scope} {row : List Int} (hs : Kept c b a h l u s) (hb : 0 ≤ b ∧ b ≤ 500) (ha : 1 ≤ a ∧ a ≤ 500) (hr : row.length < 1000000) : Kept c b a h l u (tell s row) := by
  unfold Am.tell
  split
  · exact hs
  · rename_i hc
    simp only [not_or, Bool.not_eq_false, Bool.not_eq_true, ne_eq, Decidable.not_not] at hc
    obtain ⟨c1, c2, c3, c4⟩ := hc
    obtain ⟨f1, f2, f3, f4⟩ := right_facts c1
    obtain ⟨k1, k2, k3, k4, k5, k6, k7, k8, k9, k10⟩ := hs
    have hh : hits s row = true → s.moment < 0 := by
      intro hh
      simp only [hits, Bool.and_eq_true, decide_eq_true_eq] at hh
      exact hh.1
    unfold I64 at k9 k10
    simp only [c2, false_eq_decide_iff] at f4
    refine ⟨k1, k2, k3, k4, k5, k6, ?_, ?_, ?_, ?_⟩
    · cases hq : hits s row
      · simp only [hq, Bool.false_eq_true, if_false]
        split
        · have := (cut_length (s.rows ++ [row]) (max s.before 1) (by omega)).1
          omega
        · rename_i hm
          rw [if_neg (by omega)] at f4
          simp only [List.length_append, List.length_cons, List.length_nil]
          omega
      · have h1 := cut_length s.rows s.before (by omega)
        simp only [if_true]
        rw [if_neg (by omega)]
        simp only [List.length_append, List.length_cons, List.length_nil]
        omega
    · intro r h
      cases hq : hits s row <;> simp only [hq, Bool.false_eq_true, if_false, if_true] at h
      · have : r ∈ s.rows ++ [row] := by
          split at h
          · exact cut_mem h
          · exact h
        simp only [List.mem_append, List.mem_singleton] at this
        rcases this with h1 | rfl
        · exact k8 r h1
        · exact hr
      · rw [if_neg (by omega)] at h
        simp only [List.mem_append, List.mem_singleton] at h
        rcases h with h1 | rfl
        · exact k8 r (cut_mem h1)
        · exact hr
    · simp only []
      have h1 := cut_length s.rows s.before (by omega)
      unfold I64
      split <;> omega
    · simp only []
      unfold I64
      omega
theorem tell_done {s : Scope} {row : List Int} (h : s.done = true) : tell s row = s := by
  simp [tell, h]
theorem tell_moment {s : Scope} {row : List Int} (h : 0 ≤ s.moment) : (tell s row).moment = s.moment := by
  unfold tell
  split
  · rfl
  · have : hits s row = false := by simp [hits]; omega
    simp [this]
theorem tell_seen (s : Scope) (row : List Int) : s.seen ≤ (tell s row).seen := by
  unfold tell
  split
  · exact Int.le_refl _
  · simp only []; omega

theorem first_loop (c b a h l : Int) (u : Bool) (hb : 0 ≤ b ∧ b ≤ 500) (ha : 1 ≤ a ∧ a ≤ 500) : ∀ (rest pre : List (List Int)) (s : Scope) (v : Nat) (ct : Cont), Kept c b a h l u s → (pre ++ rest).length < 1000000 → (∀ r ∈ rest, r.length < 1000000) → ∀ k : Kt,
    ∃ s', denK ctx 4 (.loop (Code.at (codeOf Tryd.f4) [1, 1, 1, 1, 0, 1, 0, 0])) ⟨87, gl0, [(1, true, .d (.list ((pre ++ rest).map ints))), (2, true, .ptr 200 1 0), (5, true, .ptr 350 1 0), (7, true, .d (.int .i64 pre.length))],
        [⟨200, 1, .box [.d (.int .i64 c), .d (.int .i64 b), .d (.int .i64 a), .d (.int .i64 h), .d (.int .i64 l), .d (.bool u)]⟩, ⟨350, 1, .box (s.cells.map .d)⟩, ⟨500, v, ct⟩]⟩ k =
      k (.exit 0) s'
  | [], pre, s, v, ct, hs, hl, hr, k => by
    refine ⟨?_, ?_⟩
    rotate_left
    · rw [denK_loop]
      simp [Tryd.f4, Scope.cells]
      rfl
  | x :: rest, pre, s, v, ct, hs, hl, hr, k => by
    have ih := first_loop c b a h l u hb ha rest (pre ++ [x]) (tell s x) (v + 1) (.box ((tell s x).cells.map .d)) (hs.tell hb ha (hr x (by simp))) (by simpa using hl) (fun r h => hr r (by simp [h])) k
    obtain ⟨s', ih⟩ := ih
    refine ⟨s', ?_⟩
    rw [denK_loop]
    simp [Tryd.f4, Scope.cells] at hl ih ⊢
    have h1 : (pre.length : Int) < pre.length + (rest.length + 1) := by omega
    have h2 : IntKind.i64.wrap ((pre.length : Int) + 1) = pre.length + 1 := wrap_id (by unfold I64; omega)
    have h3 := tell_run s x ⟨by have := hs.2.2.2.2.2.2.1; omega, hs.2.2.2.2.2.2.2.1⟩ (hr x (by simp)) hs.2.2.2.2.2.2.2.2.1 hs.2.2.2.2.2.2.2.2.2
    have hn := hs.tell (row := x) hb ha (hr x (by simp))
    have t1 := tell_done (s := s) (row := x)
    have t2 := tell_moment (s := s) (row := x)
    have t3 := tell_seen s x
    generalize tell s x = n at ih h3 hn t1 t2 t3
    have t4 : (n.rows.length : Int) ≤ IntKind.i64.wrap ((if b < 1 then 1 else b) + a) := by
      have := hn.2.2.2.2.2.2.1
      by_cases hb1 : b < 1
      · rw [if_pos hb1, wrap_id (by unfold I64; omega)]; omega
      · rw [if_neg hb1, wrap_id (by unfold I64; omega)]; omega
    have t5 : ¬ (n.seen < s.seen) := by omega
    have t7 := same_run s s ⟨by have := hs.2.2.2.2.2.2.1; omega, hs.2.2.2.2.2.2.2.1⟩
    have t8 : s.seen ≤ n.seen := t3
    simp at h3
    simp [h1, h2, h3]
    rw [drwK_nil (by kernel_rfl)]
    simp
    cases hd : s.done
    · by_cases hm : 0 ≤ s.moment
      · have tm := t2 hm
        simp [tm] at ih
        simp [t4, t5, hm, tm, h2, ih]
      · simp [t4, t5, hm, h2, ih]
    · obtain rfl := t1 hd
      simp [sameHead, hd] at t7
      simp [hd] at ih
      by_cases hm : 0 ≤ n.moment
      · simp [t4, t7, hm, ih, hd, h2]
      · simp [t4, t7, hm, ih, hd, h2]

theorem first_run (c b a h l : Int) (u : Bool) (rows : List (List Int)) :
    callT ctx 4 [.d (.agg [.int .i64 c, .int .i64 b, .int .i64 a, .int .i64 h, .int .i64 l, .bool u]), .d (.list (rows.map ints))] [] = some (.ret (.d (.bool true)), []) := by
  have h1 := small_run rows
  have h2 := fits_run c b a h l u
  have h3 := new_run c b a h l u
  simp at h1 h2 h3
  rw [run4 (by simp)]
  simp [Tryd.f4, awake_run, h1, h2, h3]
  cases hs : smallRows rows
  · simp
  · cases hf : asked ⟨c, b, a, h, l, u, [], 0, 0, false⟩
    · simp
    · have hq : asked ⟨c, b, a, h, l, u, [], 0, -1, false⟩ = true := hf
      have hz := hf
      simp [smallRows, asked] at hs hz
      have hloop := fun ct => first_loop c b a h l u (by omega) (by omega) rows [] ⟨c, b, a, h, l, u, [], 0, -1, false⟩ 0 ct ⟨rfl, rfl, rfl, rfl, rfl, rfl, by simp; omega, by simp, by unfold I64; simp, by unfold I64; simp⟩ (by simp; omega) (fun r h => by have := hs.2 r h; omega)
      simp [Tryd.f4, Scope.cells] at hloop
      simp [hq]
      rw [Classical.choose_spec (hloop _ _)]
      generalize Classical.choose _ = s'
      simp
end Go.Am
end
section
namespace Go.Am
open Go Go.Proofs
set_option maxRecDepth 20000

theorem kept_len (b a m : Int) (all : List (List Int)) : (keptOf b a m all).length ≤ all.length := by
  unfold keptOf
  simp only [List.length_drop, List.length_take]
  omega
theorem kept_mem {b a m : Int} {all : List (List Int)} {r : List Int} (h : r ∈ keptOf b a m all) : r ∈ all := List.mem_of_mem_take (List.mem_of_mem_drop h)
theorem ofS_moment (c b a h l : Int) (u : Bool) (all : List (List Int)) (hb : 0 ≤ b) : -1 ≤ (ofS c b a h l u all).moment ∧ (ofS c b a h l u all).moment ≤ all.length := by
  have hm := momentOf_range h l u all
  unfold ofS ofM
  simp only []
  unfold fromOf
  split <;> omega
theorem ofS_nil (c b a h l : Int) (u : Bool) (hb : 0 ≤ b) : ofS c b a h l u [] = ⟨c, b, a, h, l, u, [], 0, -1, false⟩ := by
  simp [ofS, ofM, momentOf, keptOf, toOf]
theorem tell_same {s : Scope} {row : List Int} (h : (row.length : Int) ≠ s.channels) : tell s row = s := by
  unfold tell
  rw [if_pos (by right; right; left; exact h)]

theorem right_loop (c b a h l : Int) (u : Bool) (hb : 0 ≤ b ∧ b ≤ 500) (ha : 1 ≤ a ∧ a ≤ 500) (X Y : Cont) : ∀ (rest pre fl : List (List Int)) (v v6 : Nat) (c6 : Cont), Kept c b a h l u (ofS c b a h l u fl) → right (ofS c b a h l u fl) = true → (pre ++ rest).length < 10000 → (∀ r ∈ rest, r.length < 1000000) → fl.length ≤ pre.length → ∀ k : Kt,
    ∃ v' v6' c6', denK ctx 3 (.loop (Code.at (codeOf Tryd.f3) [1, 1, 1, 1, 1, 1, 1, 1, 0, 1, 0, 0])) ⟨111, gl0, [(1, true, .d (.list ((pre ++ rest).map ints))), (2, true, .ptr 200 1 0), (5, true, .ptr 350 1 0), (7, true, .ptr 450 1 0), (8, true, .vec 500 v 0 fl.length), (9, true, .d (.int .i64 pre.length))],
        [⟨200, 1, .box [.d (.int .i64 c), .d (.int .i64 b), .d (.int .i64 a), .d (.int .i64 h), .d (.int .i64 l), .d (.bool u)]⟩, ⟨350, 1, .box ((ofS c b a h l u fl).cells.map .d)⟩, ⟨450, 1, Y⟩, ⟨500, v, .vec 1 (fl.map ints)⟩, ⟨600, v6, c6⟩]⟩ k =
      k (.exit 0) ⟨111, gl0, [(1, true, .d (.list ((pre ++ rest).map ints))), (2, true, .ptr 200 1 0), (5, true, .ptr 350 1 0), (7, true, .ptr 450 1 0), (8, true, .vec 500 v' 0 (fl ++ rest.filter fun r => (r.length : Int) == c).length), (9, true, .d (.int .i64 (pre ++ rest).length)), (71, true, .d (.bool false))],
        [⟨200, 1, .box [.d (.int .i64 c), .d (.int .i64 b), .d (.int .i64 a), .d (.int .i64 h), .d (.int .i64 l), .d (.bool u)]⟩, ⟨350, 1, .box ((ofS c b a h l u (fl ++ rest.filter fun r => (r.length : Int) == c)).cells.map .d)⟩, ⟨450, 1, Y⟩, ⟨500, v', .vec 1 ((fl ++ rest.filter fun r => (r.length : Int) == c).map ints)⟩, ⟨600, v6', c6'⟩]⟩
  | [], pre, fl, v, v6, c6, hs, hrt, hl, hr, hfl, k => by
    refine ⟨v, v6, c6, ?_⟩
    rw [denK_loop]
    simp [Tryd.f3, Scope.cells]
  | x :: rest, pre, fl, v, v6, c6, hs, hrt, hl, hr, hfl, k => by
    have hx := hr x (by simp)
    have h3 := tell_run (ofS c b a h l u fl) x ⟨by have := hs.2.2.2.2.2.2.1; omega, hs.2.2.2.2.2.2.2.1⟩ hx hs.2.2.2.2.2.2.2.2.1 hs.2.2.2.2.2.2.2.2.2
    have h1 : (pre.length : Int) < pre.length + (rest.length + 1) := by omega
    have h2 : IntKind.i64.wrap ((pre.length : Int) + 1) = pre.length + 1 := wrap_id (by unfold I64; simp at hl; omega)
    have kt := hs.tell (row := x) hb ha hx
    have rt := right_tell (row := x) hrt
    have hrun : ∀ s, Kept c b a h l u s → right s = true → callT ctx 11 [.d s.enc] [] = some (.ret (.d (.bool true)), []) := fun s q1 q2 => by
      rw [right_run s (by have := q1.2.2.2.2.2.2.1; omega) q1.2.2.2.2.2.2.2.2.1, q2]
    have hl' := hl
    simp at hl'
    by_cases hc : (x.length : Int) = c
    · rw [of_tell c b a h l u fl x hb.1 ha.1 (by omega) hc hrt] at h3 kt rt
      have h4 := hrun _ kt rt
      obtain ⟨v', v6', c6', ih⟩ := right_loop c b a h l u hb ha X Y rest (pre ++ [x]) (fl ++ [x]) (v + 1) v6 c6 kt rt (by simpa using hl) (fun r h => hr r (by simp [h])) (by simp; omega) k
      refine ⟨v', v6', c6', ?_⟩
      have g1 : (fl.length + 1) * 24 ≤ 140737488355328 ∧ fl.length ≤ 4611686018427387903 := by omega
      rw [denK_loop]
      simp [Tryd.f3, Scope.cells] at ih h3 h4 ⊢
      simp [h1, h2, h3]
      rw [drwK_nil (by kernel_rfl)]
      simp [h1, h2, hc]
      rw [drwK_nil (by kernel_rfl)]
      simp [h1, h2, hc, g1, h4, ih]
    · rw [tell_same (by exact hc)] at h3 kt rt
      have h4 := hrun _ hs hrt
      obtain ⟨v', v6', c6', ih⟩ := right_loop c b a h l u hb ha X Y rest (pre ++ [x]) fl v v6 c6 hs hrt (by simpa using hl) (fun r h => hr r (by simp [h])) (by simp; omega) k
      refine ⟨v', v6', c6', ?_⟩
      rw [denK_loop]
      simp [Tryd.f3, Scope.cells] at ih h3 h4 ⊢
      simp [h1, h2, h3]
      rw [drwK_nil (by kernel_rfl)]
      simp [h1, h2, hc]
      rw [drwK_nil (by kernel_rfl)]
      simp [h1, h2, hc, h4, ih]

theorem right_all (c b a h l : Int) (u : Bool) (hb : 0 ≤ b ∧ b ≤ 500) (ha : 1 ≤ a ∧ a ≤ 500) : ∀ (rest fl : List (List Int)), Kept c b a h l u (ofS c b a h l u fl) → right (ofS c b a h l u fl) = true → fl.length + rest.length < 10000 → (∀ r ∈ rest, r.length < 1000000) →
    Kept c b a h l u (ofS c b a h l u (fl ++ rest.filter fun r => (r.length : Int) == c)) ∧ right (ofS c b a h l u (fl ++ rest.filter fun r => (r.length : Int) == c)) = true
  | [], fl, hs, hrt, hl, hr => by simpa using ⟨hs, hrt⟩
  | x :: rest, fl, hs, hrt, hl, hr => by
    have hx := hr x (by simp)
    have kt := hs.tell (row := x) hb ha hx
    have rt := right_tell (row := x) hrt
    simp only [List.length_cons] at hl
    by_cases hc : (x.length : Int) = c
    · rw [of_tell c b a h l u fl x hb.1 ha.1 (by omega) hc hrt] at kt rt
      have := right_all c b a h l u hb ha rest (fl ++ [x]) kt rt (by simp; omega) (fun r h => hr r (by simp [h]))
      simpa [List.filter_cons, hc] using this
    · have := right_all c b a h l u hb ha rest fl hs hrt (by omega) (fun r h => hr r (by simp [h]))
      simpa [List.filter_cons, hc] using this

theorem scopeRight_run (c b a h l : Int) (u : Bool) (rows : List (List Int)) (hI : ∀ r ∈ rows, ∀ n ∈ r, I64 n) :
    callT ctx 3 [.d (.agg [.int .i64 c, .int .i64 b, .int .i64 a, .int .i64 h, .int .i64 l, .bool u]), .d (.list (rows.map ints))] [] = some (.ret (.d (.bool true)), []) := by
  have h1 := small_run rows
  have h2 := fits_run c b a h l u
  have h3 := new_run c b a h l u
  simp at h1 h2 h3
  rw [run3 (by simp)]
  simp [Tryd.f3, awake_run, h1, h2, h3]
  cases hs : smallRows rows
  · simp
  · simp [smallRows] at hs
    cases hf : asked ⟨c, b, a, h, l, u, [], 0, 0, false⟩
    · have hq : asked ⟨c, b, a, h, l, u, [], 0, -1, false⟩ = false := hf
      have t7 := same_run ⟨0, 0, 0, 0, 0, false, [], 0, 0, false⟩ ⟨0, 0, 0, 0, 0, false, [], 0, 0, false⟩ ⟨by simp, by simp⟩
      have t8 := right_run ⟨0, 0, 0, 0, 0, false, [], 0, 0, false⟩ (by simp) (by unfold I64; simp)
      simp [sameHead] at t7 t8
      simp [hq, t7, t8]
      rfl
    · have hq : asked ⟨c, b, a, h, l, u, [], 0, -1, false⟩ = true := hf
      have hz := hf
      simp [asked] at hz
      have hrt : right ⟨c, b, a, h, l, u, [], 0, -1, false⟩ = true := right_of hq (by simp) (by simp) (by simp; omega)
      have t7 := same_run ⟨c, b, a, h, l, u, [], 0, -1, false⟩ ⟨c, b, a, h, l, u, [], 0, -1, false⟩ ⟨by simp, by simp⟩
      simp [sameHead] at t7
      simp [hq, t7]
      have hk0 : Kept c b a h l u (ofS c b a h l u []) := by
        rw [ofS_nil _ _ _ _ _ _ (by omega)]
        exact ⟨rfl, rfl, rfl, rfl, rfl, rfl, by simp; omega, by simp, by unfold I64; simp, by unfold I64; simp⟩
      have hloop := fun Y => right_loop c b a h l u (by omega) (by omega) .dead Y rows [] [] 1 0 .dead hk0 (by rw [ofS_nil _ _ _ _ _ _ (by omega)]; exact hrt) (by simp; omega) (fun r h => by have := hs.2 r h; omega) (by simp)
      have hfin := right_all c b a h l u (by omega) (by omega) rows [] hk0 (by rw [ofS_nil _ _ _ _ _ _ (by omega)]; exact hrt) (by simp; omega) (fun r h => by have := hs.2 r h; omega)
      obtain ⟨fl, hfl⟩ : ∃ fl, fl = rows.filter fun r => (r.length : Int) == c := ⟨_, rfl⟩
      have hfm : ∀ r ∈ fl, r ∈ rows ∧ (r.length : Int) = c := by
        intro r hr; rw [hfl] at hr; simpa using hr
      have hfln : fl.length ≤ 300 := by
        have : fl.length ≤ rows.length := by rw [hfl]; exact List.length_filter_le _ _
        omega
      rw [ofS_nil _ _ _ _ _ _ (by omega)] at hloop
      simp only [List.nil_append] at hloop hfin
      rw [← hfl] at hloop hfin
      have hof := of_run c b a h l u [] 0 (-1) false (by omega) (by omega) (by omega) fl (by omega) (fun q hq => by have := hfm q hq; omega) (fun q hq => by have := hs.2 q (hfm q hq).1; omega)
      have hmo := ofS_moment c b a h l u fl (by omega)
      have hrl : (ofS c b a h l u fl).rows.length ≤ fl.length := kept_len ..
      have hrm : ∀ r ∈ (ofS c b a h l u fl).rows, r ∈ fl := fun r h => kept_mem h
      have hrw : ∀ r ∈ (ofS c b a h l u fl).rows, rowOk r := fun r h => ⟨by have := (hfm r (hrm r h)).2; omega, hI r (hfm r (hrm r h)).1⟩
      generalize ofS c b a h l u fl = S at hloop hof hfin hmo hrl hrm hrw
      have hs1 := same_run S S ⟨by omega, fun r h => by have := (hrw r h).1; omega⟩
      have hl1 := lines_run S (by unfold I64; omega) (by omega) (by omega) (fun r h => by have := (hrw r h).1; omega) (fun _ => hrw)
      have hl2 := refLines_run S (by unfold I64; omega) (by omega) (by omega) hrw
      rw [hfin.2] at hl1
      simp [sameHead] at hs1
      simp [Tryd.f3, Scope.cells] at hloop hof hl1 hl2
      obtain ⟨v', v6', c6', h9⟩ := hloop _ _
      rw [h9]
      simp [hof, hs1, hl1, hl2]
      rw [drwK_nil (by kernel_rfl)]
      simp
end Go.Am
end
section
namespace Go.Am
open Go Go.ChangeShapes Go.WideShapes Go.RowKit

def tiles (P : Program) (ok : TypeId → Bool) : List Field → Nat → Nat → Bool
  | [], o, tot => o == tot
  | f :: r, o, tot => f.offset == o && ok f.type && tiles P ok r (o + P.cellsOf f.type) tot
/-- Types whose readings are data: no pointer in them. -/
def plainT (P : Program) : Nat → TypeId → Bool
  | 0, _ => false
  | n + 1, t => match P.underlying t with
    | some .bool | some (.int _) | some .string => P.cellsOf t == 1
    | some (.slice e) => P.cellsOf t == 1 && plainT P n e && decide (1 ≤ P.cellsOf e)
    | some (.struct fs) => tiles P (plainT P n) fs.toList 0 (P.cellsOf t)
    | _ => false
def typed (P : Program) : Nat → TypeId → D → Prop
  | 0, _, _ => False
  | n + 1, t, d => match P.underlying t with
    | some .bool => ∃ b, d = .bool b
    | some (.int k) => ∃ z, d = .int k z ∧ (Lit.int k z).wf = true
    | some .string => ∃ s, d = .str s ∧ s.length ≤ maxLen
    | some (.slice e) => ∃ xs, d = .list xs ∧ xs.length ≤ maxLen ∧ ∀ x ∈ xs, typed P n e x
    | some (.struct fs) => ∃ ys : List D, d = .agg (ys.flatMap D.cells) ∧ ys.length = fs.size ∧ ∀ (i : Nat) (f : Field) (y : D), fs[i]? = some f → ys[i]? = some y → typed P n f.type y
    | _ => False

def Reads (w : World) (F : Nat → Prop) (d : D) (cs : List Value) : Prop :=
  d.cells.length = cs.length ∧ (∀ u ∈ cs, cell1 u = true) ∧ ∀ (i : Nat) c u, d.cells[i]? = some c → cs[i]? = some u → DRel w F c u ∧ c.flat = true

theorem Reads.one {w F d v} (h : DRel w F d v) (hf : d.flat = true) (hc : d.cells = [d]) : Reads w F d [v] := by
  refine ⟨by rw [hc]; rfl, fun u hu => ?_, fun i c u h1 h2 => ?_⟩
  · simp at hu; subst hu; exact h.one hf
  · rw [hc] at h1
    cases i with
    | zero => simp at h1 h2; subst h1; subst h2; exact ⟨h, hf⟩
    | succ i => simp at h1
/-- A value with these cells, and what it is. -/
def shaped (d : D) (cs : List Value) : Value :=
  match d with
  | .agg _ => .agg cs.toArray
  | _ => cs.headD undef
theorem Reads.rel {w F d cs} (h : Reads w F d cs) : DRel w F d (shaped d cs) := by
  obtain ⟨h1, h2, h3⟩ := h
  have key : d.flat = true → d.cells = [d] → DRel w F d (cs.headD undef) := by
    intro hf hc
    rw [hc] at h1 h3
    match cs, h1 with
    | [u], _ => exact (h3 0 d u rfl rfl).1
  cases d with
  | agg ds => exact DRel.ofCells h1 h2 (fun i c v hc hv => (h3 i c v hc hv).1)
  | _ => exact key rfl rfl
theorem Reads.shaped_cells {w F d cs} (h : Reads w F d cs) : (shaped d cs).cells.toList = cs := by
  obtain ⟨h1, h2, h3⟩ := h
  have key : d.cells = [d] → (cs.headD undef).cells.toList = cs := by
    intro hc
    rw [hc] at h1
    match cs, h1, h2 with
    | [u], _, h2 => simp only [List.headD]; rw [cells_of_cell1 (h2 u (by simp))]
  cases d with
  | agg ds => simp [shaped, Value.cells]
  | _ => exact key rfl

theorem cells?_get {w : World} {base : Nat} {a : Addr} {n : Nat} {cs : List Value} (h : w.cells? base a n = some cs) : cs.length = n ∧ ∀ j, j < n → w.cell? (a.add j) = cs[j]? := by
  unfold World.cells? at h
  split at h
  · exact ⟨by simpa using mapM_some_length h, fun j hj => mapM_some_get h j j (by simp [hj])⟩
  · cases h
theorem add_add {b off n j : Nat} : (Addr.add (Addr.add ⟨b, off, none⟩ n) j) = ⟨b, off + n + j, none⟩ := by
  unfold Addr.add
  split <;> split <;> simp_all
theorem cell?_lt {w : World} {a : Addr} {c : Value} (h : w.cell? a = some c) : a.block < w.heap.size ∧ a.spot = none := by
  unfold World.cell? at h
  split at h
  · rename_i hh
    refine ⟨(Array.getElem?_eq_some_iff.1 hh).1, ?_⟩
    split at h
    · cases h
    · rename_i hs; simpa using hs
  · cases h

/-- The fields of a struct, laid end to end. -/
theorem reads_fields {P : Program} {w : World} {F : Nat → Prop} {n : Nat} {cs : List Value} {ok : TypeId → Bool} : ∀ (fs : List Field) (o : Nat), tiles P ok fs o cs.length = true →
    (∀ f ∈ fs, ok f.type = true → ∃ d, typed P n f.type d ∧ Reads w F d ((cs.drop f.offset).take (P.cellsOf f.type)) ∧ d.cells.length = P.cellsOf f.type) →
    ∃ ys : List D, ys.length = fs.length ∧ (∀ (i : Nat) (f : Field) (y : D), fs[i]? = some f → ys[i]? = some y → typed P n f.type y) ∧ o ≤ cs.length ∧ Reads w F (.agg (ys.flatMap D.cells)) (cs.drop o)
  | [], o, ht, _ => by
    simp only [tiles, beq_iff_eq] at ht
    subst ht
    exact ⟨[], rfl, fun i f y hf => by simp at hf, Nat.le_refl _, by simp [D.cells], by simp, fun i c u h1 => by simp [D.cells] at h1⟩
  | f :: r, o, ht, hf => by
    simp only [tiles, Bool.and_eq_true, beq_iff_eq] at ht
    obtain ⟨⟨rfl, hok⟩, hr⟩ := ht
    obtain ⟨ys, h1, h2, h3, h4⟩ := reads_fields r _ hr (fun f' h' => hf f' (by simp [h']))
    obtain ⟨d, hd, hR, hl⟩ := hf f (by simp) hok
    refine ⟨d :: ys, by simp [h1], fun i f' y hi hy => ?_, by omega, ?_⟩
    · cases i with
      | zero => simp at hi hy; subst hi; subst hy; exact hd
      | succ i => simp at hi hy; exact h2 i f' y hi hy
    · have hsplit : cs.drop f.offset = (cs.drop f.offset).take (P.cellsOf f.type) ++ cs.drop (f.offset + P.cellsOf f.type) := by
        rw [← List.drop_drop, List.take_append_drop]
      obtain ⟨a1, a2, a3⟩ := hR
      obtain ⟨b1, b2, b3⟩ := h4
      have hcells : (D.agg ((d :: ys).flatMap D.cells)).cells = d.cells ++ (D.agg (ys.flatMap D.cells)).cells := by simp [D.cells]
      rw [hsplit]
      unfold Reads
      rw [hcells]
      refine ⟨by simp only [List.length_append, a1, b1], fun u hu => ?_, fun i c u hc hu => ?_⟩
      · rcases List.mem_append.1 hu with hu | hu
        · exact a2 u hu
        · exact b2 u hu
      · by_cases hi : i < d.cells.length
        · rw [List.getElem?_append_left hi] at hc
          rw [List.getElem?_append_left (by omega)] at hu
          exact a3 i c u hc hu
        · rw [List.getElem?_append_right (by omega)] at hc
          rw [List.getElem?_append_right (by omega)] at hu
          rw [← a1] at hu
          exact b3 _ c u hc hu

section
variable {H : Type} {enc : TypeId × Value → H} {P : Program} {w : World} {base : Nat} {sp : Nat → Bool} {held : Bool}

theorem read_data : ∀ (n : Nat) (m : Nat) (t : TypeId) (cs : List Value) (x : DataW H × List MemPlace), plainT P n t = true → DataW.trod enc P w base sp held m t cs = some x →
    ∃ d, typed P n t d ∧ Reads w (fun _ => False) d cs ∧ d.cells.length = P.cellsOf t
  | 0, _, _, _, _, hp, _ => by cases hp
  | n + 1, m, t, cs, x, hp, hx => by
    simp only [plainT] at hp
    simp only [typed]
    cases ht : P.underlying t with
    | none => rw [ht] at hp; cases hp
    | some u =>
      rw [ht] at hp
      cases u with
      | bool =>
        obtain ⟨b, rfl, _⟩ := DataW.trod_bool ht hx
        exact ⟨.bool b, ⟨b, rfl⟩, Reads.one (.bool b) rfl rfl, by simp at hp; simp [D.cells, hp]⟩
      | int k =>
        obtain ⟨z, rfl, _, hw⟩ := DataW.trod_int ht hx
        exact ⟨.int k z, ⟨z, rfl, hw⟩, Reads.one (.int k z) rfl rfl, by simp at hp; simp [D.cells, hp]⟩
      | string =>
        obtain ⟨s, rfl, _, hw⟩ := DataW.trod_string ht hx
        exact ⟨.str s.data.toList, ⟨_, rfl, by simpa using hw⟩, Reads.one (.str s _ rfl) rfl rfl, by simp at hp; simp [D.cells, hp]⟩
      | slice e =>
        simp only [Bool.and_eq_true, beq_iff_eq, decide_eq_true_eq] at hp
        obtain ⟨⟨h1, h2⟩, h3⟩ := hp
        rcases DataW.trod_slice ht hx with ⟨rfl, _⟩ | ⟨a, len, cap, elems, rest, m', rfl, rfl, _, hb, hlc, hcm, hel, hget, _⟩
        · exact ⟨.list [], ⟨[], rfl, by simp, by simp⟩, Reads.one (.nil none 0 (fun _ => rfl)) rfl rfl, by simp [D.cells, h1]⟩
        · have hq : ∀ i, ∃ p : D × Value, i < len → typed P n e p.1 ∧ DRel w (fun _ => False) p.1 p.2 ∧ p.1.size = P.cellsOf e ∧ a.block < w.heap.size ∧ a.spot = none ∧
              ∀ j c, p.2.cells[j]? = some c → w.cell? ⟨a.block, a.off + i * P.cellsOf e + j, none⟩ = some c := by
            intro i
            by_cases hi : i < len
            · have h4 := hget i hi
              have h5 : ∃ y, elems[i]? = some y := ⟨elems[i]'(by omega), by simp [show i < elems.length by omega]⟩
              obtain ⟨y, hy⟩ := h5
              rw [hy] at h4
              simp only [Option.bind_eq_some_iff] at h4
              obtain ⟨cs', hcs, hy'⟩ := h4
              obtain ⟨d, hd, hR, hl⟩ := read_data n m' e cs' y h2 hy'
              obtain ⟨g1, g2⟩ := cells?_get hcs
              have g3 : a.block < w.heap.size ∧ a.spot = none := by
                have h0 : ∃ i0, i0 < len ∧ i0 = 0 := ⟨0, by omega, rfl⟩
                have h40 := hget 0 (by omega)
                have h50 : ∃ y, elems[0]? = some y := ⟨elems[0]'(by omega), by simp [show 0 < elems.length by omega]⟩
                obtain ⟨y0, hy0⟩ := h50
                rw [hy0] at h40
                simp only [Option.bind_eq_some_iff] at h40
                obtain ⟨cs0, hcs0, _⟩ := h40
                obtain ⟨g01, g02⟩ := cells?_get hcs0
                have h6 := g02 0 (by omega)
                have h7 : ∃ c, cs0[0]? = some c := ⟨cs0[0]'(by omega), by simp [show 0 < cs0.length by omega]⟩
                obtain ⟨c, hc⟩ := h7
                rw [hc] at h6
                have h8 := cell?_lt h6
                simpa [Addr.add] using h8
              refine ⟨⟨d, shaped d cs'⟩, fun _ => ⟨hd, hR.rel, by rw [← D.cells_length]; exact hl, g3.1, g3.2, fun j c hj => ?_⟩⟩
              have h6 := hR.shaped_cells
              have h7 : cs'[j]? = some c := by rw [← h6]; simpa using hj
              have hjl : j < P.cellsOf e := by
                have := (List.getElem?_eq_some_iff.1 h7).1
                omega
              have h8 := g2 j hjl
              obtain ⟨ab, ao, ae⟩ := a
              obtain rfl : ae = none := g3.2
              rw [add_add] at h8
              rw [h8]; exact h7
            · exact ⟨⟨.bool false, undef⟩, fun h => absurd h hi⟩
          obtain ⟨f, hf⟩ := Classical.axiomOfChoice hq
          refine ⟨.list ((List.range len).map fun i => (f i).1), ⟨_, rfl, by simp; omega, fun x hx => ?_⟩, Reads.one ?_ rfl rfl, by simp [D.cells, h1]⟩
          · simp only [List.mem_map, List.mem_range] at hx
            obtain ⟨i, hi, rfl⟩ := hx
            exact (hf i hi).1
          · by_cases hl : len = 0
            · subst hl
              exact .nil (some a) cap (fun h => by cases h)
            · have h0 := hf 0 (by omega)
              obtain ⟨ab, ao, ae⟩ := a
              obtain rfl : ae = none := h0.2.2.2.2.1
              have hlen : ((List.range len).map fun i => (f i).1).length = len := by simp
              have := DRel.list (w := w) (F := fun _ => False) ((List.range len).map fun i => (f i).1) ab ao cap (P.cellsOf e) (fun i => (f i).2) (by rw [hlen]; exact hlc) h0.2.2.2.1 (fun h => h)
                (fun d hd => by
                  simp only [List.mem_map, List.mem_range] at hd
                  obtain ⟨i, hi, rfl⟩ := hd
                  exact (hf i hi).2.2.1)
                (fun i d hd => by
                  simp only [List.getElem?_map, Option.map_eq_some_iff] at hd
                  obtain ⟨i', hi', rfl⟩ := hd
                  have := List.getElem?_eq_some_iff.1 hi'
                  obtain ⟨hi2, hi3⟩ := this
                  simp at hi2 hi3
                  subst hi3
                  exact (hf _ hi2).2.1)
                (fun i j c hi hj => by
                  rw [hlen] at hi
                  exact (hf i hi).2.2.2.2.2 j c hj)
              rw [hlen] at this
              exact this
      | struct fs =>
        obtain ⟨xs, m', rfl, _, hl, hxs, hget⟩ := DataW.trod_struct ht hx
        simp only at hp
        rw [← hl] at hp
        obtain ⟨ys, h1, h2, _, h4⟩ := reads_fields (n := n) (w := w) (F := fun _ => False) fs.toList 0 hp (fun f hf hok => by
          obtain ⟨i, hi, he⟩ := List.mem_iff_getElem.1 hf
          have h5 := hget i f (by simp at hi he; simp [hi, he])
          have h6 : ∃ y, xs[i]? = some y := ⟨xs[i]'(by simp at hi; omega), by simp [show i < xs.length by simp at hi; omega]⟩
          obtain ⟨y, hy⟩ := h6
          rw [hy] at h5
          exact read_data n m' f.type _ y hok h5)
        refine ⟨.agg (ys.flatMap D.cells), ⟨ys, rfl, by simpa using h1, fun i f y hi hy => h2 i f y (by simpa using hi) hy⟩, by simpa using h4, ?_⟩
        have := h4.1
        rw [this]; simpa using hl
      | _ => cases hp
end
end Go.Am
end

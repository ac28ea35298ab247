/-
  The policy of this seat's functions: which slots are kept, which keys there are.
-/
import Derived.Test.YtlbbjmbfclmmdaaDoorTy
import Derived.Test.YtlbbjmbfclmmdaaDoorChecked
namespace Go.Am
open Go Go.Proofs
set_option maxRecDepth 10000

/- 2 gosem.cut.init -/
@[simp] def keep2 : Nat → List Nat
  | 0 => []
  | _ => []
@[simp] def md2 : Nat → Bool
  | _ => false
@[simp] def fp2 : FPol := { inpl := [], exp := false, sites := [], mut_ := [], split := false }
/- 3 servitor servitorlaw35.ScopeRight -/
@[simp] def keep3 : Nat → List Nat
  | 0 => [1, 2]
  | 1 => [1, 2, 12]
  | 2 => [4]
  | 3 => [1, 2, 15]
  | 4 => [4]
  | 5 => [1, 2, 5, 6]
  | 6 => [1, 2, 5, 6, 34]
  | 7 => [4]
  | 8 => [1, 2, 5, 6, 7]
  | 9 => [1, 2, 5, 7, 67]
  | 10 => [4]
  | 11 => [1, 2, 5, 7, 8]
  | 12 => [1, 2, 5, 7, 8, 9]
  | 13 => [1, 2, 5, 7, 8, 9, 71]
  | 14 => [1, 2, 5, 7, 8, 9]
  | 15 => [1, 2, 5, 7, 8, 9]
  | 16 => [1, 2, 5, 7, 8, 9, 87]
  | 17 => [1, 2, 5, 7, 8, 9]
  | 18 => [1, 2, 5, 7, 8, 9, 97]
  | 19 => [4]
  | 20 => [5, 10]
  | 21 => [4]
  | _ => []
@[simp] def md3 : Nat → Bool
  | 7 => true
  | 9 => true
  | 21 => true
  | _ => false
@[simp] def fp3 : FPol := { inpl := [], exp := false, sites := [200, 350, 450, 500, 600], mut_ := [], split := false }
/- 4 servitor servitorlaw35.ScopeFirst -/
@[simp] def keep4 : Nat → List Nat
  | 0 => [1, 2]
  | 1 => [1, 2, 10]
  | 2 => [4]
  | 3 => [1, 2, 18]
  | 4 => [4]
  | 5 => [1, 2, 5]
  | 6 => [1, 2, 5, 7]
  | 7 => [1, 2, 5, 7, 38]
  | 8 => [1, 2, 5, 7]
  | 9 => [1, 2, 5, 7, 8]
  | 10 => [1, 2, 5, 7, 8, 85]
  | 11 => [4]
  | 12 => [1, 2, 5, 7]
  | 13 => [4]
  | _ => []
@[simp] def md4 : Nat → Bool
  | 3 => true
  | 10 => true
  | _ => false
@[simp] def fp4 : FPol := { inpl := [], exp := false, sites := [200, 350, 500], mut_ := [], split := false }
/- 5 servitor servitorlaw35.ScopeRaw -/
@[simp] def keep5 : Nat → List Nat
  | 0 => [1, 2]
  | 1 => [1, 2, 8]
  | 2 => [4]
  | 3 => [1, 2, 17]
  | 4 => [4]
  | 5 => [1, 2, 5]
  | 6 => [1, 2, 5, 6]
  | 7 => [1, 2, 6, 27]
  | 8 => [4]
  | 9 => [1, 2, 6, 30]
  | 10 => [4]
  | 11 => [4]
  | _ => []
@[simp] def md5 : Nat → Bool
  | 10 => true
  | 11 => true
  | _ => false
@[simp] def gh5 : Nat → List Gh
  | 5 => [.freeze 1000]
  | _ => []
@[simp] def fp5 : FPol := { inpl := [], exp := false, sites := [200, 400, 1000], mut_ := [], split := false }
/- 6 servitor servitorlaw35.awake -/
@[simp] def keep6 : Nat → List Nat
  | 0 => []
  | 1 => [1, 2]
  | 2 => [1, 2, 9, 10, 11]
  | 3 => [1, 2, 9, 10, 11, 12]
  | 4 => [1, 2, 4, 9, 10, 11]
  | 5 => [1, 2, 9, 10, 11]
  | 6 => [1, 2, 9, 10, 11]
  | 7 => [0]
  | _ => []
@[simp] def md6 : Nat → Bool
  | 7 => true
  | _ => false
@[simp] def fp6 : FPol := { inpl := [], exp := false, sites := [150], mut_ := [], split := false }
/- 7 servitor servitorlaw35.small -/
@[simp] def keep7 : Nat → List Nat
  | 0 => [0]
  | 1 => [0, 6]
  | 2 => [2]
  | 3 => [0, 3]
  | 4 => [0, 3, 10]
  | 5 => [0, 3]
  | 6 => [0, 3, 18]
  | 7 => [2]
  | 8 => [2]
  | _ => []
@[simp] def md7 : Nat → Bool
  | _ => false
@[simp] def fp7 : FPol := { inpl := [], exp := false, sites := [], mut_ := [], split := false }
/- 8 servitor scope.New -/
@[simp] def keep8 : Nat → List Nat
  | 0 => [0, 1, 2, 3, 4, 5, 12]
  | 1 => [12, 14]
  | 2 => [12, 14, 24]
  | 3 => [12, 13]
  | 4 => [12, 13]
  | _ => []
@[simp] def md8 : Nat → Bool
  | _ => false
@[simp] def fp8 : FPol := { inpl := [], exp := false, sites := [700, 800], mut_ := [], split := false }
/- 9 servitor servitorlaw35.fits -/
@[simp] def keep9 : Nat → List Nat
  | 0 => [1]
  | 1 => [2]
  | _ => []
@[simp] def md9 : Nat → Bool
  | _ => false
@[simp] def fp9 : FPol := { inpl := [], exp := false, sites := [150], mut_ := [], split := false }
/- 10 servitor servitorref35.Same -/
@[simp] def keep10 : Nat → List Nat
  | 0 => [2, 3]
  | 1 => [2, 3, 76]
  | 2 => [4]
  | 3 => [2, 3, 5]
  | 4 => [2, 3, 5, 81]
  | 5 => [2, 3, 5]
  | 6 => [2, 3, 5, 96]
  | 7 => [4]
  | 8 => [2, 3, 5, 6]
  | 9 => [2, 3, 5, 6, 104]
  | 10 => [2, 3, 5, 6]
  | 11 => [2, 3, 5, 6, 123]
  | 12 => [4]
  | 13 => [4]
  | _ => []
@[simp] def md10 : Nat → Bool
  | _ => false
@[simp] def fp10 : FPol := { inpl := [], exp := false, sites := [200, 250], mut_ := [], split := false }
/- 11 servitor scope.Right -/
@[simp] def keep11 : Nat → List Nat
  | 0 => [1]
  | 1 => [1, 13]
  | 2 => [2]
  | 3 => [1, 3]
  | 4 => [1, 3, 20]
  | 5 => [2]
  | 6 => [1, 3, 23]
  | 7 => [2]
  | 8 => [1, 4]
  | 9 => [2]
  | _ => []
@[simp] def md11 : Nat → Bool
  | 1 => true
  | _ => false
@[simp] def fp11 : FPol := { inpl := [], exp := false, sites := [150], mut_ := [], split := false }
/- 12 servitor scope.Tell -/
@[simp] def keep12 : Nat → List Nat
  | 0 => [1, 2, 4]
  | 1 => [1, 2, 4]
  | 2 => [1, 2, 4, 26]
  | 3 => [4]
  | 4 => [1, 2, 4]
  | 5 => [1, 2, 4, 5]
  | 6 => [1, 2, 4, 5, 60]
  | 7 => [1, 2, 4]
  | 8 => [1, 2, 4]
  | 9 => [2, 4]
  | 10 => [2, 4, 83]
  | 11 => [2, 4]
  | 12 => [2, 4]
  | 13 => [4]
  | _ => []
@[simp] def md12 : Nat → Bool
  | 6 => true
  | _ => false
@[simp] def fp12 : FPol := { inpl := [], exp := false, sites := [200, 300, 451], mut_ := [], split := false }
/- 13 servitor servitorref35.Of -/
@[simp] def keep13 : Nat → List Nat
  | 0 => [1, 2, 4]
  | 1 => [1, 2, 4, 5]
  | 2 => [1, 2, 4, 5, 6]
  | 3 => [1, 2, 4, 5, 6, 19]
  | 4 => [1, 2, 4, 5, 6]
  | 5 => [1, 2, 4, 5, 6, 7, 8]
  | 6 => [1, 2, 4, 5, 6, 69]
  | 7 => [1, 2, 4, 5, 6]
  | 8 => [1, 2, 4, 5, 9, 10]
  | 9 => [1, 2, 4, 5, 9, 10, 80]
  | 10 => [1, 2, 4, 5, 9]
  | 11 => [1, 2, 4, 5, 9, 10]
  | 12 => [1, 2, 4, 5, 9, 10]
  | 13 => [1, 2, 4, 5, 9, 10]
  | 14 => [1, 2, 4, 5, 9, 10, 11]
  | 15 => [1, 2, 4, 5, 9, 10, 11, 98]
  | 16 => [1, 2, 4, 5, 9, 10, 11]
  | 17 => [1, 2, 4, 5, 9, 10, 11]
  | 18 => [2, 4, 5, 9, 10]
  | 19 => [2, 4, 5, 9, 10]
  | 20 => [2, 4, 5, 9, 10]
  | 21 => [2, 4, 5, 9, 10, 117]
  | 22 => [2, 4, 5, 10]
  | 23 => [2, 4]
  | 24 => [4]
  | _ => []
@[simp] def md13 : Nat → Bool
  | _ => false
@[simp] def fp13 : FPol := { inpl := [], exp := false, sites := [200, 300], mut_ := [], split := false }
/- 14 servitor scope.Lines -/
@[simp] def keep14 : Nat → List Nat
  | 0 => [1]
  | 1 => [1, 11]
  | 2 => [2]
  | 3 => [1, 3]
  | 4 => [1, 3, 17]
  | 5 => [1, 3]
  | 6 => [1, 3, 4]
  | 7 => [3, 4, 23, 24, 25]
  | 8 => [3, 4, 23, 24, 25, 26]
  | 9 => [3, 4, 5, 6, 23, 24, 25]
  | 10 => [3, 4, 6, 23, 24, 25]
  | 11 => [3, 4, 23, 24, 25, 37, 38, 39]
  | 12 => [3, 4, 23, 24, 25, 37, 38, 39, 40]
  | 13 => [3, 4, 8, 23, 24, 25, 37, 38, 39]
  | 14 => [3, 4, 23, 24, 25, 37, 38, 39]
  | 15 => [3, 4, 23, 24, 25, 37, 38, 39]
  | 16 => [3, 4, 23, 24, 25]
  | 17 => [3, 4, 23, 24, 25]
  | 18 => [2]
  | _ => []
@[simp] def md14 : Nat → Bool
  | _ => false
@[simp] def fp14 : FPol := { inpl := [], exp := false, sites := [150, 300], mut_ := [], split := false }
/- 15 servitor servitorref35.Lines -/
@[simp] def keep15 : Nat → List Nat
  | 0 => [1]
  | 1 => [1, 3]
  | 2 => [1, 3, 4]
  | 3 => [1, 3, 4, 11]
  | 4 => [1, 3, 4]
  | 5 => [1, 3, 4, 5]
  | 6 => [1, 3, 4, 5, 21]
  | 7 => [1, 3, 4, 5]
  | 8 => [1, 3, 4]
  | 9 => [1, 3, 4, 6]
  | 10 => [1, 3, 4, 6, 38]
  | 11 => [1, 3, 4, 6]
  | 12 => [1, 3, 4, 6]
  | 13 => [1, 3, 4]
  | 14 => [2]
  | _ => []
@[simp] def md15 : Nat → Bool
  | _ => false
@[simp] def fp15 : FPol := { inpl := [], exp := false, sites := [150], mut_ := [], split := false }
/- 16 servitor servitorref16.Same -/
@[simp] def keep16 : Nat → List Nat
  | 0 => [0, 1]
  | 1 => [0, 1, 10]
  | 2 => [4]
  | 3 => [0, 1, 5]
  | 4 => [0, 1, 5, 14]
  | 5 => [0, 1, 5]
  | 6 => [0, 1, 5, 25]
  | 7 => [4]
  | 8 => [4]
  | _ => []
@[simp] def md16 : Nat → Bool
  | _ => false
@[simp] def fp16 : FPol := { inpl := [], exp := false, sites := [], mut_ := [], split := false }
/- 17 servitor scope.asked -/
@[simp] def keep17 : Nat → List Nat
  | 0 => [1]
  | 1 => [2]
  | _ => []
@[simp] def md17 : Nat → Bool
  | _ => false
@[simp] def fp17 : FPol := { inpl := [], exp := false, sites := [150], mut_ := [], split := false }
/- 18 slices.ContainsFunc[[][]int64,[]int64] -/
@[simp] def keep18 : Nat → List Nat
  | 0 => [0, 1]
  | 1 => [4]
  | _ => []
@[simp] def md18 : Nat → Bool
  | _ => false
@[simp] def fp18 : FPol := { inpl := [], exp := false, sites := [], mut_ := [], split := false }
/- 19 servitor scope.Right$1 -/
@[simp] def keep19 : Nat → List Nat
  | 0 => [0, 1]
  | 1 => [3]
  | _ => []
@[simp] def md19 : Nat → Bool
  | _ => false
@[simp] def fp19 : FPol := { inpl := [], exp := false, sites := [], mut_ := [], split := false }
/- 20 servitor scope.copied -/
@[simp] def keep20 : Nat → List Nat
  | 0 => [1, 2]
  | 1 => [1, 2, 3]
  | 2 => [1, 2, 3, 7, 8, 9]
  | 3 => [1, 2, 3, 7, 8, 9, 10]
  | 4 => [1, 2, 3, 5, 7, 8, 9]
  | 5 => [1, 2, 3, 7, 8, 9]
  | 6 => [1, 2, 3, 7, 8, 9]
  | 7 => [1, 2]
  | 8 => [2]
  | _ => []
@[simp] def md20 : Nat → Bool
  | _ => false
@[simp] def fp20 : FPol := { inpl := [], exp := true, sites := [150, 200, 250], mut_ := [], split := false }
/- 21 servitor scope.crosses -/
@[simp] def keep21 : Nat → List Nat
  | 0 => [1, 2, 3]
  | 1 => [1, 2, 3, 8]
  | 2 => [6]
  | 3 => [6]
  | _ => []
@[simp] def md21 : Nat → Bool
  | _ => false
@[simp] def fp21 : FPol := { inpl := [], exp := false, sites := [250], mut_ := [], split := false }
/- 22 slices.Clone[[]int64,int64] -/
@[simp] def keep22 : Nat → List Nat
  | 0 => [0]
  | 1 => [0, 4]
  | 2 => [2]
  | 3 => [2]
  | _ => []
@[simp] def md22 : Nat → Bool
  | _ => false
@[simp] def fp22 : FPol := { inpl := [], exp := true, sites := [200, 350], mut_ := [], split := true }
/- 23 strconv.AppendInt -/
@[simp] def keep23 : Nat → List Nat
  | 0 => [0, 1, 2]
  | 1 => [6]
  | _ => []
@[simp] def md23 : Nat → Bool
  | _ => false
@[simp] def fp23 : FPol := { inpl := [], exp := false, sites := [], mut_ := [0], split := false }
/- 24 servitor servitorref35.num -/
@[simp] def keep24 : Nat → List Nat
  | 0 => [0]
  | 1 => [0, 4]
  | 2 => [2]
  | 3 => [2]
  | _ => []
@[simp] def md24 : Nat → Bool
  | _ => false
@[simp] def fp24 : FPol := { inpl := [], exp := false, sites := [], mut_ := [], split := false }
/- 25 slices.IndexFunc[[][]int64,[]int64] -/
@[simp] def keep25 : Nat → List Nat
  | 0 => [0, 1]
  | 1 => [0, 1, 7, 8]
  | 2 => [0, 1, 7, 8, 9]
  | 3 => [0, 1, 5, 7, 8]
  | 4 => [0, 1, 5, 7, 8, 16]
  | 5 => [4]
  | 6 => [0, 1, 7, 8]
  | 7 => [4]
  | _ => []
@[simp] def md25 : Nat → Bool
  | _ => false
@[simp] def fp25 : FPol := { inpl := [], exp := false, sites := [], mut_ := [], split := false }
/- 26 internal strconv.AppendInt -/
@[simp] def keep26 : Nat → List Nat
  | 0 => [0, 1, 2]
  | 1 => [0, 1, 2, 7]
  | 2 => [0, 2, 7, 11]
  | 3 => [0, 2, 7]
  | 4 => [0, 2, 7]
  | 5 => [6]
  | _ => []
@[simp] def md26 : Nat → Bool
  | _ => false
@[simp] def fp26 : FPol := { inpl := [], exp := false, sites := [], mut_ := [0], split := false }
/- 27 servitor servitorref35.size -/
@[simp] def keep27 : Nat → List Nat
  | 0 => [0]
  | 1 => [0, 4]
  | 2 => [2]
  | 3 => [2]
  | _ => []
@[simp] def md27 : Nat → Bool
  | _ => false
@[simp] def fp27 : FPol := { inpl := [], exp := false, sites := [], mut_ := [], split := false }
/- 28 internal strconv.AppendUint -/
@[simp] def keep28 : Nat → List Nat
  | 0 => [0, 1, 2]
  | 1 => [0, 1, 2, 10]
  | 2 => [0, 1, 12]
  | 3 => [6]
  | 4 => [0, 1, 7]
  | 5 => [0, 1, 7, 8]
  | 6 => [0, 7, 8]
  | 7 => [6]
  | 8 => [0]
  | 9 => [6]
  | _ => []
@[simp] def md28 : Nat → Bool
  | _ => false
@[simp] def fp28 : FPol := { inpl := [], exp := false, sites := [400, 450], mut_ := [0], split := false }
/- 29 internal strconv.small -/
@[simp] def keep29 : Nat → List Nat
  | 0 => [0]
  | 1 => [0, 4]
  | 2 => [2]
  | 3 => [2]
  | _ => []
@[simp] def md29 : Nat → Bool
  | _ => false
@[simp] def fp29 : FPol := { inpl := [], exp := false, sites := [], mut_ := [], split := false }
/- 30 internal strconv.numDigits -/
@[simp] def keep30 : Nat → List Nat
  | 0 => [0]
  | 1 => [0, 3]
  | 2 => [2]
  | _ => []
@[simp] def md30 : Nat → Bool
  | _ => false
@[simp] def fp30 : FPol := { inpl := [], exp := false, sites := [], mut_ := [], split := false }
/- 31 internal strconv.formatBase10 -/
@[simp] def keep31 : Nat → List Nat
  | 0 => [0, 1, 4]
  | 1 => [0, 1, 4, 20]
  | 2 => [0, 1, 4, 5]
  | 3 => [0, 1, 4, 5]
  | 4 => [0, 1, 4, 6, 7]
  | 5 => [0, 1, 4, 6, 8, 9]
  | 6 => [0, 1, 4, 8, 9, 10, 11]
  | 7 => [0, 1, 4, 8, 10, 11]
  | 8 => [0, 1, 4, 10, 11]
  | 9 => [0, 1, 4, 10]
  | 10 => [0, 1, 4]
  | 11 => [0, 1, 4]
  | 12 => [0, 4, 12]
  | 13 => [0, 4, 12, 99]
  | 14 => [0, 4, 12, 13]
  | 15 => [0, 4, 12, 13]
  | 16 => [0, 4, 12, 14, 15]
  | 17 => [0, 4, 12, 14]
  | 18 => [0, 4, 12]
  | 19 => [0, 4, 12]
  | 20 => [0, 4, 12, 139]
  | 21 => [0, 4, 12, 16]
  | 22 => [0, 4, 12, 16]
  | 23 => [0, 4, 12]
  | 24 => [0, 4, 12]
  | 25 => [0, 12, 161]
  | 26 => []
  | _ => []
@[simp] def md31 : Nat → Bool
  | _ => false
@[simp] def fp31 : FPol := { inpl := [], exp := false, sites := [], mut_ := [], split := false }
/- 32 internal strconv.formatBits -/
@[simp] def keep32 : Nat → List Nat
  | 0 => [0, 1, 2, 3, 4, 10, 11]
  | 1 => [0, 1, 2, 3, 4, 10, 11, 28]
  | 2 => [0, 1, 2, 3, 4, 10, 11]
  | 3 => [0, 1, 2, 3, 4, 10, 11, 12]
  | 4 => [0, 1, 2, 3, 4, 10, 11, 12, 13]
  | 5 => [0, 1, 2, 3, 4, 10, 11, 12, 13, 30]
  | 6 => [0, 1, 2, 3, 4, 10, 11, 12, 13]
  | 7 => [0, 1, 2, 3, 4, 10, 11, 12, 13, 34]
  | 8 => [0, 1, 2, 3, 4, 10, 11, 12, 13, 14]
  | 9 => [0, 1, 2, 3, 4, 10, 11, 12, 13, 14, 15]
  | 10 => [0, 1, 3, 4, 10, 11, 12, 13, 14, 15, 16]
  | 11 => [0, 1, 3, 4, 10, 11, 12, 13, 14, 15, 16, 46]
  | 12 => [0, 1, 3, 4, 10, 11, 12, 13, 14, 15, 16]
  | 13 => [0, 1, 3, 4, 10, 11, 12, 13, 14, 15, 16]
  | 14 => [0, 1, 3, 4, 10, 11, 12, 13, 14, 15, 16]
  | 15 => [0, 1, 3, 4, 10, 11, 12, 13]
  | 16 => [0, 3, 4, 10, 11, 12, 13]
  | 17 => [0, 1, 3, 4, 10, 11, 12, 13, 17]
  | 18 => [0, 1, 3, 4, 10, 11, 12, 13, 17, 68]
  | 19 => [0, 1, 3, 4, 10, 11, 12, 13, 17]
  | 20 => [0, 1, 3, 4, 10, 11, 12, 13, 17, 18]
  | 21 => [0, 3, 4, 10, 11, 12, 13, 17, 18]
  | 22 => [0, 1, 3, 4, 10, 11, 12, 13, 17]
  | 23 => [0, 1, 3, 4, 10, 11, 12, 13]
  | 24 => [0, 3, 4, 10, 11, 12, 13]
  | 25 => [0, 4, 10, 11, 12, 13, 89]
  | 26 => [0, 4, 10, 11, 12, 13]
  | 27 => [0, 4, 10, 11, 12, 13]
  | 28 => [0, 10, 11, 12, 13, 94]
  | 29 => [10, 11]
  | 30 => [10, 11]
  | _ => []
@[simp] def md32 : Nat → Bool
  | _ => false
@[simp] def fp32 : FPol := { inpl := [], exp := false, sites := [600, 700], mut_ := [], split := false }
/- 33 internal strconv.log10Pow2 -/
@[simp] def keep33 : Nat → List Nat
  | 0 => [0]
  | 1 => [2]
  | _ => []
@[simp] def md33 : Nat → Bool
  | _ => false
@[simp] def fp33 : FPol := { inpl := [], exp := false, sites := [], mut_ := [], split := false }
/- 34 math bits.Len64 -/
@[simp] def keep34 : Nat → List Nat
  | 0 => [0, 2]
  | 1 => [0, 2, 4]
  | 2 => [0]
  | 3 => [0, 2]
  | 4 => [0, 2, 8]
  | 5 => [0, 2]
  | 6 => [0, 2]
  | 7 => [0, 2, 14]
  | 8 => [0, 2]
  | 9 => [0, 2]
  | 10 => [2]
  | _ => []
@[simp] def md34 : Nat → Bool
  | _ => false
@[simp] def fp34 : FPol := { inpl := [], exp := false, sites := [], mut_ := [], split := false }
/- 35 internal strconv.bool2[int] -/
@[simp] def keep35 : Nat → List Nat
  | 0 => [0]
  | 1 => [3]
  | 2 => [2]
  | 3 => [2]
  | _ => []
@[simp] def md35 : Nat → Bool
  | _ => false
@[simp] def fp35 : FPol := { inpl := [], exp := false, sites := [], mut_ := [], split := false }
/- 36 internal strconv.isPowerOfTwo -/
@[simp] def keep36 : Nat → List Nat
  | 0 => [0]
  | 1 => [2]
  | _ => []
@[simp] def md36 : Nat → Bool
  | _ => false
@[simp] def fp36 : FPol := { inpl := [], exp := false, sites := [], mut_ := [], split := false }
/- 37 math bits.TrailingZeros -/
@[simp] def keep37 : Nat → List Nat
  | 0 => [0]
  | 1 => [2]
  | 2 => [2]
  | _ => []
@[simp] def md37 : Nat → Bool
  | _ => false
@[simp] def fp37 : FPol := { inpl := [], exp := false, sites := [], mut_ := [], split := false }
/- 38 math bits.TrailingZeros32 -/
@[simp] def keep38 : Nat → List Nat
  | 0 => [0]
  | 1 => [0, 4]
  | 2 => [2]
  | 3 => [2]
  | _ => []
@[simp] def md38 : Nat → Bool
  | _ => false
@[simp] def fp38 : FPol := { inpl := [], exp := false, sites := [], mut_ := [], split := false }
/- 39 math bits.TrailingZeros64 -/
@[simp] def keep39 : Nat → List Nat
  | 0 => [0]
  | 1 => [0, 4]
  | 2 => [2]
  | 3 => [2]
  | _ => []
@[simp] def md39 : Nat → Bool
  | _ => false
@[simp] def fp39 : FPol := { inpl := [], exp := false, sites := [], mut_ := [], split := false }
noncomputable def keepL : List (Nat → List Nat) := [fun _ => [], fun _ => [], keep2, keep3, keep4, keep5, keep6, keep7, keep8, keep9, keep10, keep11, keep12, keep13, keep14, keep15, keep16, keep17, keep18, keep19, keep20, keep21, keep22, keep23, keep24, keep25, keep26, keep27, keep28, keep29, keep30, keep31, keep32, keep33, keep34, keep35, keep36, keep37, keep38, keep39]
noncomputable def ghL : List (Nat → List Gh) := [fun _ => [], fun _ => [], fun _ => [], fun _ => [], fun _ => [], gh5, fun _ => [], fun _ => [], fun _ => [], fun _ => [], fun _ => [], fun _ => [], fun _ => [], fun _ => [], fun _ => [], fun _ => [], fun _ => [], fun _ => [], fun _ => [], fun _ => [], fun _ => [], fun _ => [], fun _ => [], fun _ => [], fun _ => [], fun _ => [], fun _ => [], fun _ => [], fun _ => [], fun _ => [], fun _ => [], fun _ => [], fun _ => [], fun _ => [], fun _ => [], fun _ => [], fun _ => [], fun _ => [], fun _ => [], fun _ => []]
noncomputable def mdL : List (Nat → Bool) := [fun _ => false, fun _ => false, md2, md3, md4, md5, md6, md7, md8, md9, md10, md11, md12, md13, md14, md15, md16, md17, md18, md19, md20, md21, md22, md23, md24, md25, md26, md27, md28, md29, md30, md31, md32, md33, md34, md35, md36, md37, md38, md39]
noncomputable def fpL : List FPol := [⟨[], false, [], [], false⟩, ⟨[], false, [], [], false⟩, fp2, fp3, fp4, fp5, fp6, fp7, fp8, fp9, fp10, fp11, fp12, fp13, fp14, fp15, fp16, fp17, fp18, fp19, fp20, fp21, fp22, fp23, fp24, fp25, fp26, fp27, fp28, fp29, fp30, fp31, fp32, fp33, fp34, fp35, fp36, fp37, fp38, fp39]
def gl0 : List (Nat × D) := []
noncomputable def ctx : Ctx := ⟨Tryd.prog, gl0, fun f => keepL.getD f (fun _ => []), fun f => ghL.getD f (fun _ => []), fun f => mdL.getD f (fun _ => false), fun f => fpL.getD f ⟨[], false, [], [], false⟩⟩
@[simp] theorem ctx_P : ctx.P = Tryd.prog := rfl
@[simp] theorem ctx_gl : ctx.gl = gl0 := rfl
@[simp] def codeOf (fn : Func) : Code := fn.body.getD .skip
@[simp] theorem keepE2 : ctx.keep 2 = keep2 := rfl
@[simp] theorem ghE2 : ctx.gh 2 = fun _ => [] := rfl
@[simp] theorem mdE2 : ctx.md 2 = md2 := rfl
@[simp] theorem fpE2 : ctx.fp 2 = fp2 := rfl
theorem run2 {args : List AV} {cs : List Cont} (h : callOk 1 fp2 args cs = true) : callT ctx 2 args cs = denK ctx 2 (codeOf Tryd.f2) (entry 1 gl0 args cs fp2.sites) (finK Tryd.prog fp2 cs.length []) :=
  call_run Tryd.func2 rfl Tryd.ntmps2 (by rw [Tryd.results2]) rfl rfl h
@[simp] theorem keepE3 : ctx.keep 3 = keep3 := rfl
@[simp] theorem ghE3 : ctx.gh 3 = fun _ => [] := rfl
@[simp] theorem mdE3 : ctx.md 3 = md3 := rfl
@[simp] theorem fpE3 : ctx.fp 3 = fp3 := rfl
theorem run3 {args : List AV} {cs : List Cont} (h : callOk 111 fp3 args cs = true) : callT ctx 3 args cs = denK ctx 3 (codeOf Tryd.f3) (entry 111 gl0 args cs fp3.sites) (finK Tryd.prog fp3 cs.length [.tmp 4]) :=
  call_run Tryd.func3 rfl Tryd.ntmps3 (by rw [Tryd.results3]) rfl rfl h
@[simp] theorem keepE4 : ctx.keep 4 = keep4 := rfl
@[simp] theorem ghE4 : ctx.gh 4 = fun _ => [] := rfl
@[simp] theorem mdE4 : ctx.md 4 = md4 := rfl
@[simp] theorem fpE4 : ctx.fp 4 = fp4 := rfl
theorem run4 {args : List AV} {cs : List Cont} (h : callOk 87 fp4 args cs = true) : callT ctx 4 args cs = denK ctx 4 (codeOf Tryd.f4) (entry 87 gl0 args cs fp4.sites) (finK Tryd.prog fp4 cs.length [.tmp 4]) :=
  call_run Tryd.func4 rfl Tryd.ntmps4 (by rw [Tryd.results4]) rfl rfl h
@[simp] theorem keepE5 : ctx.keep 5 = keep5 := rfl
@[simp] theorem ghE5 : ctx.gh 5 = gh5 := rfl
@[simp] theorem mdE5 : ctx.md 5 = md5 := rfl
@[simp] theorem fpE5 : ctx.fp 5 = fp5 := rfl
theorem run5 {args : List AV} {cs : List Cont} (h : callOk 53 fp5 args cs = true) : callT ctx 5 args cs = denK ctx 5 (codeOf Tryd.f5) (entry 53 gl0 args cs fp5.sites) (finK Tryd.prog fp5 cs.length [.tmp 4]) :=
  call_run Tryd.func5 rfl Tryd.ntmps5 (by rw [Tryd.results5]) rfl rfl h
@[simp] theorem keepE6 : ctx.keep 6 = keep6 := rfl
@[simp] theorem ghE6 : ctx.gh 6 = fun _ => [] := rfl
@[simp] theorem mdE6 : ctx.md 6 = md6 := rfl
@[simp] theorem fpE6 : ctx.fp 6 = fp6 := rfl
theorem run6 {args : List AV} {cs : List Cont} (h : callOk 36 fp6 args cs = true) : callT ctx 6 args cs = denK ctx 6 (codeOf Tryd.f6) (entry 36 gl0 args cs fp6.sites) (finK Tryd.prog fp6 cs.length [.tmp 0]) :=
  call_run Tryd.func6 rfl Tryd.ntmps6 (by rw [Tryd.results6]) rfl rfl h
@[simp] theorem keepE7 : ctx.keep 7 = keep7 := rfl
@[simp] theorem ghE7 : ctx.gh 7 = fun _ => [] := rfl
@[simp] theorem mdE7 : ctx.md 7 = md7 := rfl
@[simp] theorem fpE7 : ctx.fp 7 = fp7 := rfl
theorem run7 {args : List AV} {cs : List Cont} (h : callOk 19 fp7 args cs = true) : callT ctx 7 args cs = denK ctx 7 (codeOf Tryd.f7) (entry 19 gl0 args cs fp7.sites) (finK Tryd.prog fp7 cs.length [.tmp 2]) :=
  call_run Tryd.func7 rfl Tryd.ntmps7 (by rw [Tryd.results7]) rfl rfl h
@[simp] theorem keepE8 : ctx.keep 8 = keep8 := rfl
@[simp] theorem ghE8 : ctx.gh 8 = fun _ => [] := rfl
@[simp] theorem mdE8 : ctx.md 8 = md8 := rfl
@[simp] theorem fpE8 : ctx.fp 8 = fp8 := rfl
theorem run8 {args : List AV} {cs : List Cont} (h : callOk 27 fp8 args cs = true) : callT ctx 8 args cs = denK ctx 8 (codeOf Tryd.f8) (entry 27 gl0 args cs fp8.sites) (finK Tryd.prog fp8 cs.length [.cell 12 28, .tmp 13]) :=
  call_run Tryd.func8 rfl Tryd.ntmps8 (by rw [Tryd.results8]) rfl rfl h
@[simp] theorem keepE9 : ctx.keep 9 = keep9 := rfl
@[simp] theorem ghE9 : ctx.gh 9 = fun _ => [] := rfl
@[simp] theorem mdE9 : ctx.md 9 = md9 := rfl
@[simp] theorem fpE9 : ctx.fp 9 = fp9 := rfl
theorem run9 {args : List AV} {cs : List Cont} (h : callOk 43 fp9 args cs = true) : callT ctx 9 args cs = denK ctx 9 (codeOf Tryd.f9) (entry 43 gl0 args cs fp9.sites) (finK Tryd.prog fp9 cs.length [.tmp 2]) :=
  call_run Tryd.func9 rfl Tryd.ntmps9 (by rw [Tryd.results9]) rfl rfl h
@[simp] theorem keepE10 : ctx.keep 10 = keep10 := rfl
@[simp] theorem ghE10 : ctx.gh 10 = fun _ => [] := rfl
@[simp] theorem mdE10 : ctx.md 10 = md10 := rfl
@[simp] theorem fpE10 : ctx.fp 10 = fp10 := rfl
theorem run10 {args : List AV} {cs : List Cont} (h : callOk 124 fp10 args cs = true) : callT ctx 10 args cs = denK ctx 10 (codeOf Tryd.f10) (entry 124 gl0 args cs fp10.sites) (finK Tryd.prog fp10 cs.length [.tmp 4]) :=
  call_run Tryd.func10 rfl Tryd.ntmps10 (by rw [Tryd.results10]) rfl rfl h
@[simp] theorem keepE11 : ctx.keep 11 = keep11 := rfl
@[simp] theorem ghE11 : ctx.gh 11 = fun _ => [] := rfl
@[simp] theorem mdE11 : ctx.md 11 = md11 := rfl
@[simp] theorem fpE11 : ctx.fp 11 = fp11 := rfl
theorem run11 {args : List AV} {cs : List Cont} (h : callOk 67 fp11 args cs = true) : callT ctx 11 args cs = denK ctx 11 (codeOf Tryd.f11) (entry 67 gl0 args cs fp11.sites) (finK Tryd.prog fp11 cs.length [.tmp 2]) :=
  call_run Tryd.func11 rfl Tryd.ntmps11 (by rw [Tryd.results11]) rfl rfl h
@[simp] theorem keepE12 : ctx.keep 12 = keep12 := rfl
@[simp] theorem ghE12 : ctx.gh 12 = fun _ => [] := rfl
@[simp] theorem mdE12 : ctx.md 12 = md12 := rfl
@[simp] theorem fpE12 : ctx.fp 12 = fp12 := rfl
theorem run12 {args : List AV} {cs : List Cont} (h : callOk 112 fp12 args cs = true) : callT ctx 12 args cs = denK ctx 12 (codeOf Tryd.f12) (entry 112 gl0 args cs fp12.sites) (finK Tryd.prog fp12 cs.length [.cell 4 28]) :=
  call_run Tryd.func12 rfl Tryd.ntmps12 (by rw [Tryd.results12]) rfl rfl h
@[simp] theorem keepE13 : ctx.keep 13 = keep13 := rfl
@[simp] theorem ghE13 : ctx.gh 13 = fun _ => [] := rfl
@[simp] theorem mdE13 : ctx.md 13 = md13 := rfl
@[simp] theorem fpE13 : ctx.fp 13 = fp13 := rfl
theorem run13 {args : List AV} {cs : List Cont} (h : callOk 130 fp13 args cs = true) : callT ctx 13 args cs = denK ctx 13 (codeOf Tryd.f13) (entry 130 gl0 args cs fp13.sites) (finK Tryd.prog fp13 cs.length [.cell 4 28]) :=
  call_run Tryd.func13 rfl Tryd.ntmps13 (by rw [Tryd.results13]) rfl rfl h
@[simp] theorem keepE14 : ctx.keep 14 = keep14 := rfl
@[simp] theorem ghE14 : ctx.gh 14 = fun _ => [] := rfl
@[simp] theorem mdE14 : ctx.md 14 = md14 := rfl
@[simp] theorem fpE14 : ctx.fp 14 = fp14 := rfl
theorem run14 {args : List AV} {cs : List Cont} (h : callOk 55 fp14 args cs = true) : callT ctx 14 args cs = denK ctx 14 (codeOf Tryd.f14) (entry 55 gl0 args cs fp14.sites) (finK Tryd.prog fp14 cs.length [.tmp 2]) :=
  call_run Tryd.func14 rfl Tryd.ntmps14 (by rw [Tryd.results14]) rfl rfl h
@[simp] theorem keepE15 : ctx.keep 15 = keep15 := rfl
@[simp] theorem ghE15 : ctx.gh 15 = fun _ => [] := rfl
@[simp] theorem mdE15 : ctx.md 15 = md15 := rfl
@[simp] theorem fpE15 : ctx.fp 15 = fp15 := rfl
theorem run15 {args : List AV} {cs : List Cont} (h : callOk 56 fp15 args cs = true) : callT ctx 15 args cs = denK ctx 15 (codeOf Tryd.f15) (entry 56 gl0 args cs fp15.sites) (finK Tryd.prog fp15 cs.length [.tmp 2]) :=
  call_run Tryd.func15 rfl Tryd.ntmps15 (by rw [Tryd.results15]) rfl rfl h
@[simp] theorem keepE16 : ctx.keep 16 = keep16 := rfl
@[simp] theorem ghE16 : ctx.gh 16 = fun _ => [] := rfl
@[simp] theorem mdE16 : ctx.md 16 = md16 := rfl
@[simp] theorem fpE16 : ctx.fp 16 = fp16 := rfl
theorem run16 {args : List AV} {cs : List Cont} (h : callOk 26 fp16 args cs = true) : callT ctx 16 args cs = denK ctx 16 (codeOf Tryd.f16) (entry 26 gl0 args cs fp16.sites) (finK Tryd.prog fp16 cs.length [.tmp 4]) :=
  call_run Tryd.func16 rfl Tryd.ntmps16 (by rw [Tryd.results16]) rfl rfl h
@[simp] theorem keepE17 : ctx.keep 17 = keep17 := rfl
@[simp] theorem ghE17 : ctx.gh 17 = fun _ => [] := rfl
@[simp] theorem mdE17 : ctx.md 17 = md17 := rfl
@[simp] theorem fpE17 : ctx.fp 17 = fp17 := rfl
theorem run17 {args : List AV} {cs : List Cont} (h : callOk 43 fp17 args cs = true) : callT ctx 17 args cs = denK ctx 17 (codeOf Tryd.f17) (entry 43 gl0 args cs fp17.sites) (finK Tryd.prog fp17 cs.length [.tmp 2]) :=
  call_run Tryd.func17 rfl Tryd.ntmps17 (by rw [Tryd.results17]) rfl rfl h
@[simp] theorem keepE18 : ctx.keep 18 = keep18 := rfl
@[simp] theorem ghE18 : ctx.gh 18 = fun _ => [] := rfl
@[simp] theorem mdE18 : ctx.md 18 = md18 := rfl
@[simp] theorem fpE18 : ctx.fp 18 = fp18 := rfl
theorem run18 {args : List AV} {cs : List Cont} (h : callOk 9 fp18 args cs = true) : callT ctx 18 args cs = denK ctx 18 (codeOf Tryd.f18) (entry 9 gl0 args cs fp18.sites) (finK Tryd.prog fp18 cs.length [.tmp 4]) :=
  call_run Tryd.func18 rfl Tryd.ntmps18 (by rw [Tryd.results18]) rfl rfl h
@[simp] theorem keepE19 : ctx.keep 19 = keep19 := rfl
@[simp] theorem ghE19 : ctx.gh 19 = fun _ => [] := rfl
@[simp] theorem mdE19 : ctx.md 19 = md19 := rfl
@[simp] theorem fpE19 : ctx.fp 19 = fp19 := rfl
theorem run19 {args : List AV} {cs : List Cont} (h : callOk 9 fp19 args cs = true) : callT ctx 19 args cs = denK ctx 19 (codeOf Tryd.f19) (entry 9 gl0 args cs fp19.sites) (finK Tryd.prog fp19 cs.length [.tmp 3]) :=
  call_run Tryd.func19 rfl Tryd.ntmps19 (by rw [Tryd.results19]) rfl rfl h
@[simp] theorem keepE20 : ctx.keep 20 = keep20 := rfl
@[simp] theorem ghE20 : ctx.gh 20 = fun _ => [] := rfl
@[simp] theorem mdE20 : ctx.md 20 = md20 := rfl
@[simp] theorem fpE20 : ctx.fp 20 = fp20 := rfl
theorem run20 {args : List AV} {cs : List Cont} (h : callOk 22 fp20 args cs = true) : callT ctx 20 args cs = denK ctx 20 (codeOf Tryd.f20) (entry 22 gl0 args cs fp20.sites) (finK Tryd.prog fp20 cs.length [.cell 2 28]) :=
  call_run Tryd.func20 rfl Tryd.ntmps20 (by rw [Tryd.results20]) rfl rfl h
@[simp] theorem keepE21 : ctx.keep 21 = keep21 := rfl
@[simp] theorem ghE21 : ctx.gh 21 = fun _ => [] := rfl
@[simp] theorem mdE21 : ctx.md 21 = md21 := rfl
@[simp] theorem fpE21 : ctx.fp 21 = fp21 := rfl
theorem run21 {args : List AV} {cs : List Cont} (h : callOk 29 fp21 args cs = true) : callT ctx 21 args cs = denK ctx 21 (codeOf Tryd.f21) (entry 29 gl0 args cs fp21.sites) (finK Tryd.prog fp21 cs.length [.tmp 6]) :=
  call_run Tryd.func21 rfl Tryd.ntmps21 (by rw [Tryd.results21]) rfl rfl h
@[simp] theorem keepE22 : ctx.keep 22 = keep22 := rfl
@[simp] theorem ghE22 : ctx.gh 22 = fun _ => [] := rfl
@[simp] theorem mdE22 : ctx.md 22 = md22 := rfl
@[simp] theorem fpE22 : ctx.fp 22 = fp22 := rfl
theorem run22 {args : List AV} {cs : List Cont} (h : callOk 8 fp22 args cs = true) : callT ctx 22 args cs = runSplit (fun args => denK ctx 22 (codeOf Tryd.f22) (entry 8 gl0 args cs fp22.sites) (finK Tryd.prog fp22 cs.length [.tmp 2])) args true :=
  call_run_split Tryd.func22 rfl Tryd.ntmps22 (by rw [Tryd.results22]) rfl rfl h
@[simp] theorem keepE23 : ctx.keep 23 = keep23 := rfl
@[simp] theorem ghE23 : ctx.gh 23 = fun _ => [] := rfl
@[simp] theorem mdE23 : ctx.md 23 = md23 := rfl
@[simp] theorem fpE23 : ctx.fp 23 = fp23 := rfl
theorem run23 {args : List AV} {cs : List Cont} (h : callOk 11 fp23 args cs = true) : callT ctx 23 args cs = denK ctx 23 (codeOf Tryd.f23) (entry 11 gl0 args cs fp23.sites) (finK Tryd.prog fp23 cs.length [.tmp 6]) :=
  call_run Tryd.func23 rfl Tryd.ntmps23 (by rw [Tryd.results23]) rfl rfl h
@[simp] theorem keepE24 : ctx.keep 24 = keep24 := rfl
@[simp] theorem ghE24 : ctx.gh 24 = fun _ => [] := rfl
@[simp] theorem mdE24 : ctx.md 24 = md24 := rfl
@[simp] theorem fpE24 : ctx.fp 24 = fp24 := rfl
theorem run24 {args : List AV} {cs : List Cont} (h : callOk 13 fp24 args cs = true) : callT ctx 24 args cs = denK ctx 24 (codeOf Tryd.f24) (entry 13 gl0 args cs fp24.sites) (finK Tryd.prog fp24 cs.length [.tmp 2]) :=
  call_run Tryd.func24 rfl Tryd.ntmps24 (by rw [Tryd.results24]) rfl rfl h
@[simp] theorem keepE25 : ctx.keep 25 = keep25 := rfl
@[simp] theorem ghE25 : ctx.gh 25 = fun _ => [] := rfl
@[simp] theorem mdE25 : ctx.md 25 = md25 := rfl
@[simp] theorem fpE25 : ctx.fp 25 = fp25 := rfl
theorem run25 {args : List AV} {cs : List Cont} (h : callOk 19 fp25 args cs = true) : callT ctx 25 args cs = denK ctx 25 (codeOf Tryd.f25) (entry 19 gl0 args cs fp25.sites) (finK Tryd.prog fp25 cs.length [.tmp 4]) :=
  call_run Tryd.func25 rfl Tryd.ntmps25 (by rw [Tryd.results25]) rfl rfl h
@[simp] theorem keepE26 : ctx.keep 26 = keep26 := rfl
@[simp] theorem ghE26 : ctx.gh 26 = fun _ => [] := rfl
@[simp] theorem mdE26 : ctx.md 26 = md26 := rfl
@[simp] theorem fpE26 : ctx.fp 26 = fp26 := rfl
theorem run26 {args : List AV} {cs : List Cont} (h : callOk 21 fp26 args cs = true) : callT ctx 26 args cs = denK ctx 26 (codeOf Tryd.f26) (entry 21 gl0 args cs fp26.sites) (finK Tryd.prog fp26 cs.length [.tmp 6]) :=
  call_run Tryd.func26 rfl Tryd.ntmps26 (by rw [Tryd.results26]) rfl rfl h
@[simp] theorem keepE27 : ctx.keep 27 = keep27 := rfl
@[simp] theorem ghE27 : ctx.gh 27 = fun _ => [] := rfl
@[simp] theorem mdE27 : ctx.md 27 = md27 := rfl
@[simp] theorem fpE27 : ctx.fp 27 = fp27 := rfl
theorem run27 {args : List AV} {cs : List Cont} (h : callOk 18 fp27 args cs = true) : callT ctx 27 args cs = denK ctx 27 (codeOf Tryd.f27) (entry 18 gl0 args cs fp27.sites) (finK Tryd.prog fp27 cs.length [.tmp 2]) :=
  call_run Tryd.func27 rfl Tryd.ntmps27 (by rw [Tryd.results27]) rfl rfl h
@[simp] theorem keepE28 : ctx.keep 28 = keep28 := rfl
@[simp] theorem ghE28 : ctx.gh 28 = fun _ => [] := rfl
@[simp] theorem mdE28 : ctx.md 28 = md28 := rfl
@[simp] theorem fpE28 : ctx.fp 28 = fp28 := rfl
theorem run28 {args : List AV} {cs : List Cont} (h : callOk 36 fp28 args cs = true) : callT ctx 28 args cs = denK ctx 28 (codeOf Tryd.f28) (entry 36 gl0 args cs fp28.sites) (finK Tryd.prog fp28 cs.length [.tmp 6]) :=
  call_run Tryd.func28 rfl Tryd.ntmps28 (by rw [Tryd.results28]) rfl rfl h
@[simp] theorem keepE29 : ctx.keep 29 = keep29 := rfl
@[simp] theorem ghE29 : ctx.gh 29 = fun _ => [] := rfl
@[simp] theorem mdE29 : ctx.md 29 = md29 := rfl
@[simp] theorem fpE29 : ctx.fp 29 = fp29 := rfl
theorem run29 {args : List AV} {cs : List Cont} (h : callOk 15 fp29 args cs = true) : callT ctx 29 args cs = denK ctx 29 (codeOf Tryd.f29) (entry 15 gl0 args cs fp29.sites) (finK Tryd.prog fp29 cs.length [.tmp 2]) :=
  call_run Tryd.func29 rfl Tryd.ntmps29 (by rw [Tryd.results29]) rfl rfl h
@[simp] theorem keepE30 : ctx.keep 30 = keep30 := rfl
@[simp] theorem ghE30 : ctx.gh 30 = fun _ => [] := rfl
@[simp] theorem mdE30 : ctx.md 30 = md30 := rfl
@[simp] theorem fpE30 : ctx.fp 30 = fp30 := rfl
theorem run30 {args : List AV} {cs : List Cont} (h : callOk 15 fp30 args cs = true) : callT ctx 30 args cs = denK ctx 30 (codeOf Tryd.f30) (entry 15 gl0 args cs fp30.sites) (finK Tryd.prog fp30 cs.length [.tmp 2]) :=
  call_run Tryd.func30 rfl Tryd.ntmps30 (by rw [Tryd.results30]) rfl rfl h
@[simp] theorem keepE31 : ctx.keep 31 = keep31 := rfl
@[simp] theorem ghE31 : ctx.gh 31 = fun _ => [] := rfl
@[simp] theorem mdE31 : ctx.md 31 = md31 := rfl
@[simp] theorem fpE31 : ctx.fp 31 = fp31 := rfl
theorem run31 {args : List AV} {cs : List Cont} (h : callOk 167 fp31 args cs = true) : callT ctx 31 args cs = denK ctx 31 (codeOf Tryd.f31) (entry 167 gl0 args cs fp31.sites) (finK Tryd.prog fp31 cs.length []) :=
  call_run Tryd.func31 rfl Tryd.ntmps31 (by rw [Tryd.results31]) rfl rfl h
@[simp] theorem keepE32 : ctx.keep 32 = keep32 := rfl
@[simp] theorem ghE32 : ctx.gh 32 = fun _ => [] := rfl
@[simp] theorem mdE32 : ctx.md 32 = md32 := rfl
@[simp] theorem fpE32 : ctx.fp 32 = fp32 := rfl
theorem run32 {args : List AV} {cs : List Cont} (h : callOk 102 fp32 args cs = true) : callT ctx 32 args cs = denK ctx 32 (codeOf Tryd.f32) (entry 102 gl0 args cs fp32.sites) (finK Tryd.prog fp32 cs.length [.tmp 10, .tmp 11]) :=
  call_run Tryd.func32 rfl Tryd.ntmps32 (by rw [Tryd.results32]) rfl rfl h
@[simp] theorem keepE33 : ctx.keep 33 = keep33 := rfl
@[simp] theorem ghE33 : ctx.gh 33 = fun _ => [] := rfl
@[simp] theorem mdE33 : ctx.md 33 = md33 := rfl
@[simp] theorem fpE33 : ctx.fp 33 = fp33 := rfl
theorem run33 {args : List AV} {cs : List Cont} (h : callOk 6 fp33 args cs = true) : callT ctx 33 args cs = denK ctx 33 (codeOf Tryd.f33) (entry 6 gl0 args cs fp33.sites) (finK Tryd.prog fp33 cs.length [.tmp 2]) :=
  call_run Tryd.func33 rfl Tryd.ntmps33 (by rw [Tryd.results33]) rfl rfl h
@[simp] theorem keepE34 : ctx.keep 34 = keep34 := rfl
@[simp] theorem ghE34 : ctx.gh 34 = fun _ => [] := rfl
@[simp] theorem mdE34 : ctx.md 34 = md34 := rfl
@[simp] theorem fpE34 : ctx.fp 34 = fp34 := rfl
theorem run34 {args : List AV} {cs : List Cont} (h : callOk 25 fp34 args cs = true) : callT ctx 34 args cs = denK ctx 34 (codeOf Tryd.f34) (entry 25 gl0 args cs fp34.sites) (finK Tryd.prog fp34 cs.length [.tmp 2]) :=
  call_run Tryd.func34 rfl Tryd.ntmps34 (by rw [Tryd.results34]) rfl rfl h
@[simp] theorem keepE35 : ctx.keep 35 = keep35 := rfl
@[simp] theorem ghE35 : ctx.gh 35 = fun _ => [] := rfl
@[simp] theorem mdE35 : ctx.md 35 = md35 := rfl
@[simp] theorem fpE35 : ctx.fp 35 = fp35 := rfl
theorem run35 {args : List AV} {cs : List Cont} (h : callOk 4 fp35 args cs = true) : callT ctx 35 args cs = denK ctx 35 (codeOf Tryd.f35) (entry 4 gl0 args cs fp35.sites) (finK Tryd.prog fp35 cs.length [.tmp 2]) :=
  call_run Tryd.func35 rfl Tryd.ntmps35 (by rw [Tryd.results35]) rfl rfl h
@[simp] theorem keepE36 : ctx.keep 36 = keep36 := rfl
@[simp] theorem ghE36 : ctx.gh 36 = fun _ => [] := rfl
@[simp] theorem mdE36 : ctx.md 36 = md36 := rfl
@[simp] theorem fpE36 : ctx.fp 36 = fp36 := rfl
theorem run36 {args : List AV} {cs : List Cont} (h : callOk 8 fp36 args cs = true) : callT ctx 36 args cs = denK ctx 36 (codeOf Tryd.f36) (entry 8 gl0 args cs fp36.sites) (finK Tryd.prog fp36 cs.length [.tmp 2]) :=
  call_run Tryd.func36 rfl Tryd.ntmps36 (by rw [Tryd.results36]) rfl rfl h
@[simp] theorem keepE37 : ctx.keep 37 = keep37 := rfl
@[simp] theorem ghE37 : ctx.gh 37 = fun _ => [] := rfl
@[simp] theorem mdE37 : ctx.md 37 = md37 := rfl
@[simp] theorem fpE37 : ctx.fp 37 = fp37 := rfl
theorem run37 {args : List AV} {cs : List Cont} (h : callOk 8 fp37 args cs = true) : callT ctx 37 args cs = denK ctx 37 (codeOf Tryd.f37) (entry 8 gl0 args cs fp37.sites) (finK Tryd.prog fp37 cs.length [.tmp 2]) :=
  call_run Tryd.func37 rfl Tryd.ntmps37 (by rw [Tryd.results37]) rfl rfl h
@[simp] theorem keepE38 : ctx.keep 38 = keep38 := rfl
@[simp] theorem ghE38 : ctx.gh 38 = fun _ => [] := rfl
@[simp] theorem mdE38 : ctx.md 38 = md38 := rfl
@[simp] theorem fpE38 : ctx.fp 38 = fp38 := rfl
theorem run38 {args : List AV} {cs : List Cont} (h : callOk 14 fp38 args cs = true) : callT ctx 38 args cs = denK ctx 38 (codeOf Tryd.f38) (entry 14 gl0 args cs fp38.sites) (finK Tryd.prog fp38 cs.length [.tmp 2]) :=
  call_run Tryd.func38 rfl Tryd.ntmps38 (by rw [Tryd.results38]) rfl rfl h
@[simp] theorem keepE39 : ctx.keep 39 = keep39 := rfl
@[simp] theorem ghE39 : ctx.gh 39 = fun _ => [] := rfl
@[simp] theorem mdE39 : ctx.md 39 = md39 := rfl
@[simp] theorem fpE39 : ctx.fp 39 = fp39 := rfl
theorem run39 {args : List AV} {cs : List Cont} (h : callOk 14 fp39 args cs = true) : callT ctx 39 args cs = denK ctx 39 (codeOf Tryd.f39) (entry 14 gl0 args cs fp39.sites) (finK Tryd.prog fp39 cs.length [.tmp 2]) :=
  call_run Tryd.func39 rfl Tryd.ntmps39 (by rw [Tryd.results39]) rfl rfl h
end Go.Am

/-
  The policy of this seat's functions: which slots are kept, which keys there are.
-/
import Derived.Test.YtgcpbkbmnkjlkaaDoorP4
import Derived.Test.YtgcpbkbmnkjlkaaDoorChecked
set_option linter.all false
namespace Go.Am
open Go Go.Proofs
set_option maxRecDepth 10000

/- 2 gosem.cut.init -/
@[simp] def keep2 : Nat → List Nat
  | 0 => []
  | _ => []
@[simp] def md2 : Nat → Bool
  | _ => false
@[simp] def fp2 : FPol := { inpl := [], exp := false, sites := [], mut_ := [], split := false }
/- 3 servitor servitorlaw25.CheckRight -/
@[simp] def keep3 : Nat → List Nat
  | 0 => [1]
  | 1 => [1, 4]
  | 2 => [2]
  | 3 => [2]
  | _ => []
@[simp] def md3 : Nat → Bool
  | 3 => true
  | _ => false
@[simp] def fp3 : FPol := { inpl := [], exp := false, sites := [150], mut_ := [], split := false }
/- 4 servitor servitorlaw25.CheckJoins -/
@[simp] def keep4 : Nat → List Nat
  | 0 => [2, 3]
  | 1 => [2, 3, 10]
  | 2 => [4]
  | 3 => [2, 3, 30]
  | 4 => [4]
  | 5 => [2, 3, 5]
  | 6 => [3, 5, 6]
  | 7 => [3, 5, 6, 7]
  | 8 => [3, 5, 6, 7, 51]
  | 9 => [3, 5, 6, 7]
  | 10 => [3, 5, 6, 7, 8]
  | 11 => [3, 5, 6, 7, 8, 66]
  | 12 => [3, 5, 6, 7, 8]
  | 13 => [3, 5, 6, 7]
  | 14 => [4]
  | _ => []
@[simp] def md4 : Nat → Bool
  | 3 => true
  | _ => false
@[simp] def fp4 : FPol := { inpl := [], exp := false, sites := [200, 250, 400, 500, 1850], mut_ := [], split := false }
/- 5 servitor servitorlaw17.TokRight -/
@[simp] def keep5 : Nat → List Nat
  | 0 => [0]
  | 1 => [0, 10]
  | 2 => [2]
  | 3 => [0]
  | 4 => [0, 3, 4, 5]
  | 5 => [0, 3, 4, 5, 6, 7, 8]
  | 6 => [2]
  | _ => []
@[simp] def md5 : Nat → Bool
  | 6 => true
  | _ => false
@[simp] def fp5 : FPol := { inpl := [], exp := false, sites := [350, 500], mut_ := [], split := false }
/- 6 servitor servitorlaw17.TokGaps -/
@[simp] def keep6 : Nat → List Nat
  | 0 => [0, 1]
  | 1 => [0, 1, 15]
  | 2 => [4]
  | 3 => [0, 1]
  | 4 => [1, 5, 6]
  | 5 => [1, 5, 33]
  | 6 => [4]
  | 7 => [1, 5, 8]
  | 8 => [1, 5, 8, 9]
  | 9 => [1, 5, 8, 9, 37]
  | 10 => [1, 5, 8, 9]
  | 11 => [1, 5, 8, 9, 10]
  | 12 => [1, 5, 8, 9, 10, 43]
  | 13 => [1, 5, 8, 9, 10]
  | 14 => [1, 5, 8, 9]
  | 15 => [5, 11, 12]
  | 16 => [4]
  | _ => []
@[simp] def md6 : Nat → Bool
  | 16 => true
  | _ => false
@[simp] def fp6 : FPol := { inpl := [], exp := false, sites := [450, 750], mut_ := [], split := false }
/- 7 servitor servitorlaw17.TokPlaces -/
@[simp] def keep7 : Nat → List Nat
  | 0 => [0]
  | 1 => [0, 11]
  | 2 => [2]
  | 3 => [0]
  | 4 => [0, 3, 4, 5]
  | 5 => [0, 3, 5, 24]
  | 6 => [2]
  | 7 => [0, 3, 5, 6, 7, 8]
  | 8 => [0, 3, 5, 6, 7, 8, 9]
  | 9 => [0, 3, 5, 6, 7, 8, 9, 56]
  | 10 => [0, 3, 5, 6, 7, 8, 9]
  | 11 => [0, 3, 5, 6, 7, 8, 9, 80]
  | 12 => [0, 3, 5, 6, 7, 8, 9, 110]
  | 13 => [2]
  | 14 => [0, 3, 5, 6, 7, 8, 9]
  | 15 => [0, 3, 5, 6, 7, 8, 9]
  | 16 => [0, 3, 5, 6, 7, 8, 9, 124]
  | 17 => [0, 3, 5, 6, 8, 9]
  | 18 => [0, 3, 5, 6, 7, 8, 9]
  | 19 => [2]
  | _ => []
@[simp] def md7 : Nat → Bool
  | 11 => true
  | 12 => true
  | 16 => true
  | 19 => true
  | _ => false
@[simp] def fp7 : FPol := { inpl := [], exp := false, sites := [350], mut_ := [], split := false }
/- 8 servitor servitorlaw17.TokNumbers -/
@[simp] def keep8 : Nat → List Nat
  | 0 => [0, 1, 2]
  | 1 => [0, 1, 2, 17]
  | 2 => [6]
  | 3 => [0, 1, 2, 19]
  | 4 => [6]
  | 5 => [0, 1, 2, 7]
  | 6 => [0, 2, 7, 8]
  | 7 => [0, 2, 7, 8, 9]
  | 8 => [0, 2, 7, 8, 9, 32]
  | 9 => [0, 2, 7, 8, 9]
  | 10 => [0, 2, 7, 8, 9, 10]
  | 11 => [0, 2, 7, 8, 10, 11]
  | 12 => [0, 2, 7, 8, 10, 11, 39]
  | 13 => [0, 2, 7, 8, 10, 11]
  | 14 => [0, 2, 7, 8, 10, 11, 12]
  | 15 => [0, 2, 7, 8, 10, 11]
  | 16 => [0, 2, 13, 14]
  | 17 => [0, 13, 14, 61]
  | 18 => [6]
  | 19 => [6]
  | _ => []
@[simp] def md8 : Nat → Bool
  | 19 => true
  | _ => false
@[simp] def fp8 : FPol := { inpl := [], exp := false, sites := [850], mut_ := [], split := false }
/- 9 servitor servitorlaw32.PeepDone -/
@[simp] def keep9 : Nat → List Nat
  | 0 => [1]
  | 1 => [1, 15]
  | 2 => [2]
  | 3 => [1, 19]
  | 4 => [2]
  | 5 => [3, 4]
  | 6 => [3, 26]
  | 7 => [2]
  | 8 => [3, 5]
  | 9 => [3, 5, 6]
  | 10 => [3, 5, 6]
  | 11 => [3, 5, 6, 7]
  | 12 => [3, 5, 6, 35]
  | 13 => [3, 5, 6, 7]
  | 14 => [3, 5, 6, 7, 8]
  | 15 => [3, 5, 6, 7, 8, 38]
  | 16 => [3, 5, 6, 7, 8]
  | 17 => [3, 5, 6, 7, 8, 9]
  | 18 => [3, 5, 6, 7, 8, 9, 50]
  | 19 => [3, 5, 6, 7, 8, 9, 66]
  | 20 => [3, 5, 6, 7, 8, 9]
  | 21 => [3, 5, 6, 7, 8, 86]
  | 22 => [3, 5, 6, 7, 8]
  | 23 => [3, 5, 6, 10]
  | 24 => [3, 5, 6, 10, 93]
  | 25 => [3, 5, 6, 10]
  | 26 => [3, 5, 6, 10, 11]
  | 27 => [3, 5, 6, 10, 11, 143]
  | 28 => [2]
  | 29 => [3, 5, 6, 10, 172]
  | 30 => [2]
  | 31 => [3, 12, 13]
  | 32 => [2]
  | _ => []
@[simp] def md9 : Nat → Bool
  | 19 => true
  | 21 => true
  | 27 => true
  | 29 => true
  | 32 => true
  | _ => false
@[simp] def fp9 : FPol := { inpl := [], exp := false, sites := [150, 250, 550, 650, 700, 1700], mut_ := [], split := false }
/- 10 servitor servitorlaw31.ImagePuts -/
@[simp] def keep10 : Nat → List Nat
  | 0 => [1]
  | 1 => [1, 8]
  | 2 => [2]
  | 3 => [1, 12]
  | 4 => [2]
  | 5 => [1, 3, 4]
  | 6 => [3, 4, 5, 6]
  | 7 => [2]
  | _ => []
@[simp] def md10 : Nat → Bool
  | _ => false
@[simp] def fp10 : FPol := { inpl := [], exp := false, sites := [150], mut_ := [], split := false }
/- 11 servitor servitorlaw31.ImageReads -/
@[simp] def keep11 : Nat → List Nat
  | 0 => [0]
  | 1 => [0, 8]
  | 2 => [2]
  | 3 => [0]
  | 4 => [0, 3, 4]
  | 5 => [3, 4, 5, 6]
  | 6 => [2]
  | _ => []
@[simp] def md11 : Nat → Bool
  | _ => false
@[simp] def fp11 : FPol := { inpl := [], exp := false, sites := [250, 350], mut_ := [], split := false }
/- 12 servitor servitorlaw31.ImageSpoilt -/
@[simp] def keep12 : Nat → List Nat
  | 0 => [1, 2, 3, 4]
  | 1 => [1, 2, 3, 4, 14]
  | 2 => [8]
  | 3 => [1, 2, 3, 4, 26]
  | 4 => [8]
  | 5 => [1, 2, 3, 9, 10]
  | 6 => [1, 2, 3, 9, 44]
  | 7 => [8]
  | 8 => [1, 3, 9]
  | 9 => [9]
  | 10 => [11, 12]
  | 11 => [8]
  | _ => []
@[simp] def md12 : Nat → Bool
  | 3 => true
  | _ => false
@[simp] def fp12 : FPol := { inpl := [], exp := false, sites := [300, 650], mut_ := [], split := false }
/- 13 servitor servitorlaw26.VmRight -/
@[simp] def keep13 : Nat → List Nat
  | 0 => [1, 2, 3]
  | 1 => [1, 2, 3, 10]
  | 2 => [6]
  | 3 => [1, 2, 3, 27]
  | 4 => [6]
  | 5 => [1, 2, 3, 7]
  | 6 => [1, 2, 3, 7, 8]
  | 7 => [1, 2, 3, 8, 40]
  | 8 => [6]
  | 9 => [1, 2, 3, 8, 58]
  | 10 => [6]
  | 11 => [6]
  | _ => []
@[simp] def md13 : Nat → Bool
  | 3 => true
  | _ => false
@[simp] def fp13 : FPol := { inpl := [], exp := false, sites := [250, 500], mut_ := [], split := false }
/- 14 servitor servitorlaw26.VmMore -/
@[simp] def keep14 : Nat → List Nat
  | 0 => [1, 2, 3, 4]
  | 1 => [1, 2, 3, 4, 12]
  | 2 => [8]
  | 3 => [1, 2, 3, 4, 37]
  | 4 => [8]
  | 5 => [3, 9, 10]
  | 6 => [3, 9, 10, 50]
  | 7 => [8]
  | 8 => [3, 9, 10, 56]
  | 9 => [9, 10]
  | 10 => [8]
  | _ => []
@[simp] def md14 : Nat → Bool
  | _ => false
@[simp] def fp14 : FPol := { inpl := [], exp := false, sites := [300, 550, 600], mut_ := [], split := false }
/- 15 servitor servitorlaw25.awake -/
@[simp] def keep15 : Nat → List Nat
  | 0 => []
  | 1 => [0]
  | _ => []
@[simp] def md15 : Nat → Bool
  | 1 => true
  | _ => false
@[simp] def fp15 : FPol := { inpl := [], exp := false, sites := [], mut_ := [], split := false }
/- 16 servitor check.Code -/
@[simp] def keep16 : Nat → List Nat
  | 0 => [1]
  | 1 => [3]
  | 2 => [2]
  | _ => []
@[simp] def md16 : Nat → Bool
  | 2 => true
  | _ => false
@[simp] def gh16 : Nat → List Gh
  | 1 => [.adopt 600 3 601 1]
  | _ => []
@[simp] def fp16 : FPol := { inpl := [], exp := false, sites := [150, 500, 600, 601], mut_ := [], split := false }
/- 17 servitor servitorref25.Code -/
@[simp] def keep17 : Nat → List Nat
  | 0 => [1]
  | 1 => [1, 3]
  | 2 => [1, 3, 55]
  | 3 => [2]
  | 4 => [1, 3, 4]
  | 5 => [1, 3, 4, 5]
  | 6 => [1, 3, 4, 5, 60]
  | 7 => [1, 3, 4, 5]
  | 8 => [1, 3, 4, 5, 66]
  | 9 => [2]
  | 10 => [1, 3, 4, 5, 82]
  | 11 => [1, 3, 4, 5]
  | 12 => [1, 3, 4, 6]
  | 13 => [1, 3, 4, 6, 7]
  | 14 => [1, 3, 4, 6, 7, 8]
  | 15 => [1, 3, 4, 6, 7, 8, 93]
  | 16 => [1, 3, 4, 6, 7, 8]
  | 17 => [1, 3, 4, 6, 7, 8, 9]
  | 18 => [1, 3, 4, 6, 7, 8, 9, 108]
  | 19 => [2]
  | 20 => [1, 3, 4, 6, 7, 8, 9, 10, 11, 12, 13]
  | 21 => [1, 3, 4, 6, 7, 8, 9, 10, 11, 12, 13, 118]
  | 22 => [2]
  | 23 => [1, 3, 4, 6, 7, 8, 9, 10, 11, 12, 13, 14]
  | 24 => [1, 3, 4, 6, 7, 8, 9, 10, 11, 12, 13, 14, 121]
  | 25 => [1, 3, 4, 6, 7, 8, 9, 10, 11, 12, 13, 14]
  | 26 => [1, 3, 4, 6, 7, 8, 9, 10, 11, 12, 13, 14]
  | 27 => [1, 3, 4, 6, 7, 8, 9, 10, 11, 12, 13, 14, 132]
  | 28 => [2]
  | 29 => [1, 3, 4, 6, 7, 8, 9, 13, 134]
  | 30 => [1, 3, 4, 6, 7, 8, 9]
  | 31 => [1, 3, 4, 6, 7, 8, 9]
  | 32 => [1, 3, 4, 6, 7, 8, 170]
  | 33 => [2]
  | 34 => [2]
  | _ => []
@[simp] def md17 : Nat → Bool
  | 2 => true
  | 10 => true
  | 27 => true
  | 32 => true
  | _ => false
@[simp] def fp17 : FPol := { inpl := [], exp := false, sites := [150, 450, 550, 2950], mut_ := [], split := false }
/- 18 servitor servitorlaw17.awake -/
@[simp] def keep18 : Nat → List Nat
  | 0 => []
  | 1 => [1, 2]
  | 2 => [0]
  | _ => []
@[simp] def md18 : Nat → Bool
  | 2 => true
  | _ => false
@[simp] def fp18 : FPol := { inpl := [], exp := false, sites := [250], mut_ := [], split := false }
/- 19 servitor tok.Lex -/
@[simp] def keep19 : Nat → List Nat
  | 0 => [0, 4]
  | 1 => [0, 4, 13]
  | 2 => [2, 3, 4]
  | 3 => [4, 5]
  | 4 => [4, 5, 6]
  | 5 => [4, 5, 6, 7]
  | 6 => [4, 5, 6, 7, 8]
  | 7 => [4, 5, 6, 8, 29]
  | 8 => [2, 3, 4]
  | 9 => [4, 5, 6, 8, 33]
  | 10 => [2, 3, 4]
  | 11 => [4, 5, 6, 8, 9, 10]
  | 12 => [4, 5, 6, 8, 9, 10, 50]
  | 13 => [2, 3, 4]
  | 14 => [4, 5, 6, 9]
  | 15 => [4, 5, 6]
  | _ => []
@[simp] def md19 : Nat → Bool
  | _ => false
@[simp] def fp19 : FPol := { inpl := [], exp := false, sites := [200, 300, 400, 500, 550, 950], mut_ := [], split := false }
/- 20 servitor servitorref17.Lex -/
@[simp] def keep20 : Nat → List Nat
  | 0 => [0, 4]
  | 1 => [0, 4, 17]
  | 2 => [2, 3, 4]
  | 3 => [0, 4, 5]
  | 4 => [0, 4, 5, 6]
  | 5 => [0, 4, 5, 7, 8]
  | 6 => [0, 4, 5, 7, 26]
  | 7 => [2, 3, 4]
  | 8 => [0, 4, 5, 6]
  | 9 => [0, 4, 5, 6, 9]
  | 10 => [0, 4, 5, 6, 9, 10]
  | 11 => [0, 4, 5, 6, 9, 10, 38]
  | 12 => [2, 3, 4]
  | 13 => [0, 4, 5, 6, 9, 10, 11]
  | 14 => [0, 4, 5, 6, 9, 10, 11, 48]
  | 15 => [0, 4, 5, 6, 9, 10, 11, 58]
  | 16 => [0, 4, 5, 6, 9, 10, 11]
  | 17 => [0, 4, 5, 6, 9, 10, 11]
  | 18 => [0, 4, 5, 6, 9, 10, 11, 66]
  | 19 => [0, 4, 5, 6, 9, 11]
  | 20 => [0, 4, 5, 6, 9, 10, 11, 71]
  | 21 => [2, 3, 4]
  | 22 => [0, 4, 5, 6, 9, 10, 76]
  | 23 => [0, 4, 5, 6, 9, 10, 12, 13, 14]
  | 24 => [0, 4, 5, 6, 9, 10, 12, 13, 14, 85]
  | 25 => [2, 3, 4]
  | 26 => [0, 4, 5, 6, 9, 11, 13]
  | 27 => [0, 4, 5, 6, 9, 11]
  | 28 => [0, 4, 5, 6, 9, 10, 11]
  | 29 => [0, 4, 5, 6, 9, 10, 11]
  | 30 => [0, 4, 5, 6, 9, 10, 11, 100]
  | 31 => [2, 3, 4]
  | 32 => [0, 4, 5, 9, 11]
  | 33 => [0, 4, 5, 11]
  | 34 => [0, 4, 5, 6]
  | _ => []
@[simp] def md20 : Nat → Bool
  | 15 => true
  | _ => false
@[simp] def fp20 : FPol := { inpl := [], exp := false, sites := [200, 300, 350, 550, 600], mut_ := [], split := false }
/- 21 servitor servitorref17.Same -/
@[simp] def keep21 : Nat → List Nat
  | 0 => [0, 1, 2]
  | 1 => [0, 1, 2, 14]
  | 2 => [6]
  | 3 => [0, 1, 2, 7]
  | 4 => [0, 1, 2, 7, 18]
  | 5 => [0, 1, 2, 7]
  | 6 => [0, 1, 2, 7, 8, 9]
  | 7 => [0, 1, 2, 7, 8, 9, 30]
  | 8 => [0, 1, 2, 7, 8, 9]
  | 9 => [0, 1, 2, 7, 37]
  | 10 => [6]
  | 11 => [6]
  | _ => []
@[simp] def md21 : Nat → Bool
  | _ => false
@[simp] def fp21 : FPol := { inpl := [], exp := false, sites := [500, 550], mut_ := [], split := false }
/- 22 servitor tok.Word -/
@[simp] def keep22 : Nat → List Nat
  | 0 => [0]
  | 1 => [2]
  | _ => []
@[simp] def md22 : Nat → Bool
  | _ => false
@[simp] def fp22 : FPol := { inpl := [], exp := false, sites := [], mut_ := [], split := false }
/- 23 servitor servitorref17.Word -/
@[simp] def keep23 : Nat → List Nat
  | 0 => [0]
  | 1 => [0, 5, 6, 7]
  | 2 => [0, 5, 6, 7, 8]
  | 3 => [0, 4, 5, 6, 7]
  | 4 => [0, 5, 6, 7, 13]
  | 5 => [2]
  | 6 => [0, 5, 6, 7]
  | 7 => [2]
  | _ => []
@[simp] def md23 : Nat → Bool
  | _ => false
@[simp] def fp23 : FPol := { inpl := [], exp := false, sites := [], mut_ := [], split := false }
/- 24 servitor servitorlaw32.awake -/
@[simp] def keep24 : Nat → List Nat
  | 0 => []
  | 1 => [1, 2]
  | 2 => [0]
  | _ => []
@[simp] def md24 : Nat → Bool
  | 2 => true
  | _ => false
@[simp] def fp24 : FPol := { inpl := [], exp := false, sites := [150], mut_ := [], split := false }
/- 25 servitor peep.Make -/
@[simp] def keep25 : Nat → List Nat
  | 0 => [1, 2]
  | 1 => [1, 2, 8]
  | 2 => [2, 3]
  | 3 => [1, 2, 4]
  | 4 => [1, 2, 4, 5]
  | 5 => [1, 2, 4, 13]
  | 6 => [1, 2, 4, 5]
  | 7 => [2, 3]
  | _ => []
@[simp] def md25 : Nat → Bool
  | _ => false
@[simp] def fp25 : FPol := { inpl := [], exp := false, sites := [150, 200], mut_ := [], split := false }
/- 26 servitor servitorref24.Same -/
@[simp] def keep26 : Nat → List Nat
  | 0 => [2, 3]
  | 1 => [2, 3, 26]
  | 2 => [4]
  | 3 => [2, 3, 5]
  | 4 => [2, 3, 5, 31]
  | 5 => [2, 3, 5]
  | 6 => [2, 3, 5, 44]
  | 7 => [4]
  | 8 => [4]
  | _ => []
@[simp] def md26 : Nat → Bool
  | _ => false
@[simp] def fp26 : FPol := { inpl := [], exp := false, sites := [200, 250], mut_ := [], split := false }
/- 27 servitor servitorlaw31.awake -/
@[simp] def keep27 : Nat → List Nat
  | 0 => []
  | 1 => [1, 2]
  | 2 => [1, 2, 3, 4]
  | 3 => [0]
  | _ => []
@[simp] def md27 : Nat → Bool
  | 3 => true
  | _ => false
@[simp] def fp27 : FPol := { inpl := [], exp := false, sites := [250], mut_ := [], split := false }
/- 28 servitor image.Put -/
@[simp] def keep28 : Nat → List Nat
  | 0 => [1]
  | 1 => [1, 16]
  | 2 => [2, 3]
  | 3 => [1, 4]
  | 4 => [1, 4, 26, 27, 28]
  | 5 => [1, 4, 26, 27, 28, 29]
  | 6 => [1, 4, 6, 26, 27, 28]
  | 7 => [1, 4, 26, 27, 28]
  | 8 => [1, 4, 26, 27, 28]
  | 9 => [4, 38, 39, 40]
  | 10 => [4, 38, 39, 40, 41]
  | 11 => [4, 8, 38, 39, 40]
  | 12 => [4, 38, 39, 40]
  | 13 => [4, 38, 39, 40]
  | 14 => [2, 3]
  | _ => []
@[simp] def md28 : Nat → Bool
  | 1 => true
  | _ => false
@[simp] def fp28 : FPol := { inpl := [], exp := false, sites := [150, 500], mut_ := [], split := false }
/- 29 servitor servitorref31.Put -/
@[simp] def keep29 : Nat → List Nat
  | 0 => [1]
  | 1 => [1, 12]
  | 2 => [2, 3]
  | 3 => [1, 4]
  | 4 => [1, 4]
  | 5 => [1, 4]
  | 6 => [1, 4]
  | 7 => [1, 4, 5]
  | 8 => [1, 4, 5, 37]
  | 9 => [1, 4, 5]
  | 10 => [1, 4, 5, 6]
  | 11 => [1, 4, 5, 6]
  | 12 => [1, 4, 5, 6, 63, 64]
  | 13 => [1, 4, 5, 6, 63, 64, 65]
  | 14 => [1, 4, 5, 6, 7, 8, 63, 64]
  | 15 => [1, 4, 5, 6, 8, 9, 63, 64]
  | 16 => [1, 4, 5, 6, 8, 9, 63, 64, 79]
  | 17 => [2, 3]
  | 18 => [1, 4, 5, 6, 63, 64]
  | 19 => [1, 4, 5, 6, 63, 64]
  | 20 => [2, 3]
  | _ => []
@[simp] def md29 : Nat → Bool
  | _ => false
@[simp] def fp29 : FPol := { inpl := [], exp := false, sites := [150, 200, 400], mut_ := [], split := false }
/- 30 servitor servitorref02.Same -/
@[simp] def keep30 : Nat → List Nat
  | 0 => [0, 1]
  | 1 => [0, 1, 10]
  | 2 => [4]
  | 3 => [0, 1, 5]
  | 4 => [0, 1, 5, 14]
  | 5 => [0, 1, 5]
  | 6 => [0, 1, 5, 25]
  | 7 => [4]
  | 8 => [4]
  | _ => []
@[simp] def md30 : Nat → Bool
  | _ => false
@[simp] def fp30 : FPol := { inpl := [], exp := false, sites := [], mut_ := [], split := false }
/- 31 servitor image.Read -/
@[simp] def keep31 : Nat → List Nat
  | 0 => [0, 2]
  | 1 => [2, 4, 5]
  | 2 => [2, 4, 5, 15]
  | 3 => [2, 3]
  | 4 => [2, 6]
  | 5 => [2, 6, 7]
  | 6 => [2, 6, 7, 8]
  | 7 => [2, 6, 7, 8, 39]
  | 8 => [2, 6, 7, 8]
  | 9 => [2, 6, 7, 8]
  | 10 => [2, 6, 7, 49]
  | 11 => [2, 3]
  | 12 => [2, 7, 60]
  | 13 => [2, 3]
  | 14 => [2, 7, 68]
  | 15 => [2, 3]
  | 16 => [2, 3]
  | _ => []
@[simp] def md31 : Nat → Bool
  | _ => false
@[simp] def fp31 : FPol := { inpl := [], exp := false, sites := [200, 450, 1100], mut_ := [], split := false }
/- 32 servitor servitorref31.Read -/
@[simp] def keep32 : Nat → List Nat
  | 0 => [0, 2]
  | 1 => [0, 2, 18]
  | 2 => [2, 3]
  | 3 => [0, 2, 4]
  | 4 => [0, 2, 4, 44]
  | 5 => [2, 3]
  | 6 => [0, 2, 4, 53]
  | 7 => [2, 3]
  | 8 => [0, 2, 4, 5]
  | 9 => [0, 2, 4, 5, 6]
  | 10 => [0, 2, 4, 5, 6, 7]
  | 11 => [0, 2, 4, 5, 6, 7, 8]
  | 12 => [0, 2, 4, 5, 6, 7, 8, 9]
  | 13 => [0, 2, 4, 5, 6, 7, 8, 9, 56]
  | 14 => [0, 2, 4, 5, 6, 7, 8, 9]
  | 15 => [0, 2, 4, 5, 6, 7, 8, 9, 62]
  | 16 => [2, 3]
  | 17 => [0, 2, 4, 5, 6, 7, 8, 9, 10]
  | 18 => [0, 2, 4, 5, 6, 7, 8, 9, 10]
  | 19 => [0, 2, 4, 5, 6, 7, 8, 9, 10, 79]
  | 20 => [0, 2, 4, 5, 6, 7, 8, 9]
  | 21 => [0, 2, 4, 5, 6, 7, 8, 9, 10, 79, 81]
  | 22 => [0, 2, 4, 5, 6, 7, 8, 9]
  | 23 => [0, 2, 4, 5, 6, 7, 8, 9, 10, 85]
  | 24 => [0, 2, 4, 5, 6, 7, 8, 9]
  | 25 => [0, 2, 4, 5, 6, 7, 8, 90]
  | 26 => [0, 2, 4, 5, 6, 7, 8]
  | 27 => [0, 2, 4, 5, 6, 7, 8, 95]
  | 28 => [2, 3]
  | 29 => [0, 2, 4, 5, 6, 7, 8, 11]
  | 30 => [0, 2, 4, 5, 6, 7, 8, 11]
  | 31 => [0, 2, 4, 5, 6, 7, 8, 11, 112]
  | 32 => [2, 3]
  | 33 => [0, 2, 4, 5, 6, 7, 8, 11, 12]
  | 34 => [0, 2, 4, 5, 6, 7, 8, 11, 12, 13]
  | 35 => [0, 2, 4, 5, 6, 7, 8, 11, 12, 13, 115]
  | 36 => [0, 2, 4, 5, 6, 7, 8, 11, 12, 13]
  | 37 => [0, 2, 4, 5, 6, 7, 8, 11, 12, 13, 14]
  | 38 => [0, 2, 4, 5, 6, 7, 8, 11, 12, 13, 14, 128]
  | 39 => [2, 3]
  | 40 => [0, 2, 4, 5, 6, 7, 8, 11, 12, 13, 14, 15]
  | 41 => [0, 2, 4, 5, 6, 7, 8, 11, 12, 13, 14, 15, 132]
  | 42 => [0, 2, 4, 5, 6, 7, 8, 11, 12, 13, 14, 15]
  | 43 => [0, 2, 4, 5, 6, 7, 8, 11, 12, 13, 14, 15]
  | 44 => [0, 2, 4, 5, 6, 7, 8, 11, 12, 13, 14, 15]
  | 45 => [0, 2, 4, 5, 6, 7, 8, 11]
  | 46 => [0, 2, 4, 5, 6, 7, 8]
  | 47 => [2, 6, 7, 173]
  | 48 => [2, 6, 7]
  | 49 => [2, 6, 7, 176]
  | 50 => [2, 6, 7]
  | 51 => [2, 6, 7, 178]
  | 52 => [2, 3]
  | 53 => [2, 3]
  | _ => []
@[simp] def md32 : Nat → Bool
  | 4 => true
  | 6 => true
  | _ => false
@[simp] def fp32 : FPol := { inpl := [], exp := false, sites := [200, 450, 650, 700], mut_ := [], split := false }
/- 33 servitor servitorlaw26.awake -/
@[simp] def keep33 : Nat → List Nat
  | 0 => []
  | 1 => [1]
  | 2 => [0]
  | _ => []
@[simp] def md33 : Nat → Bool
  | 2 => true
  | _ => false
@[simp] def fp33 : FPol := { inpl := [], exp := false, sites := [150], mut_ := [], split := false }
/- 34 servitor vm.Run -/
@[simp] def keep34 : Nat → List Nat
  | 0 => [1, 2, 3, 6]
  | 1 => [1, 2, 3, 6, 26]
  | 2 => [6]
  | 3 => [3, 6, 7]
  | 4 => [3, 6, 7, 46]
  | 5 => [3, 6, 7, 8]
  | 6 => [3, 6, 7, 8, 57]
  | 7 => [3, 6, 7, 8]
  | 8 => [3, 6, 7, 8, 68]
  | 9 => [3, 6, 7]
  | 10 => [6]
  | _ => []
@[simp] def md34 : Nat → Bool
  | _ => false
@[simp] def fp34 : FPol := { inpl := [], exp := false, sites := [250, 400, 500, 2150], mut_ := [], split := false }
/- 35 servitor servitorref23.Same -/
@[simp] def keep35 : Nat → List Nat
  | 0 => [2, 3]
  | 1 => [4]
  | _ => []
@[simp] def md35 : Nat → Bool
  | _ => false
@[simp] def fp35 : FPol := { inpl := [], exp := false, sites := [200, 250], mut_ := [], split := false }
/- 36 servitor servitorref26.Run -/
@[simp] def keep36 : Nat → List Nat
  | 0 => [1, 2, 3, 6]
  | 1 => [3, 6, 7]
  | 2 => [3, 6, 7, 21]
  | 3 => [3, 6, 7]
  | 4 => [3, 6, 7, 47]
  | 5 => [3, 6, 7]
  | 6 => [6]
  | _ => []
@[simp] def md36 : Nat → Bool
  | 4 => true
  | _ => false
@[simp] def fp36 : FPol := { inpl := [], exp := false, sites := [250, 400, 750], mut_ := [], split := false }
/- 37 (*servitor check.checker).forms -/
@[simp] def keep37 : Nat → List Nat
  | 0 => [0]
  | 1 => [0, 3]
  | 2 => [0, 3, 4]
  | 3 => [0, 3, 51]
  | 4 => [2]
  | 5 => [0, 53, 54, 55]
  | 6 => [0, 53, 54, 55, 56]
  | 7 => [0, 5, 6, 53, 54, 55]
  | 8 => [0, 53, 54, 55, 64]
  | 9 => [2]
  | 10 => [0, 53, 54, 55]
  | 11 => [2]
  | _ => []
@[simp] def md37 : Nat → Bool
  | 3 => true
  | _ => false
@[simp] def fp37 : FPol := { inpl := [1, 2], exp := false, sites := [250, 400], mut_ := [], split := false }
/- 38 (*servitor check.checker).stacks -/
@[simp] def keep38 : Nat → List Nat
  | 0 => [0]
  | 1 => [0, 11, 12, 13]
  | 2 => [0, 11, 12, 13, 14]
  | 3 => [0, 4, 11, 12, 13]
  | 4 => [0, 4, 11, 12, 13, 24]
  | 5 => [0, 11, 12, 13]
  | 6 => [0, 11, 12, 13]
  | 7 => [0, 37, 38, 39]
  | 8 => [0, 37, 38, 39, 40]
  | 9 => [0, 5, 6, 37, 38, 39]
  | 10 => [0, 37, 38, 39, 61]
  | 11 => [2]
  | 12 => [0, 37, 38, 39]
  | 13 => [2]
  | _ => []
@[simp] def md38 : Nat → Bool
  | 10 => true
  | _ => false
@[simp] def fp38 : FPol := { inpl := [], exp := false, sites := [300, 400], mut_ := [], split := false }
/- 39 (*servitor check.checker).rounds -/
@[simp] def keep39 : Nat → List Nat
  | 0 => [0]
  | 1 => [0, 3]
  | 2 => [0, 3, 17, 18]
  | 3 => [0, 3, 17, 18, 19]
  | 4 => [0, 3, 4, 17, 18]
  | 5 => [0, 3, 17, 18, 24]
  | 6 => [2]
  | 7 => [0, 3, 17, 18]
  | 8 => [2]
  | _ => []
@[simp] def md39 : Nat → Bool
  | _ => false
@[simp] def fp39 : FPol := { inpl := [1, 2], exp := false, sites := [650], mut_ := [], split := false }
/- 40 servitor servitorref25.single -/
@[simp] def keep40 : Nat → List Nat
  | 0 => [1, 2]
  | 1 => [1, 2, 5]
  | 2 => [1, 2, 5, 13]
  | 3 => [1, 2, 5, 13, 14]
  | 4 => [1, 2, 5, 13, 14]
  | 5 => [4]
  | 6 => [1, 2, 5, 13, 17]
  | 7 => [1, 2, 5, 13, 17]
  | 8 => [1, 2, 5, 13, 17]
  | 9 => [1, 2, 5, 13, 17]
  | 10 => [4]
  | 11 => [1, 2, 5, 13, 26]
  | 12 => [4]
  | 13 => [1, 2, 5, 13, 38]
  | 14 => [1, 2, 5, 13, 38]
  | 15 => [1, 2, 5, 13, 38]
  | 16 => [4]
  | 17 => [1, 2, 5, 13, 69]
  | 18 => [5, 73]
  | 19 => [4]
  | 20 => [4]
  | 21 => [1, 2, 5, 13, 115]
  | 22 => [1, 2, 5, 13, 115]
  | 23 => [4]
  | 24 => [1, 2, 5, 13, 129]
  | 25 => [2, 5, 6]
  | 26 => [4]
  | 27 => [1, 2, 144]
  | 28 => [4]
  | 29 => [4]
  | _ => []
@[simp] def md40 : Nat → Bool
  | 12 => true
  | 16 => true
  | 19 => true
  | 20 => true
  | 26 => true
  | _ => false
@[simp] def fp40 : FPol := { inpl := [], exp := false, sites := [200, 350], mut_ := [], split := false }
/- 41 servitor servitorref25.effect -/
@[simp] def keep41 : Nat → List Nat
  | 0 => [1]
  | 1 => [1, 8]
  | 2 => [1, 8, 9]
  | 3 => [2, 3, 4, 5]
  | 4 => [1, 8, 19]
  | 5 => [2, 3, 4, 5]
  | 6 => [1, 8, 21]
  | 7 => [1, 8, 21]
  | 8 => [1, 8, 21]
  | 9 => [2, 3, 4, 5]
  | 10 => [1, 8, 25]
  | 11 => [1, 8, 25]
  | 12 => [2, 3, 4, 5]
  | 13 => [1, 8, 31]
  | 14 => [2, 3, 4, 5]
  | 15 => [1, 8, 33]
  | 16 => [2, 3, 4, 5]
  | 17 => [1, 8, 35]
  | 18 => [1, 6]
  | 19 => [1, 6, 39]
  | 20 => [1, 6]
  | 21 => [2, 3, 4, 5]
  | 22 => [52]
  | 23 => [2, 3, 4, 5]
  | 24 => [2, 3, 4, 5]
  | _ => []
@[simp] def md41 : Nat → Bool
  | _ => false
@[simp] def fp41 : FPol := { inpl := [], exp := false, sites := [150], mut_ := [], split := false }
/- 42 servitor servitorref25.around -/
@[simp] def keep42 : Nat → List Nat
  | 0 => [1]
  | 1 => [1, 3]
  | 2 => [1, 3, 4]
  | 3 => [1, 3, 4, 5]
  | 4 => [1, 3, 4, 15]
  | 5 => [1, 3, 4, 5]
  | 6 => [1, 3, 4, 5, 6]
  | 7 => [1, 3, 4, 5, 6, 19]
  | 8 => [1, 3, 4, 5, 6]
  | 9 => [1, 3, 4, 5, 6, 7]
  | 10 => [1, 3, 4, 5, 6, 7, 30]
  | 11 => [1, 3, 4, 5, 6, 7, 8]
  | 12 => [1, 3, 4, 5, 6, 7, 8, 40]
  | 13 => [1, 3, 4, 5, 6, 8]
  | 14 => [1, 3, 4, 5, 6, 68]
  | 15 => [1, 3, 4, 6]
  | 16 => [1, 3, 4, 5, 6]
  | 17 => [3, 4, 9]
  | 18 => [3, 4, 9, 74]
  | 19 => [3, 4, 9]
  | 20 => [3, 4, 9, 81]
  | 21 => [2]
  | 22 => [2]
  | _ => []
@[simp] def md42 : Nat → Bool
  | 13 => true
  | _ => false
@[simp] def fp42 : FPol := { inpl := [], exp := false, sites := [150, 450, 800], mut_ := [], split := false }
/- 43 (*servitor tok.reader).gap -/
@[simp] def keep43 : Nat → List Nat
  | 0 => [0]
  | 1 => [0, 3]
  | 2 => [2]
  | 3 => [0, 3, 8]
  | 4 => [2]
  | 5 => [0, 3, 11]
  | 6 => [0]
  | 7 => [0, 3, 27]
  | 8 => [0, 3, 4]
  | 9 => [0, 3, 4, 33]
  | 10 => [0, 4]
  | 11 => [0]
  | 12 => [0, 3, 39]
  | 13 => [0, 5]
  | 14 => [0, 5, 46]
  | 15 => [2]
  | 16 => [0]
  | _ => []
@[simp] def md43 : Nat → Bool
  | 5 => true
  | _ => false
@[simp] def fp43 : FPol := { inpl := [], exp := false, sites := [], mut_ := [], split := false }
/- 44 (*servitor tok.reader).rest -/
@[simp] def keep44 : Nat → List Nat
  | 0 => [0]
  | 1 => [2]
  | _ => []
@[simp] def md44 : Nat → Bool
  | _ => false
@[simp] def fp44 : FPol := { inpl := [], exp := false, sites := [], mut_ := [], split := false }
/- 45 servitor tok.next -/
@[simp] def keep45 : Nat → List Nat
  | 0 => [0, 3, 4]
  | 1 => [0, 3, 4]
  | 2 => [0, 3, 4, 6]
  | 3 => [0, 3, 4, 6, 13]
  | 4 => [4, 5]
  | 5 => [0, 3, 4, 6]
  | 6 => [0, 3, 4, 16]
  | 7 => [0, 3, 4, 6]
  | 8 => [0, 3, 4, 6]
  | 9 => [0, 3, 4, 6, 26]
  | 10 => [0, 3, 4, 6]
  | 11 => [0, 3, 4, 6, 29]
  | 12 => [4, 5]
  | 13 => [0, 3, 4, 31]
  | 14 => [0, 3, 4, 7, 8, 9]
  | 15 => [0, 3, 4, 7, 8, 9, 42]
  | 16 => [4, 5]
  | 17 => [0, 3, 4, 6, 8]
  | 18 => [0, 3, 4, 6]
  | 19 => [3, 4]
  | 20 => [4, 5]
  | _ => []
@[simp] def md45 : Nat → Bool
  | _ => false
@[simp] def fp45 : FPol := { inpl := [], exp := false, sites := [250, 300], mut_ := [], split := false }
/- 46 (*servitor tok.reader).skip -/
@[simp] def keep46 : Nat → List Nat
  | 0 => [0, 4, 5]
  | 1 => [0, 4, 5, 6]
  | 2 => [0, 4, 5]
  | 3 => [0, 4, 5, 23]
  | 4 => [0, 4, 5]
  | 5 => [0, 4, 5]
  | 6 => [0, 4, 5]
  | 7 => [0, 4, 5]
  | _ => []
@[simp] def md46 : Nat → Bool
  | _ => false
@[simp] def fp46 : FPol := { inpl := [], exp := false, sites := [], mut_ := [], split := false }
/- 47 servitor servitorref17.past -/
@[simp] def keep47 : Nat → List Nat
  | 0 => [0, 1]
  | 1 => [0, 1, 10]
  | 2 => [0, 1, 26]
  | 3 => [0, 1]
  | 4 => [0, 1, 31]
  | 5 => [0, 1, 41]
  | 6 => [0, 1]
  | 7 => [0, 1, 47]
  | 8 => [0, 1, 6]
  | 9 => [0, 1, 6, 59]
  | 10 => [0, 1, 6]
  | 11 => [0, 1, 6, 65]
  | 12 => [4, 5]
  | 13 => [0, 1]
  | 14 => [4, 5]
  | _ => []
@[simp] def md47 : Nat → Bool
  | 2 => true
  | 5 => true
  | 9 => true
  | _ => false
@[simp] def fp47 : FPol := { inpl := [], exp := false, sites := [], mut_ := [], split := false }
/- 48 servitor servitorref17.place -/
@[simp] def keep48 : Nat → List Nat
  | 0 => [0, 1, 4]
  | 1 => [0, 1, 4, 5]
  | 2 => [0, 1, 4, 5, 6]
  | 3 => [0, 1, 4, 5, 6, 10]
  | 4 => [0, 1, 4, 5, 6]
  | 5 => [0, 1, 4, 5, 6, 16]
  | 6 => [0, 1, 4, 5, 6]
  | 7 => [0, 1, 4, 5, 6]
  | 8 => [0, 1, 4, 5, 6]
  | 9 => [4]
  | _ => []
@[simp] def md48 : Nat → Bool
  | _ => false
@[simp] def fp48 : FPol := { inpl := [], exp := false, sites := [300, 350], mut_ := [], split := false }
/- 49 servitor servitorref17.alpha -/
@[simp] def keep49 : Nat → List Nat
  | 0 => [0]
  | 1 => [2]
  | _ => []
@[simp] def md49 : Nat → Bool
  | 1 => true
  | _ => false
@[simp] def fp49 : FPol := { inpl := [], exp := false, sites := [], mut_ := [], split := false }
/- 50 servitor servitorref17.body -/
@[simp] def keep50 : Nat → List Nat
  | 0 => [0]
  | 1 => [2]
  | _ => []
@[simp] def md50 : Nat → Bool
  | 1 => true
  | _ => false
@[simp] def fp50 : FPol := { inpl := [], exp := false, sites := [], mut_ := [], split := false }
/- 51 servitor servitorref17.num -/
@[simp] def keep51 : Nat → List Nat
  | 0 => [0]
  | 1 => [2]
  | _ => []
@[simp] def md51 : Nat → Bool
  | _ => false
@[simp] def fp51 : FPol := { inpl := [], exp := false, sites := [], mut_ := [], split := false }
/- 52 servitor servitorref17.number -/
@[simp] def keep52 : Nat → List Nat
  | 0 => [0, 1]
  | 1 => [0, 1, 7]
  | 2 => [0, 1, 7, 15]
  | 3 => [0, 1, 7]
  | 4 => [0, 1, 7, 20]
  | 5 => [0, 1, 7]
  | 6 => [0, 1, 7, 39]
  | 7 => [0, 1, 7]
  | 8 => [0, 1, 7, 8]
  | 9 => [0, 1, 7, 8, 9, 10]
  | 10 => [0, 1, 7, 8, 9, 10, 45]
  | 11 => [0, 1, 7, 8, 9, 10, 11, 12]
  | 12 => [0, 1, 7, 8, 9, 10, 11, 55]
  | 13 => [0, 1, 7, 8, 9, 10, 11]
  | 14 => [0, 1, 7, 8, 9, 10, 11, 61]
  | 15 => [0, 1, 7, 8, 9, 10]
  | 16 => [0, 1, 7, 8, 9, 10]
  | 17 => [0, 1, 7, 8, 9, 10]
  | 18 => [1, 8, 10, 88]
  | 19 => [4, 5, 6]
  | 20 => [1, 8, 90]
  | 21 => [4, 5, 6]
  | 22 => [4, 5, 6]
  | _ => []
@[simp] def md52 : Nat → Bool
  | 6 => true
  | 18 => true
  | _ => false
@[simp] def fp52 : FPol := { inpl := [], exp := false, sites := [], mut_ := [], split := false }
/- 53 servitor servitorref17.sign -/
@[simp] def keep53 : Nat → List Nat
  | 0 => [0, 1]
  | 1 => [0, 1, 29]
  | 2 => [4]
  | 3 => [0, 1, 31, 32, 33]
  | 4 => [0, 1, 31, 32, 33, 34]
  | 5 => [0, 1, 6, 31, 32, 33]
  | 6 => [0, 1, 31, 32, 33, 41]
  | 7 => [4]
  | 8 => [0, 1, 31, 32, 33]
  | 9 => [4]
  | _ => []
@[simp] def md53 : Nat → Bool
  | 1 => true
  | _ => false
@[simp] def fp53 : FPol := { inpl := [], exp := false, sites := [], mut_ := [], split := false }
/- 54 slices.Contains[[]string,string] -/
@[simp] def keep54 : Nat → List Nat
  | 0 => [0, 1]
  | 1 => [4]
  | _ => []
@[simp] def md54 : Nat → Bool
  | _ => false
@[simp] def fp54 : FPol := { inpl := [], exp := false, sites := [], mut_ := [], split := false }
/- 55 strings.Fields -/
@[simp] def keep55 : Nat → List Nat
  | 0 => [0]
  | 1 => [0, 3]
  | 2 => [0, 3, 4]
  | 3 => [0, 3, 4, 5]
  | 4 => [0, 3, 4, 5, 6]
  | 5 => [0, 3, 4, 5, 6, 16]
  | 6 => [0, 3, 4, 5, 6]
  | 7 => [0, 3, 4, 5, 6, 7]
  | 8 => [0, 3, 4, 5, 6, 7]
  | 9 => [0, 3, 4, 5, 6, 8]
  | 10 => [0, 3, 5, 6, 8]
  | 11 => [0, 3, 4, 5, 6]
  | 12 => [0, 3, 37]
  | 13 => [2]
  | 14 => [0, 9]
  | 15 => [0, 9, 10]
  | 16 => [0, 9, 10]
  | 17 => [0, 9, 10, 12]
  | 18 => [0, 9, 10, 12, 53]
  | 19 => [0, 9, 10, 12]
  | 20 => [0, 9, 10, 11, 12]
  | 21 => [0, 9, 10, 11, 12, 60]
  | 22 => [0, 9, 10, 11, 12, 66]
  | 23 => [0, 9, 10, 11, 12]
  | 24 => [0, 9, 10, 12]
  | 25 => [0, 9, 10, 12]
  | 26 => [0, 9, 10, 12]
  | 27 => [0, 9, 10, 12, 91]
  | 28 => [0, 9, 10, 12]
  | 29 => [0, 9, 10, 11, 12]
  | 30 => [0, 9, 10, 11, 98]
  | 31 => [9]
  | 32 => [2]
  | _ => []
@[simp] def md55 : Nat → Bool
  | 18 => true
  | 27 => true
  | _ => false
@[simp] def fp55 : FPol := { inpl := [], exp := false, sites := [2150], mut_ := [], split := false }
/- 56 slices.Clone[[]servitor api.Ins,servitor api.Ins] -/
@[simp] def keep56 : Nat → List Nat
  | 0 => [0]
  | 1 => [0, 4]
  | 2 => [2]
  | 3 => [2]
  | _ => []
@[simp] def md56 : Nat → Bool
  | _ => false
@[simp] def fp56 : FPol := { inpl := [], exp := true, sites := [200, 350], mut_ := [], split := true }
/- 57 servitor peep.round -/
@[simp] def keep57 : Nat → List Nat
  | 0 => [0]
  | 1 => [0, 4]
  | 2 => [0, 4, 5]
  | 3 => [0, 4, 5]
  | 4 => [0, 4, 5, 19]
  | 5 => [2, 3]
  | 6 => [0, 4, 5, 24, 25, 26]
  | 7 => [0, 4, 5, 24, 25, 26, 27]
  | 8 => [0, 4, 5, 6, 7, 24, 25, 26]
  | 9 => [0, 4, 5, 24, 25, 26]
  | 10 => [0, 4, 5, 24, 25, 26]
  | 11 => [0, 4, 5, 45]
  | 12 => [2, 3]
  | 13 => [0, 4, 5, 49, 50, 51]
  | 14 => [0, 4, 5, 49, 50, 51, 52]
  | 15 => [0, 4, 5, 8, 9, 49, 50, 51]
  | 16 => [0, 4, 5, 49, 50, 51]
  | 17 => [0, 4, 5, 49, 50, 51]
  | 18 => [0, 4, 5, 71]
  | 19 => [2, 3]
  | 20 => [2, 3]
  | _ => []
@[simp] def md57 : Nat → Bool
  | _ => false
@[simp] def fp57 : FPol := { inpl := [], exp := false, sites := [550, 800], mut_ := [], split := false }
/- 58 slices.ContainsFunc[[]servitor api.Ins,servitor api.Ins] -/
@[simp] def keep58 : Nat → List Nat
  | 0 => [0, 1]
  | 1 => [4]
  | _ => []
@[simp] def md58 : Nat → Bool
  | _ => false
@[simp] def fp58 : FPol := { inpl := [], exp := false, sites := [], mut_ := [], split := false }
/- 59 servitor image.Put$1 -/
@[simp] def keep59 : Nat → List Nat
  | 0 => [1]
  | 1 => [2]
  | _ => []
@[simp] def md59 : Nat → Bool
  | _ => false
@[simp] def fp59 : FPol := { inpl := [], exp := false, sites := [150], mut_ := [], split := false }
/- 60 servitor image.fits -/
@[simp] def keep60 : Nat → List Nat
  | 0 => [1]
  | 1 => [1, 3, 4, 5, 6, 7]
  | 2 => [2]
  | _ => []
@[simp] def md60 : Nat → Bool
  | 2 => true
  | _ => false
@[simp] def fp60 : FPol := { inpl := [], exp := false, sites := [150], mut_ := [], split := false }
/- 61 servitor image.big -/
@[simp] def keep61 : Nat → List Nat
  | 0 => [0, 1, 2]
  | 1 => [0, 1, 7]
  | 2 => [0, 1, 7, 11]
  | 3 => [0, 1, 7]
  | 4 => [0, 1, 7]
  | 5 => [6]
  | _ => []
@[simp] def md61 : Nat → Bool
  | _ => false
@[simp] def fp61 : FPol := { inpl := [], exp := false, sites := [], mut_ := [], split := false }
/- 62 servitor image.put -/
@[simp] def keep62 : Nat → List Nat
  | 0 => [0, 3]
  | 1 => [0, 3, 5, 6, 7, 8]
  | 2 => [0, 3, 5, 6, 7, 8]
  | 3 => [0, 3, 6, 7, 8, 25]
  | 4 => [0, 3, 6, 7, 8]
  | 5 => [0, 3, 7, 8, 31]
  | 6 => [0, 3, 7, 8]
  | 7 => [0, 3, 8, 37]
  | 8 => [0, 3, 8]
  | 9 => [0, 3, 43]
  | 10 => [0]
  | 11 => [4]
  | _ => []
@[simp] def md62 : Nat → Bool
  | _ => false
@[simp] def fp62 : FPol := { inpl := [], exp := false, sites := [250], mut_ := [], split := false }
/- 63 servitor sum.Of -/
@[simp] def keep63 : Nat → List Nat
  | 0 => [0]
  | 1 => [2]
  | _ => []
@[simp] def md63 : Nat → Bool
  | _ => false
@[simp] def fp63 : FPol := { inpl := [], exp := false, sites := [], mut_ := [], split := false }
/- 64 servitor servitorref31.laid -/
@[simp] def keep64 : Nat → List Nat
  | 0 => [0, 1]
  | 1 => [0, 1, 5]
  | 2 => [0, 5, 6]
  | 3 => [0, 5, 6, 12]
  | 4 => [0, 5, 6]
  | 5 => [0, 5, 6]
  | 6 => [0, 5, 6]
  | 7 => [4]
  | _ => []
@[simp] def md64 : Nat → Bool
  | _ => false
@[simp] def fp64 : FPol := { inpl := [], exp := false, sites := [500], mut_ := [], split := false }
/- 65 servitor servitorref31.Sizes -/
@[simp] def keep65 : Nat → List Nat
  | 0 => [0]
  | 1 => [0]
  | _ => []
@[simp] def md65 : Nat → Bool
  | _ => false
@[simp] def fp65 : FPol := { inpl := [], exp := false, sites := [100], mut_ := [], split := false }
/- 66 servitor servitorref02.Of -/
@[simp] def keep66 : Nat → List Nat
  | 0 => [0]
  | 1 => [2]
  | _ => []
@[simp] def md66 : Nat → Bool
  | _ => false
@[simp] def fp66 : FPol := { inpl := [], exp := false, sites := [], mut_ := [], split := false }
/- 67 servitor image.opened -/
@[simp] def keep67 : Nat → List Nat
  | 0 => [0]
  | 1 => [0, 4]
  | 2 => [0, 4, 8]
  | 3 => [2, 3]
  | 4 => [0, 4, 12]
  | 5 => [2, 3]
  | 6 => [0, 4, 35]
  | 7 => [2, 3]
  | 8 => [2, 3]
  | _ => []
@[simp] def md67 : Nat → Bool
  | 4 => true
  | 6 => true
  | _ => false
@[simp] def fp67 : FPol := { inpl := [], exp := false, sites := [], mut_ := [], split := false }
/- 68 (*servitor image.reader).take -/
@[simp] def keep68 : Nat → List Nat
  | 0 => [0, 1]
  | 1 => [0, 1, 21]
  | 2 => [0, 1]
  | 3 => [0, 1, 29]
  | 4 => [4]
  | 5 => [0, 1, 5]
  | 6 => [0, 1, 5, 35, 36, 37]
  | 7 => [0, 1, 5, 35, 36, 37, 38]
  | 8 => [0, 1, 5, 7, 35, 36, 37]
  | 9 => [0, 1, 5, 35, 36, 37]
  | 10 => [0, 1, 5, 35, 36, 37]
  | 11 => [5]
  | 12 => [4]
  | _ => []
@[simp] def md68 : Nat → Bool
  | _ => false
@[simp] def fp68 : FPol := { inpl := [], exp := false, sites := [], mut_ := [], split := false }
/- 69 (*servitor image.reader).ins -/
@[simp] def keep69 : Nat → List Nat
  | 0 => [0, 2]
  | 1 => [0, 2, 3]
  | 2 => [0, 2, 3, 4, 5, 6, 7, 8]
  | 3 => [0, 2, 3, 4, 5, 6, 7, 30]
  | 4 => [0, 2, 3, 4, 5, 6, 7]
  | 5 => [0, 2, 3, 5, 6, 7, 34]
  | 6 => [0, 2, 3, 5, 6, 7]
  | 7 => [0, 2, 3, 6, 7, 39]
  | 8 => [0, 2, 3, 6, 7]
  | 9 => [0, 2, 3, 7, 44]
  | 10 => [0, 2, 3, 7]
  | 11 => [0, 2, 3, 49]
  | 12 => [2, 3]
  | 13 => [2]
  | _ => []
@[simp] def md69 : Nat → Bool
  | _ => false
@[simp] def fp69 : FPol := { inpl := [], exp := false, sites := [200, 250], mut_ := [], split := false }
/- 70 slices.Clone[[]int64,int64] -/
@[simp] def keep70 : Nat → List Nat
  | 0 => [0]
  | 1 => [0, 4]
  | 2 => [2]
  | 3 => [2]
  | _ => []
@[simp] def md70 : Nat → Bool
  | _ => false
@[simp] def fp70 : FPol := { inpl := [], exp := true, sites := [200, 350], mut_ := [], split := true }
/- 71 (*servitor vm.machine).moves -/
@[simp] def keep71 : Nat → List Nat
  | 0 => [0, 3]
  | 1 => [0, 3, 12]
  | 2 => [4]
  | 3 => [0, 3, 12, 13]
  | 4 => []
  | 5 => [0, 3, 12, 19]
  | 6 => []
  | 7 => [0, 3, 12, 31]
  | 8 => []
  | 9 => [0, 3, 12, 45]
  | 10 => [0, 3, 12, 45]
  | 11 => [0, 3, 5, 6]
  | 12 => []
  | 13 => [0, 3, 5, 67]
  | 14 => [0, 5, 70]
  | 15 => []
  | 16 => [0, 3, 12, 83]
  | 17 => [0, 3, 7]
  | 18 => []
  | 19 => [0, 3, 95]
  | 20 => [0, 3, 8]
  | 21 => [0, 8, 9, 10]
  | 22 => [0, 8, 9, 107]
  | 23 => []
  | 24 => [4]
  | _ => []
@[simp] def md71 : Nat → Bool
  | _ => false
@[simp] def fp71 : FPol := { inpl := [], exp := false, sites := [250], mut_ := [], split := false }
/- 72 (*servitor vm.machine).control -/
@[simp] def keep72 : Nat → List Nat
  | 0 => [0, 3]
  | 1 => [0, 3, 7]
  | 2 => [0, 3, 7, 8]
  | 3 => []
  | 4 => [0, 3, 7, 13]
  | 5 => []
  | 6 => [0, 3, 7, 20]
  | 7 => [0, 3, 24]
  | 8 => []
  | 9 => [0, 3, 7, 30]
  | 10 => [0, 36]
  | 11 => []
  | 12 => []
  | 13 => [0, 3, 7, 47]
  | 14 => [0, 3, 4]
  | 15 => []
  | 16 => [0, 3, 7, 75]
  | 17 => []
  | 18 => [0, 3, 83]
  | 19 => [0, 3, 5]
  | 20 => []
  | _ => []
@[simp] def md72 : Nat → Bool
  | _ => false
@[simp] def fp72 : FPol := { inpl := [], exp := false, sites := [250], mut_ := [], split := false }
/- 73 servitor servitorref16.Same -/
@[simp] def keep73 : Nat → List Nat
  | 0 => [0, 1]
  | 1 => [0, 1, 10]
  | 2 => [4]
  | 3 => [0, 1, 5]
  | 4 => [0, 1, 5, 14]
  | 5 => [0, 1, 5]
  | 6 => [0, 1, 5, 25]
  | 7 => [4]
  | 8 => [4]
  | _ => []
@[simp] def md73 : Nat → Bool
  | _ => false
@[simp] def fp73 : FPol := { inpl := [], exp := false, sites := [], mut_ := [], split := false }
/- 74 (*servitor servitorref26.state).step -/
@[simp] def keep74 : Nat → List Nat
  | 0 => [0, 3]
  | 1 => [0, 3]
  | 2 => [0, 3, 26]
  | 3 => [0, 3, 26, 27]
  | 4 => []
  | 5 => [0, 3, 26, 33]
  | 6 => []
  | 7 => [0, 3, 26, 45]
  | 8 => []
  | 9 => [0, 3, 26, 59]
  | 10 => [0, 3, 26, 59]
  | 11 => [0, 3, 26, 59]
  | 12 => [0, 3, 4]
  | 13 => [0, 3, 4, 65]
  | 14 => [0, 3, 4]
  | 15 => [0, 3, 4, 5]
  | 16 => [0, 3, 4, 5, 83]
  | 17 => []
  | 18 => [0, 3, 4, 6]
  | 19 => [0, 4, 6, 95]
  | 20 => []
  | 21 => [0, 4, 6, 95, 103]
  | 22 => []
  | 23 => [0, 4, 6, 114]
  | 24 => []
  | 25 => [0, 3, 26, 127]
  | 26 => []
  | 27 => [0, 3, 26, 140]
  | 28 => [0, 3, 7]
  | 29 => [0, 3, 7, 144]
  | 30 => [0, 3, 7]
  | 31 => [0, 8, 10]
  | 32 => [0, 8]
  | 33 => []
  | 34 => [0, 3, 26, 165]
  | 35 => []
  | 36 => [0, 3, 26, 172]
  | 37 => [0, 3, 178]
  | 38 => []
  | 39 => [0, 3, 26, 184]
  | 40 => [0, 190]
  | 41 => []
  | 42 => []
  | 43 => [0, 3, 26, 201]
  | 44 => [0, 3, 11]
  | 45 => [0, 3, 11, 12]
  | 46 => [0, 3, 11, 12, 13]
  | 47 => [0, 3, 11, 12, 13, 225]
  | 48 => [0, 3, 11, 12, 13]
  | 49 => [0, 3, 11, 12, 13]
  | 50 => [0, 3, 26, 241]
  | 51 => [0, 14, 15, 16]
  | 52 => [0, 14, 15, 269]
  | 53 => [0, 14, 15]
  | 54 => []
  | 55 => [0, 3, 278]
  | 56 => [0, 3, 17]
  | 57 => []
  | _ => []
@[simp] def md74 : Nat → Bool
  | _ => false
@[simp] def fp74 : FPol := { inpl := [], exp := false, sites := [250], mut_ := [], split := false }
/- 75 (*servitor check.checker).form -/
@[simp] def keep75 : Nat → List Nat
  | 0 => [0, 1, 5]
  | 1 => [0, 1, 5, 7]
  | 2 => [0, 1, 5, 7, 17]
  | 3 => [0, 1, 5, 7, 17, 18]
  | 4 => [0, 1, 5, 7, 17, 18]
  | 5 => [6]
  | 6 => [0, 1, 5, 7, 17, 21]
  | 7 => [0, 1, 5, 7, 17, 21]
  | 8 => [0, 1, 5, 7, 17, 21]
  | 9 => [0, 1, 5, 7, 17, 21]
  | 10 => [6]
  | 11 => [0, 1, 5, 7, 17, 30]
  | 12 => [6]
  | 13 => [0, 1, 5, 7, 17, 42]
  | 14 => [0, 1, 5, 7, 17, 42]
  | 15 => [0, 1, 5, 7, 17, 42]
  | 16 => [6]
  | 17 => [0, 1, 5, 7, 17, 49]
  | 18 => [6]
  | 19 => [0, 1, 5, 7, 17, 53]
  | 20 => [0, 1, 5, 7, 17, 53]
  | 21 => [6]
  | 22 => [0, 1, 5, 7, 17, 65]
  | 23 => [0, 5, 8]
  | 24 => [6]
  | 25 => [1, 7, 80]
  | 26 => [6]
  | 27 => [6]
  | _ => []
@[simp] def md75 : Nat → Bool
  | 12 => true
  | 24 => true
  | _ => false
@[simp] def fp75 : FPol := { inpl := [1, 2], exp := false, sites := [350], mut_ := [], split := false }
/- 76 (*servitor check.checker).empty -/
@[simp] def keep76 : Nat → List Nat
  | 0 => [0]
  | 1 => [2]
  | _ => []
@[simp] def md76 : Nat → Bool
  | _ => false
@[simp] def fp76 : FPol := { inpl := [1, 2], exp := false, sites := [], mut_ := [], split := false }
/- 77 (*servitor check.checker).moves -/
@[simp] def keep77 : Nat → List Nat
  | 0 => [0, 3]
  | 1 => [0, 3, 7]
  | 2 => [0, 3, 7, 8]
  | 3 => [4]
  | 4 => [0, 3, 7, 20]
  | 5 => [4]
  | 6 => [0, 3, 7, 24]
  | 7 => [0, 3, 7, 24]
  | 8 => [0, 3, 7, 24]
  | 9 => [4]
  | 10 => [0, 3, 7, 30]
  | 11 => [4]
  | 12 => [0, 3, 7, 38]
  | 13 => [4]
  | 14 => [0, 3, 7, 46]
  | 15 => [4]
  | 16 => [0, 3, 7, 50]
  | 17 => [4]
  | 18 => [0, 3, 7, 54]
  | 19 => [0, 3, 5]
  | 20 => [0, 3, 5, 63]
  | 21 => [0, 3, 5]
  | 22 => [4]
  | 23 => [0, 82]
  | 24 => [4]
  | 25 => [4]
  | _ => []
@[simp] def md77 : Nat → Bool
  | 11 => true
  | 13 => true
  | 22 => true
  | 24 => true
  | _ => false
@[simp] def fp77 : FPol := { inpl := [2], exp := false, sites := [250], mut_ := [], split := false }
/- 78 (*servitor check.checker).round -/
@[simp] def keep78 : Nat → List Nat
  | 0 => [0, 1, 2]
  | 1 => [0, 1, 2, 13]
  | 2 => [6]
  | 3 => [0, 1, 2]
  | 4 => [0, 1, 2, 31]
  | 5 => [0, 1, 2, 41, 42, 43]
  | 6 => [0, 1, 2, 41, 42, 43, 44]
  | 7 => [0, 1, 2, 8, 41, 42, 43]
  | 8 => [0, 1, 2, 41, 42, 43, 62]
  | 9 => [6]
  | 10 => [0, 1, 2, 41, 42, 43]
  | 11 => []
  | 12 => [6]
  | _ => []
@[simp] def md78 : Nat → Bool
  | 8 => true
  | _ => false
@[simp] def fp78 : FPol := { inpl := [1, 2, 3], exp := false, sites := [], mut_ := [2], split := false }
/- 79 servitor servitorref25.there -/
@[simp] def keep79 : Nat → List Nat
  | 0 => [1, 2, 3]
  | 1 => [6]
  | _ => []
@[simp] def md79 : Nat → Bool
  | _ => false
@[simp] def fp79 : FPol := { inpl := [], exp := false, sites := [250], mut_ := [], split := false }
/- 80 servitor servitorref16.Pins -/
@[simp] def keep80 : Nat → List Nat
  | 0 => [0]
  | 1 => [0, 14]
  | 2 => [2]
  | 3 => [0, 3]
  | 4 => [0, 3, 4]
  | 5 => [0, 3, 4, 19]
  | 6 => [0, 3, 4]
  | 7 => [0, 3, 4, 28]
  | 8 => [3, 4, 5]
  | 9 => [3, 4, 5, 6]
  | 10 => [3, 4, 5, 6, 36]
  | 11 => [3, 4, 5, 6]
  | 12 => [3, 4, 5, 6, 7]
  | 13 => [3, 4, 5, 6, 7, 8]
  | 14 => [3, 4, 5, 6, 7, 8, 52]
  | 15 => [3, 4, 5, 6, 7, 8]
  | 16 => [3, 4, 5, 6, 7, 8, 55]
  | 17 => [3, 4, 5, 6, 7, 8]
  | 18 => [3, 4, 5, 6, 8]
  | 19 => [3, 4, 5, 6]
  | 20 => [2]
  | 21 => [2]
  | _ => []
@[simp] def md80 : Nat → Bool
  | _ => false
@[simp] def fp80 : FPol := { inpl := [], exp := false, sites := [350, 500], mut_ := [], split := false }
/- 81 strings.HasPrefix -/
@[simp] def keep81 : Nat → List Nat
  | 0 => [0, 1]
  | 1 => [4]
  | _ => []
@[simp] def md81 : Nat → Bool
  | _ => false
@[simp] def fp81 : FPol := { inpl := [], exp := false, sites := [], mut_ := [], split := false }
/- 82 strings.IndexByte -/
@[simp] def keep82 : Nat → List Nat
  | 0 => [0, 1]
  | 1 => [4]
  | _ => []
@[simp] def md82 : Nat → Bool
  | _ => false
@[simp] def fp82 : FPol := { inpl := [], exp := false, sites := [], mut_ := [], split := false }
/- 83 strings.Index -/
@[simp] def keep83 : Nat → List Nat
  | 0 => [0, 1]
  | 1 => [4]
  | _ => []
@[simp] def md83 : Nat → Bool
  | _ => false
@[simp] def fp83 : FPol := { inpl := [], exp := false, sites := [], mut_ := [], split := false }
/- 84 servitor tok.letter -/
@[simp] def keep84 : Nat → List Nat
  | 0 => [0]
  | 1 => [2]
  | _ => []
@[simp] def md84 : Nat → Bool
  | 1 => true
  | _ => false
@[simp] def fp84 : FPol := { inpl := [], exp := false, sites := [], mut_ := [], split := false }
/- 85 servitor tok.while -/
@[simp] def keep85 : Nat → List Nat
  | 0 => [0, 1]
  | 1 => [0, 1, 5]
  | 2 => [0, 1, 5, 16]
  | 3 => [0, 1, 5]
  | 4 => [4]
  | _ => []
@[simp] def md85 : Nat → Bool
  | 2 => true
  | _ => false
@[simp] def fp85 : FPol := { inpl := [], exp := false, sites := [], mut_ := [], split := false }
/- 86 servitor tok.inner -/
@[simp] def keep86 : Nat → List Nat
  | 0 => [0]
  | 1 => [2]
  | _ => []
@[simp] def md86 : Nat → Bool
  | 1 => true
  | _ => false
@[simp] def fp86 : FPol := { inpl := [], exp := false, sites := [], mut_ := [], split := false }
/- 87 servitor tok.digit -/
@[simp] def keep87 : Nat → List Nat
  | 0 => [0]
  | 1 => [2]
  | _ => []
@[simp] def md87 : Nat → Bool
  | _ => false
@[simp] def fp87 : FPol := { inpl := [], exp := false, sites := [], mut_ := [], split := false }
/- 88 servitor tok.number -/
@[simp] def keep88 : Nat → List Nat
  | 0 => [0]
  | 1 => [0, 5, 6]
  | 2 => [0, 5, 6, 16, 17, 18]
  | 3 => [0, 5, 6, 16, 17, 18, 19]
  | 4 => [0, 5, 6, 8, 16, 17, 18]
  | 5 => [0, 5, 6, 8, 16, 17, 18, 25]
  | 6 => [0, 5, 6, 16, 17, 18]
  | 7 => [0, 5, 6, 16, 17, 18]
  | 8 => [0, 5, 6, 9]
  | 9 => [0, 5, 6, 9, 59]
  | 10 => [2, 3, 4]
  | 11 => [0, 5, 6, 9, 10]
  | 12 => [0, 5, 9, 10, 11]
  | 13 => [0, 5, 9, 10, 11, 63]
  | 14 => [0, 5, 9, 10, 11]
  | 15 => [0, 5, 9, 10, 11, 12]
  | 16 => [0, 5, 9, 10, 11, 12, 75]
  | 17 => [2, 3, 4]
  | 18 => [0, 5, 9, 10, 11]
  | 19 => [2, 3, 4]
  | _ => []
@[simp] def md88 : Nat → Bool
  | 9 => true
  | _ => false
@[simp] def fp88 : FPol := { inpl := [], exp := false, sites := [350, 500], mut_ := [], split := false }
/- 89 servitor tok.sign -/
@[simp] def keep89 : Nat → List Nat
  | 0 => [0]
  | 1 => [0, 5, 6, 7]
  | 2 => [0, 5, 6, 7, 8]
  | 3 => [0, 4, 5, 6, 7]
  | 4 => [0, 5, 6, 7, 13]
  | 5 => [2]
  | 6 => [0, 5, 6, 7]
  | 7 => [18]
  | 8 => [2]
  | 9 => [2]
  | _ => []
@[simp] def md89 : Nat → Bool
  | _ => false
@[simp] def fp89 : FPol := { inpl := [], exp := false, sites := [], mut_ := [], split := false }
/- 90 servitor servitorref17.two -/
@[simp] def keep90 : Nat → List Nat
  | 0 => [0, 1, 2, 3]
  | 1 => [8]
  | _ => []
@[simp] def md90 : Nat → Bool
  | 1 => true
  | _ => false
@[simp] def fp90 : FPol := { inpl := [], exp := false, sites := [], mut_ := [], split := false }
/- 91 servitor servitorref17.digit -/
@[simp] def keep91 : Nat → List Nat
  | 0 => [0, 1]
  | 1 => [0, 1, 6]
  | 2 => [0, 1, 6, 8]
  | 3 => [0, 1, 6]
  | 4 => [0, 1, 6, 17]
  | 5 => [1, 6]
  | 6 => [4, 5]
  | _ => []
@[simp] def md91 : Nat → Bool
  | _ => false
@[simp] def fp91 : FPol := { inpl := [], exp := false, sites := [], mut_ := [], split := false }
/- 92 slices.Index[[]string,string] -/
@[simp] def keep92 : Nat → List Nat
  | 0 => [0, 1]
  | 1 => [0, 1, 7, 8]
  | 2 => [0, 1, 7, 8, 9]
  | 3 => [0, 1, 5, 7, 8]
  | 4 => [0, 1, 5, 7, 8, 16]
  | 5 => [4]
  | 6 => [0, 1, 7, 8]
  | 7 => [4]
  | _ => []
@[simp] def md92 : Nat → Bool
  | _ => false
@[simp] def fp92 : FPol := { inpl := [], exp := false, sites := [], mut_ := [], split := false }
/- 93 strings.FieldsFunc -/
@[simp] def keep93 : Nat → List Nat
  | 0 => [0, 1]
  | 1 => [0, 1, 5]
  | 2 => [0, 1, 5, 6]
  | 3 => [0, 1, 5, 6, 14]
  | 4 => [0, 1, 5, 6, 14, 15, 16]
  | 5 => [0, 1, 5, 6, 7, 8, 14]
  | 6 => [0, 1, 5, 6, 7, 14, 21]
  | 7 => [0, 1, 5, 6, 7, 14, 23]
  | 8 => [0, 1, 5, 6, 14]
  | 9 => [0, 1, 5, 6, 14]
  | 10 => [0, 1, 5, 6, 7, 14, 33]
  | 11 => [0, 1, 5, 6, 14]
  | 12 => [0, 5, 6, 36]
  | 13 => [0, 5]
  | 14 => [0, 5, 9]
  | 15 => [0, 9, 47, 48, 49]
  | 16 => [0, 9, 47, 48, 49, 50]
  | 17 => [0, 9, 10, 11, 47, 48, 49]
  | 18 => [0, 9, 47, 48, 49]
  | 19 => [0, 9, 47, 48, 49]
  | 20 => [4]
  | _ => []
@[simp] def md93 : Nat → Bool
  | _ => false
@[simp] def fp93 : FPol := { inpl := [], exp := false, sites := [650, 700, 2400], mut_ := [], split := false }
/- 94 unicode.IsSpace -/
@[simp] def keep94 : Nat → List Nat
  | 0 => [0]
  | 1 => [0, 5]
  | 2 => [6]
  | 3 => [6, 7]
  | 4 => [6, 7]
  | 5 => [6, 7]
  | 6 => [6, 7]
  | 7 => [6, 7]
  | 8 => [6, 7]
  | 9 => [6, 7]
  | 10 => [7]
  | 11 => [2]
  | 12 => [2]
  | 13 => [2]
  | _ => []
@[simp] def md94 : Nat → Bool
  | _ => false
@[simp] def fp94 : FPol := { inpl := [], exp := false, sites := [], mut_ := [], split := false }
/- 95 servitor peep.threaded -/
@[simp] def keep95 : Nat → List Nat
  | 0 => [0]
  | 1 => [0, 3]
  | 2 => [0, 3, 6, 7]
  | 3 => [0, 3, 6, 7, 8]
  | 4 => [0, 3, 4, 6, 7]
  | 5 => [0, 3, 4, 6, 7, 43]
  | 6 => [0, 4, 6, 7]
  | 7 => [0, 3, 4, 6, 7]
  | 8 => [0, 3, 6, 7]
  | 9 => [2]
  | _ => []
@[simp] def md95 : Nat → Bool
  | 5 => true
  | _ => false
@[simp] def fp95 : FPol := { inpl := [], exp := false, sites := [], mut_ := [], split := false }
/- 96 servitor peep.tested -/
@[simp] def keep96 : Nat → List Nat
  | 0 => [0, 1, 4]
  | 1 => [0, 1, 4, 9]
  | 2 => [0, 1, 4]
  | 3 => [0, 1, 4, 42]
  | 4 => [0, 1, 4]
  | 5 => [0, 1, 4, 52]
  | 6 => [0, 1, 4]
  | 7 => [0, 1, 4]
  | _ => []
@[simp] def md96 : Nat → Bool
  | 3 => true
  | _ => false
@[simp] def fp96 : FPol := { inpl := [], exp := false, sites := [], mut_ := [], split := false }
/- 97 slices.Contains[[]bool,bool] -/
@[simp] def keep97 : Nat → List Nat
  | 0 => [0, 1]
  | 1 => [4]
  | _ => []
@[simp] def md97 : Nat → Bool
  | _ => false
@[simp] def fp97 : FPol := { inpl := [], exp := false, sites := [], mut_ := [], split := false }
/- 98 servitor peep.without -/
@[simp] def keep98 : Nat → List Nat
  | 0 => [0, 1]
  | 1 => [0, 1, 5]
  | 2 => [0, 1, 5, 6]
  | 3 => [0, 1, 5, 6, 16, 17]
  | 4 => [0, 1, 5, 6, 16, 17, 18]
  | 5 => [0, 1, 5, 6, 7, 16, 17]
  | 6 => [0, 1, 5, 6, 7, 16, 17]
  | 7 => [0, 1, 5, 6, 16, 17, 28]
  | 8 => [0, 1, 5, 6, 16, 17]
  | 9 => [0, 1, 5, 6, 16, 17]
  | 10 => [0, 1, 5]
  | 11 => [0, 1, 5, 8]
  | 12 => [1, 5, 8, 37, 38, 39]
  | 13 => [1, 5, 8, 37, 38, 39, 40]
  | 14 => [1, 5, 8, 9, 10, 37, 38, 39]
  | 15 => [1, 5, 8, 10, 37, 38, 39, 47]
  | 16 => [1, 5, 8, 10, 37, 38, 39, 49]
  | 17 => [1, 5, 8, 10, 37, 38, 39]
  | 18 => [1, 5, 8, 37, 38, 39]
  | 19 => [1, 5, 8, 37, 38, 39]
  | 20 => [4]
  | _ => []
@[simp] def md98 : Nat → Bool
  | _ => false
@[simp] def fp98 : FPol := { inpl := [], exp := false, sites := [500, 600, 800], mut_ := [], split := false }
/- 99 servitor peep.reached -/
@[simp] def keep99 : Nat → List Nat
  | 0 => [0]
  | 1 => [0, 3]
  | 2 => [0, 3, 4]
  | 3 => [0, 3, 4, 12]
  | 4 => [0, 3, 4, 5]
  | 5 => [0, 3, 4, 5]
  | 6 => [0, 3, 4, 5, 27]
  | 7 => [0, 3, 4, 5]
  | 8 => [0, 3, 4, 5, 35]
  | 9 => [0, 3, 4, 5]
  | 10 => [0, 3, 4, 5, 57]
  | 11 => [0, 3, 4]
  | 12 => [2]
  | _ => []
@[simp] def md99 : Nat → Bool
  | 10 => true
  | _ => false
@[simp] def fp99 : FPol := { inpl := [], exp := false, sites := [500], mut_ := [], split := false }
/- 100 slices.IndexFunc[[]servitor api.Ins,servitor api.Ins] -/
@[simp] def keep100 : Nat → List Nat
  | 0 => [0, 1]
  | 1 => [0, 1, 7, 8]
  | 2 => [0, 1, 7, 8, 9]
  | 3 => [0, 1, 5, 7, 8]
  | 4 => [0, 1, 5, 7, 8, 16]
  | 5 => [4]
  | 6 => [0, 1, 7, 8]
  | 7 => [4]
  | _ => []
@[simp] def md100 : Nat → Bool
  | _ => false
@[simp] def fp100 : FPol := { inpl := [], exp := false, sites := [], mut_ := [], split := false }
/- 101 servitor image.has -/
@[simp] def keep101 : Nat → List Nat
  | 0 => [0]
  | 1 => [7]
  | 2 => [7, 8]
  | 3 => [2, 3, 4, 5, 6]
  | 4 => [7, 10]
  | 5 => [7, 10]
  | 6 => [7, 10]
  | 7 => [7, 10]
  | 8 => [7, 10]
  | 9 => [2, 3, 4, 5, 6]
  | 10 => [7, 16]
  | 11 => [7, 16]
  | 12 => [7, 16]
  | 13 => [7, 16]
  | 14 => [2, 3, 4, 5, 6]
  | 15 => [7, 21]
  | 16 => [7, 21]
  | 17 => [7, 21]
  | 18 => [2, 3, 4, 5, 6]
  | 19 => [7, 25]
  | 20 => [25]
  | 21 => [2, 3, 4, 5, 6]
  | 22 => [2, 3, 4, 5, 6]
  | _ => []
@[simp] def md101 : Nat → Bool
  | _ => false
@[simp] def fp101 : FPol := { inpl := [], exp := false, sites := [], mut_ := [], split := false }
/- 102 servitor sum.Go -/
@[simp] def keep102 : Nat → List Nat
  | 0 => [0, 1]
  | 1 => [0, 8, 9, 10]
  | 2 => [0, 8, 9, 10, 11]
  | 3 => [0, 6, 8, 9, 10]
  | 4 => [0, 8, 9, 10]
  | 5 => [0, 8, 9, 10, 19]
  | 6 => [0, 8, 9, 10, 19, 20]
  | 7 => [0, 7, 8, 9, 10, 19]
  | 8 => [0, 8, 9, 10, 19]
  | 9 => [0, 8, 9, 10, 19]
  | 10 => [0, 8, 9, 10]
  | 11 => [4]
  | _ => []
@[simp] def md102 : Nat → Bool
  | _ => false
@[simp] def fp102 : FPol := { inpl := [], exp := false, sites := [], mut_ := [], split := false }
/- 103 servitor servitorref02.Go -/
@[simp] def keep103 : Nat → List Nat
  | 0 => [0, 1]
  | 1 => [0, 1, 5]
  | 2 => [0, 1, 5, 6]
  | 3 => [0, 1, 5, 6, 14]
  | 4 => [0, 1, 5, 6]
  | 5 => [0, 1, 5, 6]
  | 6 => [1, 5, 7]
  | 7 => [1, 5, 7, 29]
  | 8 => [1, 5, 7]
  | 9 => [1, 5, 7, 8]
  | 10 => [1, 5, 7, 8, 33]
  | 11 => [1, 5, 7, 8]
  | 12 => [1, 5, 7, 8, 9]
  | 13 => [1, 5, 7, 8, 9, 10]
  | 14 => [1, 5, 7, 8, 9, 10, 49]
  | 15 => [1, 5, 7, 8, 9, 10]
  | 16 => [1, 5, 7, 8, 9, 10]
  | 17 => [1, 5, 7, 8, 9]
  | 18 => [1, 5, 7, 8, 59]
  | 19 => [1, 5, 7, 8]
  | 20 => [5, 11]
  | 21 => [5, 11, 12]
  | 22 => [5, 11, 12, 73]
  | 23 => [5, 11, 12]
  | 24 => [5, 11, 12]
  | 25 => [5, 11, 12, 80]
  | 26 => [5, 11, 12]
  | 27 => [4]
  | _ => []
@[simp] def md103 : Nat → Bool
  | _ => false
@[simp] def fp103 : FPol := { inpl := [], exp := false, sites := [350], mut_ := [], split := false }
/- 104 (*servitor vm.machine).push -/
@[simp] def keep104 : Nat → List Nat
  | 0 => [0]
  | 1 => []
  | _ => []
@[simp] def md104 : Nat → Bool
  | _ => false
@[simp] def fp104 : FPol := { inpl := [], exp := false, sites := [], mut_ := [], split := false }
/- 105 servitor vm.truth -/
@[simp] def keep105 : Nat → List Nat
  | 0 => [0]
  | 1 => [3]
  | 2 => [2]
  | 3 => [2]
  | _ => []
@[simp] def md105 : Nat → Bool
  | _ => false
@[simp] def fp105 : FPol := { inpl := [], exp := false, sites := [], mut_ := [], split := false }
/- 106 (*servitor vm.machine).place -/
@[simp] def keep106 : Nat → List Nat
  | 0 => [0, 2, 4]
  | 1 => [0, 2, 4, 17]
  | 2 => []
  | 3 => [6, 7]
  | 4 => [6, 7]
  | _ => []
@[simp] def md106 : Nat → Bool
  | _ => false
@[simp] def fp106 : FPol := { inpl := [], exp := false, sites := [300], mut_ := [], split := false }
/- 107 (*servitor vm.machine).pop -/
@[simp] def keep107 : Nat → List Nat
  | 0 => [0]
  | 1 => [0]
  | 2 => [2]
  | _ => []
@[simp] def md107 : Nat → Bool
  | _ => false
@[simp] def fp107 : FPol := { inpl := [], exp := false, sites := [], mut_ := [], split := false }
/- 108 (*servitor vm.machine).does -/
@[simp] def keep108 : Nat → List Nat
  | 0 => [0, 3]
  | 1 => [0, 3, 4]
  | 2 => [0, 3, 4, 16]
  | 3 => [0, 3, 4]
  | 4 => [0, 3, 4, 5]
  | 5 => [0, 3, 5]
  | 6 => [0, 6, 8]
  | 7 => [0, 6, 8, 52]
  | 8 => []
  | 9 => []
  | _ => []
@[simp] def md108 : Nat → Bool
  | _ => false
@[simp] def fp108 : FPol := { inpl := [], exp := false, sites := [250], mut_ := [], split := false }
/- 109 servitor std.Pins -/
@[simp] def keep109 : Nat → List Nat
  | 0 => [0]
  | 1 => [3, 4]
  | 2 => [3, 12]
  | 3 => [2]
  | 4 => [3, 5]
  | 5 => [5, 21, 22]
  | 6 => [5, 21, 22, 23]
  | 7 => [5, 21, 22]
  | 8 => [5, 21, 22]
  | 9 => [2]
  | _ => []
@[simp] def md109 : Nat → Bool
  | _ => false
@[simp] def fp109 : FPol := { inpl := [], exp := false, sites := [250, 851], mut_ := [], split := false }
/- 110 servitor std.Step -/
@[simp] def keep110 : Nat → List Nat
  | 0 => [0, 1]
  | 1 => [0, 5]
  | 2 => [0, 5, 13]
  | 3 => [4]
  | 4 => [0, 5, 15]
  | 5 => [0, 5, 15, 16]
  | 6 => [0, 5, 15, 16]
  | 7 => [0, 5, 15, 16]
  | 8 => [5]
  | 9 => [0, 5, 15, 23]
  | 10 => [0, 5, 15, 23]
  | 11 => [5]
  | 12 => [5, 15, 29]
  | 13 => [5]
  | 14 => [5]
  | 15 => [5, 15, 51]
  | 16 => [5]
  | 17 => [5]
  | 18 => [5, 15, 73]
  | 19 => [5]
  | 20 => [5, 94]
  | 21 => [5]
  | 22 => [4]
  | _ => []
@[simp] def md110 : Nat → Bool
  | 13 => true
  | 16 => true
  | 19 => true
  | 21 => true
  | _ => false
@[simp] def fp110 : FPol := { inpl := [], exp := false, sites := [], mut_ := [], split := false }
/- 111 (*servitor vm.machine).upTo -/
@[simp] def keep111 : Nat → List Nat
  | 0 => [0, 3]
  | 1 => [5, 6, 7]
  | 2 => [4]
  | _ => []
@[simp] def md111 : Nat → Bool
  | 2 => true
  | _ => false
@[simp] def fp111 : FPol := { inpl := [], exp := false, sites := [250], mut_ := [], split := false }
/- 112 (*servitor servitorref26.state).put -/
@[simp] def keep112 : Nat → List Nat
  | 0 => []
  | _ => []
@[simp] def md112 : Nat → Bool
  | _ => false
@[simp] def fp112 : FPol := { inpl := [], exp := false, sites := [], mut_ := [], split := false }
/- 113 servitor servitorref26.yes -/
@[simp] def keep113 : Nat → List Nat
  | 0 => [0]
  | 1 => [3]
  | 2 => [2]
  | 3 => [2]
  | _ => []
@[simp] def md113 : Nat → Bool
  | _ => false
@[simp] def fp113 : FPol := { inpl := [], exp := false, sites := [], mut_ := [], split := false }
/- 114 (*servitor servitorref26.state).cut -/
@[simp] def keep114 : Nat → List Nat
  | 0 => [0, 1]
  | 1 => [0, 5]
  | 2 => [0, 5, 6]
  | 3 => [6]
  | 4 => [4]
  | _ => []
@[simp] def md114 : Nat → Bool
  | _ => false
@[simp] def fp114 : FPol := { inpl := [], exp := false, sites := [], mut_ := [], split := false }
/- 115 servitor servitorref21.Op -/
@[simp] def keep115 : Nat → List Nat
  | 0 => [0, 1, 2]
  | 1 => [0, 1, 2, 9]
  | 2 => [0, 1, 2, 9, 22]
  | 3 => [0, 1, 2, 9]
  | 4 => [0, 1, 2, 9, 39]
  | 5 => [6, 7, 8]
  | 6 => [0, 1, 2, 42]
  | 7 => [0, 1, 2, 47]
  | 8 => [6, 7, 8]
  | 9 => [1, 57]
  | 10 => [6, 7, 8]
  | 11 => [10, 11]
  | 12 => [10, 66]
  | 13 => [6, 7, 8]
  | 14 => [6, 7, 8]
  | 15 => [0, 1, 2, 78]
  | 16 => [6, 7, 8]
  | 17 => [0, 2, 12, 13]
  | 18 => [0, 12, 13, 85]
  | 19 => [0, 12, 13]
  | 20 => [12, 13, 86]
  | 21 => [6, 7, 8]
  | 22 => [12, 13, 86, 87]
  | 23 => [14]
  | 24 => [12, 13, 86, 92]
  | 25 => [12, 13, 86, 92]
  | 26 => [14]
  | 27 => [12, 13, 86, 98]
  | 28 => [14]
  | 29 => [12, 13, 106]
  | 30 => [14]
  | 31 => [6, 7, 8]
  | 32 => [0, 12, 13, 117]
  | 33 => [6, 7, 8]
  | 34 => [0, 12, 13, 119]
  | 35 => [15]
  | 36 => [6, 7, 8]
  | 37 => [0, 12, 13, 16, 17, 18]
  | 38 => [12, 13, 16, 17, 18, 144]
  | 39 => [12, 13, 16, 17, 18, 144, 145]
  | 40 => [16, 17, 18]
  | 41 => [12, 13, 16, 17, 18, 144, 153]
  | 42 => [16, 17, 18]
  | 43 => [12, 13, 16, 17, 18, 144, 161]
  | 44 => [16, 17, 18]
  | 45 => [12, 13, 16, 17, 18, 144, 169]
  | 46 => [16, 17, 18]
  | 47 => [12, 13, 16, 17, 18, 177]
  | 48 => [16, 17, 18]
  | 49 => [16, 17, 18, 186]
  | 50 => [6, 7, 8]
  | 51 => [16, 192]
  | 52 => [6, 7, 8]
  | 53 => [6, 7, 8]
  | _ => []
@[simp] def md115 : Nat → Bool
  | 4 => true
  | _ => false
@[simp] def fp115 : FPol := { inpl := [], exp := false, sites := [], mut_ := [], split := false }
/- 116 servitor servitorref16.Step -/
@[simp] def keep116 : Nat → List Nat
  | 0 => [0, 1]
  | 1 => [0, 1, 17]
  | 2 => [4]
  | 3 => [1, 21]
  | 4 => [1, 21, 22]
  | 5 => [1, 27]
  | 6 => [4]
  | 7 => [1, 5]
  | 8 => [4]
  | 9 => [1, 21, 56]
  | 10 => [1, 61]
  | 11 => [4]
  | 12 => [1, 72]
  | 13 => [4]
  | 14 => [1, 6]
  | 15 => [4]
  | 16 => [1, 21, 97]
  | 17 => [1, 7, 8, 9]
  | 18 => [1, 7, 8, 9, 121]
  | 19 => [1, 7, 8, 9]
  | 20 => [1, 7, 8, 9, 130]
  | 21 => [1, 7, 8, 9]
  | 22 => [1, 7, 8, 9, 134]
  | 23 => [1, 7, 8, 9]
  | 24 => [4]
  | 25 => [1, 21, 150]
  | 26 => [1, 10]
  | 27 => [1, 10, 158]
  | 28 => [1, 10]
  | 29 => [1, 10, 172]
  | 30 => [1, 10]
  | 31 => [4]
  | 32 => [1, 21, 197]
  | 33 => [1, 11]
  | 34 => [1, 11, 205]
  | 35 => [1, 11]
  | 36 => [1, 11, 222]
  | 37 => [1, 11]
  | 38 => [4]
  | 39 => [1, 21, 244]
  | 40 => [4]
  | 41 => [1, 21, 266]
  | 42 => [4]
  | 43 => [1, 21, 288]
  | 44 => [4]
  | 45 => [1, 314]
  | 46 => [4]
  | 47 => [4]
  | _ => []
@[simp] def md116 : Nat → Bool
  | 18 => true
  | 20 => true
  | 29 => true
  | 36 => true
  | 40 => true
  | 42 => true
  | 44 => true
  | 46 => true
  | _ => false
@[simp] def fp116 : FPol := { inpl := [], exp := false, sites := [300], mut_ := [], split := false }
/- 117 (*servitor check.checker).cell -/
@[simp] def keep117 : Nat → List Nat
  | 0 => [0, 1, 2]
  | 1 => [6]
  | _ => []
@[simp] def md117 : Nat → Bool
  | _ => false
@[simp] def fp117 : FPol := { inpl := [1, 2], exp := false, sites := [], mut_ := [], split := false }
/- 118 (*servitor check.checker).array -/
@[simp] def keep118 : Nat → List Nat
  | 0 => [0, 3]
  | 1 => [4]
  | _ => []
@[simp] def md118 : Nat → Bool
  | 1 => true
  | _ => false
@[simp] def fp118 : FPol := { inpl := [1, 2], exp := false, sites := [250], mut_ := [], split := false }
/- 119 servitor check.does -/
@[simp] def keep119 : Nat → List Nat
  | 0 => [1]
  | 1 => [1, 3]
  | 2 => [2]
  | 3 => [1, 20]
  | 4 => [2]
  | 5 => [2]
  | _ => []
@[simp] def md119 : Nat → Bool
  | 2 => true
  | 4 => true
  | _ => false
@[simp] def fp119 : FPol := { inpl := [], exp := false, sites := [150], mut_ := [], split := false }
/- 120 (*servitor check.checker).give -/
@[simp] def keep120 : Nat → List Nat
  | 0 => [0, 1]
  | 1 => [0]
  | 2 => [4]
  | _ => []
@[simp] def md120 : Nat → Bool
  | _ => false
@[simp] def fp120 : FPol := { inpl := [2], exp := false, sites := [], mut_ := [], split := false }
/- 121 (*servitor check.checker).take -/
@[simp] def keep121 : Nat → List Nat
  | 0 => [0, 1, 2]
  | 1 => [0, 1, 2, 15]
  | 2 => [6]
  | 3 => [0, 1, 2, 27, 28, 29]
  | 4 => [0, 1, 2, 27, 28, 29, 30]
  | 5 => [0, 1, 2, 8, 27, 28, 29]
  | 6 => [0, 1, 2, 27, 28, 29, 37]
  | 7 => [6]
  | 8 => [0, 1, 2, 27, 28, 29]
  | 9 => []
  | 10 => [6]
  | _ => []
@[simp] def md121 : Nat → Bool
  | _ => false
@[simp] def fp121 : FPol := { inpl := [2], exp := false, sites := [], mut_ := [], split := false }
/- 122 servitor check.next -/
@[simp] def keep122 : Nat → List Nat
  | 0 => [0, 3]
  | 1 => [0, 3, 6]
  | 2 => [0, 3, 6, 7]
  | 3 => [4]
  | 4 => [0, 3, 6, 12]
  | 5 => [4]
  | 6 => [0, 19]
  | 7 => [4]
  | 8 => [4]
  | _ => []
@[simp] def md122 : Nat → Bool
  | _ => false
@[simp] def fp122 : FPol := { inpl := [], exp := false, sites := [250], mut_ := [], split := false }
/- 123 servitor servitorref16.Rows -/
@[simp] def keep123 : Nat → List Nat
  | 0 => []
  | 1 => [0]
  | _ => []
@[simp] def md123 : Nat → Bool
  | _ => false
@[simp] def fp123 : FPol := { inpl := [], exp := false, sites := [], mut_ := [], split := false }
/- 124 internal stringslite.HasPrefix -/
@[simp] def keep124 : Nat → List Nat
  | 0 => [0, 1]
  | 1 => [4]
  | _ => []
@[simp] def md124 : Nat → Bool
  | 1 => true
  | _ => false
@[simp] def fp124 : FPol := { inpl := [], exp := false, sites := [], mut_ := [], split := false }
/- 125 internal stringslite.IndexByte -/
@[simp] def keep125 : Nat → List Nat
  | 0 => [0, 1]
  | 1 => [4]
  | _ => []
@[simp] def md125 : Nat → Bool
  | _ => false
@[simp] def fp125 : FPol := { inpl := [], exp := false, sites := [], mut_ := [], split := false }
/- 126 internal stringslite.Index -/
@[simp] def keep126 : Nat → List Nat
  | 0 => [0, 1]
  | 1 => [0, 1, 5]
  | 2 => [0, 1, 5, 16]
  | 3 => [4]
  | 4 => [0, 1, 5, 24]
  | 5 => [4]
  | 6 => [0, 1, 5, 31]
  | 7 => [4]
  | 8 => [0, 1, 5, 36]
  | 9 => [4]
  | 10 => [0, 1, 5, 6]
  | 11 => [0, 1, 5, 6, 7]
  | 12 => [0, 1, 5, 6, 7, 8]
  | 13 => [0, 1, 5, 6, 7, 8, 9]
  | 14 => [0, 1, 5, 6, 7, 8, 9, 10]
  | 15 => [0, 1, 5, 6, 7, 8, 9, 10, 59]
  | 16 => [0, 1, 5, 6, 7, 8, 9, 10, 64]
  | 17 => [0, 1, 5, 6, 7, 8, 9, 10, 11]
  | 18 => [0, 1, 5, 6, 7, 8, 9, 10, 11, 73]
  | 19 => [4]
  | 20 => [0, 1, 5, 6, 7, 8, 9, 10]
  | 21 => [0, 1, 5, 6, 7, 8, 9, 10, 93]
  | 22 => [4]
  | 23 => [0, 1, 5, 6, 7, 8, 9, 10]
  | 24 => [0, 1, 5, 6, 7, 8, 9, 10]
  | 25 => [0, 1, 5, 6, 7, 8, 9, 10, 107]
  | 26 => [8, 12]
  | 27 => [8, 12, 114]
  | 28 => [4]
  | 29 => [4]
  | 30 => [0, 1, 5, 6, 7, 8, 9, 10, 132]
  | 31 => [8, 13]
  | 32 => [8, 13, 139]
  | 33 => [4]
  | 34 => [4]
  | 35 => [4]
  | _ => []
@[simp] def md126 : Nat → Bool
  | 21 => true
  | 25 => true
  | _ => false
@[simp] def fp126 : FPol := { inpl := [], exp := false, sites := [], mut_ := [], split := false }
/- 127 servitor tok.number$1 -/
@[simp] def keep127 : Nat → List Nat
  | 0 => [0, 1]
  | 1 => [3]
  | _ => []
@[simp] def md127 : Nat → Bool
  | _ => false
@[simp] def fp127 : FPol := { inpl := [], exp := false, sites := [], mut_ := [], split := false }
/- 128 servitor tok.value -/
@[simp] def keep128 : Nat → List Nat
  | 0 => [0]
  | 1 => [0, 3]
  | 2 => [2]
  | 3 => [0, 9]
  | 4 => [2]
  | 5 => [2]
  | _ => []
@[simp] def md128 : Nat → Bool
  | _ => false
@[simp] def fp128 : FPol := { inpl := [], exp := false, sites := [], mut_ := [], split := false }
/- 129 unicode.isExcludingLatin -/
@[simp] def keep129 : Nat → List Nat
  | 0 => [0, 1]
  | 1 => [0, 1, 5]
  | 2 => [0, 1, 5, 6]
  | 3 => [0, 1, 5, 6, 32]
  | 4 => [4]
  | 5 => [1, 7]
  | 6 => [1, 7, 54]
  | 7 => [4]
  | 8 => [4]
  | _ => []
@[simp] def md129 : Nat → Bool
  | 3 => true
  | 6 => true
  | _ => false
@[simp] def fp129 : FPol := { inpl := [], exp := false, sites := [], mut_ := [], split := false }
/- 130 servitor peep.jumps -/
@[simp] def keep130 : Nat → List Nat
  | 0 => [1]
  | 1 => [2]
  | _ => []
@[simp] def md130 : Nat → Bool
  | _ => false
@[simp] def fp130 : FPol := { inpl := [], exp := false, sites := [150], mut_ := [], split := false }
/- 131 slices.Index[[]bool,bool] -/
@[simp] def keep131 : Nat → List Nat
  | 0 => [0, 1]
  | 1 => [0, 1, 7, 8]
  | 2 => [0, 1, 7, 8, 9]
  | 3 => [0, 1, 5, 7, 8]
  | 4 => [0, 1, 5, 7, 8, 16]
  | 5 => [4]
  | 6 => [0, 1, 7, 8]
  | 7 => [4]
  | _ => []
@[simp] def md131 : Nat → Bool
  | _ => false
@[simp] def fp131 : FPol := { inpl := [], exp := false, sites := [], mut_ := [], split := false }
/- 132 servitor fold.Op -/
@[simp] def keep132 : Nat → List Nat
  | 0 => [0, 1, 2]
  | 1 => [0, 1, 2, 11, 12, 13]
  | 2 => [0, 1, 2, 11, 12, 13, 14]
  | 3 => [0, 1, 2, 10, 11, 12, 13]
  | 4 => [0, 1, 2, 11, 12, 13, 25]
  | 5 => [6, 7, 8]
  | 6 => [0, 1, 2, 11, 12, 13]
  | 7 => [0, 1, 2, 27]
  | 8 => [6, 7, 8]
  | 9 => [0, 1, 2, 40]
  | 10 => [6, 7, 8]
  | 11 => [0, 1, 44]
  | 12 => [6, 7, 8]
  | 13 => [0, 1, 57]
  | 14 => [6, 7, 8]
  | 15 => [0, 1, 75]
  | 16 => [6, 7, 8]
  | 17 => [6, 7, 8]
  | _ => []
@[simp] def md132 : Nat → Bool
  | _ => false
@[simp] def fp132 : FPol := { inpl := [], exp := false, sites := [], mut_ := [], split := false }
/- 133 servitor std.of -/
@[simp] def keep133 : Nat → List Nat
  | 0 => [1, 2]
  | 1 => [1, 2, 4]
  | 2 => [2, 4, 5]
  | 3 => [2, 4, 5, 11]
  | 4 => [2, 3]
  | 5 => [2, 3]
  | _ => []
@[simp] def md133 : Nat → Bool
  | _ => false
@[simp] def fp133 : FPol := { inpl := [], exp := false, sites := [150, 200], mut_ := [], split := false }
/- 134 servitor std.pins -/
@[simp] def keep134 : Nat → List Nat
  | 0 => [0, 1]
  | 1 => [0, 1, 5]
  | 2 => [1, 5, 12, 13, 14]
  | 3 => [1, 5, 12, 13, 14, 15]
  | 4 => [1, 5, 7, 12, 13, 14]
  | 5 => [1, 5, 7, 8, 12, 13, 14]
  | 6 => [1, 5, 8, 9, 10, 12, 13, 14]
  | 7 => [1, 5, 8, 9, 12, 13, 14, 26]
  | 8 => [1, 5, 8, 12, 13, 14]
  | 9 => [1, 5, 12, 13, 14]
  | 10 => [1, 5, 12, 13, 14]
  | 11 => [4]
  | _ => []
@[simp] def md134 : Nat → Bool
  | _ => false
@[simp] def fp134 : FPol := { inpl := [], exp := true, sites := [300, 350, 500], mut_ := [], split := false }
/- 135 servitor std.timer -/
@[simp] def keep135 : Nat → List Nat
  | 0 => [0, 3]
  | 1 => [0, 3, 4]
  | 2 => [3, 4, 6]
  | 3 => [3, 4, 6, 7]
  | 4 => [3, 4, 12]
  | 5 => []
  | 6 => [3]
  | 7 => []
  | 8 => [3, 4, 6, 29]
  | 9 => [3, 4, 34]
  | 10 => []
  | 11 => [3, 4, 42]
  | 12 => [3]
  | 13 => []
  | 14 => [3, 4, 55]
  | 15 => [3, 4, 72]
  | 16 => [3, 4]
  | 17 => [3, 4, 80]
  | 18 => [3, 4]
  | 19 => [3, 4]
  | 20 => [3]
  | 21 => []
  | _ => []
@[simp] def md135 : Nat → Bool
  | 15 => true
  | _ => false
@[simp] def fp135 : FPol := { inpl := [], exp := false, sites := [250], mut_ := [], split := false }
/- 136 servitor std.counter -/
@[simp] def keep136 : Nat → List Nat
  | 0 => [0, 1, 4]
  | 1 => [1, 4, 16]
  | 2 => [1, 4, 20]
  | 3 => [1]
  | 4 => [1, 29]
  | 5 => [1]
  | 6 => [1]
  | 7 => [1, 4, 48]
  | 8 => [1]
  | 9 => [1, 60]
  | 10 => [1]
  | 11 => [1]
  | 12 => []
  | _ => []
@[simp] def md136 : Nat → Bool
  | 0 => true
  | 4 => true
  | 9 => true
  | _ => false
@[simp] def fp136 : FPol := { inpl := [], exp := false, sites := [], mut_ := [], split := false }
/- 137 servitor std.truth -/
@[simp] def keep137 : Nat → List Nat
  | 0 => [0]
  | 1 => [3]
  | 2 => [2]
  | 3 => [2]
  | _ => []
@[simp] def md137 : Nat → Bool
  | _ => false
@[simp] def fp137 : FPol := { inpl := [], exp := false, sites := [], mut_ := [], split := false }
/- 138 servitor servitorref21.one -/
@[simp] def keep138 : Nat → List Nat
  | 0 => [0]
  | 1 => [3]
  | 2 => [2]
  | 3 => [2]
  | _ => []
@[simp] def md138 : Nat → Bool
  | _ => false
@[simp] def fp138 : FPol := { inpl := [], exp := false, sites := [], mut_ := [], split := false }
/- 139 servitor servitorref01.Sub -/
@[simp] def keep139 : Nat → List Nat
  | 0 => [0, 1]
  | 1 => [4, 5]
  | _ => []
@[simp] def md139 : Nat → Bool
  | _ => false
@[simp] def fp139 : FPol := { inpl := [], exp := false, sites := [], mut_ := [], split := false }
/- 140 servitor servitorref01.Add -/
@[simp] def keep140 : Nat → List Nat
  | 0 => [0, 1]
  | 1 => [4, 5]
  | _ => []
@[simp] def md140 : Nat → Bool
  | _ => false
@[simp] def fp140 : FPol := { inpl := [], exp := false, sites := [], mut_ := [], split := false }
/- 141 servitor servitorref01.Mul -/
@[simp] def keep141 : Nat → List Nat
  | 0 => [0, 1]
  | 1 => [4, 5]
  | _ => []
@[simp] def md141 : Nat → Bool
  | _ => false
@[simp] def fp141 : FPol := { inpl := [], exp := false, sites := [], mut_ := [], split := false }
/- 142 servitor servitorref01.Div -/
@[simp] def keep142 : Nat → List Nat
  | 0 => [0, 1]
  | 1 => [0, 1, 13]
  | 2 => [4, 5]
  | 3 => [6, 7]
  | 4 => [6, 7, 8]
  | 5 => [8]
  | 6 => [10, 11]
  | 7 => [10, 36]
  | 8 => [4, 5]
  | 9 => [4, 5]
  | _ => []
@[simp] def md142 : Nat → Bool
  | _ => false
@[simp] def fp142 : FPol := { inpl := [], exp := false, sites := [400, 450, 500, 550], mut_ := [], split := false }
/- 143 servitor servitorref01.Mod -/
@[simp] def keep143 : Nat → List Nat
  | 0 => [0, 1]
  | 1 => [0, 1, 12]
  | 2 => [4, 5]
  | 3 => [1, 6]
  | 4 => [6, 8]
  | 5 => [8]
  | 6 => [9]
  | 7 => [4, 5]
  | _ => []
@[simp] def md143 : Nat → Bool
  | _ => false
@[simp] def fp143 : FPol := { inpl := [], exp := false, sites := [400, 450, 500], mut_ := [], split := false }
/- 144 servitor servitorref16.up -/
@[simp] def keep144 : Nat → List Nat
  | 0 => [0, 1]
  | 1 => [0, 7]
  | 2 => [4]
  | 3 => [4]
  | _ => []
@[simp] def md144 : Nat → Bool
  | _ => false
@[simp] def fp144 : FPol := { inpl := [], exp := false, sites := [], mut_ := [], split := false }
/- 145 servitor servitorref16.num -/
@[simp] def keep145 : Nat → List Nat
  | 0 => [0]
  | 1 => [3]
  | 2 => [2]
  | 3 => [2]
  | _ => []
@[simp] def md145 : Nat → Bool
  | _ => false
@[simp] def fp145 : FPol := { inpl := [], exp := false, sites := [], mut_ := [], split := false }
/- 148 internal bytealg.Cutover -/
@[simp] def keep148 : Nat → List Nat
  | 0 => [0]
  | 1 => [2]
  | _ => []
@[simp] def md148 : Nat → Bool
  | _ => false
@[simp] def fp148 : FPol := { inpl := [], exp := false, sites := [], mut_ := [], split := false }
/- 149 internal bytealg.IndexRabinKarp[string] -/
@[simp] def keep149 : Nat → List Nat
  | 0 => [0, 1]
  | 1 => [0, 1, 5, 6]
  | 2 => [0, 1, 5, 6, 7]
  | 3 => [0, 1, 5, 6, 7, 8]
  | 4 => [0, 1, 5, 6, 7, 8, 9]
  | 5 => [0, 1, 5, 6, 7, 8, 9, 20]
  | 6 => [0, 1, 5, 6, 7, 8, 9]
  | 7 => [0, 1, 5, 6, 7, 8, 9]
  | 8 => [0, 1, 5, 6, 7, 8, 39]
  | 9 => [4]
  | 10 => [0, 1, 5, 6, 7, 8, 10]
  | 11 => [0, 1, 5, 6, 7, 8, 10, 44]
  | 12 => [0, 1, 5, 6, 7, 8, 10]
  | 13 => [0, 1, 5, 6, 7, 8, 10]
  | 14 => [0, 1, 5, 6, 7, 8, 10]
  | 15 => [0, 1, 5, 6, 7, 8, 10]
  | 16 => [0, 1, 5, 6, 7, 8, 10, 77]
  | 17 => [4]
  | 18 => [4]
  | _ => []
@[simp] def md149 : Nat → Bool
  | 8 => true
  | 16 => true
  | _ => false
@[simp] def fp149 : FPol := { inpl := [], exp := false, sites := [], mut_ := [], split := false }
/- 150 unicode.is16 -/
@[simp] def keep150 : Nat → List Nat
  | 0 => [0, 1]
  | 1 => [0, 1, 17]
  | 2 => [0, 1, 19, 20]
  | 3 => [0, 1, 19, 20, 21]
  | 4 => [0, 1, 5, 19, 20]
  | 5 => [0, 1, 6, 19, 20]
  | 6 => [0, 1, 6, 19, 20, 31]
  | 7 => [4]
  | 8 => [0, 1, 6, 19, 20, 37]
  | 9 => [4]
  | 10 => [0, 1, 19, 20]
  | 11 => [4]
  | 12 => [0, 1, 7]
  | 13 => [0, 1, 7, 8]
  | 14 => [0, 1, 7, 8, 62]
  | 15 => [0, 1, 7, 8, 9]
  | 16 => [0, 1, 7, 8, 9, 10]
  | 17 => [0, 1, 7, 8, 9, 10, 85]
  | 18 => [4]
  | 19 => [0, 1, 7, 8, 9, 110]
  | 20 => [0, 1, 7, 8]
  | 21 => [0, 1, 7, 8]
  | 22 => [4]
  | _ => []
@[simp] def md150 : Nat → Bool
  | _ => false
@[simp] def fp150 : FPol := { inpl := [], exp := false, sites := [], mut_ := [], split := false }
/- 151 unicode.is32 -/
@[simp] def keep151 : Nat → List Nat
  | 0 => [0, 1]
  | 1 => [0, 1, 13]
  | 2 => [0, 1, 15, 16]
  | 3 => [0, 1, 15, 16, 17]
  | 4 => [0, 1, 5, 15, 16]
  | 5 => [0, 1, 6, 15, 16]
  | 6 => [0, 1, 6, 15, 16, 27]
  | 7 => [4]
  | 8 => [0, 1, 6, 15, 16, 33]
  | 9 => [4]
  | 10 => [0, 1, 15, 16]
  | 11 => [4]
  | 12 => [0, 1, 7]
  | 13 => [0, 1, 7, 8]
  | 14 => [0, 1, 7, 8, 58]
  | 15 => [0, 1, 7, 8, 9]
  | 16 => [0, 1, 7, 8, 9, 10]
  | 17 => [0, 1, 7, 8, 9, 10, 78]
  | 18 => [4]
  | 19 => [0, 1, 7, 8, 9, 95]
  | 20 => [0, 1, 7, 8]
  | 21 => [0, 1, 7, 8]
  | 22 => [4]
  | _ => []
@[simp] def md151 : Nat → Bool
  | _ => false
@[simp] def fp151 : FPol := { inpl := [], exp := false, sites := [600], mut_ := [], split := false }
/- 152 servitor fold.ofOne -/
@[simp] def keep152 : Nat → List Nat
  | 0 => [0, 1, 2]
  | 1 => [0, 1, 2, 11]
  | 2 => [9, 10]
  | 3 => [9, 24]
  | 4 => [6, 7, 8]
  | 5 => [6, 7, 8]
  | 6 => [1, 26]
  | 7 => [6, 7, 8]
  | 8 => [6, 7, 8]
  | _ => []
@[simp] def md152 : Nat → Bool
  | _ => false
@[simp] def fp152 : FPol := { inpl := [], exp := false, sites := [], mut_ := [], split := false }
/- 153 servitor fold.ofTruths -/
@[simp] def keep153 : Nat → List Nat
  | 0 => [0, 1, 2]
  | 1 => [1, 2, 9]
  | 2 => [1, 2, 9, 10]
  | 3 => [6, 7, 8]
  | 4 => [1, 2, 9, 16]
  | 5 => [1, 2, 9, 16]
  | 6 => [6, 7, 8]
  | 7 => [1, 2, 9, 23]
  | 8 => [6, 7, 8]
  | 9 => [1, 2, 28]
  | 10 => [6, 7, 8]
  | 11 => [6, 7, 8]
  | _ => []
@[simp] def md153 : Nat → Bool
  | _ => false
@[simp] def fp153 : FPol := { inpl := [], exp := false, sites := [], mut_ := [], split := false }
/- 154 servitor fold.reckoned -/
@[simp] def keep154 : Nat → List Nat
  | 0 => [0, 1, 2]
  | 1 => [0, 1, 2, 9]
  | 2 => [0, 1, 2, 9, 10]
  | 3 => [0, 1, 2, 9, 10, 11]
  | 4 => [1, 2, 9, 10, 11, 12]
  | 5 => [1, 2, 9, 10, 11, 12, 13]
  | 6 => [9, 10, 11]
  | 7 => [1, 2, 9, 10, 11, 12, 21]
  | 8 => [9, 10, 11]
  | 9 => [1, 2, 9, 10, 11, 12, 29]
  | 10 => [9, 10, 11]
  | 11 => [1, 2, 9, 10, 11, 12, 37]
  | 12 => [9, 10, 11]
  | 13 => [1, 2, 9, 10, 11, 45]
  | 14 => [9, 10, 11]
  | 15 => [9, 10, 11, 53]
  | 16 => [6, 7, 8]
  | 17 => [9, 56]
  | 18 => [6, 7, 8]
  | 19 => [6, 7, 8]
  | _ => []
@[simp] def md154 : Nat → Bool
  | _ => false
@[simp] def fp154 : FPol := { inpl := [], exp := false, sites := [], mut_ := [], split := false }
/- 155 servitor fold.compared -/
@[simp] def keep155 : Nat → List Nat
  | 0 => [0, 1, 2]
  | 1 => [0, 1, 2, 9]
  | 2 => [1, 2, 9, 10]
  | 3 => [1, 2, 9, 10, 11]
  | 4 => [9]
  | 5 => [1, 2, 9, 10, 16]
  | 6 => [9]
  | 7 => [1, 2, 9, 10, 21]
  | 8 => [9]
  | 9 => [1, 2, 9, 10, 26]
  | 10 => [9]
  | 11 => [1, 2, 9, 10, 31]
  | 12 => [9]
  | 13 => [1, 2, 9, 36]
  | 14 => [9]
  | 15 => [6, 7, 8]
  | _ => []
@[simp] def md155 : Nat → Bool
  | _ => false
@[simp] def fp155 : FPol := { inpl := [], exp := false, sites := [], mut_ := [], split := false }
/- 156 servitor std.sheets -/
@[simp] def keep156 : Nat → List Nat
  | 0 => []
  | 1 => [0]
  | _ => []
@[simp] def md156 : Nat → Bool
  | _ => false
@[simp] def fp156 : FPol := { inpl := [], exp := false, sites := [], mut_ := [], split := false }
/- 157 slices.IndexFunc[[]servitor std.sheet,servitor std.sheet] -/
@[simp] def keep157 : Nat → List Nat
  | 0 => [0, 1]
  | 1 => [0, 1, 7, 8]
  | 2 => [0, 1, 7, 8, 9]
  | 3 => [0, 1, 5, 7, 8]
  | 4 => [0, 1, 5, 7, 8, 16]
  | 5 => [4]
  | 6 => [0, 1, 7, 8]
  | 7 => [4]
  | _ => []
@[simp] def md157 : Nat → Bool
  | _ => false
@[simp] def fp157 : FPol := { inpl := [], exp := false, sites := [], mut_ := [], split := false }
/- 158 servitor std.of$1 -/
@[simp] def keep158 : Nat → List Nat
  | 0 => [1, 2]
  | 1 => [3]
  | _ => []
@[simp] def md158 : Nat → Bool
  | _ => false
@[simp] def fp158 : FPol := { inpl := [], exp := false, sites := [200], mut_ := [], split := false }
/- 159 strings.CutSuffix -/
@[simp] def keep159 : Nat → List Nat
  | 0 => [0, 1]
  | 1 => [4, 5]
  | _ => []
@[simp] def md159 : Nat → Bool
  | _ => false
@[simp] def fp159 : FPol := { inpl := [], exp := false, sites := [], mut_ := [], split := false }
/- 160 servitor std.timer$1 -/
@[simp] def keep160 : Nat → List Nat
  | 0 => [0, 7]
  | 1 => []
  | _ => []
@[simp] def md160 : Nat → Bool
  | _ => false
@[simp] def fp160 : FPol := { inpl := [], exp := false, sites := [], mut_ := [], split := false }
/- 161 servitor servitorref01.room -/
@[simp] def keep161 : Nat → List Nat
  | 0 => [1]
  | 1 => [1, 14]
  | 2 => [2, 3]
  | 3 => [1, 4]
  | 4 => [1, 4, 24]
  | 5 => [4, 26]
  | 6 => [2, 3]
  | 7 => [2, 3]
  | 8 => [37]
  | 9 => [2, 3]
  | 10 => [2, 3]
  | _ => []
@[simp] def md161 : Nat → Bool
  | 1 => true
  | _ => false
@[simp] def fp161 : FPol := { inpl := [], exp := false, sites := [150], mut_ := [], split := false }
/- 162 servitor servitorref01.plus -/
@[simp] def keep162 : Nat → List Nat
  | 0 => [2, 3, 4]
  | 1 => [2, 3, 4, 9]
  | 2 => [4]
  | 3 => [2, 3, 4, 16]
  | 4 => [4]
  | 5 => [4]
  | _ => []
@[simp] def md162 : Nat → Bool
  | _ => false
@[simp] def fp162 : FPol := { inpl := [], exp := false, sites := [200, 250, 300], mut_ := [], split := false }
/- 163 servitor servitorref01.of -/
@[simp] def keep163 : Nat → List Nat
  | 0 => [0, 2]
  | 1 => [0, 2, 3]
  | 2 => [0, 2, 3, 7]
  | 3 => [0, 2, 3]
  | 4 => [2]
  | _ => []
@[simp] def md163 : Nat → Bool
  | _ => false
@[simp] def fp163 : FPol := { inpl := [], exp := false, sites := [200], mut_ := [], split := false }
/- 164 servitor servitorref01.turned -/
@[simp] def keep164 : Nat → List Nat
  | 0 => [1, 2]
  | 1 => [1, 2]
  | 2 => [2]
  | _ => []
@[simp] def md164 : Nat → Bool
  | _ => false
@[simp] def fp164 : FPol := { inpl := [], exp := false, sites := [150, 200], mut_ := [], split := false }
/- 165 servitor servitorref01.times -/
@[simp] def keep165 : Nat → List Nat
  | 0 => [2, 3, 4]
  | 1 => [2, 3, 4, 5]
  | 2 => [2, 3, 4, 5, 6]
  | 3 => [2, 3, 4, 5, 6, 11]
  | 4 => [2, 3, 4, 5, 6]
  | 5 => [2, 3, 4, 5, 6, 7]
  | 6 => [2, 3, 4, 5, 6, 7, 15]
  | 7 => [2, 3, 4, 5, 6, 7]
  | 8 => [2, 3, 4, 5, 6, 7, 8]
  | 9 => [2, 3, 4, 5, 6, 7, 8, 9]
  | 10 => [2, 3, 4, 5, 6, 7, 8, 9]
  | 11 => [2, 3, 4, 5, 6, 7, 9]
  | 12 => [2, 3, 4, 5, 6, 7]
  | 13 => [4, 5]
  | 14 => [4]
  | _ => []
@[simp] def md165 : Nat → Bool
  | _ => false
@[simp] def fp165 : FPol := { inpl := [], exp := false, sites := [200, 250, 300, 350, 550], mut_ := [], split := false }
/- 166 servitor servitorref01.by -/
@[simp] def keep166 : Nat → List Nat
  | 0 => [2, 3, 4, 5]
  | 1 => [2, 3, 4, 5, 6, 7]
  | 2 => [2, 3, 4, 5, 6, 7, 8]
  | 3 => [2, 3, 4, 5, 6, 7, 8, 10]
  | 4 => [2, 3, 4, 5, 6, 7, 8]
  | 5 => [2, 3, 4, 5, 6, 7, 8]
  | 6 => [2, 3, 4, 5, 6, 7, 8]
  | 7 => [2, 3, 4, 5, 6, 7, 8, 29]
  | 8 => [2, 3, 4, 5, 6, 7, 8]
  | 9 => [2, 3, 4, 5, 6, 7, 8]
  | 10 => [2, 3, 4, 5, 6, 7, 8, 40]
  | 11 => [2, 3, 4, 5, 6, 7, 8]
  | 12 => [2, 3, 4, 5, 6, 7, 8]
  | 13 => [4, 5]
  | _ => []
@[simp] def md166 : Nat → Bool
  | _ => false
@[simp] def fp166 : FPol := { inpl := [], exp := false, sites := [200, 250, 300, 350, 400, 450], mut_ := [], split := false }
/- 167 internal bytealg.hashStr[string] -/
@[simp] def keep167 : Nat → List Nat
  | 0 => [0]
  | 1 => [0, 4]
  | 2 => [0, 4, 5]
  | 3 => [0, 4, 5, 12]
  | 4 => [0, 4, 5]
  | 5 => [0, 4, 5]
  | 6 => [0, 4, 6, 7]
  | 7 => [4, 6, 7, 8]
  | 8 => [4, 6, 7, 8, 25]
  | 9 => [4, 6, 7, 8]
  | 10 => [4, 6, 7, 8, 30]
  | 11 => [4, 6, 7, 8]
  | 12 => [4, 6, 7, 8]
  | 13 => [2, 3]
  | _ => []
@[simp] def md167 : Nat → Bool
  | _ => false
@[simp] def fp167 : FPol := { inpl := [], exp := false, sites := [], mut_ := [], split := false }
/- 168 servitor q.Sub -/
@[simp] def keep168 : Nat → List Nat
  | 0 => [0, 1]
  | 1 => [0, 1, 6]
  | 2 => [6, 21]
  | 3 => [4, 5]
  | 4 => [4, 5]
  | _ => []
@[simp] def md168 : Nat → Bool
  | _ => false
@[simp] def fp168 : FPol := { inpl := [], exp := false, sites := [], mut_ := [], split := false }
/- 169 servitor fold.truth -/
@[simp] def keep169 : Nat → List Nat
  | 0 => [0]
  | 1 => [3]
  | 2 => [2]
  | 3 => [2]
  | _ => []
@[simp] def md169 : Nat → Bool
  | _ => false
@[simp] def fp169 : FPol := { inpl := [], exp := false, sites := [], mut_ := [], split := false }
/- 170 servitor q.Add -/
@[simp] def keep170 : Nat → List Nat
  | 0 => [0, 1]
  | 1 => [0, 1, 6]
  | 2 => [6, 21]
  | 3 => [4, 5]
  | 4 => [4, 5]
  | _ => []
@[simp] def md170 : Nat → Bool
  | _ => false
@[simp] def fp170 : FPol := { inpl := [], exp := false, sites := [], mut_ := [], split := false }
/- 171 servitor q.Mul -/
@[simp] def keep171 : Nat → List Nat
  | 0 => [0, 1]
  | 1 => [0, 1, 6, 7]
  | 2 => [0, 1, 7, 17]
  | 3 => [4, 5]
  | 4 => [4, 5]
  | _ => []
@[simp] def md171 : Nat → Bool
  | _ => false
@[simp] def fp171 : FPol := { inpl := [], exp := false, sites := [], mut_ := [], split := false }
/- 172 servitor q.Div -/
@[simp] def keep172 : Nat → List Nat
  | 0 => [0, 1]
  | 1 => [0, 1, 6]
  | 2 => [4, 5]
  | 3 => [0, 1, 9]
  | 4 => [4, 5]
  | 5 => [4, 5]
  | _ => []
@[simp] def md172 : Nat → Bool
  | _ => false
@[simp] def fp172 : FPol := { inpl := [], exp := false, sites := [], mut_ := [], split := false }
/- 173 servitor q.Mod -/
@[simp] def keep173 : Nat → List Nat
  | 0 => [0, 1]
  | 1 => [0, 1, 6]
  | 2 => [0, 1, 6, 7]
  | 3 => [4, 5]
  | 4 => [0, 1, 9]
  | 5 => [4, 5]
  | 6 => [4, 5]
  | _ => []
@[simp] def md173 : Nat → Bool
  | _ => false
@[simp] def fp173 : FPol := { inpl := [], exp := false, sites := [], mut_ := [], split := false }
/- 174 internal stringslite.CutSuffix -/
@[simp] def keep174 : Nat → List Nat
  | 0 => [0, 1]
  | 1 => [0, 1, 9]
  | 2 => [4, 5]
  | 3 => [4, 5]
  | _ => []
@[simp] def md174 : Nat → Bool
  | _ => false
@[simp] def fp174 : FPol := { inpl := [], exp := false, sites := [], mut_ := [], split := false }
/- 175 servitor servitorref01.sum -/
@[simp] def keep175 : Nat → List Nat
  | 0 => [2, 3, 4]
  | 1 => [2, 3, 4, 5]
  | 2 => [2, 3, 4, 5, 6]
  | 3 => [2, 3, 4, 5, 6, 9]
  | 4 => [2, 3, 4, 5, 6]
  | 5 => [2, 3, 4, 6, 7]
  | 6 => [2, 3, 4, 5, 6]
  | 7 => [4]
  | _ => []
@[simp] def md175 : Nat → Bool
  | _ => false
@[simp] def fp175 : FPol := { inpl := [], exp := false, sites := [200, 250, 300], mut_ := [], split := false }
/- 176 servitor servitorref01.cmp -/
@[simp] def keep176 : Nat → List Nat
  | 0 => [2, 3]
  | 1 => [2, 3, 5]
  | 2 => [2, 3, 5, 7]
  | 3 => [2, 3, 5]
  | 4 => [2, 3, 5, 18]
  | 5 => [4]
  | 6 => [2, 3, 5, 27]
  | 7 => [4]
  | 8 => [4]
  | _ => []
@[simp] def md176 : Nat → Bool
  | _ => false
@[simp] def fp176 : FPol := { inpl := [], exp := false, sites := [200, 250], mut_ := [], split := false }
/- 177 servitor servitorref01.less -/
@[simp] def keep177 : Nat → List Nat
  | 0 => [2, 3, 4]
  | 1 => [2, 3, 4, 5]
  | 2 => [2, 3, 4, 5, 6]
  | 3 => [2, 3, 4, 5, 6, 9]
  | 4 => [2, 3, 4, 5, 6]
  | 5 => [2, 3, 4, 6, 7]
  | 6 => [2, 3, 4, 5, 6]
  | 7 => [4]
  | _ => []
@[simp] def md177 : Nat → Bool
  | _ => false
@[simp] def fp177 : FPol := { inpl := [], exp := false, sites := [200, 250, 300], mut_ := [], split := false }
/- 178 math bits.Mul64 -/
@[simp] def keep178 : Nat → List Nat
  | 0 => [0, 1]
  | 1 => [0, 1, 6]
  | 2 => [0, 1, 6, 7]
  | 3 => [0, 1, 6, 7, 8]
  | 4 => [0, 1, 6, 7, 8, 9]
  | 5 => [0, 1, 6, 7, 8, 9, 10]
  | 6 => [0, 1, 6, 7, 9, 11]
  | 7 => [0, 1, 6, 7, 9, 11, 12]
  | 8 => [0, 1, 6, 7, 9, 12, 13]
  | 9 => [0, 1, 7, 9, 12, 13]
  | 10 => [0, 1, 4]
  | 11 => [4, 5]
  | _ => []
@[simp] def md178 : Nat → Bool
  | _ => false
@[simp] def fp178 : FPol := { inpl := [], exp := false, sites := [], mut_ := [], split := false }
/- 179 servitor q.size -/
@[simp] def keep179 : Nat → List Nat
  | 0 => [0]
  | 1 => [0, 4]
  | 2 => [2]
  | 3 => [2]
  | _ => []
@[simp] def md179 : Nat → Bool
  | _ => false
@[simp] def fp179 : FPol := { inpl := [], exp := false, sites := [], mut_ := [], split := false }
/- 180 servitor q.signed -/
@[simp] def keep180 : Nat → List Nat
  | 0 => [0, 1]
  | 1 => [0, 1, 6]
  | 2 => [4, 5]
  | 3 => [0, 15]
  | 4 => [4, 5]
  | 5 => [4, 5]
  | _ => []
@[simp] def md180 : Nat → Bool
  | _ => false
@[simp] def fp180 : FPol := { inpl := [], exp := false, sites := [], mut_ := [], split := false }
/- 181 internal stringslite.HasSuffix -/
@[simp] def keep181 : Nat → List Nat
  | 0 => [0, 1]
  | 1 => [4]
  | _ => []
@[simp] def md181 : Nat → Bool
  | 1 => true
  | _ => false
@[simp] def fp181 : FPol := { inpl := [], exp := false, sites := [], mut_ := [], split := false }
/- 205 gosem.cut.vars -/
@[simp] def keep205 : Nat → List Nat
  | 0 => []
  | 1 => []
  | 2 => []
  | _ => []
@[simp] def md205 : Nat → Bool
  | _ => false
@[simp] def fp205 : FPol := { inpl := [], exp := false, sites := [550], mut_ := [], split := false }
noncomputable def keepL : List (Nat → List Nat) := [fun _ => [], fun _ => [], keep2, keep3, keep4, keep5, keep6, keep7, keep8, keep9, keep10, keep11, keep12, keep13, keep14, keep15, keep16, keep17, keep18, keep19, keep20, keep21, keep22, keep23, keep24, keep25, keep26, keep27, keep28, keep29, keep30, keep31, keep32, keep33, keep34, keep35, keep36, keep37, keep38, keep39, keep40, keep41, keep42, keep43, keep44, keep45, keep46, keep47, keep48, keep49, keep50, keep51, keep52, keep53, keep54, keep55, keep56, keep57, keep58, keep59, keep60, keep61, keep62, keep63, keep64, keep65, keep66, keep67, keep68, keep69, keep70, keep71, keep72, keep73, keep74, keep75, keep76, keep77, keep78, keep79, keep80, keep81, keep82, keep83, keep84, keep85, keep86, keep87, keep88, keep89, keep90, keep91, keep92, keep93, keep94, keep95, keep96, keep97, keep98, keep99, keep100, keep101, keep102, keep103, keep104, keep105, keep106, keep107, keep108, keep109, keep110, keep111, keep112, keep113, keep114, keep115, keep116, keep117, keep118, keep119, keep120, keep121, keep122, keep123, keep124, keep125, keep126, keep127, keep128, keep129, keep130, keep131, keep132, keep133, keep134, keep135, keep136, keep137, keep138, keep139, keep140, keep141, keep142, keep143, keep144, keep145, fun _ => [], fun _ => [], keep148, keep149, keep150, keep151, keep152, keep153, keep154, keep155, keep156, keep157, keep158, keep159, keep160, keep161, keep162, keep163, keep164, keep165, keep166, keep167, keep168, keep169, keep170, keep171, keep172, keep173, keep174, keep175, keep176, keep177, keep178, keep179, keep180, keep181, fun _ => [], fun _ => [], fun _ => [], fun _ => [], fun _ => [], fun _ => [], fun _ => [], fun _ => [], fun _ => [], fun _ => [], fun _ => [], fun _ => [], fun _ => [], fun _ => [], fun _ => [], fun _ => [], fun _ => [], fun _ => [], fun _ => [], fun _ => [], fun _ => [], fun _ => [], fun _ => [], keep205]
noncomputable def ghL : List (Nat → List Gh) := [fun _ => [], fun _ => [], fun _ => [], fun _ => [], fun _ => [], fun _ => [], fun _ => [], fun _ => [], fun _ => [], fun _ => [], fun _ => [], fun _ => [], fun _ => [], fun _ => [], fun _ => [], fun _ => [], gh16, fun _ => [], fun _ => [], fun _ => [], fun _ => [], fun _ => [], fun _ => [], fun _ => [], fun _ => [], fun _ => [], fun _ => [], fun _ => [], fun _ => [], fun _ => [], fun _ => [], fun _ => [], fun _ => [], fun _ => [], fun _ => [], fun _ => [], fun _ => [], fun _ => [], fun _ => [], fun _ => [], fun _ => [], fun _ => [], fun _ => [], fun _ => [], fun _ => [], fun _ => [], fun _ => [], fun _ => [], fun _ => [], fun _ => [], fun _ => [], fun _ => [], fun _ => [], fun _ => [], fun _ => [], fun _ => [], fun _ => [], fun _ => [], fun _ => [], fun _ => [], fun _ => [], fun _ => [], fun _ => [], fun _ => [], fun _ => [], fun _ => [], fun _ => [], fun _ => [], fun _ => [], fun _ => [], fun _ => [], fun _ => [], fun _ => [], fun _ => [], fun _ => [], fun _ => [], fun _ => [], fun _ => [], fun _ => [], fun _ => [], fun _ => [], fun _ => [], fun _ => [], fun _ => [], fun _ => [], fun _ => [], fun _ => [], fun _ => [], fun _ => [], fun _ => [], fun _ => [], fun _ => [], fun _ => [], fun _ => [], fun _ => [], fun _ => [], fun _ => [], fun _ => [], fun _ => [], fun _ => [], fun _ => [], fun _ => [], fun _ => [], fun _ => [], fun _ => [], fun _ => [], fun _ => [], fun _ => [], fun _ => [], fun _ => [], fun _ => [], fun _ => [], fun _ => [], fun _ => [], fun _ => [], fun _ => [], fun _ => [], fun _ => [], fun _ => [], fun _ => [], fun _ => [], fun _ => [], fun _ => [], fun _ => [], fun _ => [], fun _ => [], fun _ => [], fun _ => [], fun _ => [], fun _ => [], fun _ => [], fun _ => [], fun _ => [], fun _ => [], fun _ => [], fun _ => [], fun _ => [], fun _ => [], fun _ => [], fun _ => [], fun _ => [], fun _ => [], fun _ => [], fun _ => [], fun _ => [], fun _ => [], fun _ => [], fun _ => [], fun _ => [], fun _ => [], fun _ => [], fun _ => [], fun _ => [], fun _ => [], fun _ => [], fun _ => [], fun _ => [], fun _ => [], fun _ => [], fun _ => [], fun _ => [], fun _ => [], fun _ => [], fun _ => [], fun _ => [], fun _ => [], fun _ => [], fun _ => [], fun _ => [], fun _ => [], fun _ => [], fun _ => [], fun _ => [], fun _ => [], fun _ => [], fun _ => [], fun _ => [], fun _ => [], fun _ => [], fun _ => [], fun _ => [], fun _ => [], fun _ => [], fun _ => [], fun _ => [], fun _ => [], fun _ => [], fun _ => [], fun _ => [], fun _ => [], fun _ => [], fun _ => [], fun _ => [], fun _ => [], fun _ => [], fun _ => [], fun _ => [], fun _ => [], fun _ => [], fun _ => [], fun _ => [], fun _ => [], fun _ => [], fun _ => [], fun _ => [], fun _ => []]
noncomputable def mdL : List (Nat → Bool) := [fun _ => false, fun _ => false, md2, md3, md4, md5, md6, md7, md8, md9, md10, md11, md12, md13, md14, md15, md16, md17, md18, md19, md20, md21, md22, md23, md24, md25, md26, md27, md28, md29, md30, md31, md32, md33, md34, md35, md36, md37, md38, md39, md40, md41, md42, md43, md44, md45, md46, md47, md48, md49, md50, md51, md52, md53, md54, md55, md56, md57, md58, md59, md60, md61, md62, md63, md64, md65, md66, md67, md68, md69, md70, md71, md72, md73, md74, md75, md76, md77, md78, md79, md80, md81, md82, md83, md84, md85, md86, md87, md88, md89, md90, md91, md92, md93, md94, md95, md96, md97, md98, md99, md100, md101, md102, md103, md104, md105, md106, md107, md108, md109, md110, md111, md112, md113, md114, md115, md116, md117, md118, md119, md120, md121, md122, md123, md124, md125, md126, md127, md128, md129, md130, md131, md132, md133, md134, md135, md136, md137, md138, md139, md140, md141, md142, md143, md144, md145, fun _ => false, fun _ => false, md148, md149, md150, md151, md152, md153, md154, md155, md156, md157, md158, md159, md160, md161, md162, md163, md164, md165, md166, md167, md168, md169, md170, md171, md172, md173, md174, md175, md176, md177, md178, md179, md180, md181, fun _ => false, fun _ => false, fun _ => false, fun _ => false, fun _ => false, fun _ => false, fun _ => false, fun _ => false, fun _ => false, fun _ => false, fun _ => false, fun _ => false, fun _ => false, fun _ => false, fun _ => false, fun _ => false, fun _ => false, fun _ => false, fun _ => false, fun _ => false, fun _ => false, fun _ => false, fun _ => false, md205]
noncomputable def fpL : List FPol := [⟨[], false, [], [], false⟩, ⟨[], false, [], [], false⟩, fp2, fp3, fp4, fp5, fp6, fp7, fp8, fp9, fp10, fp11, fp12, fp13, fp14, fp15, fp16, fp17, fp18, fp19, fp20, fp21, fp22, fp23, fp24, fp25, fp26, fp27, fp28, fp29, fp30, fp31, fp32, fp33, fp34, fp35, fp36, fp37, fp38, fp39, fp40, fp41, fp42, fp43, fp44, fp45, fp46, fp47, fp48, fp49, fp50, fp51, fp52, fp53, fp54, fp55, fp56, fp57, fp58, fp59, fp60, fp61, fp62, fp63, fp64, fp65, fp66, fp67, fp68, fp69, fp70, fp71, fp72, fp73, fp74, fp75, fp76, fp77, fp78, fp79, fp80, fp81, fp82, fp83, fp84, fp85, fp86, fp87, fp88, fp89, fp90, fp91, fp92, fp93, fp94, fp95, fp96, fp97, fp98, fp99, fp100, fp101, fp102, fp103, fp104, fp105, fp106, fp107, fp108, fp109, fp110, fp111, fp112, fp113, fp114, fp115, fp116, fp117, fp118, fp119, fp120, fp121, fp122, fp123, fp124, fp125, fp126, fp127, fp128, fp129, fp130, fp131, fp132, fp133, fp134, fp135, fp136, fp137, fp138, fp139, fp140, fp141, fp142, fp143, fp144, fp145, ⟨[], false, [], [], false⟩, ⟨[], false, [], [], false⟩, fp148, fp149, fp150, fp151, fp152, fp153, fp154, fp155, fp156, fp157, fp158, fp159, fp160, fp161, fp162, fp163, fp164, fp165, fp166, fp167, fp168, fp169, fp170, fp171, fp172, fp173, fp174, fp175, fp176, fp177, fp178, fp179, fp180, fp181, ⟨[], false, [], [], false⟩, ⟨[], false, [], [], false⟩, ⟨[], false, [], [], false⟩, ⟨[], false, [], [], false⟩, ⟨[], false, [], [], false⟩, ⟨[], false, [], [], false⟩, ⟨[], false, [], [], false⟩, ⟨[], false, [], [], false⟩, ⟨[], false, [], [], false⟩, ⟨[], false, [], [], false⟩, ⟨[], false, [], [], false⟩, ⟨[], false, [], [], false⟩, ⟨[], false, [], [], false⟩, ⟨[], false, [], [], false⟩, ⟨[], false, [], [], false⟩, ⟨[], false, [], [], false⟩, ⟨[], false, [], [], false⟩, ⟨[], false, [], [], false⟩, ⟨[], false, [], [], false⟩, ⟨[], false, [], [], false⟩, ⟨[], false, [], [], false⟩, ⟨[], false, [], [], false⟩, ⟨[], false, [], [], false⟩, fp205]
def tab0 : List Int := [0, 0, 0, 0, 0, 0, 0, 0, 0, 1, 1, 1, 1, 1, 0, 0, 0, 0, 0, 0, 0, 0, 0, 0, 0, 0, 0, 0, 0, 0, 0, 0, 1, 0, 0, 0, 0, 0, 0, 0, 0, 0, 0, 0, 0, 0, 0, 0, 0, 0, 0, 0, 0, 0, 0, 0, 0, 0, 0, 0, 0, 0, 0, 0, 0, 0, 0, 0, 0, 0, 0, 0, 0, 0, 0, 0, 0, 0, 0, 0, 0, 0, 0, 0, 0, 0, 0, 0, 0, 0, 0, 0, 0, 0, 0, 0, 0, 0, 0, 0, 0, 0, 0, 0, 0, 0, 0, 0, 0, 0, 0, 0, 0, 0, 0, 0, 0, 0, 0, 0, 0, 0, 0, 0, 0, 0, 0, 0, 0, 0, 0, 0, 0, 0, 0, 0, 0, 0, 0, 0, 0, 0, 0, 0, 0, 0, 0, 0, 0, 0, 0, 0, 0, 0, 0, 0, 0, 0, 0, 0, 0, 0, 0, 0, 0, 0, 0, 0, 0, 0, 0, 0, 0, 0, 0, 0, 0, 0, 0, 0, 0, 0, 0, 0, 0, 0, 0, 0, 0, 0, 0, 0, 0, 0, 0, 0, 0, 0, 0, 0, 0, 0, 0, 0, 0, 0, 0, 0, 0, 0, 0, 0, 0, 0, 0, 0, 0, 0, 0, 0, 0, 0, 0, 0, 0, 0, 0, 0, 0, 0, 0, 0, 0, 0, 0, 0, 0, 0, 0, 0, 0, 0, 0, 0, 0, 0, 0, 0, 0, 0, 0, 0, 0, 0, 0, 0]
def gl0 : List (Nat × D) := [(0, .agg (tab0.map fun z => .int .u8 z))]
@[simp] theorem glk_0 : glk gl0 0 = some (.agg (tab0.map fun z => .int .u8 z)) := rfl
noncomputable def ctx : Ctx := ⟨Tryd.prog, gl0, fun f => keepL.getD f (fun _ => []), fun f => ghL.getD f (fun _ => []), fun f => mdL.getD f (fun _ => false), fun f => fpL.getD f ⟨[], false, [], [], false⟩⟩
@[simp] theorem ctx_P : ctx.P = Tryd.prog := rfl
@[simp] theorem ctx_gl : ctx.gl = gl0 := rfl
@[simp] def codeOf (fn : Func) : Code := fn.body.getD .skip
@[simp] theorem keepE2 : ctx.keep 2 = keep2 := rfl
@[simp] theorem ghE2 : ctx.gh 2 = fun _ => [] := rfl
@[simp] theorem mdE2 : ctx.md 2 = md2 := rfl
@[simp] theorem fpE2 : ctx.fp 2 = fp2 := rfl
theorem run2 {args : List AV} {cs : List Cont} (h : callOk 1 fp2 args cs = true) : callT ctx 2 args cs = denK ctx 2 (codeOf Tryd.f2) (entry 1 gl0 args cs fp2.sites) (finK Tryd.prog fp2 cs.length []) :=
  call_run Tryd.func2 rfl Tryd.ntmps2 (by rw [Tryd.results2]) rfl rfl h
@[simp] theorem keepE3 : ctx.keep 3 = keep3 := rfl
@[simp] theorem ghE3 : ctx.gh 3 = fun _ => [] := rfl
@[simp] theorem mdE3 : ctx.md 3 = md3 := rfl
@[simp] theorem fpE3 : ctx.fp 3 = fp3 := rfl
theorem run3 {args : List AV} {cs : List Cont} (h : callOk 16 fp3 args cs = true) : callT ctx 3 args cs = denK ctx 3 (codeOf Tryd.f3) (entry 16 gl0 args cs fp3.sites) (finK Tryd.prog fp3 cs.length [.tmp 2]) :=
  call_run Tryd.func3 rfl Tryd.ntmps3 (by rw [Tryd.results3]) rfl rfl h
@[simp] theorem keepE4 : ctx.keep 4 = keep4 := rfl
@[simp] theorem ghE4 : ctx.gh 4 = fun _ => [] := rfl
@[simp] theorem mdE4 : ctx.md 4 = md4 := rfl
@[simp] theorem fpE4 : ctx.fp 4 = fp4 := rfl
theorem run4 {args : List AV} {cs : List Cont} (h : callOk 80 fp4 args cs = true) : callT ctx 4 args cs = denK ctx 4 (codeOf Tryd.f4) (entry 80 gl0 args cs fp4.sites) (finK Tryd.prog fp4 cs.length [.tmp 4]) :=
  call_run Tryd.func4 rfl Tryd.ntmps4 (by rw [Tryd.results4]) rfl rfl h
@[simp] theorem keepE5 : ctx.keep 5 = keep5 := rfl
@[simp] theorem ghE5 : ctx.gh 5 = fun _ => [] := rfl
@[simp] theorem mdE5 : ctx.md 5 = md5 := rfl
@[simp] theorem fpE5 : ctx.fp 5 = fp5 := rfl
theorem run5 {args : List AV} {cs : List Cont} (h : callOk 48 fp5 args cs = true) : callT ctx 5 args cs = denK ctx 5 (codeOf Tryd.f5) (entry 48 gl0 args cs fp5.sites) (finK Tryd.prog fp5 cs.length [.tmp 2]) :=
  call_run Tryd.func5 rfl Tryd.ntmps5 (by rw [Tryd.results5]) rfl rfl h
@[simp] theorem keepE6 : ctx.keep 6 = keep6 := rfl
@[simp] theorem ghE6 : ctx.gh 6 = fun _ => [] := rfl
@[simp] theorem mdE6 : ctx.md 6 = md6 := rfl
@[simp] theorem fpE6 : ctx.fp 6 = fp6 := rfl
theorem run6 {args : List AV} {cs : List Cont} (h : callOk 74 fp6 args cs = true) : callT ctx 6 args cs = denK ctx 6 (codeOf Tryd.f6) (entry 74 gl0 args cs fp6.sites) (finK Tryd.prog fp6 cs.length [.tmp 4]) :=
  call_run Tryd.func6 rfl Tryd.ntmps6 (by rw [Tryd.results6]) rfl rfl h
@[simp] theorem keepE7 : ctx.keep 7 = keep7 := rfl
@[simp] theorem ghE7 : ctx.gh 7 = fun _ => [] := rfl
@[simp] theorem mdE7 : ctx.md 7 = md7 := rfl
@[simp] theorem fpE7 : ctx.fp 7 = fp7 := rfl
theorem run7 {args : List AV} {cs : List Cont} (h : callOk 145 fp7 args cs = true) : callT ctx 7 args cs = denK ctx 7 (codeOf Tryd.f7) (entry 145 gl0 args cs fp7.sites) (finK Tryd.prog fp7 cs.length [.tmp 2]) :=
  call_run Tryd.func7 rfl Tryd.ntmps7 (by rw [Tryd.results7]) rfl rfl h
@[simp] theorem keepE8 : ctx.keep 8 = keep8 := rfl
@[simp] theorem ghE8 : ctx.gh 8 = fun _ => [] := rfl
@[simp] theorem mdE8 : ctx.md 8 = md8 := rfl
@[simp] theorem fpE8 : ctx.fp 8 = fp8 := rfl
theorem run8 {args : List AV} {cs : List Cont} (h : callOk 86 fp8 args cs = true) : callT ctx 8 args cs = denK ctx 8 (codeOf Tryd.f8) (entry 86 gl0 args cs fp8.sites) (finK Tryd.prog fp8 cs.length [.tmp 6]) :=
  call_run Tryd.func8 rfl Tryd.ntmps8 (by rw [Tryd.results8]) rfl rfl h
@[simp] theorem keepE9 : ctx.keep 9 = keep9 := rfl
@[simp] theorem ghE9 : ctx.gh 9 = fun _ => [] := rfl
@[simp] theorem mdE9 : ctx.md 9 = md9 := rfl
@[simp] theorem fpE9 : ctx.fp 9 = fp9 := rfl
theorem run9 {args : List AV} {cs : List Cont} (h : callOk 185 fp9 args cs = true) : callT ctx 9 args cs = denK ctx 9 (codeOf Tryd.f9) (entry 185 gl0 args cs fp9.sites) (finK Tryd.prog fp9 cs.length [.tmp 2]) :=
  call_run Tryd.func9 rfl Tryd.ntmps9 (by rw [Tryd.results9]) rfl rfl h
@[simp] theorem keepE10 : ctx.keep 10 = keep10 := rfl
@[simp] theorem ghE10 : ctx.gh 10 = fun _ => [] := rfl
@[simp] theorem mdE10 : ctx.md 10 = md10 := rfl
@[simp] theorem fpE10 : ctx.fp 10 = fp10 := rfl
theorem run10 {args : List AV} {cs : List Cont} (h : callOk 31 fp10 args cs = true) : callT ctx 10 args cs = denK ctx 10 (codeOf Tryd.f10) (entry 31 gl0 args cs fp10.sites) (finK Tryd.prog fp10 cs.length [.tmp 2]) :=
  call_run Tryd.func10 rfl Tryd.ntmps10 (by rw [Tryd.results10]) rfl rfl h
@[simp] theorem keepE11 : ctx.keep 11 = keep11 := rfl
@[simp] theorem ghE11 : ctx.gh 11 = fun _ => [] := rfl
@[simp] theorem mdE11 : ctx.md 11 = md11 := rfl
@[simp] theorem fpE11 : ctx.fp 11 = fp11 := rfl
theorem run11 {args : List AV} {cs : List Cont} (h : callOk 32 fp11 args cs = true) : callT ctx 11 args cs = denK ctx 11 (codeOf Tryd.f11) (entry 32 gl0 args cs fp11.sites) (finK Tryd.prog fp11 cs.length [.tmp 2]) :=
  call_run Tryd.func11 rfl Tryd.ntmps11 (by rw [Tryd.results11]) rfl rfl h
@[simp] theorem keepE12 : ctx.keep 12 = keep12 := rfl
@[simp] theorem ghE12 : ctx.gh 12 = fun _ => [] := rfl
@[simp] theorem mdE12 : ctx.md 12 = md12 := rfl
@[simp] theorem fpE12 : ctx.fp 12 = fp12 := rfl
theorem run12 {args : List AV} {cs : List Cont} (h : callOk 73 fp12 args cs = true) : callT ctx 12 args cs = denK ctx 12 (codeOf Tryd.f12) (entry 73 gl0 args cs fp12.sites) (finK Tryd.prog fp12 cs.length [.tmp 8]) :=
  call_run Tryd.func12 rfl Tryd.ntmps12 (by rw [Tryd.results12]) rfl rfl h
@[simp] theorem keepE13 : ctx.keep 13 = keep13 := rfl
@[simp] theorem ghE13 : ctx.gh 13 = fun _ => [] := rfl
@[simp] theorem mdE13 : ctx.md 13 = md13 := rfl
@[simp] theorem fpE13 : ctx.fp 13 = fp13 := rfl
theorem run13 {args : List AV} {cs : List Cont} (h : callOk 69 fp13 args cs = true) : callT ctx 13 args cs = denK ctx 13 (codeOf Tryd.f13) (entry 69 gl0 args cs fp13.sites) (finK Tryd.prog fp13 cs.length [.tmp 6]) :=
  call_run Tryd.func13 rfl Tryd.ntmps13 (by rw [Tryd.results13]) rfl rfl h
@[simp] theorem keepE14 : ctx.keep 14 = keep14 := rfl
@[simp] theorem ghE14 : ctx.gh 14 = fun _ => [] := rfl
@[simp] theorem mdE14 : ctx.md 14 = md14 := rfl
@[simp] theorem fpE14 : ctx.fp 14 = fp14 := rfl
theorem run14 {args : List AV} {cs : List Cont} (h : callOk 65 fp14 args cs = true) : callT ctx 14 args cs = denK ctx 14 (codeOf Tryd.f14) (entry 65 gl0 args cs fp14.sites) (finK Tryd.prog fp14 cs.length [.tmp 8]) :=
  call_run Tryd.func14 rfl Tryd.ntmps14 (by rw [Tryd.results14]) rfl rfl h
@[simp] theorem keepE15 : ctx.keep 15 = keep15 := rfl
@[simp] theorem ghE15 : ctx.gh 15 = fun _ => [] := rfl
@[simp] theorem mdE15 : ctx.md 15 = md15 := rfl
@[simp] theorem fpE15 : ctx.fp 15 = fp15 := rfl
theorem run15 {args : List AV} {cs : List Cont} (h : callOk 14 fp15 args cs = true) : callT ctx 15 args cs = denK ctx 15 (codeOf Tryd.f15) (entry 14 gl0 args cs fp15.sites) (finK Tryd.prog fp15 cs.length [.tmp 0]) :=
  call_run Tryd.func15 rfl Tryd.ntmps15 (by rw [Tryd.results15]) rfl rfl h
@[simp] theorem keepE16 : ctx.keep 16 = keep16 := rfl
@[simp] theorem ghE16 : ctx.gh 16 = gh16 := rfl
@[simp] theorem mdE16 : ctx.md 16 = md16 := rfl
@[simp] theorem fpE16 : ctx.fp 16 = fp16 := rfl
theorem run16 {args : List AV} {cs : List Cont} (h : callOk 22 fp16 args cs = true) : callT ctx 16 args cs = denK ctx 16 (codeOf Tryd.f16) (entry 22 gl0 args cs fp16.sites) (finK Tryd.prog fp16 cs.length [.tmp 2]) :=
  call_run Tryd.func16 rfl Tryd.ntmps16 (by rw [Tryd.results16]) rfl rfl h
@[simp] theorem keepE17 : ctx.keep 17 = keep17 := rfl
@[simp] theorem ghE17 : ctx.gh 17 = fun _ => [] := rfl
@[simp] theorem mdE17 : ctx.md 17 = md17 := rfl
@[simp] theorem fpE17 : ctx.fp 17 = fp17 := rfl
theorem run17 {args : List AV} {cs : List Cont} (h : callOk 174 fp17 args cs = true) : callT ctx 17 args cs = denK ctx 17 (codeOf Tryd.f17) (entry 174 gl0 args cs fp17.sites) (finK Tryd.prog fp17 cs.length [.tmp 2]) :=
  call_run Tryd.func17 rfl Tryd.ntmps17 (by rw [Tryd.results17]) rfl rfl h
@[simp] theorem keepE18 : ctx.keep 18 = keep18 := rfl
@[simp] theorem ghE18 : ctx.gh 18 = fun _ => [] := rfl
@[simp] theorem mdE18 : ctx.md 18 = md18 := rfl
@[simp] theorem fpE18 : ctx.fp 18 = fp18 := rfl
theorem run18 {args : List AV} {cs : List Cont} (h : callOk 47 fp18 args cs = true) : callT ctx 18 args cs = denK ctx 18 (codeOf Tryd.f18) (entry 47 gl0 args cs fp18.sites) (finK Tryd.prog fp18 cs.length [.tmp 0]) :=
  call_run Tryd.func18 rfl Tryd.ntmps18 (by rw [Tryd.results18]) rfl rfl h
@[simp] theorem keepE19 : ctx.keep 19 = keep19 := rfl
@[simp] theorem ghE19 : ctx.gh 19 = fun _ => [] := rfl
@[simp] theorem mdE19 : ctx.md 19 = md19 := rfl
@[simp] theorem fpE19 : ctx.fp 19 = fp19 := rfl
theorem run19 {args : List AV} {cs : List Cont} (h : callOk 62 fp19 args cs = true) : callT ctx 19 args cs = denK ctx 19 (codeOf Tryd.f19) (entry 62 gl0 args cs fp19.sites) (finK Tryd.prog fp19 cs.length [.tmp 2, .tmp 3, .cell 4 33]) :=
  call_run Tryd.func19 rfl Tryd.ntmps19 (by rw [Tryd.results19]) rfl rfl h
@[simp] theorem keepE20 : ctx.keep 20 = keep20 := rfl
@[simp] theorem ghE20 : ctx.gh 20 = fun _ => [] := rfl
@[simp] theorem mdE20 : ctx.md 20 = md20 := rfl
@[simp] theorem fpE20 : ctx.fp 20 = fp20 := rfl
theorem run20 {args : List AV} {cs : List Cont} (h : callOk 112 fp20 args cs = true) : callT ctx 20 args cs = denK ctx 20 (codeOf Tryd.f20) (entry 112 gl0 args cs fp20.sites) (finK Tryd.prog fp20 cs.length [.tmp 2, .tmp 3, .cell 4 33]) :=
  call_run Tryd.func20 rfl Tryd.ntmps20 (by rw [Tryd.results20]) rfl rfl h
@[simp] theorem keepE21 : ctx.keep 21 = keep21 := rfl
@[simp] theorem ghE21 : ctx.gh 21 = fun _ => [] := rfl
@[simp] theorem mdE21 : ctx.md 21 = md21 := rfl
@[simp] theorem fpE21 : ctx.fp 21 = fp21 := rfl
theorem run21 {args : List AV} {cs : List Cont} (h : callOk 38 fp21 args cs = true) : callT ctx 21 args cs = denK ctx 21 (codeOf Tryd.f21) (entry 38 gl0 args cs fp21.sites) (finK Tryd.prog fp21 cs.length [.tmp 6]) :=
  call_run Tryd.func21 rfl Tryd.ntmps21 (by rw [Tryd.results21]) rfl rfl h
@[simp] theorem keepE22 : ctx.keep 22 = keep22 := rfl
@[simp] theorem ghE22 : ctx.gh 22 = fun _ => [] := rfl
@[simp] theorem mdE22 : ctx.md 22 = md22 := rfl
@[simp] theorem fpE22 : ctx.fp 22 = fp22 := rfl
theorem run22 {args : List AV} {cs : List Cont} (h : callOk 6 fp22 args cs = true) : callT ctx 22 args cs = denK ctx 22 (codeOf Tryd.f22) (entry 6 gl0 args cs fp22.sites) (finK Tryd.prog fp22 cs.length [.tmp 2]) :=
  call_run Tryd.func22 rfl Tryd.ntmps22 (by rw [Tryd.results22]) rfl rfl h
@[simp] theorem keepE23 : ctx.keep 23 = keep23 := rfl
@[simp] theorem ghE23 : ctx.gh 23 = fun _ => [] := rfl
@[simp] theorem mdE23 : ctx.md 23 = md23 := rfl
@[simp] theorem fpE23 : ctx.fp 23 = fp23 := rfl
theorem run23 {args : List AV} {cs : List Cont} (h : callOk 15 fp23 args cs = true) : callT ctx 23 args cs = denK ctx 23 (codeOf Tryd.f23) (entry 15 gl0 args cs fp23.sites) (finK Tryd.prog fp23 cs.length [.tmp 2]) :=
  call_run Tryd.func23 rfl Tryd.ntmps23 (by rw [Tryd.results23]) rfl rfl h
@[simp] theorem keepE24 : ctx.keep 24 = keep24 := rfl
@[simp] theorem ghE24 : ctx.gh 24 = fun _ => [] := rfl
@[simp] theorem mdE24 : ctx.md 24 = md24 := rfl
@[simp] theorem fpE24 : ctx.fp 24 = fp24 := rfl
theorem run24 {args : List AV} {cs : List Cont} (h : callOk 29 fp24 args cs = true) : callT ctx 24 args cs = denK ctx 24 (codeOf Tryd.f24) (entry 29 gl0 args cs fp24.sites) (finK Tryd.prog fp24 cs.length [.tmp 0]) :=
  call_run Tryd.func24 rfl Tryd.ntmps24 (by rw [Tryd.results24]) rfl rfl h
@[simp] theorem keepE25 : ctx.keep 25 = keep25 := rfl
@[simp] theorem ghE25 : ctx.gh 25 = fun _ => [] := rfl
@[simp] theorem mdE25 : ctx.md 25 = md25 := rfl
@[simp] theorem fpE25 : ctx.fp 25 = fp25 := rfl
theorem run25 {args : List AV} {cs : List Cont} (h : callOk 25 fp25 args cs = true) : callT ctx 25 args cs = denK ctx 25 (codeOf Tryd.f25) (entry 25 gl0 args cs fp25.sites) (finK Tryd.prog fp25 cs.length [.cell 2 24, .tmp 3]) :=
  call_run Tryd.func25 rfl Tryd.ntmps25 (by rw [Tryd.results25]) rfl rfl h
@[simp] theorem keepE26 : ctx.keep 26 = keep26 := rfl
@[simp] theorem ghE26 : ctx.gh 26 = fun _ => [] := rfl
@[simp] theorem mdE26 : ctx.md 26 = md26 := rfl
@[simp] theorem fpE26 : ctx.fp 26 = fp26 := rfl
theorem run26 {args : List AV} {cs : List Cont} (h : callOk 45 fp26 args cs = true) : callT ctx 26 args cs = denK ctx 26 (codeOf Tryd.f26) (entry 45 gl0 args cs fp26.sites) (finK Tryd.prog fp26 cs.length [.tmp 4]) :=
  call_run Tryd.func26 rfl Tryd.ntmps26 (by rw [Tryd.results26]) rfl rfl h
@[simp] theorem keepE27 : ctx.keep 27 = keep27 := rfl
@[simp] theorem ghE27 : ctx.gh 27 = fun _ => [] := rfl
@[simp] theorem mdE27 : ctx.md 27 = md27 := rfl
@[simp] theorem fpE27 : ctx.fp 27 = fp27 := rfl
theorem run27 {args : List AV} {cs : List Cont} (h : callOk 47 fp27 args cs = true) : callT ctx 27 args cs = denK ctx 27 (codeOf Tryd.f27) (entry 47 gl0 args cs fp27.sites) (finK Tryd.prog fp27 cs.length [.tmp 0]) :=
  call_run Tryd.func27 rfl Tryd.ntmps27 (by rw [Tryd.results27]) rfl rfl h
@[simp] theorem keepE28 : ctx.keep 28 = keep28 := rfl
@[simp] theorem ghE28 : ctx.gh 28 = fun _ => [] := rfl
@[simp] theorem mdE28 : ctx.md 28 = md28 := rfl
@[simp] theorem fpE28 : ctx.fp 28 = fp28 := rfl
theorem run28 {args : List AV} {cs : List Cont} (h : callOk 53 fp28 args cs = true) : callT ctx 28 args cs = denK ctx 28 (codeOf Tryd.f28) (entry 53 gl0 args cs fp28.sites) (finK Tryd.prog fp28 cs.length [.tmp 2, .tmp 3]) :=
  call_run Tryd.func28 rfl Tryd.ntmps28 (by rw [Tryd.results28]) rfl rfl h
@[simp] theorem keepE29 : ctx.keep 29 = keep29 := rfl
@[simp] theorem ghE29 : ctx.gh 29 = fun _ => [] := rfl
@[simp] theorem mdE29 : ctx.md 29 = md29 := rfl
@[simp] theorem fpE29 : ctx.fp 29 = fp29 := rfl
theorem run29 {args : List AV} {cs : List Cont} (h : callOk 92 fp29 args cs = true) : callT ctx 29 args cs = denK ctx 29 (codeOf Tryd.f29) (entry 92 gl0 args cs fp29.sites) (finK Tryd.prog fp29 cs.length [.tmp 2, .tmp 3]) :=
  call_run Tryd.func29 rfl Tryd.ntmps29 (by rw [Tryd.results29]) rfl rfl h
@[simp] theorem keepE30 : ctx.keep 30 = keep30 := rfl
@[simp] theorem ghE30 : ctx.gh 30 = fun _ => [] := rfl
@[simp] theorem mdE30 : ctx.md 30 = md30 := rfl
@[simp] theorem fpE30 : ctx.fp 30 = fp30 := rfl
theorem run30 {args : List AV} {cs : List Cont} (h : callOk 26 fp30 args cs = true) : callT ctx 30 args cs = denK ctx 30 (codeOf Tryd.f30) (entry 26 gl0 args cs fp30.sites) (finK Tryd.prog fp30 cs.length [.tmp 4]) :=
  call_run Tryd.func30 rfl Tryd.ntmps30 (by rw [Tryd.results30]) rfl rfl h
@[simp] theorem keepE31 : ctx.keep 31 = keep31 := rfl
@[simp] theorem ghE31 : ctx.gh 31 = fun _ => [] := rfl
@[simp] theorem mdE31 : ctx.md 31 = md31 := rfl
@[simp] theorem fpE31 : ctx.fp 31 = fp31 := rfl
theorem run31 {args : List AV} {cs : List Cont} (h : callOk 74 fp31 args cs = true) : callT ctx 31 args cs = denK ctx 31 (codeOf Tryd.f31) (entry 74 gl0 args cs fp31.sites) (finK Tryd.prog fp31 cs.length [.cell 2 24, .tmp 3]) :=
  call_run Tryd.func31 rfl Tryd.ntmps31 (by rw [Tryd.results31]) rfl rfl h
@[simp] theorem keepE32 : ctx.keep 32 = keep32 := rfl
@[simp] theorem ghE32 : ctx.gh 32 = fun _ => [] := rfl
@[simp] theorem mdE32 : ctx.md 32 = md32 := rfl
@[simp] theorem fpE32 : ctx.fp 32 = fp32 := rfl
theorem run32 {args : List AV} {cs : List Cont} (h : callOk 182 fp32 args cs = true) : callT ctx 32 args cs = denK ctx 32 (codeOf Tryd.f32) (entry 182 gl0 args cs fp32.sites) (finK Tryd.prog fp32 cs.length [.cell 2 24, .tmp 3]) :=
  call_run Tryd.func32 rfl Tryd.ntmps32 (by rw [Tryd.results32]) rfl rfl h
@[simp] theorem keepE33 : ctx.keep 33 = keep33 := rfl
@[simp] theorem ghE33 : ctx.gh 33 = fun _ => [] := rfl
@[simp] theorem mdE33 : ctx.md 33 = md33 := rfl
@[simp] theorem fpE33 : ctx.fp 33 = fp33 := rfl
theorem run33 {args : List AV} {cs : List Cont} (h : callOk 31 fp33 args cs = true) : callT ctx 33 args cs = denK ctx 33 (codeOf Tryd.f33) (entry 31 gl0 args cs fp33.sites) (finK Tryd.prog fp33 cs.length [.tmp 0]) :=
  call_run Tryd.func33 rfl Tryd.ntmps33 (by rw [Tryd.results33]) rfl rfl h
@[simp] theorem keepE34 : ctx.keep 34 = keep34 := rfl
@[simp] theorem ghE34 : ctx.gh 34 = fun _ => [] := rfl
@[simp] theorem mdE34 : ctx.md 34 = md34 := rfl
@[simp] theorem fpE34 : ctx.fp 34 = fp34 := rfl
theorem run34 {args : List AV} {cs : List Cont} (h : callOk 89 fp34 args cs = true) : callT ctx 34 args cs = denK ctx 34 (codeOf Tryd.f34) (entry 89 gl0 args cs fp34.sites) (finK Tryd.prog fp34 cs.length [.cell 6 61]) :=
  call_run Tryd.func34 rfl Tryd.ntmps34 (by rw [Tryd.results34]) rfl rfl h
@[simp] theorem keepE35 : ctx.keep 35 = keep35 := rfl
@[simp] theorem ghE35 : ctx.gh 35 = fun _ => [] := rfl
@[simp] theorem mdE35 : ctx.md 35 = md35 := rfl
@[simp] theorem fpE35 : ctx.fp 35 = fp35 := rfl
theorem run35 {args : List AV} {cs : List Cont} (h : callOk 24 fp35 args cs = true) : callT ctx 35 args cs = denK ctx 35 (codeOf Tryd.f35) (entry 24 gl0 args cs fp35.sites) (finK Tryd.prog fp35 cs.length [.tmp 4]) :=
  call_run Tryd.func35 rfl Tryd.ntmps35 (by rw [Tryd.results35]) rfl rfl h
@[simp] theorem keepE36 : ctx.keep 36 = keep36 := rfl
@[simp] theorem ghE36 : ctx.gh 36 = fun _ => [] := rfl
@[simp] theorem mdE36 : ctx.md 36 = md36 := rfl
@[simp] theorem fpE36 : ctx.fp 36 = fp36 := rfl
theorem run36 {args : List AV} {cs : List Cont} (h : callOk 74 fp36 args cs = true) : callT ctx 36 args cs = denK ctx 36 (codeOf Tryd.f36) (entry 74 gl0 args cs fp36.sites) (finK Tryd.prog fp36 cs.length [.cell 6 61]) :=
  call_run Tryd.func36 rfl Tryd.ntmps36 (by rw [Tryd.results36]) rfl rfl h
@[simp] theorem keepE37 : ctx.keep 37 = keep37 := rfl
@[simp] theorem ghE37 : ctx.gh 37 = fun _ => [] := rfl
@[simp] theorem mdE37 : ctx.md 37 = md37 := rfl
@[simp] theorem fpE37 : ctx.fp 37 = fp37 := rfl
theorem run37 {args : List AV} {cs : List Cont} (h : callOk 66 fp37 args cs = true) : callT ctx 37 args cs = denK ctx 37 (codeOf Tryd.f37) (entry 66 gl0 args cs fp37.sites) (finK Tryd.prog fp37 cs.length [.tmp 2]) :=
  call_run Tryd.func37 rfl Tryd.ntmps37 (by rw [Tryd.results37]) rfl rfl h
@[simp] theorem keepE38 : ctx.keep 38 = keep38 := rfl
@[simp] theorem ghE38 : ctx.gh 38 = fun _ => [] := rfl
@[simp] theorem mdE38 : ctx.md 38 = md38 := rfl
@[simp] theorem fpE38 : ctx.fp 38 = fp38 := rfl
theorem run38 {args : List AV} {cs : List Cont} (h : callOk 63 fp38 args cs = true) : callT ctx 38 args cs = denK ctx 38 (codeOf Tryd.f38) (entry 63 gl0 args cs fp38.sites) (finK Tryd.prog fp38 cs.length [.tmp 2]) :=
  call_run Tryd.func38 rfl Tryd.ntmps38 (by rw [Tryd.results38]) rfl rfl h
@[simp] theorem keepE39 : ctx.keep 39 = keep39 := rfl
@[simp] theorem ghE39 : ctx.gh 39 = fun _ => [] := rfl
@[simp] theorem mdE39 : ctx.md 39 = md39 := rfl
@[simp] theorem fpE39 : ctx.fp 39 = fp39 := rfl
theorem run39 {args : List AV} {cs : List Cont} (h : callOk 26 fp39 args cs = true) : callT ctx 39 args cs = denK ctx 39 (codeOf Tryd.f39) (entry 26 gl0 args cs fp39.sites) (finK Tryd.prog fp39 cs.length [.tmp 2]) :=
  call_run Tryd.func39 rfl Tryd.ntmps39 (by rw [Tryd.results39]) rfl rfl h
@[simp] theorem keepE40 : ctx.keep 40 = keep40 := rfl
@[simp] theorem ghE40 : ctx.gh 40 = fun _ => [] := rfl
@[simp] theorem mdE40 : ctx.md 40 = md40 := rfl
@[simp] theorem fpE40 : ctx.fp 40 = fp40 := rfl
theorem run40 {args : List AV} {cs : List Cont} (h : callOk 152 fp40 args cs = true) : callT ctx 40 args cs = denK ctx 40 (codeOf Tryd.f40) (entry 152 gl0 args cs fp40.sites) (finK Tryd.prog fp40 cs.length [.tmp 4]) :=
  call_run Tryd.func40 rfl Tryd.ntmps40 (by rw [Tryd.results40]) rfl rfl h
@[simp] theorem keepE41 : ctx.keep 41 = keep41 := rfl
@[simp] theorem ghE41 : ctx.gh 41 = fun _ => [] := rfl
@[simp] theorem mdE41 : ctx.md 41 = md41 := rfl
@[simp] theorem fpE41 : ctx.fp 41 = fp41 := rfl
theorem run41 {args : List AV} {cs : List Cont} (h : callOk 54 fp41 args cs = true) : callT ctx 41 args cs = denK ctx 41 (codeOf Tryd.f41) (entry 54 gl0 args cs fp41.sites) (finK Tryd.prog fp41 cs.length [.tmp 2, .tmp 3, .tmp 4, .tmp 5]) :=
  call_run Tryd.func41 rfl Tryd.ntmps41 (by rw [Tryd.results41]) rfl rfl h
@[simp] theorem keepE42 : ctx.keep 42 = keep42 := rfl
@[simp] theorem ghE42 : ctx.gh 42 = fun _ => [] := rfl
@[simp] theorem mdE42 : ctx.md 42 = md42 := rfl
@[simp] theorem fpE42 : ctx.fp 42 = fp42 := rfl
theorem run42 {args : List AV} {cs : List Cont} (h : callOk 82 fp42 args cs = true) : callT ctx 42 args cs = denK ctx 42 (codeOf Tryd.f42) (entry 82 gl0 args cs fp42.sites) (finK Tryd.prog fp42 cs.length [.tmp 2]) :=
  call_run Tryd.func42 rfl Tryd.ntmps42 (by rw [Tryd.results42]) rfl rfl h
@[simp] theorem keepE43 : ctx.keep 43 = keep43 := rfl
@[simp] theorem ghE43 : ctx.gh 43 = fun _ => [] := rfl
@[simp] theorem mdE43 : ctx.md 43 = md43 := rfl
@[simp] theorem fpE43 : ctx.fp 43 = fp43 := rfl
theorem run43 {args : List AV} {cs : List Cont} (h : callOk 51 fp43 args cs = true) : callT ctx 43 args cs = denK ctx 43 (codeOf Tryd.f43) (entry 51 gl0 args cs fp43.sites) (finK Tryd.prog fp43 cs.length [.tmp 2]) :=
  call_run Tryd.func43 rfl Tryd.ntmps43 (by rw [Tryd.results43]) rfl rfl h
@[simp] theorem keepE44 : ctx.keep 44 = keep44 := rfl
@[simp] theorem ghE44 : ctx.gh 44 = fun _ => [] := rfl
@[simp] theorem mdE44 : ctx.md 44 = md44 := rfl
@[simp] theorem fpE44 : ctx.fp 44 = fp44 := rfl
theorem run44 {args : List AV} {cs : List Cont} (h : callOk 12 fp44 args cs = true) : callT ctx 44 args cs = denK ctx 44 (codeOf Tryd.f44) (entry 12 gl0 args cs fp44.sites) (finK Tryd.prog fp44 cs.length [.tmp 2]) :=
  call_run Tryd.func44 rfl Tryd.ntmps44 (by rw [Tryd.results44]) rfl rfl h
@[simp] theorem keepE45 : ctx.keep 45 = keep45 := rfl
@[simp] theorem ghE45 : ctx.gh 45 = fun _ => [] := rfl
@[simp] theorem mdE45 : ctx.md 45 = md45 := rfl
@[simp] theorem fpE45 : ctx.fp 45 = fp45 := rfl
theorem run45 {args : List AV} {cs : List Cont} (h : callOk 54 fp45 args cs = true) : callT ctx 45 args cs = denK ctx 45 (codeOf Tryd.f45) (entry 54 gl0 args cs fp45.sites) (finK Tryd.prog fp45 cs.length [.cell 4 33, .tmp 5]) :=
  call_run Tryd.func45 rfl Tryd.ntmps45 (by rw [Tryd.results45]) rfl rfl h
@[simp] theorem keepE46 : ctx.keep 46 = keep46 := rfl
@[simp] theorem ghE46 : ctx.gh 46 = fun _ => [] := rfl
@[simp] theorem mdE46 : ctx.md 46 = md46 := rfl
@[simp] theorem fpE46 : ctx.fp 46 = fp46 := rfl
theorem run46 {args : List AV} {cs : List Cont} (h : callOk 42 fp46 args cs = true) : callT ctx 46 args cs = denK ctx 46 (codeOf Tryd.f46) (entry 42 gl0 args cs fp46.sites) (finK Tryd.prog fp46 cs.length []) :=
  call_run Tryd.func46 rfl Tryd.ntmps46 (by rw [Tryd.results46]) rfl rfl h
@[simp] theorem keepE47 : ctx.keep 47 = keep47 := rfl
@[simp] theorem ghE47 : ctx.gh 47 = fun _ => [] := rfl
@[simp] theorem mdE47 : ctx.md 47 = md47 := rfl
@[simp] theorem fpE47 : ctx.fp 47 = fp47 := rfl
theorem run47 {args : List AV} {cs : List Cont} (h : callOk 70 fp47 args cs = true) : callT ctx 47 args cs = denK ctx 47 (codeOf Tryd.f47) (entry 70 gl0 args cs fp47.sites) (finK Tryd.prog fp47 cs.length [.tmp 4, .tmp 5]) :=
  call_run Tryd.func47 rfl Tryd.ntmps47 (by rw [Tryd.results47]) rfl rfl h
@[simp] theorem keepE48 : ctx.keep 48 = keep48 := rfl
@[simp] theorem ghE48 : ctx.gh 48 = fun _ => [] := rfl
@[simp] theorem mdE48 : ctx.md 48 = md48 := rfl
@[simp] theorem fpE48 : ctx.fp 48 = fp48 := rfl
theorem run48 {args : List AV} {cs : List Cont} (h : callOk 27 fp48 args cs = true) : callT ctx 48 args cs = denK ctx 48 (codeOf Tryd.f48) (entry 27 gl0 args cs fp48.sites) (finK Tryd.prog fp48 cs.length [.cell 4 33]) :=
  call_run Tryd.func48 rfl Tryd.ntmps48 (by rw [Tryd.results48]) rfl rfl h
@[simp] theorem keepE49 : ctx.keep 49 = keep49 := rfl
@[simp] theorem ghE49 : ctx.gh 49 = fun _ => [] := rfl
@[simp] theorem mdE49 : ctx.md 49 = md49 := rfl
@[simp] theorem fpE49 : ctx.fp 49 = fp49 := rfl
theorem run49 {args : List AV} {cs : List Cont} (h : callOk 17 fp49 args cs = true) : callT ctx 49 args cs = denK ctx 49 (codeOf Tryd.f49) (entry 17 gl0 args cs fp49.sites) (finK Tryd.prog fp49 cs.length [.tmp 2]) :=
  call_run Tryd.func49 rfl Tryd.ntmps49 (by rw [Tryd.results49]) rfl rfl h
@[simp] theorem keepE50 : ctx.keep 50 = keep50 := rfl
@[simp] theorem ghE50 : ctx.gh 50 = fun _ => [] := rfl
@[simp] theorem mdE50 : ctx.md 50 = md50 := rfl
@[simp] theorem fpE50 : ctx.fp 50 = fp50 := rfl
theorem run50 {args : List AV} {cs : List Cont} (h : callOk 13 fp50 args cs = true) : callT ctx 50 args cs = denK ctx 50 (codeOf Tryd.f50) (entry 13 gl0 args cs fp50.sites) (finK Tryd.prog fp50 cs.length [.tmp 2]) :=
  call_run Tryd.func50 rfl Tryd.ntmps50 (by rw [Tryd.results50]) rfl rfl h
@[simp] theorem keepE51 : ctx.keep 51 = keep51 := rfl
@[simp] theorem ghE51 : ctx.gh 51 = fun _ => [] := rfl
@[simp] theorem mdE51 : ctx.md 51 = md51 := rfl
@[simp] theorem fpE51 : ctx.fp 51 = fp51 := rfl
theorem run51 {args : List AV} {cs : List Cont} (h : callOk 9 fp51 args cs = true) : callT ctx 51 args cs = denK ctx 51 (codeOf Tryd.f51) (entry 9 gl0 args cs fp51.sites) (finK Tryd.prog fp51 cs.length [.tmp 2]) :=
  call_run Tryd.func51 rfl Tryd.ntmps51 (by rw [Tryd.results51]) rfl rfl h
@[simp] theorem keepE52 : ctx.keep 52 = keep52 := rfl
@[simp] theorem ghE52 : ctx.gh 52 = fun _ => [] := rfl
@[simp] theorem mdE52 : ctx.md 52 = md52 := rfl
@[simp] theorem fpE52 : ctx.fp 52 = fp52 := rfl
theorem run52 {args : List AV} {cs : List Cont} (h : callOk 95 fp52 args cs = true) : callT ctx 52 args cs = denK ctx 52 (codeOf Tryd.f52) (entry 95 gl0 args cs fp52.sites) (finK Tryd.prog fp52 cs.length [.tmp 4, .tmp 5, .tmp 6]) :=
  call_run Tryd.func52 rfl Tryd.ntmps52 (by rw [Tryd.results52]) rfl rfl h
@[simp] theorem keepE53 : ctx.keep 53 = keep53 := rfl
@[simp] theorem ghE53 : ctx.gh 53 = fun _ => [] := rfl
@[simp] theorem mdE53 : ctx.md 53 = md53 := rfl
@[simp] theorem fpE53 : ctx.fp 53 = fp53 := rfl
theorem run53 {args : List AV} {cs : List Cont} (h : callOk 43 fp53 args cs = true) : callT ctx 53 args cs = denK ctx 53 (codeOf Tryd.f53) (entry 43 gl0 args cs fp53.sites) (finK Tryd.prog fp53 cs.length [.tmp 4]) :=
  call_run Tryd.func53 rfl Tryd.ntmps53 (by rw [Tryd.results53]) rfl rfl h
@[simp] theorem keepE54 : ctx.keep 54 = keep54 := rfl
@[simp] theorem ghE54 : ctx.gh 54 = fun _ => [] := rfl
@[simp] theorem mdE54 : ctx.md 54 = md54 := rfl
@[simp] theorem fpE54 : ctx.fp 54 = fp54 := rfl
theorem run54 {args : List AV} {cs : List Cont} (h : callOk 9 fp54 args cs = true) : callT ctx 54 args cs = denK ctx 54 (codeOf Tryd.f54) (entry 9 gl0 args cs fp54.sites) (finK Tryd.prog fp54 cs.length [.tmp 4]) :=
  call_run Tryd.func54 rfl Tryd.ntmps54 (by rw [Tryd.results54]) rfl rfl h
@[simp] theorem keepE55 : ctx.keep 55 = keep55 := rfl
@[simp] theorem ghE55 : ctx.gh 55 = fun _ => [] := rfl
@[simp] theorem mdE55 : ctx.md 55 = md55 := rfl
@[simp] theorem fpE55 : ctx.fp 55 = fp55 := rfl
theorem run55 {args : List AV} {cs : List Cont} (h : callOk 106 fp55 args cs = true) : callT ctx 55 args cs = denK ctx 55 (codeOf Tryd.f55) (entry 106 gl0 args cs fp55.sites) (finK Tryd.prog fp55 cs.length [.tmp 2]) :=
  call_run Tryd.func55 rfl Tryd.ntmps55 (by rw [Tryd.results55]) rfl rfl h
@[simp] theorem keepE56 : ctx.keep 56 = keep56 := rfl
@[simp] theorem ghE56 : ctx.gh 56 = fun _ => [] := rfl
@[simp] theorem mdE56 : ctx.md 56 = md56 := rfl
@[simp] theorem fpE56 : ctx.fp 56 = fp56 := rfl
theorem run56 {args : List AV} {cs : List Cont} (h : callOk 8 fp56 args cs = true) : callT ctx 56 args cs = runSplit (fun args => denK ctx 56 (codeOf Tryd.f56) (entry 8 gl0 args cs fp56.sites) (finK Tryd.prog fp56 cs.length [.tmp 2])) args true :=
  call_run_split Tryd.func56 rfl Tryd.ntmps56 (by rw [Tryd.results56]) rfl rfl h
@[simp] theorem keepE57 : ctx.keep 57 = keep57 := rfl
@[simp] theorem ghE57 : ctx.gh 57 = fun _ => [] := rfl
@[simp] theorem mdE57 : ctx.md 57 = md57 := rfl
@[simp] theorem fpE57 : ctx.fp 57 = fp57 := rfl
theorem run57 {args : List AV} {cs : List Cont} (h : callOk 77 fp57 args cs = true) : callT ctx 57 args cs = denK ctx 57 (codeOf Tryd.f57) (entry 77 gl0 args cs fp57.sites) (finK Tryd.prog fp57 cs.length [.tmp 2, .tmp 3]) :=
  call_run Tryd.func57 rfl Tryd.ntmps57 (by rw [Tryd.results57]) rfl rfl h
@[simp] theorem keepE58 : ctx.keep 58 = keep58 := rfl
@[simp] theorem ghE58 : ctx.gh 58 = fun _ => [] := rfl
@[simp] theorem mdE58 : ctx.md 58 = md58 := rfl
@[simp] theorem fpE58 : ctx.fp 58 = fp58 := rfl
theorem run58 {args : List AV} {cs : List Cont} (h : callOk 9 fp58 args cs = true) : callT ctx 58 args cs = denK ctx 58 (codeOf Tryd.f58) (entry 9 gl0 args cs fp58.sites) (finK Tryd.prog fp58 cs.length [.tmp 4]) :=
  call_run Tryd.func58 rfl Tryd.ntmps58 (by rw [Tryd.results58]) rfl rfl h
@[simp] theorem keepE59 : ctx.keep 59 = keep59 := rfl
@[simp] theorem ghE59 : ctx.gh 59 = fun _ => [] := rfl
@[simp] theorem mdE59 : ctx.md 59 = md59 := rfl
@[simp] theorem fpE59 : ctx.fp 59 = fp59 := rfl
theorem run59 {args : List AV} {cs : List Cont} (h : callOk 6 fp59 args cs = true) : callT ctx 59 args cs = denK ctx 59 (codeOf Tryd.f59) (entry 6 gl0 args cs fp59.sites) (finK Tryd.prog fp59 cs.length [.tmp 2]) :=
  call_run Tryd.func59 rfl Tryd.ntmps59 (by rw [Tryd.results59]) rfl rfl h
@[simp] theorem keepE60 : ctx.keep 60 = keep60 := rfl
@[simp] theorem ghE60 : ctx.gh 60 = fun _ => [] := rfl
@[simp] theorem mdE60 : ctx.md 60 = md60 := rfl
@[simp] theorem fpE60 : ctx.fp 60 = fp60 := rfl
theorem run60 {args : List AV} {cs : List Cont} (h : callOk 50 fp60 args cs = true) : callT ctx 60 args cs = denK ctx 60 (codeOf Tryd.f60) (entry 50 gl0 args cs fp60.sites) (finK Tryd.prog fp60 cs.length [.tmp 2]) :=
  call_run Tryd.func60 rfl Tryd.ntmps60 (by rw [Tryd.results60]) rfl rfl h
@[simp] theorem keepE61 : ctx.keep 61 = keep61 := rfl
@[simp] theorem ghE61 : ctx.gh 61 = fun _ => [] := rfl
@[simp] theorem mdE61 : ctx.md 61 = md61 := rfl
@[simp] theorem fpE61 : ctx.fp 61 = fp61 := rfl
theorem run61 {args : List AV} {cs : List Cont} (h : callOk 24 fp61 args cs = true) : callT ctx 61 args cs = denK ctx 61 (codeOf Tryd.f61) (entry 24 gl0 args cs fp61.sites) (finK Tryd.prog fp61 cs.length [.tmp 6]) :=
  call_run Tryd.func61 rfl Tryd.ntmps61 (by rw [Tryd.results61]) rfl rfl h
@[simp] theorem keepE62 : ctx.keep 62 = keep62 := rfl
@[simp] theorem ghE62 : ctx.gh 62 = fun _ => [] := rfl
@[simp] theorem mdE62 : ctx.md 62 = md62 := rfl
@[simp] theorem fpE62 : ctx.fp 62 = fp62 := rfl
theorem run62 {args : List AV} {cs : List Cont} (h : callOk 50 fp62 args cs = true) : callT ctx 62 args cs = denK ctx 62 (codeOf Tryd.f62) (entry 50 gl0 args cs fp62.sites) (finK Tryd.prog fp62 cs.length [.tmp 4]) :=
  call_run Tryd.func62 rfl Tryd.ntmps62 (by rw [Tryd.results62]) rfl rfl h
@[simp] theorem keepE63 : ctx.keep 63 = keep63 := rfl
@[simp] theorem ghE63 : ctx.gh 63 = fun _ => [] := rfl
@[simp] theorem mdE63 : ctx.md 63 = md63 := rfl
@[simp] theorem fpE63 : ctx.fp 63 = fp63 := rfl
theorem run63 {args : List AV} {cs : List Cont} (h : callOk 5 fp63 args cs = true) : callT ctx 63 args cs = denK ctx 63 (codeOf Tryd.f63) (entry 5 gl0 args cs fp63.sites) (finK Tryd.prog fp63 cs.length [.tmp 2]) :=
  call_run Tryd.func63 rfl Tryd.ntmps63 (by rw [Tryd.results63]) rfl rfl h
@[simp] theorem keepE64 : ctx.keep 64 = keep64 := rfl
@[simp] theorem ghE64 : ctx.gh 64 = fun _ => [] := rfl
@[simp] theorem mdE64 : ctx.md 64 = md64 := rfl
@[simp] theorem fpE64 : ctx.fp 64 = fp64 := rfl
theorem run64 {args : List AV} {cs : List Cont} (h : callOk 24 fp64 args cs = true) : callT ctx 64 args cs = denK ctx 64 (codeOf Tryd.f64) (entry 24 gl0 args cs fp64.sites) (finK Tryd.prog fp64 cs.length [.tmp 4]) :=
  call_run Tryd.func64 rfl Tryd.ntmps64 (by rw [Tryd.results64]) rfl rfl h
@[simp] theorem keepE65 : ctx.keep 65 = keep65 := rfl
@[simp] theorem ghE65 : ctx.gh 65 = fun _ => [] := rfl
@[simp] theorem mdE65 : ctx.md 65 = md65 := rfl
@[simp] theorem fpE65 : ctx.fp 65 = fp65 := rfl
theorem run65 {args : List AV} {cs : List Cont} (h : callOk 18 fp65 args cs = true) : callT ctx 65 args cs = denK ctx 65 (codeOf Tryd.f65) (entry 18 gl0 args cs fp65.sites) (finK Tryd.prog fp65 cs.length [.cell 0 102]) :=
  call_run Tryd.func65 rfl Tryd.ntmps65 (by rw [Tryd.results65]) rfl rfl h
@[simp] theorem keepE66 : ctx.keep 66 = keep66 := rfl
@[simp] theorem ghE66 : ctx.gh 66 = fun _ => [] := rfl
@[simp] theorem mdE66 : ctx.md 66 = md66 := rfl
@[simp] theorem fpE66 : ctx.fp 66 = fp66 := rfl
theorem run66 {args : List AV} {cs : List Cont} (h : callOk 5 fp66 args cs = true) : callT ctx 66 args cs = denK ctx 66 (codeOf Tryd.f66) (entry 5 gl0 args cs fp66.sites) (finK Tryd.prog fp66 cs.length [.tmp 2]) :=
  call_run Tryd.func66 rfl Tryd.ntmps66 (by rw [Tryd.results66]) rfl rfl h
@[simp] theorem keepE67 : ctx.keep 67 = keep67 := rfl
@[simp] theorem ghE67 : ctx.gh 67 = fun _ => [] := rfl
@[simp] theorem mdE67 : ctx.md 67 = md67 := rfl
@[simp] theorem fpE67 : ctx.fp 67 = fp67 := rfl
theorem run67 {args : List AV} {cs : List Cont} (h : callOk 47 fp67 args cs = true) : callT ctx 67 args cs = denK ctx 67 (codeOf Tryd.f67) (entry 47 gl0 args cs fp67.sites) (finK Tryd.prog fp67 cs.length [.tmp 2, .tmp 3]) :=
  call_run Tryd.func67 rfl Tryd.ntmps67 (by rw [Tryd.results67]) rfl rfl h
@[simp] theorem keepE68 : ctx.keep 68 = keep68 := rfl
@[simp] theorem ghE68 : ctx.gh 68 = fun _ => [] := rfl
@[simp] theorem mdE68 : ctx.md 68 = md68 := rfl
@[simp] theorem fpE68 : ctx.fp 68 = fp68 := rfl
theorem run68 {args : List AV} {cs : List Cont} (h : callOk 57 fp68 args cs = true) : callT ctx 68 args cs = denK ctx 68 (codeOf Tryd.f68) (entry 57 gl0 args cs fp68.sites) (finK Tryd.prog fp68 cs.length [.tmp 4]) :=
  call_run Tryd.func68 rfl Tryd.ntmps68 (by rw [Tryd.results68]) rfl rfl h
@[simp] theorem keepE69 : ctx.keep 69 = keep69 := rfl
@[simp] theorem ghE69 : ctx.gh 69 = fun _ => [] := rfl
@[simp] theorem mdE69 : ctx.md 69 = md69 := rfl
@[simp] theorem fpE69 : ctx.fp 69 = fp69 := rfl
theorem run69 {args : List AV} {cs : List Cont} (h : callOk 55 fp69 args cs = true) : callT ctx 69 args cs = denK ctx 69 (codeOf Tryd.f69) (entry 55 gl0 args cs fp69.sites) (finK Tryd.prog fp69 cs.length [.cell 2 28]) :=
  call_run Tryd.func69 rfl Tryd.ntmps69 (by rw [Tryd.results69]) rfl rfl h
@[simp] theorem keepE70 : ctx.keep 70 = keep70 := rfl
@[simp] theorem ghE70 : ctx.gh 70 = fun _ => [] := rfl
@[simp] theorem mdE70 : ctx.md 70 = md70 := rfl
@[simp] theorem fpE70 : ctx.fp 70 = fp70 := rfl
theorem run70 {args : List AV} {cs : List Cont} (h : callOk 8 fp70 args cs = true) : callT ctx 70 args cs = runSplit (fun args => denK ctx 70 (codeOf Tryd.f70) (entry 8 gl0 args cs fp70.sites) (finK Tryd.prog fp70 cs.length [.tmp 2])) args true :=
  call_run_split Tryd.func70 rfl Tryd.ntmps70 (by rw [Tryd.results70]) rfl rfl h
@[simp] theorem keepE71 : ctx.keep 71 = keep71 := rfl
@[simp] theorem ghE71 : ctx.gh 71 = fun _ => [] := rfl
@[simp] theorem mdE71 : ctx.md 71 = md71 := rfl
@[simp] theorem fpE71 : ctx.fp 71 = fp71 := rfl
theorem run71 {args : List AV} {cs : List Cont} (h : callOk 115 fp71 args cs = true) : callT ctx 71 args cs = denK ctx 71 (codeOf Tryd.f71) (entry 115 gl0 args cs fp71.sites) (finK Tryd.prog fp71 cs.length [.tmp 4]) :=
  call_run Tryd.func71 rfl Tryd.ntmps71 (by rw [Tryd.results71]) rfl rfl h
@[simp] theorem keepE72 : ctx.keep 72 = keep72 := rfl
@[simp] theorem ghE72 : ctx.gh 72 = fun _ => [] := rfl
@[simp] theorem mdE72 : ctx.md 72 = md72 := rfl
@[simp] theorem fpE72 : ctx.fp 72 = fp72 := rfl
theorem run72 {args : List AV} {cs : List Cont} (h : callOk 106 fp72 args cs = true) : callT ctx 72 args cs = denK ctx 72 (codeOf Tryd.f72) (entry 106 gl0 args cs fp72.sites) (finK Tryd.prog fp72 cs.length []) :=
  call_run Tryd.func72 rfl Tryd.ntmps72 (by rw [Tryd.results72]) rfl rfl h
@[simp] theorem keepE73 : ctx.keep 73 = keep73 := rfl
@[simp] theorem ghE73 : ctx.gh 73 = fun _ => [] := rfl
@[simp] theorem mdE73 : ctx.md 73 = md73 := rfl
@[simp] theorem fpE73 : ctx.fp 73 = fp73 := rfl
theorem run73 {args : List AV} {cs : List Cont} (h : callOk 26 fp73 args cs = true) : callT ctx 73 args cs = denK ctx 73 (codeOf Tryd.f73) (entry 26 gl0 args cs fp73.sites) (finK Tryd.prog fp73 cs.length [.tmp 4]) :=
  call_run Tryd.func73 rfl Tryd.ntmps73 (by rw [Tryd.results73]) rfl rfl h
@[simp] theorem keepE74 : ctx.keep 74 = keep74 := rfl
@[simp] theorem ghE74 : ctx.gh 74 = fun _ => [] := rfl
@[simp] theorem mdE74 : ctx.md 74 = md74 := rfl
@[simp] theorem fpE74 : ctx.fp 74 = fp74 := rfl
theorem run74 {args : List AV} {cs : List Cont} (h : callOk 301 fp74 args cs = true) : callT ctx 74 args cs = denK ctx 74 (codeOf Tryd.f74) (entry 301 gl0 args cs fp74.sites) (finK Tryd.prog fp74 cs.length []) :=
  call_run Tryd.func74 rfl Tryd.ntmps74 (by rw [Tryd.results74]) rfl rfl h
@[simp] theorem keepE75 : ctx.keep 75 = keep75 := rfl
@[simp] theorem ghE75 : ctx.gh 75 = fun _ => [] := rfl
@[simp] theorem mdE75 : ctx.md 75 = md75 := rfl
@[simp] theorem fpE75 : ctx.fp 75 = fp75 := rfl
theorem run75 {args : List AV} {cs : List Cont} (h : callOk 85 fp75 args cs = true) : callT ctx 75 args cs = denK ctx 75 (codeOf Tryd.f75) (entry 85 gl0 args cs fp75.sites) (finK Tryd.prog fp75 cs.length [.tmp 6]) :=
  call_run Tryd.func75 rfl Tryd.ntmps75 (by rw [Tryd.results75]) rfl rfl h
@[simp] theorem keepE76 : ctx.keep 76 = keep76 := rfl
@[simp] theorem ghE76 : ctx.gh 76 = fun _ => [] := rfl
@[simp] theorem mdE76 : ctx.md 76 = md76 := rfl
@[simp] theorem fpE76 : ctx.fp 76 = fp76 := rfl
theorem run76 {args : List AV} {cs : List Cont} (h : callOk 9 fp76 args cs = true) : callT ctx 76 args cs = denK ctx 76 (codeOf Tryd.f76) (entry 9 gl0 args cs fp76.sites) (finK Tryd.prog fp76 cs.length [.tmp 2]) :=
  call_run Tryd.func76 rfl Tryd.ntmps76 (by rw [Tryd.results76]) rfl rfl h
@[simp] theorem keepE77 : ctx.keep 77 = keep77 := rfl
@[simp] theorem ghE77 : ctx.gh 77 = fun _ => [] := rfl
@[simp] theorem mdE77 : ctx.md 77 = md77 := rfl
@[simp] theorem fpE77 : ctx.fp 77 = fp77 := rfl
theorem run77 {args : List AV} {cs : List Cont} (h : callOk 92 fp77 args cs = true) : callT ctx 77 args cs = denK ctx 77 (codeOf Tryd.f77) (entry 92 gl0 args cs fp77.sites) (finK Tryd.prog fp77 cs.length [.tmp 4]) :=
  call_run Tryd.func77 rfl Tryd.ntmps77 (by rw [Tryd.results77]) rfl rfl h
@[simp] theorem keepE78 : ctx.keep 78 = keep78 := rfl
@[simp] theorem ghE78 : ctx.gh 78 = fun _ => [] := rfl
@[simp] theorem mdE78 : ctx.md 78 = md78 := rfl
@[simp] theorem fpE78 : ctx.fp 78 = fp78 := rfl
theorem run78 {args : List AV} {cs : List Cont} (h : callOk 67 fp78 args cs = true) : callT ctx 78 args cs = denK ctx 78 (codeOf Tryd.f78) (entry 67 gl0 args cs fp78.sites) (finK Tryd.prog fp78 cs.length [.tmp 6]) :=
  call_run Tryd.func78 rfl Tryd.ntmps78 (by rw [Tryd.results78]) rfl rfl h
@[simp] theorem keepE79 : ctx.keep 79 = keep79 := rfl
@[simp] theorem ghE79 : ctx.gh 79 = fun _ => [] := rfl
@[simp] theorem mdE79 : ctx.md 79 = md79 := rfl
@[simp] theorem fpE79 : ctx.fp 79 = fp79 := rfl
theorem run79 {args : List AV} {cs : List Cont} (h : callOk 21 fp79 args cs = true) : callT ctx 79 args cs = denK ctx 79 (codeOf Tryd.f79) (entry 21 gl0 args cs fp79.sites) (finK Tryd.prog fp79 cs.length [.tmp 6]) :=
  call_run Tryd.func79 rfl Tryd.ntmps79 (by rw [Tryd.results79]) rfl rfl h
@[simp] theorem keepE80 : ctx.keep 80 = keep80 := rfl
@[simp] theorem ghE80 : ctx.gh 80 = fun _ => [] := rfl
@[simp] theorem mdE80 : ctx.md 80 = md80 := rfl
@[simp] theorem fpE80 : ctx.fp 80 = fp80 := rfl
theorem run80 {args : List AV} {cs : List Cont} (h : callOk 77 fp80 args cs = true) : callT ctx 80 args cs = denK ctx 80 (codeOf Tryd.f80) (entry 77 gl0 args cs fp80.sites) (finK Tryd.prog fp80 cs.length [.tmp 2]) :=
  call_run Tryd.func80 rfl Tryd.ntmps80 (by rw [Tryd.results80]) rfl rfl h
@[simp] theorem keepE81 : ctx.keep 81 = keep81 := rfl
@[simp] theorem ghE81 : ctx.gh 81 = fun _ => [] := rfl
@[simp] theorem mdE81 : ctx.md 81 = md81 := rfl
@[simp] theorem fpE81 : ctx.fp 81 = fp81 := rfl
theorem run81 {args : List AV} {cs : List Cont} (h : callOk 8 fp81 args cs = true) : callT ctx 81 args cs = denK ctx 81 (codeOf Tryd.f81) (entry 8 gl0 args cs fp81.sites) (finK Tryd.prog fp81 cs.length [.tmp 4]) :=
  call_run Tryd.func81 rfl Tryd.ntmps81 (by rw [Tryd.results81]) rfl rfl h
@[simp] theorem keepE82 : ctx.keep 82 = keep82 := rfl
@[simp] theorem ghE82 : ctx.gh 82 = fun _ => [] := rfl
@[simp] theorem mdE82 : ctx.md 82 = md82 := rfl
@[simp] theorem fpE82 : ctx.fp 82 = fp82 := rfl
theorem run82 {args : List AV} {cs : List Cont} (h : callOk 8 fp82 args cs = true) : callT ctx 82 args cs = denK ctx 82 (codeOf Tryd.f82) (entry 8 gl0 args cs fp82.sites) (finK Tryd.prog fp82 cs.length [.tmp 4]) :=
  call_run Tryd.func82 rfl Tryd.ntmps82 (by rw [Tryd.results82]) rfl rfl h
@[simp] theorem keepE83 : ctx.keep 83 = keep83 := rfl
@[simp] theorem ghE83 : ctx.gh 83 = fun _ => [] := rfl
@[simp] theorem mdE83 : ctx.md 83 = md83 := rfl
@[simp] theorem fpE83 : ctx.fp 83 = fp83 := rfl
theorem run83 {args : List AV} {cs : List Cont} (h : callOk 8 fp83 args cs = true) : callT ctx 83 args cs = denK ctx 83 (codeOf Tryd.f83) (entry 8 gl0 args cs fp83.sites) (finK Tryd.prog fp83 cs.length [.tmp 4]) :=
  call_run Tryd.func83 rfl Tryd.ntmps83 (by rw [Tryd.results83]) rfl rfl h
@[simp] theorem keepE84 : ctx.keep 84 = keep84 := rfl
@[simp] theorem ghE84 : ctx.gh 84 = fun _ => [] := rfl
@[simp] theorem mdE84 : ctx.md 84 = md84 := rfl
@[simp] theorem fpE84 : ctx.fp 84 = fp84 := rfl
theorem run84 {args : List AV} {cs : List Cont} (h : callOk 17 fp84 args cs = true) : callT ctx 84 args cs = denK ctx 84 (codeOf Tryd.f84) (entry 17 gl0 args cs fp84.sites) (finK Tryd.prog fp84 cs.length [.tmp 2]) :=
  call_run Tryd.func84 rfl Tryd.ntmps84 (by rw [Tryd.results84]) rfl rfl h
@[simp] theorem keepE85 : ctx.keep 85 = keep85 := rfl
@[simp] theorem ghE85 : ctx.gh 85 = fun _ => [] := rfl
@[simp] theorem mdE85 : ctx.md 85 = md85 := rfl
@[simp] theorem fpE85 : ctx.fp 85 = fp85 := rfl
theorem run85 {args : List AV} {cs : List Cont} (h : callOk 20 fp85 args cs = true) : callT ctx 85 args cs = denK ctx 85 (codeOf Tryd.f85) (entry 20 gl0 args cs fp85.sites) (finK Tryd.prog fp85 cs.length [.tmp 4]) :=
  call_run Tryd.func85 rfl Tryd.ntmps85 (by rw [Tryd.results85]) rfl rfl h
@[simp] theorem keepE86 : ctx.keep 86 = keep86 := rfl
@[simp] theorem ghE86 : ctx.gh 86 = fun _ => [] := rfl
@[simp] theorem mdE86 : ctx.md 86 = md86 := rfl
@[simp] theorem fpE86 : ctx.fp 86 = fp86 := rfl
theorem run86 {args : List AV} {cs : List Cont} (h : callOk 13 fp86 args cs = true) : callT ctx 86 args cs = denK ctx 86 (codeOf Tryd.f86) (entry 13 gl0 args cs fp86.sites) (finK Tryd.prog fp86 cs.length [.tmp 2]) :=
  call_run Tryd.func86 rfl Tryd.ntmps86 (by rw [Tryd.results86]) rfl rfl h
@[simp] theorem keepE87 : ctx.keep 87 = keep87 := rfl
@[simp] theorem ghE87 : ctx.gh 87 = fun _ => [] := rfl
@[simp] theorem mdE87 : ctx.md 87 = md87 := rfl
@[simp] theorem fpE87 : ctx.fp 87 = fp87 := rfl
theorem run87 {args : List AV} {cs : List Cont} (h : callOk 9 fp87 args cs = true) : callT ctx 87 args cs = denK ctx 87 (codeOf Tryd.f87) (entry 9 gl0 args cs fp87.sites) (finK Tryd.prog fp87 cs.length [.tmp 2]) :=
  call_run Tryd.func87 rfl Tryd.ntmps87 (by rw [Tryd.results87]) rfl rfl h
@[simp] theorem keepE88 : ctx.keep 88 = keep88 := rfl
@[simp] theorem ghE88 : ctx.gh 88 = fun _ => [] := rfl
@[simp] theorem mdE88 : ctx.md 88 = md88 := rfl
@[simp] theorem fpE88 : ctx.fp 88 = fp88 := rfl
theorem run88 {args : List AV} {cs : List Cont} (h : callOk 83 fp88 args cs = true) : callT ctx 88 args cs = denK ctx 88 (codeOf Tryd.f88) (entry 83 gl0 args cs fp88.sites) (finK Tryd.prog fp88 cs.length [.tmp 2, .tmp 3, .tmp 4]) :=
  call_run Tryd.func88 rfl Tryd.ntmps88 (by rw [Tryd.results88]) rfl rfl h
@[simp] theorem keepE89 : ctx.keep 89 = keep89 := rfl
@[simp] theorem ghE89 : ctx.gh 89 = fun _ => [] := rfl
@[simp] theorem mdE89 : ctx.md 89 = md89 := rfl
@[simp] theorem fpE89 : ctx.fp 89 = fp89 := rfl
theorem run89 {args : List AV} {cs : List Cont} (h : callOk 19 fp89 args cs = true) : callT ctx 89 args cs = denK ctx 89 (codeOf Tryd.f89) (entry 19 gl0 args cs fp89.sites) (finK Tryd.prog fp89 cs.length [.tmp 2]) :=
  call_run Tryd.func89 rfl Tryd.ntmps89 (by rw [Tryd.results89]) rfl rfl h
@[simp] theorem keepE90 : ctx.keep 90 = keep90 := rfl
@[simp] theorem ghE90 : ctx.gh 90 = fun _ => [] := rfl
@[simp] theorem mdE90 : ctx.md 90 = md90 := rfl
@[simp] theorem fpE90 : ctx.fp 90 = fp90 := rfl
theorem run90 {args : List AV} {cs : List Cont} (h : callOk 29 fp90 args cs = true) : callT ctx 90 args cs = denK ctx 90 (codeOf Tryd.f90) (entry 29 gl0 args cs fp90.sites) (finK Tryd.prog fp90 cs.length [.tmp 8]) :=
  call_run Tryd.func90 rfl Tryd.ntmps90 (by rw [Tryd.results90]) rfl rfl h
@[simp] theorem keepE91 : ctx.keep 91 = keep91 := rfl
@[simp] theorem ghE91 : ctx.gh 91 = fun _ => [] := rfl
@[simp] theorem mdE91 : ctx.md 91 = md91 := rfl
@[simp] theorem fpE91 : ctx.fp 91 = fp91 := rfl
theorem run91 {args : List AV} {cs : List Cont} (h : callOk 26 fp91 args cs = true) : callT ctx 91 args cs = denK ctx 91 (codeOf Tryd.f91) (entry 26 gl0 args cs fp91.sites) (finK Tryd.prog fp91 cs.length [.tmp 4, .tmp 5]) :=
  call_run Tryd.func91 rfl Tryd.ntmps91 (by rw [Tryd.results91]) rfl rfl h
@[simp] theorem keepE92 : ctx.keep 92 = keep92 := rfl
@[simp] theorem ghE92 : ctx.gh 92 = fun _ => [] := rfl
@[simp] theorem mdE92 : ctx.md 92 = md92 := rfl
@[simp] theorem fpE92 : ctx.fp 92 = fp92 := rfl
theorem run92 {args : List AV} {cs : List Cont} (h : callOk 19 fp92 args cs = true) : callT ctx 92 args cs = denK ctx 92 (codeOf Tryd.f92) (entry 19 gl0 args cs fp92.sites) (finK Tryd.prog fp92 cs.length [.tmp 4]) :=
  call_run Tryd.func92 rfl Tryd.ntmps92 (by rw [Tryd.results92]) rfl rfl h
@[simp] theorem keepE93 : ctx.keep 93 = keep93 := rfl
@[simp] theorem ghE93 : ctx.gh 93 = fun _ => [] := rfl
@[simp] theorem mdE93 : ctx.md 93 = md93 := rfl
@[simp] theorem fpE93 : ctx.fp 93 = fp93 := rfl
theorem run93 {args : List AV} {cs : List Cont} (h : callOk 65 fp93 args cs = true) : callT ctx 93 args cs = denK ctx 93 (codeOf Tryd.f93) (entry 65 gl0 args cs fp93.sites) (finK Tryd.prog fp93 cs.length [.tmp 4]) :=
  call_run Tryd.func93 rfl Tryd.ntmps93 (by rw [Tryd.results93]) rfl rfl h
@[simp] theorem keepE94 : ctx.keep 94 = keep94 := rfl
@[simp] theorem ghE94 : ctx.gh 94 = fun _ => [] := rfl
@[simp] theorem mdE94 : ctx.md 94 = md94 := rfl
@[simp] theorem fpE94 : ctx.fp 94 = fp94 := rfl
theorem run94 {args : List AV} {cs : List Cont} (h : callOk 19 fp94 args cs = true) : callT ctx 94 args cs = denK ctx 94 (codeOf Tryd.f94) (entry 19 gl0 args cs fp94.sites) (finK Tryd.prog fp94 cs.length [.tmp 2]) :=
  call_run Tryd.func94 rfl Tryd.ntmps94 (by rw [Tryd.results94]) rfl rfl h
@[simp] theorem keepE95 : ctx.keep 95 = keep95 := rfl
@[simp] theorem ghE95 : ctx.gh 95 = fun _ => [] := rfl
@[simp] theorem mdE95 : ctx.md 95 = md95 := rfl
@[simp] theorem fpE95 : ctx.fp 95 = fp95 := rfl
theorem run95 {args : List AV} {cs : List Cont} (h : callOk 59 fp95 args cs = true) : callT ctx 95 args cs = denK ctx 95 (codeOf Tryd.f95) (entry 59 gl0 args cs fp95.sites) (finK Tryd.prog fp95 cs.length [.tmp 2]) :=
  call_run Tryd.func95 rfl Tryd.ntmps95 (by rw [Tryd.results95]) rfl rfl h
@[simp] theorem keepE96 : ctx.keep 96 = keep96 := rfl
@[simp] theorem ghE96 : ctx.gh 96 = fun _ => [] := rfl
@[simp] theorem mdE96 : ctx.md 96 = md96 := rfl
@[simp] theorem fpE96 : ctx.fp 96 = fp96 := rfl
theorem run96 {args : List AV} {cs : List Cont} (h : callOk 66 fp96 args cs = true) : callT ctx 96 args cs = denK ctx 96 (codeOf Tryd.f96) (entry 66 gl0 args cs fp96.sites) (finK Tryd.prog fp96 cs.length []) :=
  call_run Tryd.func96 rfl Tryd.ntmps96 (by rw [Tryd.results96]) rfl rfl h
@[simp] theorem keepE97 : ctx.keep 97 = keep97 := rfl
@[simp] theorem ghE97 : ctx.gh 97 = fun _ => [] := rfl
@[simp] theorem mdE97 : ctx.md 97 = md97 := rfl
@[simp] theorem fpE97 : ctx.fp 97 = fp97 := rfl
theorem run97 {args : List AV} {cs : List Cont} (h : callOk 9 fp97 args cs = true) : callT ctx 97 args cs = denK ctx 97 (codeOf Tryd.f97) (entry 9 gl0 args cs fp97.sites) (finK Tryd.prog fp97 cs.length [.tmp 4]) :=
  call_run Tryd.func97 rfl Tryd.ntmps97 (by rw [Tryd.results97]) rfl rfl h
@[simp] theorem keepE98 : ctx.keep 98 = keep98 := rfl
@[simp] theorem ghE98 : ctx.gh 98 = fun _ => [] := rfl
@[simp] theorem mdE98 : ctx.md 98 = md98 := rfl
@[simp] theorem fpE98 : ctx.fp 98 = fp98 := rfl
theorem run98 {args : List AV} {cs : List Cont} (h : callOk 62 fp98 args cs = true) : callT ctx 98 args cs = denK ctx 98 (codeOf Tryd.f98) (entry 62 gl0 args cs fp98.sites) (finK Tryd.prog fp98 cs.length [.tmp 4]) :=
  call_run Tryd.func98 rfl Tryd.ntmps98 (by rw [Tryd.results98]) rfl rfl h
@[simp] theorem keepE99 : ctx.keep 99 = keep99 := rfl
@[simp] theorem ghE99 : ctx.gh 99 = fun _ => [] := rfl
@[simp] theorem mdE99 : ctx.md 99 = md99 := rfl
@[simp] theorem fpE99 : ctx.fp 99 = fp99 := rfl
theorem run99 {args : List AV} {cs : List Cont} (h : callOk 64 fp99 args cs = true) : callT ctx 99 args cs = denK ctx 99 (codeOf Tryd.f99) (entry 64 gl0 args cs fp99.sites) (finK Tryd.prog fp99 cs.length [.tmp 2]) :=
  call_run Tryd.func99 rfl Tryd.ntmps99 (by rw [Tryd.results99]) rfl rfl h
@[simp] theorem keepE100 : ctx.keep 100 = keep100 := rfl
@[simp] theorem ghE100 : ctx.gh 100 = fun _ => [] := rfl
@[simp] theorem mdE100 : ctx.md 100 = md100 := rfl
@[simp] theorem fpE100 : ctx.fp 100 = fp100 := rfl
theorem run100 {args : List AV} {cs : List Cont} (h : callOk 19 fp100 args cs = true) : callT ctx 100 args cs = denK ctx 100 (codeOf Tryd.f100) (entry 19 gl0 args cs fp100.sites) (finK Tryd.prog fp100 cs.length [.tmp 4]) :=
  call_run Tryd.func100 rfl Tryd.ntmps100 (by rw [Tryd.results100]) rfl rfl h
@[simp] theorem keepE101 : ctx.keep 101 = keep101 := rfl
@[simp] theorem ghE101 : ctx.gh 101 = fun _ => [] := rfl
@[simp] theorem mdE101 : ctx.md 101 = md101 := rfl
@[simp] theorem fpE101 : ctx.fp 101 = fp101 := rfl
theorem run101 {args : List AV} {cs : List Cont} (h : callOk 28 fp101 args cs = true) : callT ctx 101 args cs = denK ctx 101 (codeOf Tryd.f101) (entry 28 gl0 args cs fp101.sites) (finK Tryd.prog fp101 cs.length [.tmp 2, .tmp 3, .tmp 4, .tmp 5, .tmp 6]) :=
  call_run Tryd.func101 rfl Tryd.ntmps101 (by rw [Tryd.results101]) rfl rfl h
@[simp] theorem keepE102 : ctx.keep 102 = keep102 := rfl
@[simp] theorem ghE102 : ctx.gh 102 = fun _ => [] := rfl
@[simp] theorem mdE102 : ctx.md 102 = md102 := rfl
@[simp] theorem fpE102 : ctx.fp 102 = fp102 := rfl
theorem run102 {args : List AV} {cs : List Cont} (h : callOk 31 fp102 args cs = true) : callT ctx 102 args cs = denK ctx 102 (codeOf Tryd.f102) (entry 31 gl0 args cs fp102.sites) (finK Tryd.prog fp102 cs.length [.tmp 4]) :=
  call_run Tryd.func102 rfl Tryd.ntmps102 (by rw [Tryd.results102]) rfl rfl h
@[simp] theorem keepE103 : ctx.keep 103 = keep103 := rfl
@[simp] theorem ghE103 : ctx.gh 103 = fun _ => [] := rfl
@[simp] theorem mdE103 : ctx.md 103 = md103 := rfl
@[simp] theorem fpE103 : ctx.fp 103 = fp103 := rfl
theorem run103 {args : List AV} {cs : List Cont} (h : callOk 84 fp103 args cs = true) : callT ctx 103 args cs = denK ctx 103 (codeOf Tryd.f103) (entry 84 gl0 args cs fp103.sites) (finK Tryd.prog fp103 cs.length [.tmp 4]) :=
  call_run Tryd.func103 rfl Tryd.ntmps103 (by rw [Tryd.results103]) rfl rfl h
@[simp] theorem keepE104 : ctx.keep 104 = keep104 := rfl
@[simp] theorem ghE104 : ctx.gh 104 = fun _ => [] := rfl
@[simp] theorem mdE104 : ctx.md 104 = md104 := rfl
@[simp] theorem fpE104 : ctx.fp 104 = fp104 := rfl
theorem run104 {args : List AV} {cs : List Cont} (h : callOk 20 fp104 args cs = true) : callT ctx 104 args cs = denK ctx 104 (codeOf Tryd.f104) (entry 20 gl0 args cs fp104.sites) (finK Tryd.prog fp104 cs.length []) :=
  call_run Tryd.func104 rfl Tryd.ntmps104 (by rw [Tryd.results104]) rfl rfl h
@[simp] theorem keepE105 : ctx.keep 105 = keep105 := rfl
@[simp] theorem ghE105 : ctx.gh 105 = fun _ => [] := rfl
@[simp] theorem mdE105 : ctx.md 105 = md105 := rfl
@[simp] theorem fpE105 : ctx.fp 105 = fp105 := rfl
theorem run105 {args : List AV} {cs : List Cont} (h : callOk 4 fp105 args cs = true) : callT ctx 105 args cs = denK ctx 105 (codeOf Tryd.f105) (entry 4 gl0 args cs fp105.sites) (finK Tryd.prog fp105 cs.length [.tmp 2]) :=
  call_run Tryd.func105 rfl Tryd.ntmps105 (by rw [Tryd.results105]) rfl rfl h
@[simp] theorem keepE106 : ctx.keep 106 = keep106 := rfl
@[simp] theorem ghE106 : ctx.gh 106 = fun _ => [] := rfl
@[simp] theorem mdE106 : ctx.md 106 = md106 := rfl
@[simp] theorem fpE106 : ctx.fp 106 = fp106 := rfl
theorem run106 {args : List AV} {cs : List Cont} (h : callOk 28 fp106 args cs = true) : callT ctx 106 args cs = denK ctx 106 (codeOf Tryd.f106) (entry 28 gl0 args cs fp106.sites) (finK Tryd.prog fp106 cs.length [.tmp 6, .tmp 7]) :=
  call_run Tryd.func106 rfl Tryd.ntmps106 (by rw [Tryd.results106]) rfl rfl h
@[simp] theorem keepE107 : ctx.keep 107 = keep107 := rfl
@[simp] theorem ghE107 : ctx.gh 107 = fun _ => [] := rfl
@[simp] theorem mdE107 : ctx.md 107 = md107 := rfl
@[simp] theorem fpE107 : ctx.fp 107 = fp107 := rfl
theorem run107 {args : List AV} {cs : List Cont} (h : callOk 19 fp107 args cs = true) : callT ctx 107 args cs = denK ctx 107 (codeOf Tryd.f107) (entry 19 gl0 args cs fp107.sites) (finK Tryd.prog fp107 cs.length [.tmp 2]) :=
  call_run Tryd.func107 rfl Tryd.ntmps107 (by rw [Tryd.results107]) rfl rfl h
@[simp] theorem keepE108 : ctx.keep 108 = keep108 := rfl
@[simp] theorem ghE108 : ctx.gh 108 = fun _ => [] := rfl
@[simp] theorem mdE108 : ctx.md 108 = md108 := rfl
@[simp] theorem fpE108 : ctx.fp 108 = fp108 := rfl
theorem run108 {args : List AV} {cs : List Cont} (h : callOk 60 fp108 args cs = true) : callT ctx 108 args cs = denK ctx 108 (codeOf Tryd.f108) (entry 60 gl0 args cs fp108.sites) (finK Tryd.prog fp108 cs.length []) :=
  call_run Tryd.func108 rfl Tryd.ntmps108 (by rw [Tryd.results108]) rfl rfl h
@[simp] theorem keepE109 : ctx.keep 109 = keep109 := rfl
@[simp] theorem ghE109 : ctx.gh 109 = fun _ => [] := rfl
@[simp] theorem mdE109 : ctx.md 109 = md109 := rfl
@[simp] theorem fpE109 : ctx.fp 109 = fp109 := rfl
theorem run109 {args : List AV} {cs : List Cont} (h : callOk 30 fp109 args cs = true) : callT ctx 109 args cs = denK ctx 109 (codeOf Tryd.f109) (entry 30 gl0 args cs fp109.sites) (finK Tryd.prog fp109 cs.length [.tmp 2]) :=
  call_run Tryd.func109 rfl Tryd.ntmps109 (by rw [Tryd.results109]) rfl rfl h
@[simp] theorem keepE110 : ctx.keep 110 = keep110 := rfl
@[simp] theorem ghE110 : ctx.gh 110 = fun _ => [] := rfl
@[simp] theorem mdE110 : ctx.md 110 = md110 := rfl
@[simp] theorem fpE110 : ctx.fp 110 = fp110 := rfl
theorem run110 {args : List AV} {cs : List Cont} (h : callOk 116 fp110 args cs = true) : callT ctx 110 args cs = denK ctx 110 (codeOf Tryd.f110) (entry 116 gl0 args cs fp110.sites) (finK Tryd.prog fp110 cs.length [.tmp 4]) :=
  call_run Tryd.func110 rfl Tryd.ntmps110 (by rw [Tryd.results110]) rfl rfl h
@[simp] theorem keepE111 : ctx.keep 111 = keep111 := rfl
@[simp] theorem ghE111 : ctx.gh 111 = fun _ => [] := rfl
@[simp] theorem mdE111 : ctx.md 111 = md111 := rfl
@[simp] theorem fpE111 : ctx.fp 111 = fp111 := rfl
theorem run111 {args : List AV} {cs : List Cont} (h : callOk 49 fp111 args cs = true) : callT ctx 111 args cs = denK ctx 111 (codeOf Tryd.f111) (entry 49 gl0 args cs fp111.sites) (finK Tryd.prog fp111 cs.length [.tmp 4]) :=
  call_run Tryd.func111 rfl Tryd.ntmps111 (by rw [Tryd.results111]) rfl rfl h
@[simp] theorem keepE112 : ctx.keep 112 = keep112 := rfl
@[simp] theorem ghE112 : ctx.gh 112 = fun _ => [] := rfl
@[simp] theorem mdE112 : ctx.md 112 = md112 := rfl
@[simp] theorem fpE112 : ctx.fp 112 = fp112 := rfl
theorem run112 {args : List AV} {cs : List Cont} (h : callOk 14 fp112 args cs = true) : callT ctx 112 args cs = denK ctx 112 (codeOf Tryd.f112) (entry 14 gl0 args cs fp112.sites) (finK Tryd.prog fp112 cs.length []) :=
  call_run Tryd.func112 rfl Tryd.ntmps112 (by rw [Tryd.results112]) rfl rfl h
@[simp] theorem keepE113 : ctx.keep 113 = keep113 := rfl
@[simp] theorem ghE113 : ctx.gh 113 = fun _ => [] := rfl
@[simp] theorem mdE113 : ctx.md 113 = md113 := rfl
@[simp] theorem fpE113 : ctx.fp 113 = fp113 := rfl
theorem run113 {args : List AV} {cs : List Cont} (h : callOk 4 fp113 args cs = true) : callT ctx 113 args cs = denK ctx 113 (codeOf Tryd.f113) (entry 4 gl0 args cs fp113.sites) (finK Tryd.prog fp113 cs.length [.tmp 2]) :=
  call_run Tryd.func113 rfl Tryd.ntmps113 (by rw [Tryd.results113]) rfl rfl h
@[simp] theorem keepE114 : ctx.keep 114 = keep114 := rfl
@[simp] theorem ghE114 : ctx.gh 114 = fun _ => [] := rfl
@[simp] theorem mdE114 : ctx.md 114 = md114 := rfl
@[simp] theorem fpE114 : ctx.fp 114 = fp114 := rfl
theorem run114 {args : List AV} {cs : List Cont} (h : callOk 34 fp114 args cs = true) : callT ctx 114 args cs = denK ctx 114 (codeOf Tryd.f114) (entry 34 gl0 args cs fp114.sites) (finK Tryd.prog fp114 cs.length [.tmp 4]) :=
  call_run Tryd.func114 rfl Tryd.ntmps114 (by rw [Tryd.results114]) rfl rfl h
@[simp] theorem keepE115 : ctx.keep 115 = keep115 := rfl
@[simp] theorem ghE115 : ctx.gh 115 = fun _ => [] := rfl
@[simp] theorem mdE115 : ctx.md 115 = md115 := rfl
@[simp] theorem fpE115 : ctx.fp 115 = fp115 := rfl
theorem run115 {args : List AV} {cs : List Cont} (h : callOk 194 fp115 args cs = true) : callT ctx 115 args cs = denK ctx 115 (codeOf Tryd.f115) (entry 194 gl0 args cs fp115.sites) (finK Tryd.prog fp115 cs.length [.tmp 6, .tmp 7, .tmp 8]) :=
  call_run Tryd.func115 rfl Tryd.ntmps115 (by rw [Tryd.results115]) rfl rfl h
@[simp] theorem keepE116 : ctx.keep 116 = keep116 := rfl
@[simp] theorem ghE116 : ctx.gh 116 = fun _ => [] := rfl
@[simp] theorem mdE116 : ctx.md 116 = md116 := rfl
@[simp] theorem fpE116 : ctx.fp 116 = fp116 := rfl
theorem run116 {args : List AV} {cs : List Cont} (h : callOk 343 fp116 args cs = true) : callT ctx 116 args cs = denK ctx 116 (codeOf Tryd.f116) (entry 343 gl0 args cs fp116.sites) (finK Tryd.prog fp116 cs.length [.tmp 4]) :=
  call_run Tryd.func116 rfl Tryd.ntmps116 (by rw [Tryd.results116]) rfl rfl h
@[simp] theorem keepE117 : ctx.keep 117 = keep117 := rfl
@[simp] theorem ghE117 : ctx.gh 117 = fun _ => [] := rfl
@[simp] theorem mdE117 : ctx.md 117 = md117 := rfl
@[simp] theorem fpE117 : ctx.fp 117 = fp117 := rfl
theorem run117 {args : List AV} {cs : List Cont} (h : callOk 33 fp117 args cs = true) : callT ctx 117 args cs = denK ctx 117 (codeOf Tryd.f117) (entry 33 gl0 args cs fp117.sites) (finK Tryd.prog fp117 cs.length [.tmp 6]) :=
  call_run Tryd.func117 rfl Tryd.ntmps117 (by rw [Tryd.results117]) rfl rfl h
@[simp] theorem keepE118 : ctx.keep 118 = keep118 := rfl
@[simp] theorem ghE118 : ctx.gh 118 = fun _ => [] := rfl
@[simp] theorem mdE118 : ctx.md 118 = md118 := rfl
@[simp] theorem fpE118 : ctx.fp 118 = fp118 := rfl
theorem run118 {args : List AV} {cs : List Cont} (h : callOk 32 fp118 args cs = true) : callT ctx 118 args cs = denK ctx 118 (codeOf Tryd.f118) (entry 32 gl0 args cs fp118.sites) (finK Tryd.prog fp118 cs.length [.tmp 4]) :=
  call_run Tryd.func118 rfl Tryd.ntmps118 (by rw [Tryd.results118]) rfl rfl h
@[simp] theorem keepE119 : ctx.keep 119 = keep119 := rfl
@[simp] theorem ghE119 : ctx.gh 119 = fun _ => [] := rfl
@[simp] theorem mdE119 : ctx.md 119 = md119 := rfl
@[simp] theorem fpE119 : ctx.fp 119 = fp119 := rfl
theorem run119 {args : List AV} {cs : List Cont} (h : callOk 47 fp119 args cs = true) : callT ctx 119 args cs = denK ctx 119 (codeOf Tryd.f119) (entry 47 gl0 args cs fp119.sites) (finK Tryd.prog fp119 cs.length [.tmp 2]) :=
  call_run Tryd.func119 rfl Tryd.ntmps119 (by rw [Tryd.results119]) rfl rfl h
@[simp] theorem keepE120 : ctx.keep 120 = keep120 := rfl
@[simp] theorem ghE120 : ctx.gh 120 = fun _ => [] := rfl
@[simp] theorem mdE120 : ctx.md 120 = md120 := rfl
@[simp] theorem fpE120 : ctx.fp 120 = fp120 := rfl
theorem run120 {args : List AV} {cs : List Cont} (h : callOk 21 fp120 args cs = true) : callT ctx 120 args cs = denK ctx 120 (codeOf Tryd.f120) (entry 21 gl0 args cs fp120.sites) (finK Tryd.prog fp120 cs.length [.tmp 4]) :=
  call_run Tryd.func120 rfl Tryd.ntmps120 (by rw [Tryd.results120]) rfl rfl h
@[simp] theorem keepE121 : ctx.keep 121 = keep121 := rfl
@[simp] theorem ghE121 : ctx.gh 121 = fun _ => [] := rfl
@[simp] theorem mdE121 : ctx.md 121 = md121 := rfl
@[simp] theorem fpE121 : ctx.fp 121 = fp121 := rfl
theorem run121 {args : List AV} {cs : List Cont} (h : callOk 54 fp121 args cs = true) : callT ctx 121 args cs = denK ctx 121 (codeOf Tryd.f121) (entry 54 gl0 args cs fp121.sites) (finK Tryd.prog fp121 cs.length [.tmp 6]) :=
  call_run Tryd.func121 rfl Tryd.ntmps121 (by rw [Tryd.results121]) rfl rfl h
@[simp] theorem keepE122 : ctx.keep 122 = keep122 := rfl
@[simp] theorem ghE122 : ctx.gh 122 = fun _ => [] := rfl
@[simp] theorem mdE122 : ctx.md 122 = md122 := rfl
@[simp] theorem fpE122 : ctx.fp 122 = fp122 := rfl
theorem run122 {args : List AV} {cs : List Cont} (h : callOk 24 fp122 args cs = true) : callT ctx 122 args cs = denK ctx 122 (codeOf Tryd.f122) (entry 24 gl0 args cs fp122.sites) (finK Tryd.prog fp122 cs.length [.tmp 4]) :=
  call_run Tryd.func122 rfl Tryd.ntmps122 (by rw [Tryd.results122]) rfl rfl h
@[simp] theorem keepE123 : ctx.keep 123 = keep123 := rfl
@[simp] theorem ghE123 : ctx.gh 123 = fun _ => [] := rfl
@[simp] theorem mdE123 : ctx.md 123 = md123 := rfl
@[simp] theorem fpE123 : ctx.fp 123 = fp123 := rfl
theorem run123 {args : List AV} {cs : List Cont} (h : callOk 44 fp123 args cs = true) : callT ctx 123 args cs = denK ctx 123 (codeOf Tryd.f123) (entry 44 gl0 args cs fp123.sites) (finK Tryd.prog fp123 cs.length [.tmp 0]) :=
  call_run Tryd.func123 rfl Tryd.ntmps123 (by rw [Tryd.results123]) rfl rfl h
@[simp] theorem keepE124 : ctx.keep 124 = keep124 := rfl
@[simp] theorem ghE124 : ctx.gh 124 = fun _ => [] := rfl
@[simp] theorem mdE124 : ctx.md 124 = md124 := rfl
@[simp] theorem fpE124 : ctx.fp 124 = fp124 := rfl
theorem run124 {args : List AV} {cs : List Cont} (h : callOk 18 fp124 args cs = true) : callT ctx 124 args cs = denK ctx 124 (codeOf Tryd.f124) (entry 18 gl0 args cs fp124.sites) (finK Tryd.prog fp124 cs.length [.tmp 4]) :=
  call_run Tryd.func124 rfl Tryd.ntmps124 (by rw [Tryd.results124]) rfl rfl h
@[simp] theorem keepE125 : ctx.keep 125 = keep125 := rfl
@[simp] theorem ghE125 : ctx.gh 125 = fun _ => [] := rfl
@[simp] theorem mdE125 : ctx.md 125 = md125 := rfl
@[simp] theorem fpE125 : ctx.fp 125 = fp125 := rfl
theorem run125 {args : List AV} {cs : List Cont} (h : callOk 8 fp125 args cs = true) : callT ctx 125 args cs = denK ctx 125 (codeOf Tryd.f125) (entry 8 gl0 args cs fp125.sites) (finK Tryd.prog fp125 cs.length [.tmp 4]) :=
  call_run Tryd.func125 rfl Tryd.ntmps125 (by rw [Tryd.results125]) rfl rfl h
@[simp] theorem keepE126 : ctx.keep 126 = keep126 := rfl
@[simp] theorem ghE126 : ctx.gh 126 = fun _ => [] := rfl
@[simp] theorem mdE126 : ctx.md 126 = md126 := rfl
@[simp] theorem fpE126 : ctx.fp 126 = fp126 := rfl
theorem run126 {args : List AV} {cs : List Cont} (h : callOk 143 fp126 args cs = true) : callT ctx 126 args cs = denK ctx 126 (codeOf Tryd.f126) (entry 143 gl0 args cs fp126.sites) (finK Tryd.prog fp126 cs.length [.tmp 4]) :=
  call_run Tryd.func126 rfl Tryd.ntmps126 (by rw [Tryd.results126]) rfl rfl h
@[simp] theorem keepE127 : ctx.keep 127 = keep127 := rfl
@[simp] theorem ghE127 : ctx.gh 127 = fun _ => [] := rfl
@[simp] theorem mdE127 : ctx.md 127 = md127 := rfl
@[simp] theorem fpE127 : ctx.fp 127 = fp127 := rfl
theorem run127 {args : List AV} {cs : List Cont} (h : callOk 8 fp127 args cs = true) : callT ctx 127 args cs = denK ctx 127 (codeOf Tryd.f127) (entry 8 gl0 args cs fp127.sites) (finK Tryd.prog fp127 cs.length [.tmp 3]) :=
  call_run Tryd.func127 rfl Tryd.ntmps127 (by rw [Tryd.results127]) rfl rfl h
@[simp] theorem keepE128 : ctx.keep 128 = keep128 := rfl
@[simp] theorem ghE128 : ctx.gh 128 = fun _ => [] := rfl
@[simp] theorem mdE128 : ctx.md 128 = md128 := rfl
@[simp] theorem fpE128 : ctx.fp 128 = fp128 := rfl
theorem run128 {args : List AV} {cs : List Cont} (h : callOk 20 fp128 args cs = true) : callT ctx 128 args cs = denK ctx 128 (codeOf Tryd.f128) (entry 20 gl0 args cs fp128.sites) (finK Tryd.prog fp128 cs.length [.tmp 2]) :=
  call_run Tryd.func128 rfl Tryd.ntmps128 (by rw [Tryd.results128]) rfl rfl h
@[simp] theorem keepE129 : ctx.keep 129 = keep129 := rfl
@[simp] theorem ghE129 : ctx.gh 129 = fun _ => [] := rfl
@[simp] theorem mdE129 : ctx.md 129 = md129 := rfl
@[simp] theorem fpE129 : ctx.fp 129 = fp129 := rfl
theorem run129 {args : List AV} {cs : List Cont} (h : callOk 59 fp129 args cs = true) : callT ctx 129 args cs = denK ctx 129 (codeOf Tryd.f129) (entry 59 gl0 args cs fp129.sites) (finK Tryd.prog fp129 cs.length [.tmp 4]) :=
  call_run Tryd.func129 rfl Tryd.ntmps129 (by rw [Tryd.results129]) rfl rfl h
@[simp] theorem keepE130 : ctx.keep 130 = keep130 := rfl
@[simp] theorem ghE130 : ctx.gh 130 = fun _ => [] := rfl
@[simp] theorem mdE130 : ctx.md 130 = md130 := rfl
@[simp] theorem fpE130 : ctx.fp 130 = fp130 := rfl
theorem run130 {args : List AV} {cs : List Cont} (h : callOk 11 fp130 args cs = true) : callT ctx 130 args cs = denK ctx 130 (codeOf Tryd.f130) (entry 11 gl0 args cs fp130.sites) (finK Tryd.prog fp130 cs.length [.tmp 2]) :=
  call_run Tryd.func130 rfl Tryd.ntmps130 (by rw [Tryd.results130]) rfl rfl h
@[simp] theorem keepE131 : ctx.keep 131 = keep131 := rfl
@[simp] theorem ghE131 : ctx.gh 131 = fun _ => [] := rfl
@[simp] theorem mdE131 : ctx.md 131 = md131 := rfl
@[simp] theorem fpE131 : ctx.fp 131 = fp131 := rfl
theorem run131 {args : List AV} {cs : List Cont} (h : callOk 19 fp131 args cs = true) : callT ctx 131 args cs = denK ctx 131 (codeOf Tryd.f131) (entry 19 gl0 args cs fp131.sites) (finK Tryd.prog fp131 cs.length [.tmp 4]) :=
  call_run Tryd.func131 rfl Tryd.ntmps131 (by rw [Tryd.results131]) rfl rfl h
@[simp] theorem keepE132 : ctx.keep 132 = keep132 := rfl
@[simp] theorem ghE132 : ctx.gh 132 = fun _ => [] := rfl
@[simp] theorem mdE132 : ctx.md 132 = md132 := rfl
@[simp] theorem fpE132 : ctx.fp 132 = fp132 := rfl
theorem run132 {args : List AV} {cs : List Cont} (h : callOk 93 fp132 args cs = true) : callT ctx 132 args cs = denK ctx 132 (codeOf Tryd.f132) (entry 93 gl0 args cs fp132.sites) (finK Tryd.prog fp132 cs.length [.tmp 6, .tmp 7, .tmp 8]) :=
  call_run Tryd.func132 rfl Tryd.ntmps132 (by rw [Tryd.results132]) rfl rfl h
@[simp] theorem keepE133 : ctx.keep 133 = keep133 := rfl
@[simp] theorem ghE133 : ctx.gh 133 = fun _ => [] := rfl
@[simp] theorem mdE133 : ctx.md 133 = md133 := rfl
@[simp] theorem fpE133 : ctx.fp 133 = fp133 := rfl
theorem run133 {args : List AV} {cs : List Cont} (h : callOk 17 fp133 args cs = true) : callT ctx 133 args cs = denK ctx 133 (codeOf Tryd.f133) (entry 17 gl0 args cs fp133.sites) (finK Tryd.prog fp133 cs.length [.cell 2 181, .tmp 3]) :=
  call_run Tryd.func133 rfl Tryd.ntmps133 (by rw [Tryd.results133]) rfl rfl h
@[simp] theorem keepE134 : ctx.keep 134 = keep134 := rfl
@[simp] theorem ghE134 : ctx.gh 134 = fun _ => [] := rfl
@[simp] theorem mdE134 : ctx.md 134 = md134 := rfl
@[simp] theorem fpE134 : ctx.fp 134 = fp134 := rfl
theorem run134 {args : List AV} {cs : List Cont} (h : callOk 36 fp134 args cs = true) : callT ctx 134 args cs = denK ctx 134 (codeOf Tryd.f134) (entry 36 gl0 args cs fp134.sites) (finK Tryd.prog fp134 cs.length [.tmp 4]) :=
  call_run Tryd.func134 rfl Tryd.ntmps134 (by rw [Tryd.results134]) rfl rfl h
@[simp] theorem keepE135 : ctx.keep 135 = keep135 := rfl
@[simp] theorem ghE135 : ctx.gh 135 = fun _ => [] := rfl
@[simp] theorem mdE135 : ctx.md 135 = md135 := rfl
@[simp] theorem fpE135 : ctx.fp 135 = fp135 := rfl
theorem run135 {args : List AV} {cs : List Cont} (h : callOk 105 fp135 args cs = true) : callT ctx 135 args cs = denK ctx 135 (codeOf Tryd.f135) (entry 105 gl0 args cs fp135.sites) (finK Tryd.prog fp135 cs.length []) :=
  call_run Tryd.func135 rfl Tryd.ntmps135 (by rw [Tryd.results135]) rfl rfl h
@[simp] theorem keepE136 : ctx.keep 136 = keep136 := rfl
@[simp] theorem ghE136 : ctx.gh 136 = fun _ => [] := rfl
@[simp] theorem mdE136 : ctx.md 136 = md136 := rfl
@[simp] theorem fpE136 : ctx.fp 136 = fp136 := rfl
theorem run136 {args : List AV} {cs : List Cont} (h : callOk 80 fp136 args cs = true) : callT ctx 136 args cs = denK ctx 136 (codeOf Tryd.f136) (entry 80 gl0 args cs fp136.sites) (finK Tryd.prog fp136 cs.length []) :=
  call_run Tryd.func136 rfl Tryd.ntmps136 (by rw [Tryd.results136]) rfl rfl h
@[simp] theorem keepE137 : ctx.keep 137 = keep137 := rfl
@[simp] theorem ghE137 : ctx.gh 137 = fun _ => [] := rfl
@[simp] theorem mdE137 : ctx.md 137 = md137 := rfl
@[simp] theorem fpE137 : ctx.fp 137 = fp137 := rfl
theorem run137 {args : List AV} {cs : List Cont} (h : callOk 4 fp137 args cs = true) : callT ctx 137 args cs = denK ctx 137 (codeOf Tryd.f137) (entry 4 gl0 args cs fp137.sites) (finK Tryd.prog fp137 cs.length [.tmp 2]) :=
  call_run Tryd.func137 rfl Tryd.ntmps137 (by rw [Tryd.results137]) rfl rfl h
@[simp] theorem keepE138 : ctx.keep 138 = keep138 := rfl
@[simp] theorem ghE138 : ctx.gh 138 = fun _ => [] := rfl
@[simp] theorem mdE138 : ctx.md 138 = md138 := rfl
@[simp] theorem fpE138 : ctx.fp 138 = fp138 := rfl
theorem run138 {args : List AV} {cs : List Cont} (h : callOk 4 fp138 args cs = true) : callT ctx 138 args cs = denK ctx 138 (codeOf Tryd.f138) (entry 4 gl0 args cs fp138.sites) (finK Tryd.prog fp138 cs.length [.tmp 2]) :=
  call_run Tryd.func138 rfl Tryd.ntmps138 (by rw [Tryd.results138]) rfl rfl h
@[simp] theorem keepE139 : ctx.keep 139 = keep139 := rfl
@[simp] theorem ghE139 : ctx.gh 139 = fun _ => [] := rfl
@[simp] theorem mdE139 : ctx.md 139 = md139 := rfl
@[simp] theorem fpE139 : ctx.fp 139 = fp139 := rfl
theorem run139 {args : List AV} {cs : List Cont} (h : callOk 15 fp139 args cs = true) : callT ctx 139 args cs = denK ctx 139 (codeOf Tryd.f139) (entry 15 gl0 args cs fp139.sites) (finK Tryd.prog fp139 cs.length [.tmp 4, .tmp 5]) :=
  call_run Tryd.func139 rfl Tryd.ntmps139 (by rw [Tryd.results139]) rfl rfl h
@[simp] theorem keepE140 : ctx.keep 140 = keep140 := rfl
@[simp] theorem ghE140 : ctx.gh 140 = fun _ => [] := rfl
@[simp] theorem mdE140 : ctx.md 140 = md140 := rfl
@[simp] theorem fpE140 : ctx.fp 140 = fp140 := rfl
theorem run140 {args : List AV} {cs : List Cont} (h : callOk 14 fp140 args cs = true) : callT ctx 140 args cs = denK ctx 140 (codeOf Tryd.f140) (entry 14 gl0 args cs fp140.sites) (finK Tryd.prog fp140 cs.length [.tmp 4, .tmp 5]) :=
  call_run Tryd.func140 rfl Tryd.ntmps140 (by rw [Tryd.results140]) rfl rfl h
@[simp] theorem keepE141 : ctx.keep 141 = keep141 := rfl
@[simp] theorem ghE141 : ctx.gh 141 = fun _ => [] := rfl
@[simp] theorem mdE141 : ctx.md 141 = md141 := rfl
@[simp] theorem fpE141 : ctx.fp 141 = fp141 := rfl
theorem run141 {args : List AV} {cs : List Cont} (h : callOk 14 fp141 args cs = true) : callT ctx 141 args cs = denK ctx 141 (codeOf Tryd.f141) (entry 14 gl0 args cs fp141.sites) (finK Tryd.prog fp141 cs.length [.tmp 4, .tmp 5]) :=
  call_run Tryd.func141 rfl Tryd.ntmps141 (by rw [Tryd.results141]) rfl rfl h
@[simp] theorem keepE142 : ctx.keep 142 = keep142 := rfl
@[simp] theorem ghE142 : ctx.gh 142 = fun _ => [] := rfl
@[simp] theorem mdE142 : ctx.md 142 = md142 := rfl
@[simp] theorem fpE142 : ctx.fp 142 = fp142 := rfl
theorem run142 {args : List AV} {cs : List Cont} (h : callOk 38 fp142 args cs = true) : callT ctx 142 args cs = denK ctx 142 (codeOf Tryd.f142) (entry 38 gl0 args cs fp142.sites) (finK Tryd.prog fp142 cs.length [.tmp 4, .tmp 5]) :=
  call_run Tryd.func142 rfl Tryd.ntmps142 (by rw [Tryd.results142]) rfl rfl h
@[simp] theorem keepE143 : ctx.keep 143 = keep143 := rfl
@[simp] theorem ghE143 : ctx.gh 143 = fun _ => [] := rfl
@[simp] theorem mdE143 : ctx.md 143 = md143 := rfl
@[simp] theorem fpE143 : ctx.fp 143 = fp143 := rfl
theorem run143 {args : List AV} {cs : List Cont} (h : callOk 31 fp143 args cs = true) : callT ctx 143 args cs = denK ctx 143 (codeOf Tryd.f143) (entry 31 gl0 args cs fp143.sites) (finK Tryd.prog fp143 cs.length [.tmp 4, .tmp 5]) :=
  call_run Tryd.func143 rfl Tryd.ntmps143 (by rw [Tryd.results143]) rfl rfl h
@[simp] theorem keepE144 : ctx.keep 144 = keep144 := rfl
@[simp] theorem ghE144 : ctx.gh 144 = fun _ => [] := rfl
@[simp] theorem mdE144 : ctx.md 144 = md144 := rfl
@[simp] theorem fpE144 : ctx.fp 144 = fp144 := rfl
theorem run144 {args : List AV} {cs : List Cont} (h : callOk 11 fp144 args cs = true) : callT ctx 144 args cs = denK ctx 144 (codeOf Tryd.f144) (entry 11 gl0 args cs fp144.sites) (finK Tryd.prog fp144 cs.length [.tmp 4]) :=
  call_run Tryd.func144 rfl Tryd.ntmps144 (by rw [Tryd.results144]) rfl rfl h
@[simp] theorem keepE145 : ctx.keep 145 = keep145 := rfl
@[simp] theorem ghE145 : ctx.gh 145 = fun _ => [] := rfl
@[simp] theorem mdE145 : ctx.md 145 = md145 := rfl
@[simp] theorem fpE145 : ctx.fp 145 = fp145 := rfl
theorem run145 {args : List AV} {cs : List Cont} (h : callOk 4 fp145 args cs = true) : callT ctx 145 args cs = denK ctx 145 (codeOf Tryd.f145) (entry 4 gl0 args cs fp145.sites) (finK Tryd.prog fp145 cs.length [.tmp 2]) :=
  call_run Tryd.func145 rfl Tryd.ntmps145 (by rw [Tryd.results145]) rfl rfl h
@[simp] theorem keepE148 : ctx.keep 148 = keep148 := rfl
@[simp] theorem ghE148 : ctx.gh 148 = fun _ => [] := rfl
@[simp] theorem mdE148 : ctx.md 148 = md148 := rfl
@[simp] theorem fpE148 : ctx.fp 148 = fp148 := rfl
theorem run148 {args : List AV} {cs : List Cont} (h : callOk 6 fp148 args cs = true) : callT ctx 148 args cs = denK ctx 148 (codeOf Tryd.f148) (entry 6 gl0 args cs fp148.sites) (finK Tryd.prog fp148 cs.length [.tmp 2]) :=
  call_run Tryd.func148 rfl Tryd.ntmps148 (by rw [Tryd.results148]) rfl rfl h
@[simp] theorem keepE149 : ctx.keep 149 = keep149 := rfl
@[simp] theorem ghE149 : ctx.gh 149 = fun _ => [] := rfl
@[simp] theorem mdE149 : ctx.md 149 = md149 := rfl
@[simp] theorem fpE149 : ctx.fp 149 = fp149 := rfl
theorem run149 {args : List AV} {cs : List Cont} (h : callOk 81 fp149 args cs = true) : callT ctx 149 args cs = denK ctx 149 (codeOf Tryd.f149) (entry 81 gl0 args cs fp149.sites) (finK Tryd.prog fp149 cs.length [.tmp 4]) :=
  call_run Tryd.func149 rfl Tryd.ntmps149 (by rw [Tryd.results149]) rfl rfl h
@[simp] theorem keepE150 : ctx.keep 150 = keep150 := rfl
@[simp] theorem ghE150 : ctx.gh 150 = fun _ => [] := rfl
@[simp] theorem mdE150 : ctx.md 150 = md150 := rfl
@[simp] theorem fpE150 : ctx.fp 150 = fp150 := rfl
theorem run150 {args : List AV} {cs : List Cont} (h : callOk 114 fp150 args cs = true) : callT ctx 150 args cs = denK ctx 150 (codeOf Tryd.f150) (entry 114 gl0 args cs fp150.sites) (finK Tryd.prog fp150 cs.length [.tmp 4]) :=
  call_run Tryd.func150 rfl Tryd.ntmps150 (by rw [Tryd.results150]) rfl rfl h
@[simp] theorem keepE151 : ctx.keep 151 = keep151 := rfl
@[simp] theorem ghE151 : ctx.gh 151 = fun _ => [] := rfl
@[simp] theorem mdE151 : ctx.md 151 = md151 := rfl
@[simp] theorem fpE151 : ctx.fp 151 = fp151 := rfl
theorem run151 {args : List AV} {cs : List Cont} (h : callOk 99 fp151 args cs = true) : callT ctx 151 args cs = denK ctx 151 (codeOf Tryd.f151) (entry 99 gl0 args cs fp151.sites) (finK Tryd.prog fp151 cs.length [.tmp 4]) :=
  call_run Tryd.func151 rfl Tryd.ntmps151 (by rw [Tryd.results151]) rfl rfl h
@[simp] theorem keepE152 : ctx.keep 152 = keep152 := rfl
@[simp] theorem ghE152 : ctx.gh 152 = fun _ => [] := rfl
@[simp] theorem mdE152 : ctx.md 152 = md152 := rfl
@[simp] theorem fpE152 : ctx.fp 152 = fp152 := rfl
theorem run152 {args : List AV} {cs : List Cont} (h : callOk 34 fp152 args cs = true) : callT ctx 152 args cs = denK ctx 152 (codeOf Tryd.f152) (entry 34 gl0 args cs fp152.sites) (finK Tryd.prog fp152 cs.length [.tmp 6, .tmp 7, .tmp 8]) :=
  call_run Tryd.func152 rfl Tryd.ntmps152 (by rw [Tryd.results152]) rfl rfl h
@[simp] theorem keepE153 : ctx.keep 153 = keep153 := rfl
@[simp] theorem ghE153 : ctx.gh 153 = fun _ => [] := rfl
@[simp] theorem mdE153 : ctx.md 153 = md153 := rfl
@[simp] theorem fpE153 : ctx.fp 153 = fp153 := rfl
theorem run153 {args : List AV} {cs : List Cont} (h : callOk 33 fp153 args cs = true) : callT ctx 153 args cs = denK ctx 153 (codeOf Tryd.f153) (entry 33 gl0 args cs fp153.sites) (finK Tryd.prog fp153 cs.length [.tmp 6, .tmp 7, .tmp 8]) :=
  call_run Tryd.func153 rfl Tryd.ntmps153 (by rw [Tryd.results153]) rfl rfl h
@[simp] theorem keepE154 : ctx.keep 154 = keep154 := rfl
@[simp] theorem ghE154 : ctx.gh 154 = fun _ => [] := rfl
@[simp] theorem mdE154 : ctx.md 154 = md154 := rfl
@[simp] theorem fpE154 : ctx.fp 154 = fp154 := rfl
theorem run154 {args : List AV} {cs : List Cont} (h : callOk 64 fp154 args cs = true) : callT ctx 154 args cs = denK ctx 154 (codeOf Tryd.f154) (entry 64 gl0 args cs fp154.sites) (finK Tryd.prog fp154 cs.length [.tmp 6, .tmp 7, .tmp 8]) :=
  call_run Tryd.func154 rfl Tryd.ntmps154 (by rw [Tryd.results154]) rfl rfl h
@[simp] theorem keepE155 : ctx.keep 155 = keep155 := rfl
@[simp] theorem ghE155 : ctx.gh 155 = fun _ => [] := rfl
@[simp] theorem mdE155 : ctx.md 155 = md155 := rfl
@[simp] theorem fpE155 : ctx.fp 155 = fp155 := rfl
theorem run155 {args : List AV} {cs : List Cont} (h : callOk 43 fp155 args cs = true) : callT ctx 155 args cs = denK ctx 155 (codeOf Tryd.f155) (entry 43 gl0 args cs fp155.sites) (finK Tryd.prog fp155 cs.length [.tmp 6, .tmp 7, .tmp 8]) :=
  call_run Tryd.func155 rfl Tryd.ntmps155 (by rw [Tryd.results155]) rfl rfl h
@[simp] theorem keepE156 : ctx.keep 156 = keep156 := rfl
@[simp] theorem ghE156 : ctx.gh 156 = fun _ => [] := rfl
@[simp] theorem mdE156 : ctx.md 156 = md156 := rfl
@[simp] theorem fpE156 : ctx.fp 156 = fp156 := rfl
theorem run156 {args : List AV} {cs : List Cont} (h : callOk 23 fp156 args cs = true) : callT ctx 156 args cs = denK ctx 156 (codeOf Tryd.f156) (entry 23 gl0 args cs fp156.sites) (finK Tryd.prog fp156 cs.length [.tmp 0]) :=
  call_run Tryd.func156 rfl Tryd.ntmps156 (by rw [Tryd.results156]) rfl rfl h
@[simp] theorem keepE157 : ctx.keep 157 = keep157 := rfl
@[simp] theorem ghE157 : ctx.gh 157 = fun _ => [] := rfl
@[simp] theorem mdE157 : ctx.md 157 = md157 := rfl
@[simp] theorem fpE157 : ctx.fp 157 = fp157 := rfl
theorem run157 {args : List AV} {cs : List Cont} (h : callOk 19 fp157 args cs = true) : callT ctx 157 args cs = denK ctx 157 (codeOf Tryd.f157) (entry 19 gl0 args cs fp157.sites) (finK Tryd.prog fp157 cs.length [.tmp 4]) :=
  call_run Tryd.func157 rfl Tryd.ntmps157 (by rw [Tryd.results157]) rfl rfl h
@[simp] theorem keepE158 : ctx.keep 158 = keep158 := rfl
@[simp] theorem ghE158 : ctx.gh 158 = fun _ => [] := rfl
@[simp] theorem mdE158 : ctx.md 158 = md158 := rfl
@[simp] theorem fpE158 : ctx.fp 158 = fp158 := rfl
theorem run158 {args : List AV} {cs : List Cont} (h : callOk 8 fp158 args cs = true) : callT ctx 158 args cs = denK ctx 158 (codeOf Tryd.f158) (entry 8 gl0 args cs fp158.sites) (finK Tryd.prog fp158 cs.length [.tmp 3]) :=
  call_run Tryd.func158 rfl Tryd.ntmps158 (by rw [Tryd.results158]) rfl rfl h
@[simp] theorem keepE159 : ctx.keep 159 = keep159 := rfl
@[simp] theorem ghE159 : ctx.gh 159 = fun _ => [] := rfl
@[simp] theorem mdE159 : ctx.md 159 = md159 := rfl
@[simp] theorem fpE159 : ctx.fp 159 = fp159 := rfl
theorem run159 {args : List AV} {cs : List Cont} (h : callOk 11 fp159 args cs = true) : callT ctx 159 args cs = denK ctx 159 (codeOf Tryd.f159) (entry 11 gl0 args cs fp159.sites) (finK Tryd.prog fp159 cs.length [.tmp 4, .tmp 5]) :=
  call_run Tryd.func159 rfl Tryd.ntmps159 (by rw [Tryd.results159]) rfl rfl h
@[simp] theorem keepE160 : ctx.keep 160 = keep160 := rfl
@[simp] theorem ghE160 : ctx.gh 160 = fun _ => [] := rfl
@[simp] theorem mdE160 : ctx.md 160 = md160 := rfl
@[simp] theorem fpE160 : ctx.fp 160 = fp160 := rfl
theorem run160 {args : List AV} {cs : List Cont} (h : callOk 13 fp160 args cs = true) : callT ctx 160 args cs = denK ctx 160 (codeOf Tryd.f160) (entry 13 gl0 args cs fp160.sites) (finK Tryd.prog fp160 cs.length []) :=
  call_run Tryd.func160 rfl Tryd.ntmps160 (by rw [Tryd.results160]) rfl rfl h
@[simp] theorem keepE161 : ctx.keep 161 = keep161 := rfl
@[simp] theorem ghE161 : ctx.gh 161 = fun _ => [] := rfl
@[simp] theorem mdE161 : ctx.md 161 = md161 := rfl
@[simp] theorem fpE161 : ctx.fp 161 = fp161 := rfl
theorem run161 {args : List AV} {cs : List Cont} (h : callOk 38 fp161 args cs = true) : callT ctx 161 args cs = denK ctx 161 (codeOf Tryd.f161) (entry 38 gl0 args cs fp161.sites) (finK Tryd.prog fp161 cs.length [.tmp 2, .tmp 3]) :=
  call_run Tryd.func161 rfl Tryd.ntmps161 (by rw [Tryd.results161]) rfl rfl h
@[simp] theorem keepE162 : ctx.keep 162 = keep162 := rfl
@[simp] theorem ghE162 : ctx.gh 162 = fun _ => [] := rfl
@[simp] theorem mdE162 : ctx.md 162 = md162 := rfl
@[simp] theorem fpE162 : ctx.fp 162 = fp162 := rfl
theorem run162 {args : List AV} {cs : List Cont} (h : callOk 23 fp162 args cs = true) : callT ctx 162 args cs = denK ctx 162 (codeOf Tryd.f162) (entry 23 gl0 args cs fp162.sites) (finK Tryd.prog fp162 cs.length [.cell 4 213]) :=
  call_run Tryd.func162 rfl Tryd.ntmps162 (by rw [Tryd.results162]) rfl rfl h
@[simp] theorem keepE163 : ctx.keep 163 = keep163 := rfl
@[simp] theorem ghE163 : ctx.gh 163 = fun _ => [] := rfl
@[simp] theorem mdE163 : ctx.md 163 = md163 := rfl
@[simp] theorem fpE163 : ctx.fp 163 = fp163 := rfl
theorem run163 {args : List AV} {cs : List Cont} (h : callOk 18 fp163 args cs = true) : callT ctx 163 args cs = denK ctx 163 (codeOf Tryd.f163) (entry 18 gl0 args cs fp163.sites) (finK Tryd.prog fp163 cs.length [.cell 2 213]) :=
  call_run Tryd.func163 rfl Tryd.ntmps163 (by rw [Tryd.results163]) rfl rfl h
@[simp] theorem keepE164 : ctx.keep 164 = keep164 := rfl
@[simp] theorem ghE164 : ctx.gh 164 = fun _ => [] := rfl
@[simp] theorem mdE164 : ctx.md 164 = md164 := rfl
@[simp] theorem fpE164 : ctx.fp 164 = fp164 := rfl
theorem run164 {args : List AV} {cs : List Cont} (h : callOk 8 fp164 args cs = true) : callT ctx 164 args cs = denK ctx 164 (codeOf Tryd.f164) (entry 8 gl0 args cs fp164.sites) (finK Tryd.prog fp164 cs.length [.cell 2 213]) :=
  call_run Tryd.func164 rfl Tryd.ntmps164 (by rw [Tryd.results164]) rfl rfl h
@[simp] theorem keepE165 : ctx.keep 165 = keep165 := rfl
@[simp] theorem ghE165 : ctx.gh 165 = fun _ => [] := rfl
@[simp] theorem mdE165 : ctx.md 165 = md165 := rfl
@[simp] theorem fpE165 : ctx.fp 165 = fp165 := rfl
theorem run165 {args : List AV} {cs : List Cont} (h : callOk 52 fp165 args cs = true) : callT ctx 165 args cs = denK ctx 165 (codeOf Tryd.f165) (entry 52 gl0 args cs fp165.sites) (finK Tryd.prog fp165 cs.length [.cell 4 213]) :=
  call_run Tryd.func165 rfl Tryd.ntmps165 (by rw [Tryd.results165]) rfl rfl h
@[simp] theorem keepE166 : ctx.keep 166 = keep166 := rfl
@[simp] theorem ghE166 : ctx.gh 166 = fun _ => [] := rfl
@[simp] theorem mdE166 : ctx.md 166 = md166 := rfl
@[simp] theorem fpE166 : ctx.fp 166 = fp166 := rfl
theorem run166 {args : List AV} {cs : List Cont} (h : callOk 52 fp166 args cs = true) : callT ctx 166 args cs = denK ctx 166 (codeOf Tryd.f166) (entry 52 gl0 args cs fp166.sites) (finK Tryd.prog fp166 cs.length [.cell 4 213, .cell 5 213]) :=
  call_run Tryd.func166 rfl Tryd.ntmps166 (by rw [Tryd.results166]) rfl rfl h
@[simp] theorem keepE167 : ctx.keep 167 = keep167 := rfl
@[simp] theorem ghE167 : ctx.gh 167 = fun _ => [] := rfl
@[simp] theorem mdE167 : ctx.md 167 = md167 := rfl
@[simp] theorem fpE167 : ctx.fp 167 = fp167 := rfl
theorem run167 {args : List AV} {cs : List Cont} (h : callOk 39 fp167 args cs = true) : callT ctx 167 args cs = denK ctx 167 (codeOf Tryd.f167) (entry 39 gl0 args cs fp167.sites) (finK Tryd.prog fp167 cs.length [.tmp 2, .tmp 3]) :=
  call_run Tryd.func167 rfl Tryd.ntmps167 (by rw [Tryd.results167]) rfl rfl h
@[simp] theorem keepE168 : ctx.keep 168 = keep168 := rfl
@[simp] theorem ghE168 : ctx.gh 168 = fun _ => [] := rfl
@[simp] theorem mdE168 : ctx.md 168 = md168 := rfl
@[simp] theorem fpE168 : ctx.fp 168 = fp168 := rfl
theorem run168 {args : List AV} {cs : List Cont} (h : callOk 23 fp168 args cs = true) : callT ctx 168 args cs = denK ctx 168 (codeOf Tryd.f168) (entry 23 gl0 args cs fp168.sites) (finK Tryd.prog fp168 cs.length [.tmp 4, .tmp 5]) :=
  call_run Tryd.func168 rfl Tryd.ntmps168 (by rw [Tryd.results168]) rfl rfl h
@[simp] theorem keepE169 : ctx.keep 169 = keep169 := rfl
@[simp] theorem ghE169 : ctx.gh 169 = fun _ => [] := rfl
@[simp] theorem mdE169 : ctx.md 169 = md169 := rfl
@[simp] theorem fpE169 : ctx.fp 169 = fp169 := rfl
theorem run169 {args : List AV} {cs : List Cont} (h : callOk 4 fp169 args cs = true) : callT ctx 169 args cs = denK ctx 169 (codeOf Tryd.f169) (entry 4 gl0 args cs fp169.sites) (finK Tryd.prog fp169 cs.length [.tmp 2]) :=
  call_run Tryd.func169 rfl Tryd.ntmps169 (by rw [Tryd.results169]) rfl rfl h
@[simp] theorem keepE170 : ctx.keep 170 = keep170 := rfl
@[simp] theorem ghE170 : ctx.gh 170 = fun _ => [] := rfl
@[simp] theorem mdE170 : ctx.md 170 = md170 := rfl
@[simp] theorem fpE170 : ctx.fp 170 = fp170 := rfl
theorem run170 {args : List AV} {cs : List Cont} (h : callOk 23 fp170 args cs = true) : callT ctx 170 args cs = denK ctx 170 (codeOf Tryd.f170) (entry 23 gl0 args cs fp170.sites) (finK Tryd.prog fp170 cs.length [.tmp 4, .tmp 5]) :=
  call_run Tryd.func170 rfl Tryd.ntmps170 (by rw [Tryd.results170]) rfl rfl h
@[simp] theorem keepE171 : ctx.keep 171 = keep171 := rfl
@[simp] theorem ghE171 : ctx.gh 171 = fun _ => [] := rfl
@[simp] theorem mdE171 : ctx.md 171 = md171 := rfl
@[simp] theorem fpE171 : ctx.fp 171 = fp171 := rfl
theorem run171 {args : List AV} {cs : List Cont} (h : callOk 27 fp171 args cs = true) : callT ctx 171 args cs = denK ctx 171 (codeOf Tryd.f171) (entry 27 gl0 args cs fp171.sites) (finK Tryd.prog fp171 cs.length [.tmp 4, .tmp 5]) :=
  call_run Tryd.func171 rfl Tryd.ntmps171 (by rw [Tryd.results171]) rfl rfl h
@[simp] theorem keepE172 : ctx.keep 172 = keep172 := rfl
@[simp] theorem ghE172 : ctx.gh 172 = fun _ => [] := rfl
@[simp] theorem mdE172 : ctx.md 172 = md172 := rfl
@[simp] theorem fpE172 : ctx.fp 172 = fp172 := rfl
theorem run172 {args : List AV} {cs : List Cont} (h : callOk 19 fp172 args cs = true) : callT ctx 172 args cs = denK ctx 172 (codeOf Tryd.f172) (entry 19 gl0 args cs fp172.sites) (finK Tryd.prog fp172 cs.length [.tmp 4, .tmp 5]) :=
  call_run Tryd.func172 rfl Tryd.ntmps172 (by rw [Tryd.results172]) rfl rfl h
@[simp] theorem keepE173 : ctx.keep 173 = keep173 := rfl
@[simp] theorem ghE173 : ctx.gh 173 = fun _ => [] := rfl
@[simp] theorem mdE173 : ctx.md 173 = md173 := rfl
@[simp] theorem fpE173 : ctx.fp 173 = fp173 := rfl
theorem run173 {args : List AV} {cs : List Cont} (h : callOk 14 fp173 args cs = true) : callT ctx 173 args cs = denK ctx 173 (codeOf Tryd.f173) (entry 14 gl0 args cs fp173.sites) (finK Tryd.prog fp173 cs.length [.tmp 4, .tmp 5]) :=
  call_run Tryd.func173 rfl Tryd.ntmps173 (by rw [Tryd.results173]) rfl rfl h
@[simp] theorem keepE174 : ctx.keep 174 = keep174 := rfl
@[simp] theorem ghE174 : ctx.gh 174 = fun _ => [] := rfl
@[simp] theorem mdE174 : ctx.md 174 = md174 := rfl
@[simp] theorem fpE174 : ctx.fp 174 = fp174 := rfl
theorem run174 {args : List AV} {cs : List Cont} (h : callOk 18 fp174 args cs = true) : callT ctx 174 args cs = denK ctx 174 (codeOf Tryd.f174) (entry 18 gl0 args cs fp174.sites) (finK Tryd.prog fp174 cs.length [.tmp 4, .tmp 5]) :=
  call_run Tryd.func174 rfl Tryd.ntmps174 (by rw [Tryd.results174]) rfl rfl h
@[simp] theorem keepE175 : ctx.keep 175 = keep175 := rfl
@[simp] theorem ghE175 : ctx.gh 175 = fun _ => [] := rfl
@[simp] theorem mdE175 : ctx.md 175 = md175 := rfl
@[simp] theorem fpE175 : ctx.fp 175 = fp175 := rfl
theorem run175 {args : List AV} {cs : List Cont} (h : callOk 31 fp175 args cs = true) : callT ctx 175 args cs = denK ctx 175 (codeOf Tryd.f175) (entry 31 gl0 args cs fp175.sites) (finK Tryd.prog fp175 cs.length [.cell 4 213]) :=
  call_run Tryd.func175 rfl Tryd.ntmps175 (by rw [Tryd.results175]) rfl rfl h
@[simp] theorem keepE176 : ctx.keep 176 = keep176 := rfl
@[simp] theorem ghE176 : ctx.gh 176 = fun _ => [] := rfl
@[simp] theorem mdE176 : ctx.md 176 = md176 := rfl
@[simp] theorem fpE176 : ctx.fp 176 = fp176 := rfl
theorem run176 {args : List AV} {cs : List Cont} (h : callOk 28 fp176 args cs = true) : callT ctx 176 args cs = denK ctx 176 (codeOf Tryd.f176) (entry 28 gl0 args cs fp176.sites) (finK Tryd.prog fp176 cs.length [.tmp 4]) :=
  call_run Tryd.func176 rfl Tryd.ntmps176 (by rw [Tryd.results176]) rfl rfl h
@[simp] theorem keepE177 : ctx.keep 177 = keep177 := rfl
@[simp] theorem ghE177 : ctx.gh 177 = fun _ => [] := rfl
@[simp] theorem mdE177 : ctx.md 177 = md177 := rfl
@[simp] theorem fpE177 : ctx.fp 177 = fp177 := rfl
theorem run177 {args : List AV} {cs : List Cont} (h : callOk 33 fp177 args cs = true) : callT ctx 177 args cs = denK ctx 177 (codeOf Tryd.f177) (entry 33 gl0 args cs fp177.sites) (finK Tryd.prog fp177 cs.length [.cell 4 213]) :=
  call_run Tryd.func177 rfl Tryd.ntmps177 (by rw [Tryd.results177]) rfl rfl h
@[simp] theorem keepE178 : ctx.keep 178 = keep178 := rfl
@[simp] theorem ghE178 : ctx.gh 178 = fun _ => [] := rfl
@[simp] theorem mdE178 : ctx.md 178 = md178 := rfl
@[simp] theorem fpE178 : ctx.fp 178 = fp178 := rfl
theorem run178 {args : List AV} {cs : List Cont} (h : callOk 51 fp178 args cs = true) : callT ctx 178 args cs = denK ctx 178 (codeOf Tryd.f178) (entry 51 gl0 args cs fp178.sites) (finK Tryd.prog fp178 cs.length [.tmp 4, .tmp 5]) :=
  call_run Tryd.func178 rfl Tryd.ntmps178 (by rw [Tryd.results178]) rfl rfl h
@[simp] theorem keepE179 : ctx.keep 179 = keep179 := rfl
@[simp] theorem ghE179 : ctx.gh 179 = fun _ => [] := rfl
@[simp] theorem mdE179 : ctx.md 179 = md179 := rfl
@[simp] theorem fpE179 : ctx.fp 179 = fp179 := rfl
theorem run179 {args : List AV} {cs : List Cont} (h : callOk 10 fp179 args cs = true) : callT ctx 179 args cs = denK ctx 179 (codeOf Tryd.f179) (entry 10 gl0 args cs fp179.sites) (finK Tryd.prog fp179 cs.length [.tmp 2]) :=
  call_run Tryd.func179 rfl Tryd.ntmps179 (by rw [Tryd.results179]) rfl rfl h
@[simp] theorem keepE180 : ctx.keep 180 = keep180 := rfl
@[simp] theorem ghE180 : ctx.gh 180 = fun _ => [] := rfl
@[simp] theorem mdE180 : ctx.md 180 = md180 := rfl
@[simp] theorem fpE180 : ctx.fp 180 = fp180 := rfl
theorem run180 {args : List AV} {cs : List Cont} (h : callOk 24 fp180 args cs = true) : callT ctx 180 args cs = denK ctx 180 (codeOf Tryd.f180) (entry 24 gl0 args cs fp180.sites) (finK Tryd.prog fp180 cs.length [.tmp 4, .tmp 5]) :=
  call_run Tryd.func180 rfl Tryd.ntmps180 (by rw [Tryd.results180]) rfl rfl h
@[simp] theorem keepE181 : ctx.keep 181 = keep181 := rfl
@[simp] theorem ghE181 : ctx.gh 181 = fun _ => [] := rfl
@[simp] theorem mdE181 : ctx.md 181 = md181 := rfl
@[simp] theorem fpE181 : ctx.fp 181 = fp181 := rfl
theorem run181 {args : List AV} {cs : List Cont} (h : callOk 21 fp181 args cs = true) : callT ctx 181 args cs = denK ctx 181 (codeOf Tryd.f181) (entry 21 gl0 args cs fp181.sites) (finK Tryd.prog fp181 cs.length [.tmp 4]) :=
  call_run Tryd.func181 rfl Tryd.ntmps181 (by rw [Tryd.results181]) rfl rfl h
@[simp] theorem keepE205 : ctx.keep 205 = keep205 := rfl
@[simp] theorem ghE205 : ctx.gh 205 = fun _ => [] := rfl
@[simp] theorem mdE205 : ctx.md 205 = md205 := rfl
@[simp] theorem fpE205 : ctx.fp 205 = fp205 := rfl
theorem run205 {args : List AV} {cs : List Cont} (h : callOk 12 fp205 args cs = true) : callT ctx 205 args cs = denK ctx 205 (codeOf Tryd.f205) (entry 12 gl0 args cs fp205.sites) (finK Tryd.prog fp205 cs.length []) :=
  call_run Tryd.func205 rfl Tryd.ntmps205 (by rw [Tryd.results205]) rfl rfl h
end Go.Am

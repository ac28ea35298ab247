/-
  Texts of one proof, one behind the other.
-/
import Derived.Test.YtecknaklaleloaaDoorP6
import Derived.Lib.Bytealg
import Derived.Lib.Index
import Derived.Lib.Strings
set_option linter.all false
section
namespace Go.Am
abbrev Tx := List UInt8
def letterB (c : UInt8) : Bool := decide (65 ≤ c.toNat) && decide (c.toNat ≤ 90) || decide (97 ≤ c.toNat) && decide (c.toNat ≤ 122)
def digitB (c : UInt8) : Bool := decide (48 ≤ c.toNat) && decide (c.toNat ≤ 57)
def innerB (c : UInt8) : Bool := letterB c || digitB c || decide (c.toNat = 95)
def blankB (c : UInt8) : Bool := decide (c.toNat = 32) || decide (c.toNat = 10) || decide (c.toNat = 9)
/-- What a digit is worth; 99: it is none. -/
def valB (c : UInt8) : Nat := if digitB c then c.toNat - 48 else if 65 ≤ c.toNat ∧ c.toNat ≤ 70 then c.toNat - 65 + 10 else 99
/-- Places. -/
def plStep (p : Int × Int) (c : UInt8) : Int × Int := if c = 10 then (p.1 + 1, 1) else (p.1, p.2 + 1)
def plOf (s : Tx) : Int × Int := s.foldl plStep (1, 1)
theorem plOf_bound : ∀ (s : Tx) (p : Int × Int) (n : Nat), 1 ≤ p.1 → p.1 ≤ n → 1 ≤ p.2 → p.2 ≤ n → 1 ≤ (s.foldl plStep p).1 ∧ (s.foldl plStep p).1 ≤ n + s.length ∧ 1 ≤ (s.foldl plStep p).2 ∧ (s.foldl plStep p).2 ≤ n + s.length
  | [], p, n, h1, h2, h3, h4 => by simp; omega
  | c :: r, p, n, h1, h2, h3, h4 => by
    have h := plOf_bound r (plStep p c) (n + 1) (by unfold plStep; split <;> simp <;> omega) (by unfold plStep; split <;> simp <;> omega) (by unfold plStep; split <;> simp <;> omega) (by unfold plStep; split <;> simp <;> omega)
    simp only [List.foldl_cons, List.length_cons]
    omega
theorem plOf_take {s : Tx} {i : Nat} : 1 ≤ (plOf (s.take i)).1 ∧ (plOf (s.take i)).1 ≤ s.length + 1 ∧ 1 ≤ (plOf (s.take i)).2 ∧ (plOf (s.take i)).2 ≤ s.length + 1 := by
  have h := plOf_bound (s.take i) (1, 1) 1 (by simp) (by simp) (by simp) (by simp)
  have hl : (s.take i).length ≤ s.length := by simp; omega
  unfold plOf
  omega
theorem plOf_succ {s : Tx} {i : Nat} (h : i < s.length) : plOf (s.take (i + 1)) = plStep (plOf (s.take i)) s[i] := by
  unfold plOf
  rw [List.take_add_one, List.getElem?_eq_getElem h, List.foldl_append]
  rfl
/-- The end of a remark. -/
def findEnd : Tx → Option Nat
  | [] => none
  | c :: r => if c = 42 ∧ r.head? = some 41 then some 0 else (findEnd r).map (· + 1)
/-- How many bytes up to the end of the line. -/
def lineN (s : Tx) : Nat := (s.takeWhile (· ≠ 10)).length
theorem lineN_le (s : Tx) : lineN s ≤ s.length := by unfold lineN; exact (List.takeWhile_prefix _).length_le
theorem u8beq (a c : UInt8) : (a == c) = decide (c = a) := by
  by_cases h : c = a
  · simp [h]
  · simp [h]; exact fun e => h e.symm
theorem indexByte_line : ∀ (t : Tx), Go.Lib.indexByte t 10 = if lineN t < t.length then (lineN t : Int) else -1
  | [] => rfl
  | c :: r => by
    have ih := indexByte_line r
    unfold Go.Lib.indexByte
    by_cases hc : c = 10
    · subst hc; simp [lineN]
    · have e : lineN (c :: r) = lineN r + 1 := by simp [lineN, hc]
      rw [e, ih]
      simp only [beq_iff_eq, hc, if_false, List.length_cons]
      by_cases h : lineN r < r.length
      · simp only [if_pos h]
        rw [if_neg (by omega), if_pos (by omega)]; omega
      · simp [h]
theorem findEnd_le : ∀ {t : Tx} {m : Nat}, findEnd t = some m → m + 2 ≤ t.length
  | [], m, h => by cases h
  | c :: r, m, h => by
    unfold findEnd at h
    split at h
    · rename_i hc
      cases h
      cases r with
      | nil => simp at hc
      | cons d r => simp
    · cases hf : findEnd r with
      | none => rw [hf] at h; cases h
      | some n =>
        rw [hf] at h
        cases h
        have := findEnd_le hf
        simp; omega
theorem index_end : ∀ (t : Tx), Go.Lib.index t [42, 41] = match findEnd t with | none => -1 | some m => (m : Int)
  | [] => rfl
  | c :: r => by
    have ih := index_end r
    unfold Go.Lib.index findEnd
    have e : (([42, 41] : Tx).isPrefixOf (c :: r)) = decide (c = 42 ∧ r.head? = some 41) := by
      cases r with
      | nil => simp [List.isPrefixOf]
      | cons d r => simp [List.isPrefixOf, u8beq]
    rw [e, ih]
    by_cases hc : c = 42 ∧ r.head? = some 41
    · simp [hc]
    · rw [if_neg hc]
      simp only [hc, decide_false, Bool.false_eq_true, if_false]
      cases hf : findEnd r with
      | none => simp
      | some n => simp
theorem hasPrefix2 (a b c : UInt8) (r : Tx) : Go.Lib.hasPrefix (c :: r) [a, b] = (decide (c = a) && decide (r.head? = some b)) := by
  unfold Go.Lib.hasPrefix
  cases r with
  | nil => simp [List.isPrefixOf]
  | cons d r => simp [List.isPrefixOf, u8beq]
/-- Blanks and remarks: how many bytes; is each remark one? -/
def gapC : Nat → Tx → Nat × Bool
  | 0, _ => (0, true)
  | _ + 1, [] => (0, true)
  | f + 1, c :: r =>
    if blankB c then (1 + (gapC f r).1, (gapC f r).2)
    else if c = 47 ∧ r.head? = some 47 then (lineN (c :: r) + (gapC f ((c :: r).drop (lineN (c :: r)))).1, (gapC f ((c :: r).drop (lineN (c :: r)))).2)
    else if c = 40 ∧ r.head? = some 42 then match findEnd r.tail with
      | none => (0, false)
      | some m => (m + 4 + (gapC f ((c :: r).drop (m + 4))).1, (gapC f ((c :: r).drop (m + 4))).2)
    else (0, true)
/-- A number at the beginning: base, length of its head. -/
def headN (s : Tx) : Nat × Nat := if [49, 54, 35].isPrefixOf s then (16, 3) else if [56, 35].isPrefixOf s then (8, 2) else if [50, 35].isPrefixOf s then (2, 2) else (10, 0)
/-- Its value, if there is room. -/
def valN (base : Nat) : Nat → Tx → Option Nat
  | x, [] => some x
  | x, c :: r => if (9223372036854775807 - valB c) / base < x then none else valN base (x * base + valB c) r
/-- A number at the beginning, its digits known: its length, value, error. -/
def numG (s : Tx) (b h : Nat) (ds : Tx) : Nat × Nat × Nat :=
  if ds = [] ∨ (∃ c, s[h + ds.length]? = some c ∧ (innerB c = true ∨ c = 35)) then (0, 0, 5)
  else match valN b 0 ds with
    | none => (0, 0, 2)
    | some x => (h + ds.length, x, 0)
def numF (s : Tx) : Nat × Nat × Nat := numG s (headN s).1 (headN s).2 ((s.drop (headN s).2).takeWhile (fun c => decide (valB c < (headN s).1)))
def signs1 : Tx := [43, 45, 42, 47, 40, 41, 91, 93, 46, 44, 59, 58, 60, 62, 61]
def signs2 : List Tx := [[58, 61], [60, 61], [62, 61], [60, 62], [46, 46]]
def signF (s : Tx) : Nat := if signs2.any (fun p => p.isPrefixOf s) then 2 else match s with
  | [] => 0
  | c :: _ => if c ∈ signs1 then 1 else 0
theorem gapC_le : ∀ (f : Nat) (t : Tx), (gapC f t).1 ≤ t.length
  | 0, _ => by simp [gapC]
  | _ + 1, [] => by simp [gapC]
  | f + 1, c :: r => by
    unfold gapC
    split
    · have := gapC_le f r; simp; omega
    · split
      · have h1 := gapC_le f ((c :: r).drop (lineN (c :: r)))
        have h2 := lineN_le (c :: r)
        simp only [List.length_drop] at h1
        simp only; omega
      · split
        · split
          · simp
          · rename_i m hm
            have h1 := gapC_le f ((c :: r).drop (m + 4))
            have h2 := findEnd_le hm
            have h3 : r.tail.length = r.length - 1 := by simp
            simp only [List.length_drop, List.length_cons] at h1 ⊢
            omega
        · simp
/-- The words of the language. -/
def wordsT : Tx := [80, 82, 79, 71, 82, 65, 77, 32, 69, 78, 68, 95, 80, 82, 79, 71, 82, 65, 77, 32, 86, 65, 82, 32, 86, 65, 82, 95, 73, 78, 80, 85, 84, 32, 86, 65, 82, 95, 79, 85, 84, 80, 85, 84, 32, 69, 78, 68, 95, 86, 65, 82, 32, 73, 78, 84, 32, 66, 79, 79, 76, 32, 65, 82, 82, 65, 89, 32, 79, 70, 32, 84, 82, 85, 69, 32, 70, 65, 76, 83, 69, 32, 73, 70, 32, 84, 72, 69, 78, 32, 69, 76, 83, 73, 70, 32, 69, 76, 83, 69, 32, 69, 78, 68, 95, 73, 70, 32, 67, 65, 83, 69, 32, 69, 78, 68, 95, 67, 65, 83, 69, 32, 70, 79, 82, 32, 84, 79, 32, 66, 89, 32, 68, 79, 32, 69, 78, 68, 95, 70, 79, 82, 32, 87, 72, 73, 76, 69, 32, 69, 78, 68, 95, 87, 72, 73, 76, 69, 32, 82, 69, 80, 69, 65, 84, 32, 85, 78, 84, 73, 76, 32, 69, 78, 68, 95, 82, 69, 80, 69, 65, 84, 32, 69, 88, 73, 84, 32, 82, 69, 84, 85, 82, 78, 32, 65, 78, 68, 32, 79, 82, 32, 88, 79, 82, 32, 78, 79, 84, 32, 77, 79, 68]
def wordsL : List Tx := [[80, 82, 79, 71, 82, 65, 77], [69, 78, 68, 95, 80, 82, 79, 71, 82, 65, 77], [86, 65, 82], [86, 65, 82, 95, 73, 78, 80, 85, 84], [86, 65, 82, 95, 79, 85, 84, 80, 85, 84], [69, 78, 68, 95, 86, 65, 82], [73, 78, 84], [66, 79, 79, 76], [65, 82, 82, 65, 89], [79, 70], [84, 82, 85, 69], [70, 65, 76, 83, 69], [73, 70], [84, 72, 69, 78], [69, 76, 83, 73, 70], [69, 76, 83, 69], [69, 78, 68, 95, 73, 70], [67, 65, 83, 69], [69, 78, 68, 95, 67, 65, 83, 69], [70, 79, 82], [84, 79], [66, 89], [68, 79], [69, 78, 68, 95, 70, 79, 82], [87, 72, 73, 76, 69], [69, 78, 68, 95, 87, 72, 73, 76, 69], [82, 69, 80, 69, 65, 84], [85, 78, 84, 73, 76], [69, 78, 68, 95, 82, 69, 80, 69, 65, 84], [69, 88, 73, 84], [82, 69, 84, 85, 82, 78], [65, 78, 68], [79, 82], [88, 79, 82], [78, 79, 84], [77, 79, 68]]
def wordB (s : Tx) : Bool := decide (s ∈ wordsL)
structure Sgn where
  kind : Int
  text : Tx
  n : Int
  line : Int
  col : Int
  deriving DecidableEq
/-- The sign at the beginning: error, kind, length, value. -/
def nextF (s : Tx) : Nat × Nat × Nat × Nat :=
  match s with
  | [] => (5, 0, 0, 0)
  | c :: _ =>
    if letterB c then
      if wordB (s.take (s.takeWhile innerB).length) then (0, 2, (s.takeWhile innerB).length, 0)
      else if 16 < (s.takeWhile innerB).length then (9, 1, 0, 0) else (0, 1, (s.takeWhile innerB).length, 0)
    else if digitB c then
      if (numF s).2.2 = 0 then (0, 3, (numF s).1, (numF s).2.1) else ((numF s).2.2, 0, 0, 0)
    else if signF s = 0 then (5, 0, 0, 0) else (0, 4, signF s, 0)
def here (p : Int × Int) : Sgn := ⟨0, [], 0, p.1, p.2⟩
/-- All signs from a place on. -/
def lexF (s : Tx) : Nat → Nat → List Sgn → List Sgn × Nat × Sgn
  | 0, _, _ => ([], 5, ⟨0, [], 0, 0, 0⟩)
  | f + 1, i, out =>
    if (gapC (s.length + 1) (s.drop i)).2 = false then ([], 5, here (plOf (s.take (i + (gapC (s.length + 1) (s.drop i)).1))))
    else if s.drop (i + (gapC (s.length + 1) (s.drop i)).1) = [] then (out ++ [here (plOf (s.take (i + (gapC (s.length + 1) (s.drop i)).1)))], 0, ⟨0, [], 0, 0, 0⟩)
    else if (nextF (s.drop (i + (gapC (s.length + 1) (s.drop i)).1))).1 ≠ 0 then ([], (nextF (s.drop (i + (gapC (s.length + 1) (s.drop i)).1))).1, here (plOf (s.take (i + (gapC (s.length + 1) (s.drop i)).1))))
    else lexF s f (i + (gapC (s.length + 1) (s.drop i)).1 + (nextF (s.drop (i + (gapC (s.length + 1) (s.drop i)).1))).2.2.1)
      (out ++ [⟨(nextF (s.drop (i + (gapC (s.length + 1) (s.drop i)).1))).2.1, (s.drop (i + (gapC (s.length + 1) (s.drop i)).1)).take (nextF (s.drop (i + (gapC (s.length + 1) (s.drop i)).1))).2.2.1, (nextF (s.drop (i + (gapC (s.length + 1) (s.drop i)).1))).2.2.2,
        (plOf (s.take (i + (gapC (s.length + 1) (s.drop i)).1))).1, (plOf (s.take (i + (gapC (s.length + 1) (s.drop i)).1))).2⟩])
def lexP (s : Tx) : List Sgn × Nat × Sgn := if 16384 < s.length then ([], 13, ⟨0, [], 0, 1, 1⟩) else lexF s (s.length + 1) 0 []
end Go.Am
end
section
namespace Go.Am
open Go
/-- Expressions. -/
inductive Ex where
  | mk (op n : Int) (name field : Tx) (sub : List Ex) (line : Int)
/-- Statements. -/
inductive Sm where
  | mk (op : Int) (name : Tx) (to val : Ex) (conds : List Ex) (labels : List (List Int)) (fields : List Tx) (blocks : List (List Sm)) (line : Int)
instance : Inhabited Ex := ⟨.mk 0 0 [] [] [] 0⟩
instance : Inhabited Sm := ⟨.mk 0 [] default default [] [] [] [] 0⟩
structure Vr where
  name : Tx
  ty : Int
  sec : Int
  arr : Bool
  lo : Int
  hi : Int
  init : Int
  line : Int
  deriving DecidableEq
structure Pg where
  name : Tx
  vars : List Vr
  body : List Sm
mutual
def exD : Ex → D
  | .mk op n name field sub line => .agg [.int .i64 op, .int .i64 n, .str name, .str field, .list (exDs sub), .int .i64 line]
def exDs : List Ex → List D
  | [] => []
  | x :: r => exD x :: exDs r
end
theorem exDs_eq : ∀ l : List Ex, exDs l = l.map exD
  | [] => rfl
  | x :: r => by simp [exDs, exDs_eq r]
def exC : Ex → List D
  | .mk op n name field sub line => [.int .i64 op, .int .i64 n, .str name, .str field, .list (exDs sub), .int .i64 line]
theorem exD_C (x : Ex) : exD x = .agg (exC x) := by cases x; rfl
def lbD (l : List Int) : D := .list (l.map fun n => .int .i64 n)
mutual
def smD : Sm → D
  | .mk op name to val conds labels fields blocks line => .agg (.int .i64 op :: .str name :: (exC to ++ (exC val ++ [.list (exDs conds), .list (labels.map lbD), .list (fields.map .str), .list (bksD blocks), .int .i64 line])))
def smDs : List Sm → List D
  | [] => []
  | x :: r => smD x :: smDs r
def bksD : List (List Sm) → List D
  | [] => []
  | b :: r => .list (smDs b) :: bksD r
end
theorem smDs_eq : ∀ l : List Sm, smDs l = l.map smD
  | [] => rfl
  | x :: r => by simp [smDs, smDs_eq r]
theorem bksD_eq : ∀ l : List (List Sm), bksD l = l.map fun b => .list (b.map smD)
  | [] => rfl
  | x :: r => by simp [bksD, bksD_eq r, smDs_eq]
def vrC (v : Vr) : List D := [.str v.name, .int .i64 v.ty, .int .i64 v.sec, .bool v.arr, .int .i64 v.lo, .int .i64 v.hi, .int .i64 v.init, .int .i64 v.line]
def vrD (v : Vr) : D := .agg (vrC v)
theorem vrD_inj {v w : Vr} (h : vrD v = vrD w) : v = w := by
  cases v; cases w
  simp [vrD, vrC] at h
  simp [h]
/-- The parser's state; an error and its place. -/
structure PS where
  at_ : Nat
  deep : Int
  vars : List Vr
structure Er where
  e : Int
  line : Int
  col : Int
  deriving DecidableEq
abbrev PM (α : Type) := PR Er PS α
abbrev wr (n : Int) : Int := IntKind.i64.wrap n
section
variable (L : List Sgn)
def nowS (s : PS) : PM Sgn := match L[s.at_]? with
  | some t => .ok t s
  | none => .out
def failS {α : Type} (e : Int) (t : Sgn) (s : PS) : PM α := .bad ⟨e, t.line, t.col⟩ s
def isW (t : Sgn) (w : Tx) : Bool := (decide (t.kind = 2) || decide (t.kind = 4)) && decide (t.text = w)
def isS (w : Tx) (s : PS) : PM Bool := (nowS L s).bind fun t s => .ok (isW t w) s
def anyS : List Tx → PS → PM Bool
  | [], s => .ok false s
  | w :: r, s => (isS L w s).bind fun b s => if b = true then .ok true s else anyS r s
def takeS (s : PS) : PM Sgn := (nowS L s).bind fun t s => .ok t (if t.kind = 0 then s else { s with at_ := s.at_ + 1 })
def mayS (w : Tx) (s : PS) : PM Bool := (isS L w s).bind fun b s => if b = true then (takeS L s).bind fun _ s => .ok true s else .ok false s
def mustS (w : Tx) (s : PS) : PM Unit := (mayS L w s).bind fun b s => if b = true then .ok () s else (nowS L s).bind fun t s => failS 5 t s
def kindS (k : Int) (s : PS) : PM Sgn := (nowS L s).bind fun t s => if t.kind = k then takeS L s else (nowS L s).bind fun t s => failS 5 t s
def inS (s : PS) : PM Unit := if 32 < wr (s.deep + 1) then (nowS L { s with deep := wr (s.deep + 1) }).bind fun t s => failS 13 t s else .ok () { s with deep := wr (s.deep + 1) }
def outS (s : PS) : PM Unit := .ok () { s with deep := wr (s.deep - 1) }
structure Kd where
  at_ : Sgn
  kind : Int
  arr : Bool
  lo : Int
  hi : Int
def plainS (s : PS) : PM (Int × Bool) := (mayS L [73, 78, 84] s).bind fun b s => if b = true then .ok (1, true) s else (mayS L [66, 79, 79, 76] s).bind fun b s => if b = true then .ok (2, true) s else .ok (0, false) s
def arrayS (k : Kd) (s : PS) : PM Kd :=
  (mustS L [91] s).bind fun _ s => (kindS L 3 s).bind fun lo s => (mustS L [46, 46] s).bind fun _ s => (kindS L 3 s).bind fun hi s =>
  if hi.n < lo.n ∨ 255 < hi.n then failS 1 hi s else
  (mustS L [93] s).bind fun _ s => (mustS L [79, 70] s).bind fun _ s => (plainS L s).bind fun p s =>
  if p.2 = true then .ok ⟨k.at_, p.1, true, lo.n, hi.n⟩ s else (nowS L s).bind fun t s => failS 5 t s
def typedS (kindN : Tx → Int) (s : PS) : PM Kd :=
  (nowS L s).bind fun t s => (plainS L s).bind fun p s =>
  if p.2 = true then .ok ⟨t, p.1, false, 0, 0⟩ s else (mayS L [65, 82, 82, 65, 89] s).bind fun b s =>
  if b = true then arrayS L ⟨t, 0, false, 0, 0⟩ s else (kindS L 1 s).bind fun nm s =>
  if kindN nm.text = 0 then failS 9 nm s else .ok ⟨t, kindN nm.text, false, 0, 0⟩ s
def signedS (s : PS) : PM Int := (mayS L [45] s).bind fun b s => if b = true then (kindS L 3 s).bind fun t s => .ok (wr (-t.n)) s else (kindS L 3 s).bind fun t s => .ok t.n s
def valueS (s : PS) : PM (Int × Bool) := (mayS L [84, 82, 85, 69] s).bind fun b s => if b = true then .ok (1, true) s else (mayS L [70, 65, 76, 83, 69] s).bind fun b s => if b = true then .ok (0, true) s else (signedS L s).bind fun n s => .ok (n, false) s
/-- The names of a line of variables. -/
def namesS : Nat → List Sgn → PS → PM (List Sgn)
  | 0, _, _ => .out
  | f + 1, l, s => (kindS L 1 s).bind fun t s => if 64 < s.vars.length + (l.length + 1) then (if l.length < 100000 ∧ s.vars.length < 100000 then failS 13 t s else .out) else
    (mayS L [44] s).bind fun b s => if b = true then namesS f (l ++ [t]) s else .ok (l ++ [t]) s
def vrOf (k : Kd) (sec init : Int) (t : Sgn) : Vr := ⟨t.text, k.kind, sec, k.arr, k.lo, k.hi, init, t.line⟩
def initS (k : Kd) (s : PS) : PM Int := (mayS L [58, 61] s).bind fun b s =>
  if b = true then (valueS L s).bind fun p s => if k.arr = true ∨ 2 < k.kind ∨ p.2 ≠ decide (k.kind = 2) then failS 1 k.at_ s else .ok p.1 s else .ok 0 s
def declaredS (kindN : Tx → Int) (f : Nat) (sec : Int) (s : PS) : PM Unit :=
  (namesS L f [] s).bind fun l s => (mustS L [58] s).bind fun _ s => (typedS L kindN s).bind fun k s => (initS L k s).bind fun init s => (mustS L [59] s).bind fun _ s =>
  if s.vars.length + l.length ≤ 64 then .ok () { s with vars := s.vars ++ l.map (vrOf k sec init) } else .out
/-- The lines of a section. -/
def linesS (kindN : Tx → Int) (sec : Int) : Nat → PS → PM Unit
  | 0, _ => .out
  | f + 1, s => (mayS L [69, 78, 68, 95, 86, 65, 82] s).bind fun b s => if b = true then .ok () s else (declaredS L kindN f sec s).bind fun _ s => linesS kindN sec f s
def sectionS (s : PS) : PM (Option Int) := (mayS L [86, 65, 82] s).bind fun b s => if b = true then .ok (some 0) s else (mayS L [86, 65, 82, 95, 73, 78, 80, 85, 84] s).bind fun b s => if b = true then .ok (some 1) s else
  (mayS L [86, 65, 82, 95, 79, 85, 84, 80, 85, 84] s).bind fun b s => if b = true then .ok (some 2) s else .ok none s
def sectionsS (kindN : Tx → Int) : Nat → PS → PM Unit
  | 0, _ => .out
  | f + 1, s => (sectionS L s).bind fun o s => match o with
    | some sec => (linesS L kindN sec f s).bind fun _ s => sectionsS kindN f s
    | none => .ok () s
def lvT : List (List Tx) := [[[79, 82]], [[88, 79, 82]], [[65, 78, 68]], [[61], [60, 62], [60], [62], [60, 61], [62, 61]], [[43], [45]], [[42], [47], [77, 79, 68]]]
def opT : List Tx := [[43], [45], [42], [47], [77, 79, 68], [61], [60, 62], [60], [62], [60, 61], [62, 61], [65, 78, 68], [88, 79, 82], [79, 82]]
/-- Where a word stands in a row; -1: nowhere. -/
def idxT (w : Tx) : List Tx → Nat → Int
  | [], _ => -1
  | x :: r, i => if w = x then i else idxT w r (i + 1)
/-- An operator's kind. -/
def opI (w : Tx) : Int := 8 + idxT w opT 0
def ex0 : Ex := .mk 0 0 [] [] [] 0
def exVar (t : Sgn) : Ex := .mk 3 0 t.text [] [] t.line
def exSub (op : Int) (nm : Tx) (l : List Ex) (line : Int) : Ex := .mk op 0 nm [] l line
def labelledS (s : PS) : PM Bool := (nowS L s).bind fun t s => if t.kind = 3 then .ok true s else isS L [45] s
def labelsS : Nat → List Int → PS → PM (List Int)
  | 0, _, _ => .out
  | f + 1, l, s => (signedS L s).bind fun lo s => (mayS L [46, 46] s).bind fun b s => (if b = true then signedS L s else .ok lo s).bind fun hi s =>
    if l.length < 100000 then (mayS L [44] s).bind fun b s => if b = true then labelsS f (l ++ [lo, hi]) s else (mustS L [58] s).bind fun _ s => .ok (l ++ [lo, hi]) s else .out
/-- What ends a block of a CASE. -/
def endCaseS (s : PS) : PM Bool := (labelledS L s).bind fun b s => if b = true then .ok true s else (isS L [69, 76, 83, 69] s).bind fun b s => if b = true then .ok true s else isS L [69, 78, 68, 95, 67, 65, 83, 69] s
mutual
def levelS : Nat → Nat → PS → PM Ex
  | 0, _, _ => .out
  | f + 1, n, s => if n = 6 then unaryS f s else if n < 6 then (levelS f (n + 1) s).bind fun x s => levelL f n x s else .out
def levelL : Nat → Nat → Ex → PS → PM Ex
  | 0, _, _, _ => .out
  | f + 1, n, x, s => (anyS L (lvT.getD n []) s).bind fun b s => if b = true then (takeS L s).bind fun t s => (levelS f (n + 1) s).bind fun y s =>
      if n = 3 then .ok (exSub (opI t.text) [] [x, y] t.line) s else levelL f n (exSub (opI t.text) [] [x, y] t.line) s
    else .ok x s
def unaryS : Nat → PS → PM Ex
  | 0, _ => .out
  | f + 1, s => (nowS L s).bind fun t s => (isS L [45] s).bind fun b s =>
    if b = true then unopS f 6 t s else (isS L [78, 79, 84] s).bind fun b s => if b = true then unopS f 7 t s else factorS f s
def unopS : Nat → Int → Sgn → PS → PM Ex
  | 0, _, _, _ => .out
  | f + 1, op, t, s => (inS L s).bind fun _ s => (takeS L s).bind fun _ s => (unaryS f s).bind fun x s => (outS s).bind fun _ s => .ok (exSub op [] [x] t.line) s
def exprS : Nat → PS → PM Ex
  | 0, _ => .out
  | f + 1, s => levelS f 0 s
def indexS : Nat → PS → PM Ex
  | 0, _ => .out
  | f + 1, s => (inS L s).bind fun _ s => (mustS L [91] s).bind fun _ s => (exprS f s).bind fun x s => (mustS L [93] s).bind fun _ s => (outS s).bind fun _ s => .ok x s
def factorS : Nat → PS → PM Ex
  | 0, _ => .out
  | f + 1, s => (nowS L s).bind fun t s =>
    if t.kind = 3 then (takeS L s).bind fun u s => .ok (.mk 1 u.n [] [] [] t.line) s else
    (mayS L [84, 82, 85, 69] s).bind fun b s => if b = true then .ok (.mk 2 1 [] [] [] t.line) s else
    (mayS L [70, 65, 76, 83, 69] s).bind fun b s => if b = true then .ok (.mk 2 0 [] [] [] t.line) s else
    (isS L [40] s).bind fun b s => if b = true then (inS L s).bind fun _ s => (takeS L s).bind fun _ s => (exprS f s).bind fun x s => (mustS L [41] s).bind fun _ s => (outS s).bind fun _ s => .ok x s else
    (kindS L 1 s).bind fun _ s =>
    (isS L [91] s).bind fun b s => if b = true then (indexS f s).bind fun x s => .ok (exSub 4 t.text [x] t.line) s else
    (mayS L [46] s).bind fun b s => if b = true then (kindS L 1 s).bind fun u s => .ok (.mk 5 0 t.text u.text [] t.line) s else .ok (exVar t) s
end
def smOp (op : Int) : Sm := .mk op [] ex0 ex0 [] [] [] [] 0
def smAt (line : Int) : Sm → Sm
  | .mk op name to val conds labels fields blocks _ => .mk op name to val conds labels fields blocks line
mutual
def blockS : Nat → List Tx → PS → PM (List Sm)
  | 0, _, _ => .out
  | f + 1, ends, s => blockL f ends [] s
def blockL : Nat → List Tx → List Sm → PS → PM (List Sm)
  | 0, _, _, _ => .out
  | f + 1, ends, l, s => (anyS L ends s).bind fun b s => if b = true then .ok l s else (stmtS f s).bind fun x s => if l.length < 100000 then blockL f ends (l ++ [x]) s else .out
def stmtS : Nat → PS → PM Sm
  | 0, _ => .out
  | f + 1, s => (nowS L s).bind fun t s => (inS L s).bind fun _ s => (openS f s).bind fun x s => (mustS L [59] s).bind fun _ s => (outS s).bind fun _ s => .ok (smAt t.line x) s
def openS : Nat → PS → PM Sm
  | 0, _ => .out
  | f + 1, s =>
    (mayS L [73, 70] s).bind fun b s => if b = true then branchesS f s else
    (mayS L [67, 65, 83, 69] s).bind fun b s => if b = true then casesS f s else
    (mayS L [70, 79, 82] s).bind fun b s => if b = true then countedS f s else
    (mayS L [87, 72, 73, 76, 69] s).bind fun b s => if b = true then (exprS L f s).bind fun v s => (mustS L [68, 79] s).bind fun _ s => (blockS f [[69, 78, 68, 95, 87, 72, 73, 76, 69]] s).bind fun l s => (mustS L [69, 78, 68, 95, 87, 72, 73, 76, 69] s).bind fun _ s => .ok (.mk 5 [] ex0 v [] [] [] [l] 0) s else
    (mayS L [82, 69, 80, 69, 65, 84] s).bind fun b s => if b = true then (blockS f [[85, 78, 84, 73, 76]] s).bind fun l s => (mustS L [85, 78, 84, 73, 76] s).bind fun _ s => (exprS L f s).bind fun v s => (mustS L [69, 78, 68, 95, 82, 69, 80, 69, 65, 84] s).bind fun _ s => .ok (.mk 6 [] ex0 v [] [] [] [l] 0) s else
    (mayS L [69, 88, 73, 84] s).bind fun b s => if b = true then .ok (smOp 7) s else
    (mayS L [82, 69, 84, 85, 82, 78] s).bind fun b s => if b = true then .ok (smOp 8) s else
    (kindS L 1 s).bind fun nm s => (mayS L [40] s).bind fun b s => if b = true then callS f nm.text s else
    (isS L [91] s).bind fun b s => (if b = true then (indexS L f s).bind fun x s => .ok (exSub 4 nm.text [x] nm.line) s else .ok (exVar nm) s).bind fun to s =>
    (mustS L [58, 61] s).bind fun _ s => (exprS L f s).bind fun v s => .ok (.mk 1 [] to v [] [] [] [] 0) s
def branchesS : Nat → PS → PM Sm
  | 0, _ => .out
  | f + 1, s => branchesL f [] [] s
def branchesL : Nat → List Ex → List (List Sm) → PS → PM Sm
  | 0, _, _, _ => .out
  | f + 1, c, l, s => (exprS L f s).bind fun x s => (mustS L [84, 72, 69, 78] s).bind fun _ s => (blockS f [[69, 76, 83, 73, 70], [69, 76, 83, 69], [69, 78, 68, 95, 73, 70]] s).bind fun b s =>
    if c.length < 100000 ∧ l.length < 100000 then (mayS L [69, 76, 83, 73, 70] s).bind fun m s => if m = true then branchesL f (c ++ [x]) (l ++ [b]) s else
      (mayS L [69, 76, 83, 69] s).bind fun m s => (if m = true then (blockS f [[69, 78, 68, 95, 73, 70]] s).bind fun z s => .ok (l ++ [b] ++ [z]) s else .ok (l ++ [b]) s).bind fun l s => (mustS L [69, 78, 68, 95, 73, 70] s).bind fun _ s => .ok (.mk 2 [] ex0 ex0 (c ++ [x]) [] [] l 0) s
    else .out
def casesS : Nat → PS → PM Sm
  | 0, _ => .out
  | f + 1, s => (exprS L f s).bind fun v s => (mustS L [79, 70] s).bind fun _ s => casesL f v [] [] s
def casesL : Nat → Ex → List (List Int) → List (List Sm) → PS → PM Sm
  | 0, _, _, _, _ => .out
  | f + 1, v, c, l, s => (labelledS L s).bind fun b s =>
    if b = true then (labelsS L f [] s).bind fun x s => (caseL f [] s).bind fun b s => if c.length < 100000 ∧ l.length < 100000 then casesL f v (c ++ [x]) (l ++ [b]) s else .out
    else (mayS L [69, 76, 83, 69] s).bind fun m s => (if m = true then (blockS f [[69, 78, 68, 95, 67, 65, 83, 69]] s).bind fun z s => if l.length < 100000 then .ok (l ++ [z]) s else .out else .ok l s).bind fun l s => (mustS L [69, 78, 68, 95, 67, 65, 83, 69] s).bind fun _ s => .ok (.mk 3 [] ex0 v [] c [] l 0) s
def caseL : Nat → List Sm → PS → PM (List Sm)
  | 0, _, _ => .out
  | f + 1, l, s => (endCaseS L s).bind fun b s => if b = true then .ok l s else (stmtS f s).bind fun x s => if l.length < 100000 then caseL f (l ++ [x]) s else .out
def countedS : Nat → PS → PM Sm
  | 0, _ => .out
  | f + 1, s => (kindS L 1 s).bind fun nm s => (mustS L [58, 61] s).bind fun _ s => (exprS L f s).bind fun a s => (mustS L [84, 79] s).bind fun _ s => (exprS L f s).bind fun b s =>
    (nowS L s).bind fun t s => (mayS L [66, 89] s).bind fun m s => (if m = true then exprS L f s else .ok (.mk 1 1 [] [] [] t.line) s).bind fun c s =>
    (mustS L [68, 79] s).bind fun _ s => (blockS f [[69, 78, 68, 95, 70, 79, 82]] s).bind fun l s => (mustS L [69, 78, 68, 95, 70, 79, 82] s).bind fun _ s => .ok (.mk 4 nm.text ex0 ex0 [a, b, c] [] [] [l] 0) s
def callS : Nat → Tx → PS → PM Sm
  | 0, _, _ => .out
  | f + 1, nm, s => (mayS L [41] s).bind fun b s => if b = true then .ok (.mk 9 nm ex0 ex0 [] [] [] [] 0) s else callL f nm [] [] s
def callL : Nat → Tx → List Tx → List Ex → PS → PM Sm
  | 0, _, _, _, _ => .out
  | f + 1, nm, c, l, s => (kindS L 1 s).bind fun t s => (mustS L [58, 61] s).bind fun _ s => (exprS L f s).bind fun x s =>
    if c.length < 100000 ∧ l.length < 100000 then (mayS L [44] s).bind fun b s => if b = true then callL f nm (c ++ [t.text]) (l ++ [x]) s else (mustS L [41] s).bind fun _ s => .ok (.mk 9 nm ex0 ex0 (l ++ [x]) [] (c ++ [t.text]) [] 0) s
    else .out
end
def programS (kindN : Tx → Int) (f : Nat) (s : PS) : PM Pg :=
  (mustS L [80, 82, 79, 71, 82, 65, 77] s).bind fun _ s => (kindS L 1 s).bind fun nm s => (sectionsS L kindN f s).bind fun _ s => (blockS L f [[69, 78, 68, 95, 80, 82, 79, 71, 82, 65, 77]] s).bind fun l s =>
  (mustS L [69, 78, 68, 95, 80, 82, 79, 71, 82, 65, 77] s).bind fun _ s => (kindS L 0 s).bind fun _ s => .ok ⟨nm.text, s.vars, l⟩ s
end
end Go.Am
end
section
namespace Go.Am
@[simp] def sgnD (t : Sgn) : D := .agg [.int .i64 t.kind, .str t.text, .int .i64 t.n, .int .i64 t.line, .int .i64 t.col]
end Go.Am
end
section
namespace Go.Am
open Go Go.Proofs
variable [Inhabited Mx2]
set_option maxRecDepth 20000
def pB (L : List Sgn) (s : PS) : List AV := [.d (.list (L.map sgnD)), .d (.int .i64 s.at_), .d (.int .i64 s.deep), .vec 1 0 0 s.vars.length]
def pC (L : List Sgn) (s : PS) : List Cont := [.box (pB L s), .vec 8 (s.vars.map vrD)]
def pC2 (L : List Sgn) (s : PS) : List (Nat × Cont) := [(0, .box (pB L s)), (0, .vec 8 (s.vars.map vrD))]
def fD (e : Er) : D := .agg [.int .i64 e.e, .int .i64 0, .str [], .int .i64 0, .int .i64 e.line, .int .i64 e.col]
def badK (L : List Sgn) (e : Er) (s : PS) : Ans := some (.panic 67 (fD e), pC2 L s)
section
variable {L : List Sgn} {s : PS}
theorem now_run : callT ctx 79 [.ptr 0 0 0] (pC L s) = (nowS L s).el (fun t s => some (.ret (.d (sgnD t)), pC2 L s)) (badK L) := by
  rw [run79 (by simp [pC])]
  by_cases h : s.at_ < L.length
  · simp [Tryd.f79, drwK_end, pC, pC2, pB, nowS, h, sgnD]
  · simp [Tryd.f79, drwK_end, pC, pC2, pB, nowS, h, sgnD]
@[simp] theorem tx_beq (a b : Tx) : (a == b) = decide (a = b) := by by_cases h : a = b <;> simp [h]
theorem badKB : badK L = fun e s => some (.panic 67 (fD e), [(0, .box [.d (.list (L.map sgnD)), .d (.int .i64 s.at_), .d (.int .i64 s.deep), .vec 1 0 0 s.vars.length]), (0, .vec 8 (s.vars.map vrD))]) := rfl
theorem pCB : pC L s = [.box [.d (.list (L.map sgnD)), .d (.int .i64 s.at_), .d (.int .i64 s.deep), .vec 1 0 0 s.vars.length], .vec 8 (s.vars.map vrD)] := rfl
theorem pC2B : pC2 L s = [(0, .box [.d (.list (L.map sgnD)), .d (.int .i64 s.at_), .d (.int .i64 s.deep), .vec 1 0 0 s.vars.length]), (0, .vec 8 (s.vars.map vrD))] := rfl
theorem now_r : callT ctx 79 [.ptr 0 0 0] [.box [.d (.list (L.map sgnD)), .d (.int .i64 s.at_), .d (.int .i64 s.deep), .vec 1 0 0 s.vars.length], .vec 8 (s.vars.map vrD)] = (nowS L s).el (fun t s => some (.ret (.d (sgnD t)), pC2 L s)) (badK L) := now_run
theorem fail_run (e : Int) (t : Sgn) : callT ctx 78 [.d (.int .i64 e), .d (sgnD t)] [] = some (.panic 67 (fD ⟨e, t.line, t.col⟩), []) := by
  rw [run78 (by simp)]
  simp [Tryd.f78, fD]
theorem fail_r (e k n l c : Int) (x : Tx) : callT ctx 78 [.d (.int .i64 e), .d (.agg [.int .i64 k, .str x, .int .i64 n, .int .i64 l, .int .i64 c])] [] = some (.panic 67 (fD ⟨e, l, c⟩), []) := fail_run e ⟨k, x, n, l, c⟩
@[simp] theorem ite_f {β : Type} {b : Bool} {x y : β} : (if b = false then x else y) = if b = true then y else x := by cases b <;> rfl
theorem is_run (w : Tx) : callT ctx 83 [.ptr 0 0 0, .d (.str w)] (pC L s) = (isS L w s).el (fun b s => some (.ret (.d (.bool b)), pC2 L s)) (badK L) := by
  rw [run83 (by simp [pC])]
  simp [Tryd.f83, pCB, now_r, isS, isW, pC2B, badKB]
theorem take_run (hL : L.length < 1000000) : callT ctx 80 [.ptr 0 0 0] (pC L s) = (takeS L s).el (fun t s => some (.ret (.d (sgnD t)), pC2 L s)) (badK L) := by
  by_cases h : s.at_ < L.length
  · have w1 : IntKind.i64.wrap ((s.at_ : Int) + 1) = (s.at_ : Int) + 1 := wrap_id (by unfold I64; omega)
    rw [run80 (by simp [pC])]
    by_cases hk : L[s.at_].kind = 0
    · simp [Tryd.f80, pCB, now_r, takeS, nowS, pC2B, badKB, h, hk, w1]
    · simp [Tryd.f80, pCB, now_r, takeS, nowS, pC2B, badKB, h, hk, w1]
  · rw [run80 (by simp [pC])]
    simp [Tryd.f80, pCB, now_r, takeS, nowS, pC2B, badKB, h]
end
section
variable {L : List Sgn} {s : PS} (hL : L.length < 1000000)
theorem is_r (w : Tx) : callT ctx 83 [.ptr 0 0 0, .d (.str w)] [.box [.d (.list (L.map sgnD)), .d (.int .i64 s.at_), .d (.int .i64 s.deep), .vec 1 0 0 s.vars.length], .vec 8 (s.vars.map vrD)] = (isS L w s).el (fun b s => some (.ret (.d (.bool b)), pC2 L s)) (badK L) := is_run w
include hL
theorem take_r : callT ctx 80 [.ptr 0 0 0] [.box [.d (.list (L.map sgnD)), .d (.int .i64 s.at_), .d (.int .i64 s.deep), .vec 1 0 0 s.vars.length], .vec 8 (s.vars.map vrD)] = (takeS L s).el (fun t s => some (.ret (.d (sgnD t)), pC2 L s)) (badK L) := take_run hL
theorem may_r (w : Tx) : callT ctx 77 [.ptr 0 0 0, .d (.str w)] [.box [.d (.list (L.map sgnD)), .d (.int .i64 s.at_), .d (.int .i64 s.deep), .vec 1 0 0 s.vars.length], .vec 8 (s.vars.map vrD)] = (mayS L w s).el (fun b s => some (.ret (.d (.bool b)), pC2 L s)) (badK L) := by
  rw [run77 (by simp)]
  simp [Tryd.f77, is_r, take_r hL, mayS, pC2B, badKB]
theorem must_r (w : Tx) : callT ctx 49 [.ptr 0 0 0, .d (.str w)] [.box [.d (.list (L.map sgnD)), .d (.int .i64 s.at_), .d (.int .i64 s.deep), .vec 1 0 0 s.vars.length], .vec 8 (s.vars.map vrD)] = (mustS L w s).el (fun _ s => some (.ret (.tup []), pC2 L s)) (badK L) := by
  rw [run49 (by simp)]
  simp [Tryd.f49, may_r hL, now_r, fail_r, failS, mustS, pC2B, badKB]
theorem kind_r (k : Int) : callT ctx 50 [.ptr 0 0 0, .d (.int .i64 k)] [.box [.d (.list (L.map sgnD)), .d (.int .i64 s.at_), .d (.int .i64 s.deep), .vec 1 0 0 s.vars.length], .vec 8 (s.vars.map vrD)] = (kindS L k s).el (fun t s => some (.ret (.d (sgnD t)), pC2 L s)) (badK L) := by
  rw [run50 (by simp)]
  simp [Tryd.f50, take_r hL, now_r, fail_r, failS, kindS, pC2B, badKB]
theorem in_r : callT ctx 116 [.ptr 0 0 0] [.box [.d (.list (L.map sgnD)), .d (.int .i64 s.at_), .d (.int .i64 s.deep), .vec 1 0 0 s.vars.length], .vec 8 (s.vars.map vrD)] = (inS L s).el (fun _ s => some (.ret (.tup []), pC2 L s)) (badK L) := by
  have h := now_r (L := L) (s := { s with deep := wr (s.deep + 1) })
  simp only at h
  rw [run116 (by simp)]
  simp [Tryd.f116, h, fail_r, failS, inS, pC2B, badKB]
theorem out_r : callT ctx 118 [.ptr 0 0 0] [.box [.d (.list (L.map sgnD)), .d (.int .i64 s.at_), .d (.int .i64 s.deep), .vec 1 0 0 s.vars.length], .vec 8 (s.vars.map vrD)] = (outS s).el (fun _ s => some (.ret (.tup []), pC2 L s)) (badK L) := by
  rw [run118 (by simp)]
  simp [Tryd.f118, outS, pC2B, badKB]
theorem plain_r : callT ctx 141 [.ptr 0 0 0] [.box [.d (.list (L.map sgnD)), .d (.int .i64 s.at_), .d (.int .i64 s.deep), .vec 1 0 0 s.vars.length], .vec 8 (s.vars.map vrD)] = (plainS L s).el (fun p s => some (.ret (.tup [.d (.int .i64 p.1), .d (.bool p.2)]), pC2 L s)) (badK L) := by
  rw [run141 (by simp)]
  simp [Tryd.f141, may_r hL, plainS, pC2B, badKB]
theorem signed_r : callT ctx 144 [.ptr 0 0 0] [.box [.d (.list (L.map sgnD)), .d (.int .i64 s.at_), .d (.int .i64 s.deep), .vec 1 0 0 s.vars.length], .vec 8 (s.vars.map vrD)] = (signedS L s).el (fun n s => some (.ret (.d (.int .i64 n)), pC2 L s)) (badK L) := by
  rw [run144 (by simp)]
  simp [Tryd.f144, may_r hL, kind_r hL, signedS, pC2B, badKB]
theorem value_r : callT ctx 114 [.ptr 0 0 0] [.box [.d (.list (L.map sgnD)), .d (.int .i64 s.at_), .d (.int .i64 s.deep), .vec 1 0 0 s.vars.length], .vec 8 (s.vars.map vrD)] = (valueS L s).el (fun p s => some (.ret (.tup [.d (.int .i64 p.1), .d (.bool p.2)]), pC2 L s)) (badK L) := by
  rw [run114 (by simp)]
  simp [Tryd.f114, may_r hL, signed_r hL, valueS, pC2B, badKB]
theorem labelled_r : callT ctx 162 [.ptr 0 0 0] [.box [.d (.list (L.map sgnD)), .d (.int .i64 s.at_), .d (.int .i64 s.deep), .vec 1 0 0 s.vars.length], .vec 8 (s.vars.map vrD)] = (labelledS L s).el (fun b s => some (.ret (.d (.bool b)), pC2 L s)) (badK L) := by
  rw [run162 (by simp)]
  simp [Tryd.f162, now_r, is_r, labelledS, pC2B, badKB]
end
end Go.Am
end
section
namespace Go.Am
open Go Go.Proofs
variable [Inhabited Mx2]
set_option maxRecDepth 20000
/-- A block's sheet: its kind, its name, its inputs, its outputs, how many inner cells. -/
structure Sh where
  k : Int
  name : Tx
  ins : Tx
  outs : Tx
  n : Int
def shT : List Sh := [
  ⟨10, [84, 79, 78], [73, 78, 32, 80, 84, 35], [81, 32, 69, 84, 35], 0⟩,
  ⟨11, [84, 79, 70], [73, 78, 32, 80, 84, 35], [81, 32, 69, 84, 35], 0⟩,
  ⟨12, [84, 80], [73, 78, 32, 80, 84, 35], [81, 32, 69, 84, 35], 2⟩,
  ⟨13, [67, 84, 85], [67, 85, 32, 82, 32, 80, 86, 35], [81, 32, 67, 86, 35], 1⟩,
  ⟨14, [67, 84, 68], [67, 68, 32, 76, 68, 32, 80, 86, 35], [81, 32, 67, 86, 35], 1⟩,
  ⟨15, [82, 95, 84, 82, 73, 71], [67, 76, 75], [81], 1⟩,
  ⟨16, [70, 95, 84, 82, 73, 71], [67, 76, 75], [81], 1⟩,
  ⟨17, [83, 82], [83, 49, 32, 82], [81, 49], 0⟩,
  ⟨18, [82, 83], [83, 32, 82, 49], [81, 49], 0⟩,
  ⟨20, [77, 67, 95, 80, 111, 119, 101, 114], [65, 120, 105, 115, 35, 32, 69, 110, 97, 98, 108, 101], [83, 116, 97, 116, 117, 115, 32, 69, 114, 114, 111, 114], 0⟩,
  ⟨21, [77, 67, 95, 72, 111, 109, 101], [65, 120, 105, 115, 35, 32, 69, 120, 101, 99, 117, 116, 101], [68, 111, 110, 101, 32, 66, 117, 115, 121, 32, 65, 99, 116, 105, 118, 101, 32, 67, 111, 109, 109, 97, 110, 100, 65, 98, 111, 114, 116, 101, 100, 32, 69, 114, 114, 111, 114], 2⟩,
  ⟨22, [77, 67, 95, 83, 116, 111, 112], [65, 120, 105, 115, 35, 32, 69, 120, 101, 99, 117, 116, 101], [68, 111, 110, 101, 32, 66, 117, 115, 121, 32, 65, 99, 116, 105, 118, 101, 32, 67, 111, 109, 109, 97, 110, 100, 65, 98, 111, 114, 116, 101, 100, 32, 69, 114, 114, 111, 114], 2⟩,
  ⟨23, [77, 67, 95, 72, 97, 108, 116], [65, 120, 105, 115, 35, 32, 69, 120, 101, 99, 117, 116, 101], [68, 111, 110, 101, 32, 66, 117, 115, 121, 32, 65, 99, 116, 105, 118, 101, 32, 67, 111, 109, 109, 97, 110, 100, 65, 98, 111, 114, 116, 101, 100, 32, 69, 114, 114, 111, 114], 2⟩,
  ⟨24, [77, 67, 95, 77, 111, 118, 101, 65, 98, 115, 111, 108, 117, 116, 101], [65, 120, 105, 115, 35, 32, 69, 120, 101, 99, 117, 116, 101, 32, 80, 111, 115, 105, 116, 105, 111, 110, 35, 32, 86, 101, 108, 111, 99, 105, 116, 121, 35, 32, 66, 117, 102, 102, 101, 114, 77, 111, 100, 101, 35], [68, 111, 110, 101, 32, 66, 117, 115, 121, 32, 65, 99, 116, 105, 118, 101, 32, 67, 111, 109, 109, 97, 110, 100, 65, 98, 111, 114, 116, 101, 100, 32, 69, 114, 114, 111, 114], 2⟩,
  ⟨25, [77, 67, 95, 77, 111, 118, 101, 82, 101, 108, 97, 116, 105, 118, 101], [65, 120, 105, 115, 35, 32, 69, 120, 101, 99, 117, 116, 101, 32, 68, 105, 115, 116, 97, 110, 99, 101, 35, 32, 86, 101, 108, 111, 99, 105, 116, 121, 35, 32, 66, 117, 102, 102, 101, 114, 77, 111, 100, 101, 35], [68, 111, 110, 101, 32, 66, 117, 115, 121, 32, 65, 99, 116, 105, 118, 101, 32, 67, 111, 109, 109, 97, 110, 100, 65, 98, 111, 114, 116, 101, 100, 32, 69, 114, 114, 111, 114], 2⟩,
  ⟨26, [77, 67, 95, 77, 111, 118, 101, 65, 100, 100, 105, 116, 105, 118, 101], [65, 120, 105, 115, 35, 32, 69, 120, 101, 99, 117, 116, 101, 32, 68, 105, 115, 116, 97, 110, 99, 101, 35, 32, 86, 101, 108, 111, 99, 105, 116, 121, 35, 32, 66, 117, 102, 102, 101, 114, 77, 111, 100, 101, 35], [68, 111, 110, 101, 32, 66, 117, 115, 121, 32, 65, 99, 116, 105, 118, 101, 32, 67, 111, 109, 109, 97, 110, 100, 65, 98, 111, 114, 116, 101, 100, 32, 69, 114, 114, 111, 114], 2⟩,
  ⟨27, [77, 67, 95, 77, 111, 118, 101, 86, 101, 108, 111, 99, 105, 116, 121], [65, 120, 105, 115, 35, 32, 69, 120, 101, 99, 117, 116, 101, 32, 86, 101, 108, 111, 99, 105, 116, 121, 35], [73, 110, 86, 101, 108, 111, 99, 105, 116, 121, 32, 66, 117, 115, 121, 32, 65, 99, 116, 105, 118, 101, 32, 67, 111, 109, 109, 97, 110, 100, 65, 98, 111, 114, 116, 101, 100, 32, 69, 114, 114, 111, 114], 2⟩,
  ⟨28, [77, 67, 95, 71, 101, 97, 114, 73, 110], [65, 120, 105, 115, 35, 32, 69, 120, 101, 99, 117, 116, 101, 32, 77, 97, 115, 116, 101, 114, 35, 32, 78, 117, 109, 101, 114, 97, 116, 111, 114, 35, 32, 68, 101, 110, 111, 109, 105, 110, 97, 116, 111, 114, 35], [73, 110, 71, 101, 97, 114, 32, 66, 117, 115, 121, 32, 65, 99, 116, 105, 118, 101, 32, 67, 111, 109, 109, 97, 110, 100, 65, 98, 111, 114, 116, 101, 100, 32, 69, 114, 114, 111, 114], 2⟩,
  ⟨29, [77, 67, 95, 82, 101, 115, 101, 116], [65, 120, 105, 115, 35, 32, 69, 120, 101, 99, 117, 116, 101], [68, 111, 110, 101, 32, 69, 114, 114, 111, 114], 1⟩,
  ⟨30, [77, 67, 95, 83, 101, 116, 80, 111, 115, 105, 116, 105, 111, 110], [65, 120, 105, 115, 35, 32, 69, 120, 101, 99, 117, 116, 101, 32, 80, 111, 115, 105, 116, 105, 111, 110, 35], [68, 111, 110, 101, 32, 69, 114, 114, 111, 114], 1⟩,
  ⟨31, [77, 67, 95, 83, 101, 116, 79, 118, 101, 114, 114, 105, 100, 101], [65, 120, 105, 115, 35, 32, 69, 110, 97, 98, 108, 101, 32, 80, 101, 114, 99, 101, 110, 116, 35], [69, 110, 97, 98, 108, 101, 100], 0⟩]
@[simp] def shD (x : Sh) : D := .agg [.int .i64 x.k, .str x.name, .str x.ins, .str x.outs, .int .i64 x.n]
def idxK (w : Tx) : List Sh → Nat → Int
  | [], _ => -1
  | x :: r, i => if x.name = w then i else idxK w r (i + 1)
theorem idxK_range (w : Tx) : ∀ (l : List Sh) (i : Nat), idxK w l i = -1 ∨ (i ≤ idxK w l i ∧ idxK w l i < i + l.length)
  | [], i => .inl rfl
  | x :: r, i => by
    unfold idxK
    split
    · right; simp; omega
    · rcases idxK_range w r (i + 1) with h | h
      · exact .inl h
      · right; simp only [List.length_cons]; omega
/-- A block's kind by its name; 0: there is none. -/
def kindN (w : Tx) : Int := if idxK w shT 0 < 0 then 0 else (shT.getD (idxK w shT 0).toNat ⟨0, [], [], [], 0⟩).k
theorem sheets_r : callT ctx 159 [] [] = some (.ret (.d (.list (shT.map shD))), []) := callT_of 120 (by kernel_rfl)
theorem kind1_r (x : Sh) (w : Tx) : callT ctx 161 [.d (shD x), .ptr 0 0 0] [.box [.d (.str w)]] = some (.ret (.d (.bool (decide (x.name = w)))), [(0, .box [.d (.str w)])]) := by
  rw [run161 (by simp)]
  simp [Tryd.f161]
theorem kindIdx_loop (w : Tx) : ∀ (rest pre : List Sh), (pre ++ rest).length < 1000 → ∀ k : Kt,
    denK ctx 160 (.loop (Code.at (codeOf Tryd.f160) [1, 0, 1, 0, 0])) ⟨19, gl0, [(0, true, .d (.list ((pre ++ rest).map shD))), (1, true, .fn 161 [.ptr 0 0 0]), (7, true, .d (.int .i64 (pre ++ rest).length)), (8, true, .d (.int .i64 pre.length))], [⟨0, 0, .box [.d (.str w)]⟩]⟩ k =
      if idxK w rest pre.length < 0 then k (.exit 0) ⟨19, gl0, [(0, true, .d (.list ((pre ++ rest).map shD))), (1, true, .fn 161 [.ptr 0 0 0]), (7, true, .d (.int .i64 (pre ++ rest).length)), (8, true, .d (.int .i64 (pre ++ rest).length)), (9, true, .d (.bool false))], [⟨0, 0, .box [.d (.str w)]⟩]⟩
      else k .ret ⟨19, gl0, [(4, true, .d (.int .i64 (idxK w rest pre.length)))], [⟨0, 0, .box [.d (.str w)]⟩]⟩
  | [], pre, hl, k => by
    rw [denK_loop]
    simp [Tryd.f160, idxK]
  | x :: rest, pre, hl, k => by
    have hs := kind1_r x w
    have ih := kindIdx_loop w rest (pre ++ [x]) (by simpa using hl) k
    have h1 : (pre.length : Int) < pre.length + (rest.length + 1) := by omega
    have h2 : IntKind.i64.wrap ((pre.length : Int) + 1) = pre.length + 1 := wrap_id (by unfold I64; simp at hl; omega)
    have h3 : ¬ ((pre.length : Int) < 0) := by omega
    simp at hs
    rw [denK_loop]
    unfold idxK
    by_cases he : x.name = w
    · simp [he] at hs
      simp [Tryd.f160, h1, h2, h3, hs, he]
    · simp [he] at hs
      simp [Tryd.f160] at ih ⊢
      simp [h1, h2, hs, he, ih]
theorem std_kind_r (w : Tx) : callT ctx 143 [.d (.str w)] [] = some (.ret (.d (.int .i64 (kindN w))), []) := by
  have hl := kindIdx_loop w shT [] (by decide)
  have hi : callT ctx 160 [.d (.list (shT.map shD)), .fn 161 [.ptr 0 0 0]] [.box [.d (.str w)]] = some (.ret (.d (.int .i64 (idxK w shT 0))), [(0, .box [.d (.str w)])]) := by
    rw [run160 (by simp)]
    simp [Tryd.f160] at hl ⊢
    simp [hl]
    intro h
    rcases idxK_range w shT 0 with h1 | h1
    · exact h1.symm
    · omega
  have hr := idxK_range w shT 0
  have hlen : shT.length = 21 := rfl
  have hsh := sheets_r
  unfold kindN
  generalize idxK w shT 0 = j at *
  have hget : ∀ (h : j.toNat < shT.length), shT.getD j.toNat ⟨0, [], [], [], 0⟩ = shT[j.toNat] := fun h => by simp [h]
  generalize shT = T at *
  rw [run143 (by simp)]
  by_cases h : j < 0
  · simp [Tryd.f143, hsh, hi, h]
  · have h0 : 0 ≤ j := by omega
    have h1 : j.toNat < T.length := by omega
    simp [hget h1]
    simp [Tryd.f143, hsh, hi, h, h0, h1]
end Go.Am
end
section
namespace Go.Am
open Go Go.Proofs
variable [Inhabited Mx2]
set_option maxRecDepth 20000
section
variable {L : List Sgn} {s : PS}
def idxS (L : List Sgn) : List Tx → Nat → PS → PM Int
  | [], _, s => .ok (-1) s
  | w :: r, i, s => (isS L w s).bind fun b s => if b = true then .ok (i : Int) s else idxS L r (i + 1) s
theorem isS_same {w : Tx} {b : Bool} {s' : PS} (h : isS L w s = .ok b s') : s' = s := by
  unfold isS nowS at h
  cases hl : L[s.at_]? with
  | none => rw [hl] at h; cases h
  | some t => rw [hl] at h; cases h; rfl
theorem any_idx {β : Type} (f : Bool → PS → Option β) (g : Er → PS → Option β) : ∀ (ws : List Tx) (i : Nat) (s : PS), (idxS L ws i s).el (fun n s => f (decide (0 ≤ n)) s) g = (anyS L ws s).el f g
  | [], i, s => by simp [idxS, anyS]
  | w :: r, i, s => by
    unfold idxS anyS
    cases h : isS L w s with
    | out => rfl
    | bad e s => rfl
    | ok b s' =>
      simp only [PR.bind]
      cases b with
      | true => simp
      | false => simpa using any_idx f g r (i + 1) s'
def pM (L : List Sgn) (s : PS) : List Ent := [⟨0, 0, .box [.d (.list (L.map sgnD)), .d (.int .i64 s.at_), .d (.int .i64 s.deep), .vec 1 0 0 s.vars.length]⟩, ⟨1, 0, .vec 8 (s.vars.map vrD)⟩]
theorem idx_loop : ∀ (rest pre : List Tx) (s : PS), (pre ++ rest).length < 1000000 → ∀ k : Kt, (hp : ∀ env e s, k (.panic 67 (fD e)) ⟨19, gl0, env, pM L s⟩ = badK L e s) →
    denK ctx 115 (.loop (Code.at (codeOf Tryd.f115) [1, 0, 1, 0, 0])) ⟨19, gl0, [(0, true, .d (.list ((pre ++ rest).map .str))), (1, true, .fn (83 + 1000000) [.ptr 0 0 0]), (7, true, .d (.int .i64 (pre ++ rest).length)), (8, true, .d (.int .i64 pre.length))], pM L s⟩ k =
      (idxS L rest pre.length s).el (fun n s => if n = -1 then k (.exit 0) ⟨19, gl0, [(0, true, .d (.list ((pre ++ rest).map .str))), (1, true, .fn (83 + 1000000) [.ptr 0 0 0]), (7, true, .d (.int .i64 (pre ++ rest).length)), (8, true, .d (.int .i64 (pre ++ rest).length)), (9, true, .d (.bool false))], pM L s⟩
        else k .ret ⟨19, gl0, [(4, true, .d (.int .i64 n))], pM L s⟩) (badK L)
  | [], pre, s, hl, k, hp => by
    rw [denK_loop]
    simp [Tryd.f115, idxS, pM]
  | w :: rest, pre, s, hl, k, hp => by
    have ih := fun s => idx_loop rest (pre ++ [w]) s (by simpa using hl) k hp
    have h1 : (pre.length : Int) < pre.length + (rest.length + 1) := by omega
    have h2 : IntKind.i64.wrap ((pre.length : Int) + 1) = pre.length + 1 := wrap_id (by unfold I64; simp at hl; omega)
    have h3 : ¬ ((pre.length : Int) = -1) := by omega
    rw [denK_loop]
    unfold idxS
    simp [Tryd.f115, pM, badKB] at ih hp ⊢
    simp [h1, h2, h3, is_r, pC2B, badKB, hp, ih]
theorem idxF_r (ws : List Tx) (hl : ws.length < 1000000) : callT ctx 115 [.d (.list (ws.map .str)), .fn (83 + 1000000) [.ptr 0 0 0]] [.box [.d (.list (L.map sgnD)), .d (.int .i64 s.at_), .d (.int .i64 s.deep), .vec 1 0 0 s.vars.length], .vec 8 (s.vars.map vrD)] = (idxS L ws 0 s).el (fun n s => some (.ret (.d (.int .i64 n)), pC2 L s)) (badK L) := by
  have h := fun k hp => idx_loop (L := L) ws [] s (by simpa using hl) k hp
  rw [run115 (by simp)]
  simp [Tryd.f115, pM, badKB, pC2B] at h ⊢
  rw [h]
  · simp
    congr 1
    funext n s
    split <;> simp_all
  · intro env e s; simp
theorem contains_r (ws : List Tx) (hl : ws.length < 1000000) : callT ctx 82 [.d (.list (ws.map .str)), .fn (83 + 1000000) [.ptr 0 0 0]] [.box [.d (.list (L.map sgnD)), .d (.int .i64 s.at_), .d (.int .i64 s.deep), .vec 1 0 0 s.vars.length], .vec 8 (s.vars.map vrD)] = (anyS L ws s).el (fun b s => some (.ret (.d (.bool b)), pC2 L s)) (badK L) := by
  have h := idxF_r (L := L) (s := s) ws hl
  rw [← any_idx _ _ ws 0 s]
  rw [run82 (by simp)]
  simp at h
  simp [Tryd.f82, h, pC2B, badKB]
end
theorem idxW_loop (w : Tx) : ∀ (rest pre : List Tx), (pre ++ rest).length < 1000 → ∀ k : Kt,
    denK ctx 139 (.loop (Code.at (codeOf Tryd.f139) [1, 0, 1, 0, 0])) ⟨19, gl0, [(0, true, .d (.list ((pre ++ rest).map .str))), (1, true, .d (.str w)), (7, true, .d (.int .i64 (pre ++ rest).length)), (8, true, .d (.int .i64 pre.length))], []⟩ k =
      if idxT w rest pre.length < 0 then k (.exit 0) ⟨19, gl0, [(0, true, .d (.list ((pre ++ rest).map .str))), (1, true, .d (.str w)), (7, true, .d (.int .i64 (pre ++ rest).length)), (8, true, .d (.int .i64 (pre ++ rest).length)), (9, true, .d (.bool false))], []⟩
      else k .ret ⟨19, gl0, [(4, true, .d (.int .i64 (idxT w rest pre.length)))], []⟩
  | [], pre, hl, k => by
    rw [denK_loop]
    simp [Tryd.f139, idxT]
  | x :: rest, pre, hl, k => by
    have ih := idxW_loop w rest (pre ++ [x]) (by simpa using hl) k
    have h1 : (pre.length : Int) < pre.length + (rest.length + 1) := by omega
    have h2 : IntKind.i64.wrap ((pre.length : Int) + 1) = pre.length + 1 := wrap_id (by unfold I64; simp at hl; omega)
    have h3 : ¬ ((pre.length : Int) < 0) := by omega
    rw [denK_loop]
    unfold idxT
    by_cases he : w = x
    · simp [Tryd.f139, h1, h2, h3, he]
    · simp [Tryd.f139] at ih ⊢
      simp [h1, h2, he, ih]
theorem idxT_range (w : Tx) : ∀ (l : List Tx) (i : Nat), idxT w l i = -1 ∨ (i ≤ idxT w l i ∧ idxT w l i < i + l.length)
  | [], i => .inl rfl
  | x :: r, i => by
    unfold idxT
    split
    · right; simp; omega
    · rcases idxT_range w r (i + 1) with h | h
      · exact .inl h
      · right; simp only [List.length_cons]; omega
theorem index_r (w : Tx) (l : List Tx) (hl : l.length < 1000) : callT ctx 139 [.d (.list (l.map .str)), .d (.str w)] [] = some (.ret (.d (.int .i64 (idxT w l 0))), []) := by
  have h := idxW_loop w l [] (by simpa using hl)
  have hr := idxT_range w l 0
  rw [run139 (by simp)]
  simp [Tryd.f139] at h ⊢
  simp [h]
  intro h
  omega
theorem operator_r (w : Tx) : callT ctx 176 [.d (.str w)] [] = some (.ret (.d (.int .i64 (opI w))), []) := by
  have h := index_r w opT (by decide)
  have hr := idxT_range w opT 0
  have hlen : opT.length = 14 := rfl
  have w1 : IntKind.i64.wrap (8 + idxT w opT 0) = 8 + idxT w opT 0 := wrap_id (by unfold I64; omega)
  rw [run176 (by simp)]
  unfold opI
  generalize hj : idxT w opT 0 = j at *
  simp only [opT, List.map_cons, List.map_nil] at h
  have h14 : List.range' 0 14 = [0, 1, 2, 3, 4, 5, 6, 7, 8, 9, 10, 11, 12, 13] := rfl
  simp [Tryd.f176, h14, h, w1]
theorem levels_r : callT ctx 174 [] [] = some (.ret (.d (.list (lvT.map fun l => .list (l.map .str)))), []) := callT_of 40 (by kernel_rfl)
section
variable {L : List Sgn} {s : PS} (hL : L.length < 1000000)
include hL
def kdD (k : Kd) : D := .agg [.int .i64 k.at_.kind, .str k.at_.text, .int .i64 k.at_.n, .int .i64 k.at_.line, .int .i64 k.at_.col, .int .i64 k.kind, .bool k.arr, .int .i64 k.lo, .int .i64 k.hi]
theorem array_r (t : Sgn) : callT ctx 142 [.ptr 0 0 0, .d (.agg [.int .i64 t.kind, .str t.text, .int .i64 t.n, .int .i64 t.line, .int .i64 t.col, .int .i64 0, .bool false, .int .i64 0, .int .i64 0])] [.box [.d (.list (L.map sgnD)), .d (.int .i64 s.at_), .d (.int .i64 s.deep), .vec 1 0 0 s.vars.length], .vec 8 (s.vars.map vrD)] = (arrayS L ⟨t, 0, false, 0, 0⟩ s).el (fun k s => some (.ret (.d (kdD k)), pC2 L s)) (badK L) := by
  rw [run142 (by simp)]
  simp [Tryd.f142, drwK_end, must_r hL, kind_r hL, plain_r hL, now_r, fail_r, failS, arrayS, kdD, pC2B, badKB]
theorem typed_r : callT ctx 113 [.ptr 0 0 0] [.box [.d (.list (L.map sgnD)), .d (.int .i64 s.at_), .d (.int .i64 s.deep), .vec 1 0 0 s.vars.length], .vec 8 (s.vars.map vrD)] = (typedS L kindN s).el (fun k s => some (.ret (.d (kdD k)), pC2 L s)) (badK L) := by
  have ha := fun s t => array_r (L := L) (s := s) hL t
  rw [run113 (by simp)]
  simp [Tryd.f113, drwK_end, may_r hL, kind_r hL, plain_r hL, now_r, std_kind_r, ha, fail_r, failS, typedS, kdD, pC2B, badKB]
end
end Go.Am
end
section
namespace Go.Am
open Go Go.Proofs
variable [Inhabited Mx2]
set_option maxRecDepth 20000
section
variable {L : List Sgn}
theorem vars_loop (kd : Kd) (sec init : Int) (s : PS) (v5 : Nat) (c5 : Cont) : ∀ (rest pre : List Sgn) (v v1 v6 : Nat) (c6 : Cont), s.vars.length + (pre ++ rest).length ≤ 64 → ∀ (k : Kt) (R : Ans)
    (hx : ∀ v1 v6 c6, k (.exit 2) ⟨94, gl0, [(0, true, .ptr 0 0 0), (1, true, .d (.int .i64 sec)), (6, true, .ptr 400 1 0), (7, true, .d (.int .i64 init)), (63, true, .vec 300 v 0 (pre ++ rest).length), (64, true, .d (.int .i64 (pre ++ rest).length)), (65, true, .d (.int .i64 (pre ++ rest).length)), (66, true, .d (.bool false))],
      [⟨0, 0, .box [.d (.list (L.map sgnD)), .d (.int .i64 s.at_), .d (.int .i64 s.deep), .vec 1 v1 0 (s.vars ++ (pre ++ rest).map (vrOf kd sec init)).length]⟩, ⟨1, v1, .vec 8 ((s.vars ++ (pre ++ rest).map (vrOf kd sec init)).map vrD)⟩, ⟨300, v, .vec 5 ((pre ++ rest).map sgnD)⟩, ⟨350, v5, c5⟩, ⟨400, 1, .box [.d (.int .i64 kd.at_.kind), .d (.str kd.at_.text), .d (.int .i64 kd.at_.n), .d (.int .i64 kd.at_.line), .d (.int .i64 kd.at_.col), .d (.int .i64 kd.kind), .d (.bool kd.arr), .d (.int .i64 kd.lo), .d (.int .i64 kd.hi)]⟩, ⟨650, v6, c6⟩]⟩ = R),
    denK ctx 81 (.loop (Code.at (codeOf Tryd.f81) [1, 1, 1, 1, 1, 1, 1, 1, 0, 0])) ⟨94, gl0, [(0, true, .ptr 0 0 0), (1, true, .d (.int .i64 sec)), (6, true, .ptr 400 1 0), (7, true, .d (.int .i64 init)), (63, true, .vec 300 v 0 (pre ++ rest).length), (64, true, .d (.int .i64 (pre ++ rest).length)), (65, true, .d (.int .i64 pre.length))],
      [⟨0, 0, .box [.d (.list (L.map sgnD)), .d (.int .i64 s.at_), .d (.int .i64 s.deep), .vec 1 v1 0 (s.vars ++ pre.map (vrOf kd sec init)).length]⟩, ⟨1, v1, .vec 8 ((s.vars ++ pre.map (vrOf kd sec init)).map vrD)⟩, ⟨300, v, .vec 5 ((pre ++ rest).map sgnD)⟩, ⟨350, v5, c5⟩, ⟨400, 1, .box [.d (.int .i64 kd.at_.kind), .d (.str kd.at_.text), .d (.int .i64 kd.at_.n), .d (.int .i64 kd.at_.line), .d (.int .i64 kd.at_.col), .d (.int .i64 kd.kind), .d (.bool kd.arr), .d (.int .i64 kd.lo), .d (.int .i64 kd.hi)]⟩, ⟨650, v6, c6⟩]⟩ k = R
  | [], pre, v, v1, v6, c6, hl, k, R, hx => by
    simp at hx
    rw [denK_loop]
    simp [Tryd.f81, hx]
  | t :: rest, pre, v, v1, v6, c6, hl, k, R, hx => by
    have ih := fun v1 v6 c6 => vars_loop kd sec init s v5 c5 rest (pre ++ [t]) v v1 v6 c6 (by simpa using hl) k R (fun v1 v6 c6 => by have := hx v1 v6 c6; simp at this; simpa using this)
    have h1 : (pre.length : Int) < pre.length + (rest.length + 1) := by omega
    have h2 : IntKind.i64.wrap ((pre.length : Int) + 1) = pre.length + 1 := wrap_id (by unfold I64; simp at hl; omega)
    have h3 : (s.vars.length + pre.length + 1) * 72 ≤ 140737488355328 ∧ s.vars.length + pre.length + 1 ≤ 4611686018427387904 := by simp at hl; omega
    rw [denK_loop]
    simp [Tryd.f81, vrD, vrC, vrOf, Nat.add_assoc] at ih h3 ⊢
    simp [h1, h2, h3, drwK_end, ih, Nat.add_assoc]
/-- The memory of a line of variables. -/
def dM (L : List Sgn) (s : PS) (v : Nat) (c : Cont) (v2 : Nat) (c2 : Cont) (e4 e6 : Ent) : List Ent :=
  [⟨0, 0, .box [.d (.list (L.map sgnD)), .d (.int .i64 s.at_), .d (.int .i64 s.deep), .vec 1 0 0 s.vars.length]⟩, ⟨1, 0, .vec 8 (s.vars.map vrD)⟩, ⟨300, v, c⟩, ⟨350, v2, c2⟩, e4, e6]
/-- What a call gives that may bring variables. -/
def pC3 (L : List Sgn) (s : PS) : List (Nat × Cont) := [(0, .box [.d (.list (L.map sgnD)), .d (.int .i64 s.at_), .d (.int .i64 s.deep), .vec 1 1 0 s.vars.length]), (1, .vec 8 (s.vars.map vrD))]
def badK1 (L : List Sgn) (e : Er) (s : PS) : Ans := some (.panic 67 (fD e), pC3 L s)
theorem names_loop (hL : L.length < 1000000) (sec : Int) (k : Kt) (R : List Sgn → PS → Ans) (B : Er → PS → Ans)
    (hp : ∀ env e s v c v2 c2, k (.panic 67 (fD e)) ⟨94, gl0, env, dM L s v c v2 c2 ⟨400, 0, .dead⟩ ⟨650, 0, .dead⟩⟩ = B e s)
    (hx : ∀ l s v v2 c2, Le (R l s) (k (.exit 0) ⟨94, gl0, [(0, true, .ptr 0 0 0), (1, true, .d (.int .i64 sec)), (4, true, .vec 300 v 0 l.length), (31, true, .d (.bool true))], dM L s v (.vec 5 (l.map sgnD)) v2 c2 ⟨400, 0, .dead⟩ ⟨650, 0, .dead⟩⟩)) :
    ∀ (f : Nat) (l : List Sgn) (s : PS) (v v2 : Nat) (c2 : Cont) (X : Env), (X = [] ∨ X = [(31, true, .d (.bool false))]) →
    Le ((namesS L f l s).el R B) (denK ctx 81 (.loop (Code.at (codeOf Tryd.f81) [1, 0, 0, 0])) ⟨94, gl0, [(0, true, .ptr 0 0 0), (1, true, .d (.int .i64 sec)), (4, true, .vec 300 v 0 l.length)] ++ X, dM L s v (.vec 5 (l.map sgnD)) v2 c2 ⟨400, 0, .dead⟩ ⟨650, 0, .dead⟩⟩ k)
  | 0, l, s, v, v2, c2, X, hX => Le.none
  | f + 1, l, s, v, v2, c2, X, hX => by
    have ih := fun l s v v2 c2 => names_loop hL sec k R B hp hx f l s v v2 c2 _ (.inr rfl)
    have hk := kind_r (L := L) (s := s) hL 1
    have hm := fun s => may_r (L := L) (s := s) hL [44]
    rw [denK_loop]
    unfold namesS
    cases hks : kindS L 1 s with
    | out => exact Le.none
    | bad e s1 =>
      apply Le.of_eq
      simp [hks, badKB] at hk
      simp [Tryd.f81, dM, badKB] at hp ⊢
      rcases hX with rfl | rfl <;> simp [hk, hp, badKB]
    | ok t s1 =>
      simp only [bind_ok]
      simp [hks, pC2B] at hk
      by_cases h64 : 64 < s1.vars.length + (l.length + 1)
      · by_cases hb : l.length < 100000 ∧ s1.vars.length < 100000
        · apply Le.of_eq
          have h2 : IntKind.i64.wrap ((s1.vars.length : Int) + (l.length + 1)) = s1.vars.length + (l.length + 1) := wrap_id (by unfold I64; omega)
          have h3 : (l.length + 1) * 48 ≤ 140737488355328 ∧ l.length ≤ 4611686018427387903 := by omega
          have h4 : (64 : Int) < s1.vars.length + (l.length + 1) := by omega
          simp [Tryd.f81, dM, badKB] at hp ⊢
          rcases hX with rfl | rfl <;> simp [h64, hb, hk, h2, h3, h4, hp, fail_r, failS, badKB]
        · simp only [if_pos h64, if_neg hb]
          exact Le.none
      · have h2 : IntKind.i64.wrap ((s1.vars.length : Int) + (l.length + 1)) = s1.vars.length + (l.length + 1) := wrap_id (by unfold I64; omega)
        have h3 : (l.length + 1) * 48 ≤ 140737488355328 ∧ l.length ≤ 4611686018427387903 := by omega
        have h4 : ¬ ((64 : Int) < s1.vars.length + (l.length + 1)) := by omega
        simp only [if_neg h64]
        have ih := fun s v v2 c2 => ih (l ++ [t]) s v v2 c2
        have hx := fun s v v2 c2 => hx (l ++ [t]) s v v2 c2
        simp [Tryd.f81, dM, badKB] at hp hx ih hm ⊢
        rcases hX with rfl | rfl <;> simp [hk, h2, h3, h4, hp, hm, pC2B, badKB] <;>
        exact Le.el (fun b s => Le.ite (fun _ => ih _ _ _ _) (fun _ => hx _ _ _ _)) (fun e s => Le.refl _)
theorem declared_le (hL : L.length < 1000000) (f : Nat) (sec : Int) (s : PS) : Le ((declaredS L kindN f sec s).el (fun _ s => some (.ret (.tup []), pC3 L s)) (badK1 L))
    (callT ctx 81 [.ptr 0 0 0, .d (.int .i64 sec)] [.box [.d (.list (L.map sgnD)), .d (.int .i64 s.at_), .d (.int .i64 s.deep), .vec 1 0 0 s.vars.length], .vec 8 (s.vars.map vrD)]) := by
  have hn := fun k R B hp hx v v2 c2 => names_loop hL sec k R B hp hx f [] s v v2 c2 [] (.inl rfl)
  have hv := fun kd init s v5 c5 rest v v6 c6 hl k R hx => vars_loop (L := L) kd sec init s v5 c5 rest [] v 0 v6 c6 hl k R hx
  rw [run81 (by simp)]
  unfold declaredS
  simp only [el_bind]
  simp [Tryd.f81, dM, badKB] at hn hv ⊢
  refine hn _ _ _ ?_ ?_ _ _ _
  · intro env e s v c v2 c2
    simp [badK1, pC3]
  · intro l s v v2 c2
    simp [must_r hL, typed_r hL, may_r hL, value_r hL, fail_r, failS, initS, kdD, pC2B, badKB, pC3, badK1, drwK_end, or_assoc]
    have leaf : ∀ (kd : Kd) (init : Int) (s : PS) (v5 : Nat) (c5 : Cont) (v v6 : Nat) (c6 : Cont), s.vars.length + l.length ≤ 64 → _ := fun kd init s v5 c5 v v6 c6 hl => hv kd init s v5 c5 l v v6 c6 hl
    refine Le.el (fun _ s => Le.el (fun kd s => Le.el (fun b s => Le.ite (fun _ => Le.el (fun p s => Le.ite (fun _ => Le.refl _) fun _ => Le.el (fun _ s => ?_) fun _ _ => Le.refl _) fun _ _ => Le.refl _) (fun _ => Le.el (fun _ s => ?_) fun _ _ => Le.refl _)) fun _ _ => Le.refl _) fun _ _ => Le.refl _) fun _ _ => Le.refl _
    · by_cases hl : s.vars.length + l.length ≤ 64
      · rw [if_pos hl]
        apply Le.of_eq
        symm
        refine leaf kd _ s _ _ _ _ _ hl _ _ ?_
        intro v1 v6 c6
        simp [pC3, badK1]
      · rw [if_neg hl]; exact Le.none
    · by_cases hl : s.vars.length + l.length ≤ 64
      · rw [if_pos hl]
        apply Le.of_eq
        symm
        refine leaf kd _ s _ _ _ _ _ hl _ _ ?_
        intro v1 v6 c6
        simp [pC3, badK1]
      · rw [if_neg hl]; exact Le.none
end
end Go.Am
end
section
namespace Go.Am
open Go Go.Proofs
variable [Inhabited Mx2]
set_option maxRecDepth 20000
def pMv (L : List Sgn) (s : PS) (v : Nat) : List Ent := [⟨0, 0, .box [.d (.list (L.map sgnD)), .d (.int .i64 s.at_), .d (.int .i64 s.deep), .vec 1 v 0 s.vars.length]⟩, ⟨1, v, .vec 8 (s.vars.map vrD)⟩]
section
variable {L : List Sgn}
theorem lines_loop (hL : L.length < 1000000) (sec : Int) (k : Kt) (R : PS → Ans) (B : Er → PS → Ans)
    (hp : ∀ env e s v, k (.panic 67 (fD e)) ⟨18, gl0, env, pMv L s v⟩ = B e s)
    (hx : ∀ s v, Le (R s) (k (.exit 3) ⟨18, gl0, [(0, true, .ptr 0 0 0), (2, true, .d (.int .i64 sec)), (14, true, .d (.bool false))], pMv L s v⟩)) :
    ∀ (f : Nat) (s : PS) (v : Nat) (X : Env), (X = [] ∨ X = [(3, true, .d (.bool true))]) →
    Le ((linesS L kindN sec f s).el (fun _ s => R s) B) (denK ctx 51 (.loop (Code.at (codeOf Tryd.f51) [0, 0, 0, 1, 1, 0, 0])) ⟨18, gl0, [(0, true, .ptr 0 0 0), (2, true, .d (.int .i64 sec))] ++ X, pMv L s v⟩ k)
  | 0, s, v, X, hX => Le.none
  | f + 1, s, v, X, hX => by
    have ih := fun s v => lines_loop hL sec k R B hp hx f s v [] (.inl rfl)
    have hm := may_r (L := L) (s := s) hL [69, 78, 68, 95, 86, 65, 82]
    rw [denK_loop]
    unfold linesS
    cases hms : mayS L [69, 78, 68, 95, 86, 65, 82] s with
    | out => exact Le.none
    | bad e s1 =>
      apply Le.of_eq
      simp [hms, badKB] at hm
      simp [Tryd.f51, pMv] at hp ⊢
      rcases hX with rfl | rfl <;> simp [hm, hp]
    | ok b s1 =>
      simp only [bind_ok]
      simp [hms, pC2B] at hm
      cases b with
      | true =>
        have hx := hx s1
        simp [Tryd.f51, pMv] at hx ⊢
        rcases hX with rfl | rfl <;> simpa [hm] using hx _
      | false =>
        have hd := declared_le hL f sec s1
        simp only [Bool.false_eq_true, if_false]
        cases hds : declaredS L kindN f sec s1 with
        | out => exact Le.none
        | bad e s2 =>
          apply Le.of_eq
          simp only [hds, el_bad, badK1, pC3] at hd
          have hd := hd _ rfl
          simp [Tryd.f51, pMv] at hp hd ⊢
          rcases hX with rfl | rfl <;> simp [hm, hp, hd]
        | ok u s2 =>
          have ih := ih s2
          simp only [hds, el_ok, pC3] at hd
          have hd := hd _ rfl
          simp only [bind_ok]
          simp [Tryd.f51, pMv] at ih hd ⊢
          rcases hX with rfl | rfl <;> simpa [hm, hd] using ih _
theorem sections_loop (hL : L.length < 1000000) (k : Kt) (R : PS → Ans) (B : Er → PS → Ans)
    (hp : ∀ env e s v, k (.panic 67 (fD e)) ⟨18, gl0, env, pMv L s v⟩ = B e s)
    (hx : ∀ env s v, Le (R s) (k .ret ⟨18, gl0, env, pMv L s v⟩)) :
    ∀ (f : Nat) (s : PS) (v : Nat) (X : Env), (X = [] ∨ ∃ sec : Int, X = [(2, true, .d (.int .i64 sec)), (14, true, .d (.bool false))]) →
    Le ((sectionsS L kindN f s).el (fun _ s => R s) B) (denK ctx 51 (.loop (Code.at (codeOf Tryd.f51) [0, 0])) ⟨18, gl0, [(0, true, .ptr 0 0 0)] ++ X, pMv L s v⟩ k)
  | 0, s, v, X, hX => Le.none
  | f + 1, s, v, X, hX => by
    have ih := fun sec s v => sections_loop hL k R B hp hx f s v _ (.inr ⟨sec, rfl⟩)
    have hl := fun sec k R B hp hx s v X hX => lines_loop (L := L) hL sec k R B hp hx f s v X hX
    have hm := fun s w => may_r (L := L) (s := s) hL w
    rw [denK_loop]
    unfold sectionsS sectionS
    simp only [el_bind]
    simp [Tryd.f51, pMv] at hp hl ih hx ⊢
    rcases hX with rfl | ⟨sec, rfl⟩
    all_goals
      simp [hm, hp, pC2B, badKB]
      refine Le.el (fun b s => Le.ite (fun hb => ?_) fun hb => Le.el (fun b s => Le.ite (fun hb => ?_) fun hb => Le.el (fun b s => Le.ite (fun hb => ?_) fun hb => ?_) fun e s => Le.refl _) fun e s => Le.refl _) fun e s => Le.refl _
      · exact (hl 0 _ _ _ (fun env e s v => by simp [hp]) (fun s v => by simpa using ih 0 s v) _ _).2
      · exact (hl 1 _ _ _ (fun env e s v => by simp [hp]) (fun s v => by simpa using ih 1 s v) _ _).1
      · exact (hl 2 _ _ _ (fun env e s v => by simp [hp]) (fun s v => by simpa using ih 2 s v) _ _).1
      · exact hx _ _ _
theorem sections_le (hL : L.length < 1000000) (f : Nat) (s : PS) : Le ((sectionsS L kindN f s).el (fun _ s => some (.ret (.tup []), pC3 L s)) (badK1 L))
    (callT ctx 51 [.ptr 0 0 0] [.box [.d (.list (L.map sgnD)), .d (.int .i64 s.at_), .d (.int .i64 s.deep), .vec 1 0 0 s.vars.length], .vec 8 (s.vars.map vrD)]) := by
  have hl := fun k R B hp hx => sections_loop hL k R B hp hx f s 0 [] (.inl rfl)
  rw [run51 (by simp)]
  simp [Tryd.f51, pMv] at hl ⊢
  refine hl _ (fun s => some (.ret (.tup []), pC3 L s)) _ ?_ ?_
  · intro env e s v
    simp [badK1, pC3]
  · intro env s v
    simp [pC3]
    exact Le.refl _
end
end Go.Am
end
section
namespace Go.Am
open Go
def exo : Ex → Int | .mk a _ _ _ _ _ => a
def exn : Ex → Int | .mk _ a _ _ _ _ => a
def exa : Ex → Tx | .mk _ _ a _ _ _ => a
def exf : Ex → Tx | .mk _ _ _ a _ _ => a
def exs : Ex → List Ex | .mk _ _ _ _ a _ => a
def exl : Ex → Int | .mk _ _ _ _ _ a => a
@[simp] theorem exo_mk {a b c d e f} : exo (.mk a b c d e f) = a := rfl
@[simp] theorem exn_mk {a b c d e f} : exn (.mk a b c d e f) = b := rfl
@[simp] theorem exa_mk {a b c d e f} : exa (.mk a b c d e f) = c := rfl
@[simp] theorem exf_mk {a b c d e f} : exf (.mk a b c d e f) = d := rfl
@[simp] theorem exs_mk {a b c d e f} : exs (.mk a b c d e f) = e := rfl
@[simp] theorem exl_mk {a b c d e f} : exl (.mk a b c d e f) = f := rfl
theorem exC_A (x : Ex) : exC x = [.int .i64 (exo x), .int .i64 (exn x), .str (exa x), .str (exf x), .list ((exs x).map exD), .int .i64 (exl x)] := by cases x; simp [exC, exDs_eq]
theorem exD_A (x : Ex) : exD x = .agg [.int .i64 (exo x), .int .i64 (exn x), .str (exa x), .str (exf x), .list ((exs x).map exD), .int .i64 (exl x)] := by rw [exD_C, exC_A]
def smo : Sm → Int | .mk a _ _ _ _ _ _ _ _ => a
def sma : Sm → Tx | .mk _ a _ _ _ _ _ _ _ => a
def smt : Sm → Ex | .mk _ _ a _ _ _ _ _ _ => a
def smv : Sm → Ex | .mk _ _ _ a _ _ _ _ _ => a
def smc : Sm → List Ex | .mk _ _ _ _ a _ _ _ _ => a
def smlb : Sm → List (List Int) | .mk _ _ _ _ _ a _ _ _ => a
def smf : Sm → List Tx | .mk _ _ _ _ _ _ a _ _ => a
def smb : Sm → List (List Sm) | .mk _ _ _ _ _ _ _ a _ => a
def sml : Sm → Int | .mk _ _ _ _ _ _ _ _ a => a
@[simp] theorem smo_mk {a b c d e f g h i} : smo (.mk a b c d e f g h i) = a := rfl
@[simp] theorem sma_mk {a b c d e f g h i} : sma (.mk a b c d e f g h i) = b := rfl
@[simp] theorem smt_mk {a b c d e f g h i} : smt (.mk a b c d e f g h i) = c := rfl
@[simp] theorem smv_mk {a b c d e f g h i} : smv (.mk a b c d e f g h i) = d := rfl
@[simp] theorem smc_mk {a b c d e f g h i} : smc (.mk a b c d e f g h i) = e := rfl
@[simp] theorem smlb_mk {a b c d e f g h i} : smlb (.mk a b c d e f g h i) = f := rfl
@[simp] theorem smf_mk {a b c d e f g h i} : smf (.mk a b c d e f g h i) = g := rfl
@[simp] theorem smb_mk {a b c d e f g h i} : smb (.mk a b c d e f g h i) = h := rfl
@[simp] theorem sml_mk {a b c d e f g h i} : sml (.mk a b c d e f g h i) = i := rfl
def bkD (l : List Sm) : D := .list (l.map smD)
theorem smD_A (x : Sm) : smD x = .agg [.int .i64 (smo x), .str (sma x),
    .int .i64 (exo (smt x)), .int .i64 (exn (smt x)), .str (exa (smt x)), .str (exf (smt x)), .list ((exs (smt x)).map exD), .int .i64 (exl (smt x)),
    .int .i64 (exo (smv x)), .int .i64 (exn (smv x)), .str (exa (smv x)), .str (exf (smv x)), .list ((exs (smv x)).map exD), .int .i64 (exl (smv x)),
    .list ((smc x).map exD), .list ((smlb x).map lbD), .list ((smf x).map .str), .list ((smb x).map bkD), .int .i64 (sml x)] := by
  cases x
  simp [smD, exC_A, exDs_eq, bksD_eq, bkD]
end Go.Am
end
section
namespace Go.Am
open Go
section
variable {ε σ α β : Type}
/-- Less defined. -/
def PR.le (r r' : PR ε σ α) : Prop := r = .out ∨ r = r'
theorem PR.le.refl (r : PR ε σ α) : r.le r := .inr rfl
theorem PR.le.out (r : PR ε σ α) : PR.le .out r := .inl rfl
theorem PR.le.bind {r r' : PR ε σ α} {k k' : α → σ → PR ε σ β} (h : r.le r') (hk : ∀ a s, (k a s).le (k' a s)) : (r.bind k).le (r'.bind k') := by
  rcases h with h | h
  · subst h; exact .inl rfl
  · subst h
    cases r with
    | ok a s => exact hk a s
    | bad e s => exact .inr rfl
    | out => exact .inl rfl
theorem PR.le.ite {c : Prop} [Decidable c] {a b a' b' : PR ε σ α} (h : a.le a') (h' : b.le b') : (if c then a else b).le (if c then a' else b') := by
  split
  · exact h
  · exact h'
theorem PR.le.el {r r' : PR ε σ α} {γ : Type} {f : α → σ → Option γ} {g : ε → σ → Option γ} (h : r.le r') : Le (r.el f g) (r'.el f g) := by
  rcases h with h | h
  · subst h; exact Le.none
  · subst h; exact Le.refl _
end
section
variable (L : List Sgn)
structure MonE (f g : Nat) : Prop where
  level : ∀ n s, (levelS L f n s).le (levelS L g n s)
  loop : ∀ n x s, (levelL L f n x s).le (levelL L g n x s)
  unary : ∀ s, (unaryS L f s).le (unaryS L g s)
  unop : ∀ op t s, (unopS L f op t s).le (unopS L g op t s)
  expr : ∀ s, (exprS L f s).le (exprS L g s)
  index : ∀ s, (indexS L f s).le (indexS L g s)
  factor : ∀ s, (factorS L f s).le (factorS L g s)
theorem monE : ∀ f g, f ≤ g → MonE L f g
  | 0, g, _ => by
    refine ⟨?_, ?_, ?_, ?_, ?_, ?_, ?_⟩ <;> intros
    · unfold levelS; exact PR.le.out _
    · unfold levelL; exact PR.le.out _
    · unfold unaryS; exact PR.le.out _
    · unfold unopS; exact PR.le.out _
    · unfold exprS; exact PR.le.out _
    · unfold indexS; exact PR.le.out _
    · unfold factorS; exact PR.le.out _
  | f + 1, 0, h => by omega
  | f + 1, g + 1, h => by
    have ih := monE f g (by omega)
    have i1 := ih.level
    have i2 := ih.loop
    have i3 := ih.unary
    have i4 := ih.unop
    have i5 := ih.expr
    have i6 := ih.index
    have i7 := ih.factor
    refine ⟨?_, ?_, ?_, ?_, ?_, ?_, ?_⟩ <;> intros
    · unfold levelS
      repeat' with_reducible (first | exact i1 _ _ | exact i2 _ _ _ | exact i3 _ | exact i4 _ _ _ | exact i5 _ | exact i6 _ | exact i7 _ | exact PR.le.refl _ | refine PR.le.bind ?_ (fun _ _ => ?_) | refine PR.le.ite ?_ ?_)
    · unfold levelL
      repeat' with_reducible (first | exact i1 _ _ | exact i2 _ _ _ | exact i3 _ | exact i4 _ _ _ | exact i5 _ | exact i6 _ | exact i7 _ | exact PR.le.refl _ | refine PR.le.bind ?_ (fun _ _ => ?_) | refine PR.le.ite ?_ ?_)
    · unfold unaryS
      repeat' with_reducible (first | exact i1 _ _ | exact i2 _ _ _ | exact i3 _ | exact i4 _ _ _ | exact i5 _ | exact i6 _ | exact i7 _ | exact PR.le.refl _ | refine PR.le.bind ?_ (fun _ _ => ?_) | refine PR.le.ite ?_ ?_)
    · unfold unopS
      repeat' with_reducible (first | exact i1 _ _ | exact i2 _ _ _ | exact i3 _ | exact i4 _ _ _ | exact i5 _ | exact i6 _ | exact i7 _ | exact PR.le.refl _ | refine PR.le.bind ?_ (fun _ _ => ?_) | refine PR.le.ite ?_ ?_)
    · unfold exprS
      repeat' with_reducible (first | exact i1 _ _ | exact i2 _ _ _ | exact i3 _ | exact i4 _ _ _ | exact i5 _ | exact i6 _ | exact i7 _ | exact PR.le.refl _ | refine PR.le.bind ?_ (fun _ _ => ?_) | refine PR.le.ite ?_ ?_)
    · unfold indexS
      repeat' with_reducible (first | exact i1 _ _ | exact i2 _ _ _ | exact i3 _ | exact i4 _ _ _ | exact i5 _ | exact i6 _ | exact i7 _ | exact PR.le.refl _ | refine PR.le.bind ?_ (fun _ _ => ?_) | refine PR.le.ite ?_ ?_)
    · unfold factorS
      repeat' with_reducible (first | exact i1 _ _ | exact i2 _ _ _ | exact i3 _ | exact i4 _ _ _ | exact i5 _ | exact i6 _ | exact i7 _ | exact PR.le.refl _ | refine PR.le.bind ?_ (fun _ _ => ?_) | refine PR.le.ite ?_ ?_)
structure MonS (f g : Nat) : Prop where
  block : ∀ w s, (blockS L f w s).le (blockS L g w s)
  blockL : ∀ w l s, (blockL L f w l s).le (blockL L g w l s)
  stmt : ∀ s, (stmtS L f s).le (stmtS L g s)
  opn : ∀ s, (openS L f s).le (openS L g s)
  branches : ∀ s, (branchesS L f s).le (branchesS L g s)
  branchesL : ∀ c l s, (branchesL L f c l s).le (branchesL L g c l s)
  cases : ∀ s, (casesS L f s).le (casesS L g s)
  casesL : ∀ v c l s, (casesL L f v c l s).le (casesL L g v c l s)
  caseL : ∀ l s, (caseL L f l s).le (caseL L g l s)
  counted : ∀ s, (countedS L f s).le (countedS L g s)
  call : ∀ n s, (callS L f n s).le (callS L g n s)
  callL : ∀ n c l s, (callL L f n c l s).le (callL L g n c l s)
theorem monLabels : ∀ f g l s, f ≤ g → (labelsS L f l s).le (labelsS L g l s)
  | 0, g, l, s, _ => by unfold labelsS; exact PR.le.out _
  | f + 1, 0, l, s, h => by omega
  | f + 1, g + 1, l, s, h => by
    have ih := fun l s => monLabels f g l s (by omega)
    unfold labelsS
    repeat' with_reducible (first | exact ih _ _ | exact PR.le.refl _ | refine PR.le.bind ?_ (fun _ _ => ?_) | refine PR.le.ite ?_ ?_)
theorem monS : ∀ f g, f ≤ g → MonS L f g
  | 0, g, _ => by
    refine ⟨?_, ?_, ?_, ?_, ?_, ?_, ?_, ?_, ?_, ?_, ?_, ?_⟩ <;> intros
    · unfold blockS; exact PR.le.out _
    · unfold Go.Am.blockL; exact PR.le.out _
    · unfold stmtS; exact PR.le.out _
    · unfold openS; exact PR.le.out _
    · unfold branchesS; exact PR.le.out _
    · unfold Go.Am.branchesL; exact PR.le.out _
    · unfold casesS; exact PR.le.out _
    · unfold Go.Am.casesL; exact PR.le.out _
    · unfold Go.Am.caseL; exact PR.le.out _
    · unfold countedS; exact PR.le.out _
    · unfold callS; exact PR.le.out _
    · unfold Go.Am.callL; exact PR.le.out _
  | f + 1, 0, h => by omega
  | f + 1, g + 1, h => by
    have ih := monS f g (by omega)
    have ihE := monE L f g (by omega)
    have i5 := ihE.expr
    have i6 := ihE.index
    have j0 := fun l s => monLabels L f g l s (by omega)
    have j1 := ih.block
    have j2 := ih.blockL
    have j3 := ih.stmt
    have j4 := ih.opn
    have j5 := ih.branches
    have j6 := ih.branchesL
    have j7 := ih.cases
    have j8 := ih.casesL
    have j9 := ih.caseL
    have j10 := ih.counted
    have j11 := ih.call
    have j12 := ih.callL
    refine ⟨?_, ?_, ?_, ?_, ?_, ?_, ?_, ?_, ?_, ?_, ?_, ?_⟩ <;> intros
    · unfold blockS; repeat' with_reducible (first | exact j2 _ _ _ | exact PR.le.refl _ | refine PR.le.bind ?_ (fun _ _ => ?_) | refine PR.le.ite ?_ ?_)
    · unfold Go.Am.blockL; repeat' with_reducible (first | exact j2 _ _ _ | exact j3 _ | exact PR.le.refl _ | refine PR.le.bind ?_ (fun _ _ => ?_) | refine PR.le.ite ?_ ?_)
    · unfold stmtS; repeat' with_reducible (first | exact j4 _ | exact PR.le.refl _ | refine PR.le.bind ?_ (fun _ _ => ?_) | refine PR.le.ite ?_ ?_)
    · unfold openS; repeat' with_reducible (first | exact i5 _ | exact i6 _ | exact j1 _ _ | exact j5 _ | exact j7 _ | exact j10 _ | exact j11 _ _ | exact PR.le.refl _ | refine PR.le.bind ?_ (fun _ _ => ?_) | refine PR.le.ite ?_ ?_)
    · unfold branchesS; repeat' with_reducible (first | exact j6 _ _ _ | exact PR.le.refl _ | refine PR.le.bind ?_ (fun _ _ => ?_) | refine PR.le.ite ?_ ?_)
    · unfold Go.Am.branchesL; repeat' with_reducible (first | exact i5 _ | exact j1 _ _ | exact j6 _ _ _ | exact PR.le.refl _ | refine PR.le.bind ?_ (fun _ _ => ?_) | refine PR.le.ite ?_ ?_)
    · unfold casesS; repeat' with_reducible (first | exact i5 _ | exact j8 _ _ _ _ | exact PR.le.refl _ | refine PR.le.bind ?_ (fun _ _ => ?_) | refine PR.le.ite ?_ ?_)
    · unfold Go.Am.casesL; repeat' with_reducible (first | exact j0 _ _ | exact j1 _ _ | exact j9 _ _ | exact j8 _ _ _ _ | exact PR.le.refl _ | refine PR.le.bind ?_ (fun _ _ => ?_) | refine PR.le.ite ?_ ?_)
    · unfold Go.Am.caseL; repeat' with_reducible (first | exact j3 _ | exact j9 _ _ | exact PR.le.refl _ | refine PR.le.bind ?_ (fun _ _ => ?_) | refine PR.le.ite ?_ ?_)
    · unfold countedS; repeat' with_reducible (first | exact i5 _ | exact j1 _ _ | exact PR.le.refl _ | refine PR.le.bind ?_ (fun _ _ => ?_) | refine PR.le.ite ?_ ?_)
    · unfold callS; repeat' with_reducible (first | exact j12 _ _ _ _ | exact PR.le.refl _ | refine PR.le.bind ?_ (fun _ _ => ?_) | refine PR.le.ite ?_ ?_)
    · unfold Go.Am.callL; repeat' with_reducible (first | exact i5 _ | exact j12 _ _ _ _ | exact PR.le.refl _ | refine PR.le.bind ?_ (fun _ _ => ?_) | refine PR.le.ite ?_ ?_)
end
end Go.Am
end
section
namespace Go.Am
open Go Go.Proofs
variable [Inhabited Mx2]
set_option maxRecDepth 20000
theorem range02 : List.range' 0 2 = [0, 1] := rfl
def outsL : List Nat := [79, 83, 80, 77, 49, 50, 116, 118, 162, 163, 144, 82, 176, 174]
/-- What the calls of the expressions' functions give. -/
structure FamE (L : List Sgn) (cl : CallFn) (f : Nat) : Prop where
  le : ∀ g a c r, cl g a c = some r → callT ctx g a c = some r
  out : ∀ g, outsL.contains g = true → cl g = callT ctx g
  level : ∀ n s, cl 164 [.ptr 0 0 0, .d (.int .i64 (n : Nat))] (pC L s) = (levelS L f n s).el (fun x s => some (.ret (.d (exD x)), pC2 L s)) (badK L)
  unary : ∀ s, cl 175 [.ptr 0 0 0] (pC L s) = (unaryS L f s).el (fun x s => some (.ret (.d (exD x)), pC2 L s)) (badK L)
  factor : ∀ s, cl 181 [.ptr 0 0 0] (pC L s) = (factorS L f s).el (fun x s => some (.ret (.d (exD x)), pC2 L s)) (badK L)
  index : ∀ s, cl 150 [.ptr 0 0 0] (pC L s) = (indexS L f s).el (fun x s => some (.ret (.d (exD x)), pC2 L s)) (badK L)
  expr : ∀ s, cl 148 [.ptr 0 0 0] (pC L s) = (exprS L f s).el (fun x s => some (.ret (.d (exD x)), pC2 L s)) (badK L)
def unopW (L : List Sgn) (f : Nat) (op : Int) (t : Sgn) (s : PS) : PM Ex := (inS L s).bind fun _ s => (takeS L s).bind fun _ s => (unaryS L f s).bind fun x s => (outS s).bind fun _ s => .ok (exSub op [] [x] t.line) s
def unaryW (L : List Sgn) (f : Nat) (s : PS) : PM Ex := (nowS L s).bind fun t s => (isS L [45] s).bind fun b s =>
    if b = true then unopW L f 6 t s else (isS L [78, 79, 84] s).bind fun b s => if b = true then unopW L f 7 t s else factorS L f s
theorem unop_le (L : List Sgn) (op : Int) (t : Sgn) (s : PS) : ∀ f, (unopS L f op t s).le (unopW L f op t s)
  | 0 => by unfold unopS; exact PR.le.out _
  | f + 1 => by
    have h := (monE L f (f + 1) (by omega)).unary
    unfold unopS unopW
    exact PR.le.bind (PR.le.refl _) fun _ _ => PR.le.bind (PR.le.refl _) fun _ _ => PR.le.bind (h _) fun _ _ => PR.le.refl _
theorem unary_le (L : List Sgn) (f : Nat) (s : PS) : (unaryS L (f + 1) s).le (unaryW L f s) := by
  unfold unaryS unaryW
  exact PR.le.bind (PR.le.refl _) fun _ _ => PR.le.bind (PR.le.refl _) fun _ _ => PR.le.ite (unop_le ..) (PR.le.bind (PR.le.refl _) fun _ _ => PR.le.ite (unop_le ..) (PR.le.refl _))
section
variable {L : List Sgn} {s : PS} {cl : CallFn} {f : Nat} (hL : L.length < 1000000) (F : FamE L cl f)
include hL F
theorem expr_f : Le ((exprS L (f + 1) s).el (fun x s => some (.ret (.d (exD x)), pC2 L s)) (badK L)) (callT ctx 148 [.ptr 0 0 0] (pC L s)) := by
  have h := F.level 0
  simp only [pCB, pC2B, badKB] at h
  refine Le.trans (Le.of_eq ?_) (ov148 F.le (by simp [pC]))
  unfold exprS
  simp at h
  simp [Tryd.f148, drwK_end, exD_A, pCB, pC2B, badKB, h]
theorem index_f : Le ((indexS L (f + 1) s).el (fun x s => some (.ret (.d (exD x)), pC2 L s)) (badK L)) (callT ctx 150 [.ptr 0 0 0] (pC L s)) := by
  have h := F.expr
  have e1 := F.out 116 (by decide)
  have e2 := F.out 49 (by decide)
  have e3 := F.out 118 (by decide)
  simp only [pCB, pC2B, badKB] at h
  refine Le.trans (Le.of_eq ?_) (ov150 F.le (by simp [pC]))
  unfold indexS
  simp [Tryd.f150, drwK_end, exD_A, pCB, pC2B, badKB, h, e1, e2, e3, in_r hL, must_r hL, out_r hL]
theorem unary_f : Le ((unaryS L (f + 1) s).el (fun x s => some (.ret (.d (exD x)), pC2 L s)) (badK L)) (callT ctx 175 [.ptr 0 0 0] (pC L s)) := by
  have h := F.factor
  have h' := F.unary
  have e1 := F.out 116 (by decide)
  have e2 := F.out 79 (by decide)
  have e3 := F.out 118 (by decide)
  have e4 := F.out 83 (by decide)
  have e5 := F.out 80 (by decide)
  simp only [pCB, pC2B, badKB] at h h'
  refine Le.trans (unary_le L f s).el (Le.trans (Le.of_eq ?_) (ov175 F.le (by simp [pC])))
  unfold unaryW unopW
  simp [Tryd.f175, drwK_end, exD_A, pCB, pC2B, badKB, h, h', e1, e2, e3, e4, e5, in_r hL, is_r, now_r, take_r hL, out_r hL, exSub]
theorem factor_f : Le ((factorS L (f + 1) s).el (fun x s => some (.ret (.d (exD x)), pC2 L s)) (badK L)) (callT ctx 181 [.ptr 0 0 0] (pC L s)) := by
  have h := F.expr
  have h' := F.index
  have e1 := F.out 116 (by decide)
  have e2 := F.out 79 (by decide)
  have e3 := F.out 118 (by decide)
  have e4 := F.out 83 (by decide)
  have e5 := F.out 80 (by decide)
  have e6 := F.out 77 (by decide)
  have e7 := F.out 49 (by decide)
  have e8 := F.out 50 (by decide)
  simp only [pCB, pC2B, badKB] at h h'
  refine Le.trans (Le.of_eq ?_) (ov181 F.le (by simp [pC]))
  unfold factorS
  simp [Tryd.f181, drwK_end, exD_A, pCB, pC2B, badKB, h, h', e1, e2, e3, e4, e5, e6, e7, e8, in_r hL, is_r, now_r, take_r hL, out_r hL, may_r hL, must_r hL, kind_r hL, exSub, exVar]
end
end Go.Am
end
section
namespace Go.Am
open Go Go.Proofs
variable [Inhabited Mx2]
set_option maxRecDepth 20000
def bxE (x : Ex) : Cont := .box [.d (.int .i64 (exo x)), .d (.int .i64 (exn x)), .d (.str (exa x)), .d (.str (exf x)), .d (.list ((exs x).map exD)), .d (.int .i64 (exl x))]
def bx0 : Cont := .box [.d (.int .i64 0), .d (.int .i64 0), .d (.str []), .d (.str []), .lit (.slice none 0 0), .d (.int .i64 0)]
def lvD : AV := .d (.list (lvT.map fun l => .list (l.map .str)))
section
variable {L : List Sgn} {cl : CallFn} {f : Nat} (hL : L.length < 1000000) (F : FamE L cl f)
include hL F
theorem level_loop (n : Nat) (hn : n < 6) (k : Kt) (R : Ex → PS → Ans) (B : Er → PS → Ans)
    (hp : ∀ env e s r, k (.panic 67 (fD e)) ⟨43, gl0, env, pM L s ++ r⟩ = B e s)
    (hx : ∀ x s v c E, (E = [(25, true, .d (.bool false))] ∨ E = [(41, true, .d (.bool true))]) → Le (R x s) (k (.exit 0) ⟨43, gl0, [(0, true, .ptr 0 0 0), (1, true, .d (.int .i64 n)), (4, true, .ptr 300 1 0), (5, true, lvD), (6, true, .ptr 400 1 0)] ++ E, pM L s ++ [⟨300, 1, bx0⟩, ⟨400, 1, bxE x⟩, ⟨450, v, c⟩]⟩)) :
    ∀ (j : Nat), j ≤ f → ∀ (x : Ex) (s : PS) (v : Nat) (c : Cont) (X : Env), (X = [] ∨ X = [(41, true, .d (.bool false))]) →
    Le ((levelL L j n x s).el R B) (denK (ctx.over cl) 164 (.loop (Code.at (codeOf Tryd.f164) [1, 1, 1, 1, 0, 0, 0])) ⟨43, gl0, [(0, true, .ptr 0 0 0), (1, true, .d (.int .i64 n)), (4, true, .ptr 300 1 0), (5, true, lvD), (6, true, .ptr 400 1 0)] ++ X, pM L s ++ [⟨300, 1, bx0⟩, ⟨400, 1, bxE x⟩, ⟨450, v, c⟩]⟩ k)
  | 0, hj, x, s, v, c, X, hX => by unfold levelL; exact Le.none
  | j + 1, hj, x, s, v, c, X, hX => by
    have ih := fun x s v c => level_loop n hn k R B hp hx j (by omega) x s v c _ (.inr rfl)
    have e1 := F.out 82 (by decide)
    have e2 := F.out 80 (by decide)
    have e3 := F.out 176 (by decide)
    have hw : IntKind.i64.wrap ((n : Int) + 1) = (n : Int) + 1 := wrap_id (by unfold I64; omega)
    have hlen : lvT.length = 6 := rfl
    have hlt : ∀ n, n < 6 → (lvT.getD n []).length < 1000000 := by decide
    have hc := contains_r (L := L) (s := s) (lvT.getD n []) (hlt n hn)
    have hn' : n < lvT.length := by rw [hlen]; exact hn
    have hget : lvT.getD n [] = lvT[n]'hn' := by rw [List.getD_eq_getElem?_getD, List.getElem?_eq_getElem hn']; rfl
    rw [hget] at hc
    rw [denK_loop]
    unfold levelL
    rw [hget]
    simp only [lvD] at hp hx ih ⊢
    generalize hws : lvT[n]'hn' = ws at *
    cases ha : anyS L ws s with
    | out => exact Le.none
    | bad e s1 =>
      apply Le.of_eq
      simp [ha, badKB] at hc
      simp [Tryd.f164, pM] at hp ⊢
      rcases hX with rfl | rfl <;> simp [hc, hp, e1, hlen, hn, hws]
    | ok b s1 =>
      simp only [bind_ok]
      simp [ha, pC2B] at hc
      cases b with
      | false =>
        have hx := hx x s1 v c _ (.inl rfl)
        simp [Tryd.f164, pM] at hx ⊢
        rcases hX with rfl | rfl <;> simpa [hc, e1, hlen, hn, hws] using hx
      | true =>
        have ht := take_r (L := L) (s := s1) hL
        cases hts : takeS L s1 with
        | out => exact Le.none
        | bad e s2 =>
          apply Le.of_eq
          simp [hts, badKB] at ht
          simp [Tryd.f164, pM] at hp ⊢
          rcases hX with rfl | rfl <;> simp [hc, ht, hp, e1, e2, hlen, hn, hws]
        | ok t s2 =>
          simp [hts, pC2B] at ht
          have hl := F.level (n + 1) s2
          simp only [bind_ok, if_true]
          rcases (monE L j f (by omega)).level (n + 1) s2 with hj | hj
          · rw [hj]; exact Le.none
          rw [← hj] at hl
          simp only [pCB, pC2B, badKB] at hl
          simp at hl
          cases hls : levelS L j (n + 1) s2 with
          | out => exact Le.none
          | bad e s3 =>
            apply Le.of_eq
            simp [hls] at hl
            simp [Tryd.f164, pM, bxE] at hp ⊢
            rcases hX with rfl | rfl <;> simp [hc, ht, hl, hw, hp, e1, e2, e3, hlen, hn, hws, operator_r, drwK_end]
          | ok y s3 =>
            simp [hls, exD_A] at hl
            have ih := ih (exSub (opI t.text) [] [x, y] t.line) s3
            have hx := hx (exSub (opI t.text) [] [x, y] t.line) s3
            simp only [bind_ok]
            simp [Tryd.f164, pM, bxE, exSub, exD_A] at hx ih ⊢
            have h02 : List.range' 0 2 = [0, 1] := rfl
            have hn3 : ((n : Int) = 3) = (n = 3) := by simp; omega
            rcases hX with rfl | rfl <;> simp [hc, ht, hl, hw, e1, e2, e3, hlen, hn, hws, operator_r, drwK_end, h02, hn3]
            all_goals
              by_cases h3 : n = 3
              · simp only [if_pos h3, el_ok]
                exact (hx _ _).2
              · simp only [if_neg h3]
                exact ih _ _
end
end Go.Am
end
section
namespace Go.Am
open Go Go.Proofs
variable [Inhabited Mx2]
set_option maxRecDepth 20000
section
variable {L : List Sgn} {s : PS} {cl : CallFn} {f : Nat} (hL : L.length < 1000000) (F : FamE L cl f)
include hL F
theorem level_f (n : Nat) : Le ((levelS L (f + 1) n s).el (fun x s => some (.ret (.d (exD x)), pC2 L s)) (badK L)) (callT ctx 164 [.ptr 0 0 0, .d (.int .i64 n)] (pC L s)) := by
  have e4 := F.out 174 (by decide)
  have hlv := levels_r
  have hlen : lvT.length = 6 := rfl
  refine Le.trans ?_ (ov164 F.le (by simp [pC]))
  unfold levelS
  by_cases h6 : n = 6
  · subst h6
    have hu := F.unary s
    simp only [pCB, pC2B, badKB] at hu
    apply Le.of_eq
    simp [Tryd.f164, drwK_end, exD_A, pCB, pC2B, badKB, hlv, e4, hu, hlen]
  · rw [if_neg h6]
    by_cases hn : n < 6
    · rw [if_pos hn]
      have hl := F.level (n + 1) s
      have hw : IntKind.i64.wrap ((n : Int) + 1) = (n : Int) + 1 := wrap_id (by unfold I64; omega)
      have h6' : ¬ ((n : Int) = 6) := by omega
      have hlp := fun k R B hp hx x s v c => level_loop hL F n hn k R B hp hx f (Nat.le_refl f) x s v c [] (.inl rfl)
      simp only [pCB, pC2B, badKB] at hl
      simp at hl
      simp only [el_bind]
      simp [Tryd.f164, pM, lvD, bxE, bx0] at hlp ⊢
      simp [drwK_end, exD_A, pCB, pC2B, badKB, hlv, e4, hl, hw, h6', hlen]
      refine Le.el (fun x s => ?_) fun e s => Le.refl _
      refine hlp _ _ _ ?_ ?_ _ _ _ _
      · intro env e s r
        simp
      · intro x s v c
        constructor <;> (apply Le.of_eq; simp [drwK_end, exD_A])
    · rw [if_neg hn]; exact Le.none
end
end Go.Am
end
section
namespace Go.Am
open Go Go.Proofs
variable [Inhabited Mx2]
set_option maxRecDepth 20000
section
variable {L : List Sgn} (hL : L.length < 1000000)
include hL
theorem labels_loop (k : Kt) (R : List Int → PS → Ans) (B : Er → PS → Ans)
    (hp : ∀ env e s r, k (.panic 67 (fD e)) ⟨24, gl0, env, pM L s ++ r⟩ = B e s)
    (hx : ∀ l s v, Le ((mustS L [58] s).el (fun _ s => R l s) B) (k (.exit 0) ⟨24, gl0, [(0, true, .ptr 0 0 0), (3, true, .vec 250 v 0 l.length), (20, true, .d (.bool true))], pM L s ++ [⟨250, v, .vec 1 (l.map fun n => .int .i64 n)⟩]⟩)) :
    ∀ (f : Nat) (l : List Int) (s : PS) (v : Nat) (X : Env), (X = [] ∨ X = [(20, true, .d (.bool false))]) →
    Le ((labelsS L f l s).el R B) (denK ctx 163 (.loop (Code.at (codeOf Tryd.f163) [1, 1, 0, 0, 0])) ⟨24, gl0, [(0, true, .ptr 0 0 0), (3, true, .vec 250 v 0 l.length)] ++ X, pM L s ++ [⟨250, v, .vec 1 (l.map fun n => .int .i64 n)⟩]⟩ k)
  | 0, l, s, v, X, hX => Le.none
  | f + 1, l, s, v, X, hX => by
    have ih := fun lo hi s v => labels_loop k R B hp hx f (l ++ [lo, hi]) s v _ (.inr rfl)
    have hx := fun lo hi => hx (l ++ [lo, hi])
    rw [denK_loop]
    unfold labelsS
    simp only [el_bind]
    by_cases hl : l.length < 100000
    · have h3 : (l.length + 2) * 8 ≤ 140737488355328 ∧ l.length ≤ 4611686018427387902 := by omega
      simp [Tryd.f163, pM] at hp ih hx ⊢
      rcases hX with rfl | rfl
      all_goals
        simp [signed_r hL, may_r hL, hp, hl, h3, pC2B, badKB, drwK_end]
        refine Le.el (fun lo s => Le.el (fun b s => Le.ite (fun hb => Le.el (fun hi s => Le.el (fun b s => Le.ite (fun hb => ?_) fun hb => ?_) fun _ _ => Le.refl _) fun _ _ => Le.refl _) fun hb => Le.el (fun b s => Le.ite (fun hb => ?_) fun hb => ?_) fun _ _ => Le.refl _) fun _ _ => Le.refl _) fun _ _ => Le.refl _
        · exact ih _ _ _ _
        · exact hx _ _ _ _
        · exact ih _ _ _ _
        · exact hx _ _ _ _
    · simp [Tryd.f163, pM] at hp ⊢
      rcases hX with rfl | rfl
      all_goals
        simp [signed_r hL, may_r hL, hp, hl, pC2B, badKB, drwK_end]
        refine Le.el (fun lo s => Le.el (fun b s => Le.ite (fun hb => Le.el (fun hi s => Le.none) fun _ _ => Le.refl _) fun hb => Le.none) fun _ _ => Le.refl _) fun _ _ => Le.refl _
theorem labels_le (f : Nat) (s : PS) : Le ((labelsS L f [] s).el (fun l s => some (.ret (.d (lbD l)), pC2 L s)) (badK L)) (callT ctx 163 [.ptr 0 0 0] (pC L s)) := by
  have hl := fun k R B hp hx v => labels_loop hL k R B hp hx f [] s v [] (.inl rfl)
  rw [run163 (by simp [pC])]
  simp [Tryd.f163, pM] at hl ⊢
  simp [pCB]
  refine hl _ _ _ ?_ ?_ _
  · intro env e s r
    simp [badKB]
  · intro l s v
    simp [must_r hL, pC2B, badKB, lbD]
    exact Le.refl _
end
end Go.Am
end
section
namespace Go.Am
open Go Go.Proofs
variable [Inhabited Mx2]
set_option maxRecDepth 20000
/-- What the calls of the statements' functions give. -/
structure FamS (L : List Sgn) (cl : CallFn) (f : Nat) : Prop where
  E : FamE L cl f
  block : ∀ ws s, ws.length < 1000 → cl 52 [.ptr 0 0 0, .d (.list (ws.map .str))] (pC L s) = (blockS L f ws s).el (fun l s => some (.ret (.d (.list (l.map smD))), pC2 L s)) (badK L)
  stmt : ∀ s, cl 84 [.ptr 0 0 0] (pC L s) = (stmtS L f s).el (fun x s => some (.ret (.d (smD x)), pC2 L s)) (badK L)
  opn : ∀ s, cl 117 [.ptr 0 0 0] (pC L s) = (openS L f s).el (fun x s => some (.ret (.d (smD x)), pC2 L s)) (badK L)
  branches : ∀ s, cl 145 [.ptr 0 0 0] (pC L s) = (branchesS L f s).el (fun x s => some (.ret (.d (smD x)), pC2 L s)) (badK L)
  cases : ∀ s, cl 146 [.ptr 0 0 0] (pC L s) = (casesS L f s).el (fun x s => some (.ret (.d (smD x)), pC2 L s)) (badK L)
  counted : ∀ s, cl 147 [.ptr 0 0 0] (pC L s) = (countedS L f s).el (fun x s => some (.ret (.d (smD x)), pC2 L s)) (badK L)
  call : ∀ nm s, cl 149 [.ptr 0 0 0, .d (.str nm)] (pC L s) = (callS L f nm s).el (fun x s => some (.ret (.d (smD x)), pC2 L s)) (badK L)
section
variable {L : List Sgn} {s : PS} {cl : CallFn} {f : Nat} (hL : L.length < 1000000) (F : FamS L cl f)
include hL F
theorem stmt_f : Le ((stmtS L (f + 1) s).el (fun x s => some (.ret (.d (smD x)), pC2 L s)) (badK L)) (callT ctx 84 [.ptr 0 0 0] (pC L s)) := by
  have h := F.opn
  have e1 := F.E.out 116 (by decide)
  have e2 := F.E.out 49 (by decide)
  have e3 := F.E.out 118 (by decide)
  have e4 := F.E.out 79 (by decide)
  have hsm : ∀ (x : Sm) (l : Int), smAt l x = .mk (smo x) (sma x) (smt x) (smv x) (smc x) (smlb x) (smf x) (smb x) l := fun x l => by cases x; rfl
  simp only [pCB, pC2B, badKB] at h
  refine Le.trans (Le.of_eq ?_) (ov84 F.E.le (by simp [pC]))
  unfold stmtS
  simp [Tryd.f84, drwK_end, smD_A, hsm, pCB, pC2B, badKB, h, e1, e2, e3, e4, in_r hL, must_r hL, out_r hL, now_r]
theorem block_loop (ws : List Tx) (hws : ws.length < 1000) (k : Kt) (R : List Sm → PS → Ans) (B : Er → PS → Ans)
    (hp : ∀ env e s r, k (.panic 67 (fD e)) ⟨17, gl0, env, pM L s ++ r⟩ = B e s)
    (hx : ∀ l s v, Le (R l s) (k (.exit 0) ⟨17, gl0, [(0, true, .ptr 0 0 0), (1, true, .d (.list (ws.map .str))), (5, true, .vec 350 v 0 l.length), (10, true, .d (.bool false))], pM L s ++ [⟨350, v, .vec 19 (l.map smD)⟩]⟩)) :
    ∀ (j : Nat), j ≤ f → ∀ (l : List Sm) (s : PS) (v : Nat),
    Le ((blockL L j ws l s).el R B) (denK (ctx.over cl) 52 (.loop (Code.at (codeOf Tryd.f52) [1, 1, 0, 0, 0])) ⟨17, gl0, [(0, true, .ptr 0 0 0), (1, true, .d (.list (ws.map .str))), (5, true, .vec 350 v 0 l.length)], pM L s ++ [⟨350, v, .vec 19 (l.map smD)⟩]⟩ k)
  | 0, hj, l, s, v => by unfold blockL; exact Le.none
  | j + 1, hj, l, s, v => by
    have ih := fun x s v => block_loop ws hws k R B hp hx j (by omega) (l ++ [x]) s v
    have e1 := F.E.out 82 (by decide)
    have hc := contains_r (L := L) (s := s) ws (by omega)
    have hx := hx l
    rw [denK_loop]
    unfold blockL
    cases ha : anyS L ws s with
    | out => exact Le.none
    | bad e s1 =>
      apply Le.of_eq
      simp [ha, badKB] at hc
      simp [Tryd.f52, pM] at hp ⊢
      simp [hc, hp, e1]
    | ok b s1 =>
      simp only [bind_ok]
      simp [ha, pC2B] at hc
      cases b with
      | true =>
        have hx := hx s1 v
        simp [Tryd.f52, pM] at hx ⊢
        simpa [hc, e1] using hx
      | false =>
        have hl := F.stmt s1
        simp only [Bool.false_eq_true, if_false]
        rcases (monS L j f (by omega)).stmt s1 with hj | hj
        · rw [hj]; exact Le.none
        rw [← hj] at hl
        simp only [pCB, pC2B, badKB] at hl
        cases hls : stmtS L j s1 with
        | out => exact Le.none
        | bad e s3 =>
          apply Le.of_eq
          simp [hls] at hl
          simp [Tryd.f52, pM] at hp ⊢
          simp [hc, hl, hp, e1]
        | ok x s3 =>
          by_cases hlen : l.length < 100000
          · have h3 : (l.length + 1) * 288 ≤ 140737488355328 ∧ l.length ≤ 4611686018427387903 := by omega
            have ih := ih x s3
            simp [hls, smD_A] at hl
            simp only [bind_ok, if_pos hlen]
            simp [Tryd.f52, pM, smD_A] at ih ⊢
            simp [hc, hl, e1, h3, drwK_end]
            simpa using ih _
          · simp only [bind_ok, if_neg hlen]; exact Le.none
theorem block_f (ws : List Tx) (hws : ws.length < 1000) : Le ((blockS L (f + 1) ws s).el (fun l s => some (.ret (.d (.list (l.map smD))), pC2 L s)) (badK L)) (callT ctx 52 [.ptr 0 0 0, .d (.list (ws.map .str))] (pC L s)) := by
  have hl := fun k R B hp hx v => block_loop hL F ws hws k R B hp hx f (Nat.le_refl f) [] s v
  refine Le.trans ?_ (ov52 F.E.le (by simp [pC]))
  unfold blockS
  simp [Tryd.f52, pM] at hl ⊢
  simp [pCB]
  refine hl _ _ _ ?_ ?_ _
  · intro env e s r
    simp [badKB]
  · intro l s v
    simp [pC2B]
    exact Le.refl _
theorem counted_f : Le ((countedS L (f + 1) s).el (fun x s => some (.ret (.d (smD x)), pC2 L s)) (badK L)) (callT ctx 147 [.ptr 0 0 0] (pC L s)) := by
  have h := F.E.expr
  have h' := fun s => F.block [[69, 78, 68, 95, 70, 79, 82]] s (by decide)
  have e1 := F.E.out 77 (by decide)
  have e2 := F.E.out 49 (by decide)
  have e3 := F.E.out 50 (by decide)
  have e4 := F.E.out 79 (by decide)
  simp only [pCB, pC2B, badKB] at h h'
  refine Le.trans (Le.of_eq ?_) (ov147 F.E.le (by simp [pC]))
  unfold countedS
  simp at h'
  simp [Tryd.f147, drwK_end, range02, exD_A, smD_A, bkD, ex0, pCB, pC2B, badKB, h, h', e1, e2, e3, e4, may_r hL, must_r hL, kind_r hL, now_r]
theorem open_f : Le ((openS L (f + 1) s).el (fun x s => some (.ret (.d (smD x)), pC2 L s)) (badK L)) (callT ctx 117 [.ptr 0 0 0] (pC L s)) := by
  have h := F.E.expr
  have h2 := F.E.index
  have h' := F.block
  have h3 := F.branches
  have h4 := F.cases
  have h5 := F.counted
  have h6 := F.call
  have e1 := F.E.out 77 (by decide)
  have e2 := F.E.out 49 (by decide)
  have e3 := F.E.out 50 (by decide)
  have e4 := F.E.out 83 (by decide)
  simp only [pCB, pC2B, badKB] at h h' h2 h3 h4 h5 h6
  refine Le.trans (Le.of_eq ?_) (ov117 F.E.le (by simp [pC]))
  unfold openS
  have b1 := fun s => h' [[69, 78, 68, 95, 87, 72, 73, 76, 69]] s (by decide)
  have b2 := fun s => h' [[85, 78, 84, 73, 76]] s (by decide)
  simp at b1 b2
  simp [Tryd.f117, drwK_end, range02, exD_A, smD_A, bkD, ex0, exVar, exSub, smOp, pCB, pC2B, badKB, h, h2, h3, h4, h5, h6, b1, b2, e1, e2, e3, e4, may_r hL, must_r hL, kind_r hL, is_r]
end
end Go.Am
end
section
namespace Go.Am
open Go Go.Proofs
variable [Inhabited Mx2]
set_option maxRecDepth 20000
def bxS0 : Cont := .box [.d (.int .i64 0), .d (.str []), .d (.int .i64 0), .d (.int .i64 0), .d (.str []), .d (.str []), .lit (.slice none 0 0), .d (.int .i64 0), .d (.int .i64 0), .d (.int .i64 0), .d (.str []), .d (.str []), .lit (.slice none 0 0), .d (.int .i64 0), .lit (.slice none 0 0), .lit (.slice none 0 0), .lit (.slice none 0 0), .lit (.slice none 0 0), .d (.int .i64 0)]
/-- What stands behind the last ELSIF. -/
def elseW (L : List Sgn) (f : Nat) (c : List Ex) (l : List (List Sm)) (s : PS) : PM Sm := (mayS L [69, 76, 83, 69] s).bind fun m s => (if m = true then (blockS L f [[69, 78, 68, 95, 73, 70]] s).bind fun z s => .ok (l ++ [z]) s else .ok l s).bind fun l s => (mustS L [69, 78, 68, 95, 73, 70] s).bind fun _ s => .ok (.mk 2 [] ex0 ex0 c [] [] l 0) s
def branchesW (L : List Sgn) (f j : Nat) (c : List Ex) (l : List (List Sm)) (s : PS) : PM Sm :=
  (exprS L f s).bind fun x s => (mustS L [84, 72, 69, 78] s).bind fun _ s => (blockS L f [[69, 76, 83, 73, 70], [69, 76, 83, 69], [69, 78, 68, 95, 73, 70]] s).bind fun b s =>
    if c.length < 100000 ∧ l.length < 100000 then (mayS L [69, 76, 83, 73, 70] s).bind fun m s => if m = true then branchesL L j (c ++ [x]) (l ++ [b]) s else elseW L f (c ++ [x]) (l ++ [b]) s
    else .out
theorem branchesL_le {L : List Sgn} {f j : Nat} (hj : j ≤ f) (c : List Ex) (l : List (List Sm)) (s : PS) : (branchesL L (j + 1) c l s).le (branchesW L f j c l s) := by
  have h1 := (monE L j f hj).expr
  have h2 := (monS L j f hj).block
  unfold branchesL branchesW elseW
  repeat' with_reducible (first | exact h1 _ | exact h2 _ _ | exact PR.le.refl _ | refine PR.le.bind ?_ (fun _ _ => ?_) | refine PR.le.ite ?_ ?_)
section
variable {L : List Sgn} {s : PS} {cl : CallFn} {f : Nat} (hL : L.length < 1000000) (F : FamS L cl f)
def brM (L : List Sgn) (s : PS) (c : List Ex) (l : List (List Sm)) (v1 v2 : Nat) : List Ent := pM L s ++ [⟨200, 1, bxS0⟩, ⟨250, 1, .box [.d (.int .i64 2), .d (.str []), .d (.int .i64 0), .d (.int .i64 0), .d (.str []), .d (.str []), .lit (.slice none 0 0), .d (.int .i64 0), .d (.int .i64 0), .d (.int .i64 0), .d (.str []), .d (.str []), .lit (.slice none 0 0), .d (.int .i64 0), .vec 251 v1 0 c.length, .lit (.slice none 0 0), .lit (.slice none 0 0), .vec 252 v2 0 l.length, .d (.int .i64 0)]⟩, ⟨251, v1, .vec 6 (c.map exD)⟩, ⟨252, v2, .vec 1 (l.map bkD)⟩]
include hL F
theorem branches_loop (k : Kt) (R : Sm → PS → Ans) (B : Er → PS → Ans)
    (hp : ∀ env e s r, k (.panic 67 (fD e)) ⟨38, gl0, env, pM L s ++ r⟩ = B e s)
    (hx : ∀ c l s v1 v2, c.length ≤ 100000 → l.length ≤ 100000 → Le ((elseW L f c l s).el R B) (k (.exit 0) ⟨38, gl0, [(0, true, .ptr 0 0 0), (2, true, .ptr 200 1 0), (3, true, .ptr 250 1 0), (24, true, .d (.bool true))], brM L s c l v1 v2⟩)) :
    ∀ (j : Nat), j ≤ f → ∀ (c : List Ex) (l : List (List Sm)) (s : PS) (v1 v2 : Nat) (X : Env), c.length ≤ 100000 → l.length ≤ 100000 → (X = [] ∨ X = [(24, true, .d (.bool false))]) →
    Le ((branchesL L j c l s).el R B) (denK (ctx.over cl) 145 (.loop (Code.at (codeOf Tryd.f145) [1, 1, 0, 0, 0])) ⟨38, gl0, [(0, true, .ptr 0 0 0), (2, true, .ptr 200 1 0), (3, true, .ptr 250 1 0)] ++ X, brM L s c l v1 v2⟩ k)
  | 0, hj, c, l, s, v1, v2, X, hc, hl, hX => by unfold branchesL; exact Le.none
  | j + 1, hj, c, l, s, v1, v2, X, hc, hl, hX => by
    have ih := fun x b s v1 v2 h1 h2 => branches_loop k R B hp hx j (by omega) (c ++ [x]) (l ++ [b]) s v1 v2 _ h1 h2 (.inr rfl)
    have e1 := F.E.out 77 (by decide)
    have e2 := F.E.out 49 (by decide)
    have h1 := F.E.expr
    have h2 := fun s => F.block [[69, 76, 83, 73, 70], [69, 76, 83, 69], [69, 78, 68, 95, 73, 70]] s (by decide)
    simp only [pCB, pC2B, badKB] at h1 h2
    refine Le.trans (branchesL_le (f := f) (show j ≤ f by omega) c l s).el ?_
    rw [denK_loop]
    unfold branchesW
    simp only [el_bind]
    simp at h2
    have h3 : (c.length + 1) * 80 ≤ 140737488355328 ∧ c.length ≤ 4611686018427387903 := by omega
    have h4 : (l.length + 1) * 24 ≤ 140737488355328 ∧ l.length ≤ 4611686018427387903 := by omega
    by_cases hlen : c.length < 100000 ∧ l.length < 100000
    · have hx := fun x b s v1 v2 => hx (c ++ [x]) (l ++ [b]) s v1 v2 (by simp; omega) (by simp; omega)
      have ih := fun x b s v1 v2 => ih x b s v1 v2 (by simp; omega) (by simp; omega)
      simp [Tryd.f145, pM, brM, bxS0, exD_A, bkD] at hp ih hx ⊢
      rcases hX with rfl | rfl
      all_goals
        simp [may_r hL, must_r hL, hp, hlen, h1, h2, h3, h4, e1, e2, pC2B, badKB, drwK_end, range02, exD_A, bkD]
        refine Le.el (fun x s => Le.el (fun _ s => Le.el (fun b s => Le.el (fun m s => Le.ite (fun hb => ?_) fun hb => ?_) fun _ _ => Le.refl _) fun _ _ => Le.refl _) fun _ _ => Le.refl _) fun _ _ => Le.refl _
        · exact ih _ _ _ _ _
        · exact hx _ _ _ _ _
    · simp only [if_neg hlen]
      simp [Tryd.f145, pM, brM, bxS0, exD_A, bkD] at hp ⊢
      rcases hX with rfl | rfl
      all_goals
        simp [may_r hL, must_r hL, hp, h1, h2, h3, h4, e1, e2, pC2B, badKB, drwK_end, range02, exD_A, bkD]
        exact Le.el (fun x s => Le.el (fun _ s => Le.el (fun b s => Le.none) fun _ _ => Le.refl _) fun _ _ => Le.refl _) fun _ _ => Le.refl _
theorem branches_f : Le ((branchesS L (f + 1) s).el (fun x s => some (.ret (.d (smD x)), pC2 L s)) (badK L)) (callT ctx 145 [.ptr 0 0 0] (pC L s)) := by
  have hl := fun k R B hp hx v1 v2 => branches_loop hL F k R B hp hx f (Nat.le_refl f) [] [] s v1 v2 [] (by simp) (by simp) (.inl rfl)
  have e1 := F.E.out 77 (by decide)
  have e2 := F.E.out 49 (by decide)
  have h2 := fun s => F.block [[69, 78, 68, 95, 73, 70]] s (by decide)
  simp only [pCB, pC2B, badKB] at h2
  refine Le.trans ?_ (ov145 F.E.le (by simp [pC]))
  unfold branchesS
  simp at h2
  simp [Tryd.f145, pM, brM, bxS0] at hl ⊢
  simp [pCB, drwK_end]
  refine hl _ _ _ ?_ ?_ _ _
  · intro env e s r
    simp [badKB]
  · intro c l s v1 v2 hc hl
    have h3 : (l.length + 1) * 24 ≤ 140737488355328 ∧ l.length ≤ 4611686018427387903 := by omega
    apply Le.of_eq
    simp [elseW, may_r hL, must_r hL, e1, e2, h2, h3, pC2B, badKB, drwK_end, range02, smD_A, ex0, bkD]
end
end Go.Am
end
section
namespace Go.Am
open Go Go.Proofs
variable [Inhabited Mx2]
set_option maxRecDepth 20000
def callE (L : List Sgn) (nm : Tx) (c : List Tx) (l : List Ex) (s : PS) : PM Sm := (mustS L [41] s).bind fun _ s => .ok (.mk 9 nm ex0 ex0 l [] c [] 0) s
def callW (L : List Sgn) (f j : Nat) (nm : Tx) (c : List Tx) (l : List Ex) (s : PS) : PM Sm :=
  (kindS L 1 s).bind fun t s => (mustS L [58, 61] s).bind fun _ s => (exprS L f s).bind fun x s =>
    if c.length < 100000 ∧ l.length < 100000 then (mayS L [44] s).bind fun b s => if b = true then callL L j nm (c ++ [t.text]) (l ++ [x]) s else callE L nm (c ++ [t.text]) (l ++ [x]) s else .out
theorem callL_le {L : List Sgn} {f j : Nat} (hj : j ≤ f) (nm : Tx) (c : List Tx) (l : List Ex) (s : PS) : (callL L (j + 1) nm c l s).le (callW L f j nm c l s) := by
  have h1 := (monE L j f hj).expr
  unfold callL callW callE
  repeat' with_reducible (first | exact h1 _ | exact PR.le.refl _ | refine PR.le.bind ?_ (fun _ _ => ?_) | refine PR.le.ite ?_ ?_)
section
variable {L : List Sgn} {s : PS} {cl : CallFn} {f : Nat} (hL : L.length < 1000000) (F : FamS L cl f)
def caM (L : List Sgn) (s : PS) (nm : Tx) (c : List Tx) (l : List Ex) (v1 v2 : Nat) : List Ent := pM L s ++ [⟨300, 1, bxS0⟩, ⟨350, 1, .box [.d (.int .i64 9), .d (.str nm), .d (.int .i64 0), .d (.int .i64 0), .d (.str []), .d (.str []), .lit (.slice none 0 0), .d (.int .i64 0), .d (.int .i64 0), .d (.int .i64 0), .d (.str []), .d (.str []), .lit (.slice none 0 0), .d (.int .i64 0), .vec 351 v1 0 l.length, .lit (.slice none 0 0), .vec 352 v2 0 c.length, .lit (.slice none 0 0), .d (.int .i64 0)]⟩, ⟨351, v1, .vec 6 (l.map exD)⟩, ⟨352, v2, .vec 1 (c.map .str)⟩]
include hL F
theorem call_loop (nm : Tx) (k : Kt) (R : Sm → PS → Ans) (B : Er → PS → Ans)
    (hp : ∀ env e s r, k (.panic 67 (fD e)) ⟨34, gl0, env, pM L s ++ r⟩ = B e s)
    (hx : ∀ c l s v1 v2, c.length ≤ 100000 → l.length ≤ 100000 → Le ((callE L nm c l s).el R B) (k (.exit 0) ⟨34, gl0, [(0, true, .ptr 0 0 0), (4, true, .ptr 300 1 0), (5, true, .ptr 350 1 0), (30, true, .d (.bool true))], caM L s nm c l v1 v2⟩)) :
    ∀ (j : Nat), j ≤ f → ∀ (c : List Tx) (l : List Ex) (s : PS) (v1 v2 : Nat) (X : Env), c.length ≤ 100000 → l.length ≤ 100000 → (X = [(9, true, .d (.bool false))] ∨ X = [(30, true, .d (.bool false))]) →
    Le ((callL L j nm c l s).el R B) (denK (ctx.over cl) 149 (.loop (Code.at (codeOf Tryd.f149) [1, 1, 1, 0, 0, 0])) ⟨34, gl0, [(0, true, .ptr 0 0 0), (4, true, .ptr 300 1 0), (5, true, .ptr 350 1 0)] ++ X, caM L s nm c l v1 v2⟩ k)
  | 0, hj, c, l, s, v1, v2, X, hc, hl, hX => by unfold callL; exact Le.none
  | j + 1, hj, c, l, s, v1, v2, X, hc, hl, hX => by
    have ih := fun x b s v1 v2 h1 h2 => call_loop nm k R B hp hx j (by omega) (c ++ [x]) (l ++ [b]) s v1 v2 _ h1 h2 (.inr rfl)
    have e1 := F.E.out 77 (by decide)
    have e2 := F.E.out 49 (by decide)
    have e3 := F.E.out 50 (by decide)
    have h1 := F.E.expr
    simp only [pCB, pC2B, badKB] at h1
    refine Le.trans (callL_le (f := f) (show j ≤ f by omega) nm c l s).el ?_
    rw [denK_loop]
    unfold callW
    simp only [el_bind]
    have h3 : (l.length + 1) * 80 ≤ 140737488355328 ∧ l.length ≤ 4611686018427387903 := by omega
    have h4 : (c.length + 1) * 16 ≤ 140737488355328 ∧ c.length ≤ 4611686018427387903 := by omega
    by_cases hlen : c.length < 100000 ∧ l.length < 100000
    · have hx := fun x b s v1 v2 => hx (c ++ [x]) (l ++ [b]) s v1 v2 (by simp; omega) (by simp; omega)
      have ih := fun x b s v1 v2 => ih x b s v1 v2 (by simp; omega) (by simp; omega)
      simp [Tryd.f149, pM, caM, bxS0, exD_A] at hp ih hx ⊢
      rcases hX with rfl | rfl
      all_goals
        simp [may_r hL, must_r hL, kind_r hL, hp, hlen, h1, h3, h4, e1, e2, e3, pC2B, badKB, drwK_end, range02, exD_A]
        refine Le.el (fun x s => Le.el (fun _ s => Le.el (fun b s => Le.el (fun m s => Le.ite (fun hb => ?_) fun hb => ?_) fun _ _ => Le.refl _) fun _ _ => Le.refl _) fun _ _ => Le.refl _) fun _ _ => Le.refl _
        · exact ih _ _ _ _ _
        · exact hx _ _ _ _ _
    · simp only [if_neg hlen]
      simp [Tryd.f149, pM, caM, bxS0, exD_A] at hp ⊢
      rcases hX with rfl | rfl
      all_goals
        simp [may_r hL, must_r hL, kind_r hL, hp, h1, h3, h4, e1, e2, e3, pC2B, badKB, drwK_end, range02, exD_A]
        exact Le.el (fun x s => Le.el (fun _ s => Le.el (fun b s => Le.none) fun _ _ => Le.refl _) fun _ _ => Le.refl _) fun _ _ => Le.refl _
theorem call_f (nm : Tx) : Le ((callS L (f + 1) nm s).el (fun x s => some (.ret (.d (smD x)), pC2 L s)) (badK L)) (callT ctx 149 [.ptr 0 0 0, .d (.str nm)] (pC L s)) := by
  have hl := fun k R B hp hx s v1 v2 => call_loop hL F nm k R B hp hx f (Nat.le_refl f) [] [] s v1 v2 _ (by simp) (by simp) (.inl rfl)
  have e1 := F.E.out 77 (by decide)
  have e2 := F.E.out 49 (by decide)
  refine Le.trans ?_ (ov149 F.E.le (by simp [pC]))
  unfold callS
  simp only [el_bind]
  simp [Tryd.f149, pM, caM, bxS0] at hl ⊢
  simp [pCB, pC2B, badKB, drwK_end, range02, may_r hL, e1, smD_A, ex0]
  refine Le.el (fun b s => Le.ite (fun hb => Le.refl _) fun hb => ?_) fun _ _ => Le.refl _
  refine hl _ _ _ ?_ ?_ _ _ _
  · intro env e s r
    simp
  · intro c l s v1 v2 hc hl
    apply Le.of_eq
    simp [callE, must_r hL, e2, pC2B, badKB, drwK_end, range02, smD_A, ex0]
end
end Go.Am
end
section
namespace Go.Am
open Go Go.Proofs
variable [Inhabited Mx2]
set_option maxRecDepth 20000
/-- What stands behind the last block of a CASE. -/
def caseE (L : List Sgn) (f : Nat) (v : Ex) (c : List (List Int)) (l : List (List Sm)) (s : PS) : PM Sm :=
  (mayS L [69, 76, 83, 69] s).bind fun m s => (if m = true then (blockS L f [[69, 78, 68, 95, 67, 65, 83, 69]] s).bind fun z s => .ok (l ++ [z]) s else .ok l s).bind fun l s => (mustS L [69, 78, 68, 95, 67, 65, 83, 69] s).bind fun _ s => .ok (.mk 3 [] ex0 v [] c [] l 0) s
def casesW (L : List Sgn) (f j : Nat) (v : Ex) (c : List (List Int)) (l : List (List Sm)) (s : PS) : PM Sm :=
  (labelledS L s).bind fun b s =>
    if b = true then (labelsS L f [] s).bind fun x s => (caseL L f [] s).bind fun b s => if c.length < 100000 ∧ l.length < 100000 then casesL L j v (c ++ [x]) (l ++ [b]) s else .out
    else caseE L f v c l s
theorem casesL_le {L : List Sgn} {f j : Nat} (hj : j ≤ f) (v : Ex) (c : List (List Int)) (l : List (List Sm)) (s : PS) : (casesL L (j + 1) v c l s).le (casesW L f j v c l s) := by
  have h1 := (monS L j f hj).caseL
  have h2 := (monS L j f hj).block
  have h3 := fun l s => monLabels L j f l s hj
  unfold casesL casesW caseE
  by_cases hl : l.length < 100000
  · simp only [if_pos hl]
    repeat' with_reducible (first | exact h1 _ _ | exact h2 _ _ | exact h3 _ _ | exact PR.le.refl _ | refine PR.le.bind ?_ (fun _ _ => ?_) | refine PR.le.ite ?_ ?_)
  · simp only [if_neg hl]
    refine PR.le.bind (PR.le.refl _) fun b s => PR.le.ite (PR.le.bind (h3 _ _) fun x s => PR.le.bind (h1 _ _) fun b s => PR.le.ite (PR.le.refl _) (PR.le.refl _)) (PR.le.bind (PR.le.refl _) fun m s => PR.le.bind (PR.le.ite ?_ (PR.le.refl _)) fun _ _ => PR.le.refl _)
    cases hb : blockS L j [[69, 78, 68, 95, 67, 65, 83, 69]] s with
    | ok a s => exact PR.le.out _
    | out => exact PR.le.out _
    | bad e s1 =>
      rcases h2 [[69, 78, 68, 95, 67, 65, 83, 69]] s with h | h
      · rw [hb] at h; cases h
      · rw [← h, hb]; exact PR.le.refl _
def caseW (L : List Sgn) (f j : Nat) (l : List Sm) (s : PS) : PM (List Sm) := (endCaseS L s).bind fun b s => if b = true then .ok l s else (stmtS L f s).bind fun x s => if l.length < 100000 then caseL L j (l ++ [x]) s else .out
theorem caseL_le {L : List Sgn} {f j : Nat} (hj : j ≤ f) (l : List Sm) (s : PS) : (caseL L (j + 1) l s).le (caseW L f j l s) := by
  have h1 := (monS L j f hj).stmt
  unfold caseL caseW
  exact PR.le.bind (PR.le.refl _) fun _ _ => PR.le.ite (PR.le.refl _) (PR.le.bind (h1 _) fun _ _ => PR.le.refl _)
section
variable {L : List Sgn} {s : PS} {cl : CallFn} {f : Nat} (hL : L.length < 1000000) (F : FamS L cl f)
def csM (L : List Sgn) (s : PS) (x : Ex) (c : List (List Int)) (l : List (List Sm)) (v1 v2 v3 : Nat) (c3 : Cont) : List Ent := pM L s ++ [⟨200, 1, bxS0⟩, ⟨250, 1, .box [.d (.int .i64 3), .d (.str []), .d (.int .i64 0), .d (.int .i64 0), .d (.str []), .d (.str []), .lit (.slice none 0 0), .d (.int .i64 0), .d (.int .i64 (exo x)), .d (.int .i64 (exn x)), .d (.str (exa x)), .d (.str (exf x)), .d (.list ((exs x).map exD)), .d (.int .i64 (exl x)), .lit (.slice none 0 0), .vec 251 v1 0 c.length, .lit (.slice none 0 0), .vec 252 v2 0 l.length, .d (.int .i64 0)]⟩, ⟨251, v1, .vec 1 (c.map lbD)⟩, ⟨252, v2, .vec 1 (l.map bkD)⟩, ⟨300, v3, c3⟩]
theorem endCase_bind {β : Type} (k : Bool → PS → PM β) (s : PS) : (endCaseS L s).bind k = (labelledS L s).bind fun b s => if b = true then k true s else (isS L [69, 76, 83, 69] s).bind fun b s => if b = true then k true s else (isS L [69, 78, 68, 95, 67, 65, 83, 69] s).bind k := by
  unfold endCaseS
  cases labelledS L s with
  | out => rfl
  | bad e s => rfl
  | ok b s =>
    simp only [bind_ok]
    cases b with
    | true => rfl
    | false =>
      simp only [Bool.false_eq_true, if_false]
      cases isS L [69, 76, 83, 69] s with
      | out => rfl
      | bad e s => rfl
      | ok b s => cases b <;> rfl
include hL F
theorem case_loop (x : Ex) (c : List (List Int)) (l0 : List (List Sm)) (v1 v2 : Nat) (k : Kt) (R : List Sm → PS → Ans) (B : Er → PS → Ans)
    (hp : ∀ env e s r, k (.panic 67 (fD e)) ⟨56, gl0, env, pM L s ++ r⟩ = B e s)
    (hx : ∀ l s v, l.length ≤ 100000 → Le (R l s) (k (.exit 2) ⟨56, gl0, [(0, true, .ptr 0 0 0), (2, true, .ptr 200 1 0), (3, true, .ptr 250 1 0), (4, true, .d (.list (l.map smD))), (31, true, .d (.bool false))], csM L s x c l0 v1 v2 v .dead⟩)) :
    ∀ (j : Nat), j ≤ f → ∀ (l : List Sm) (s : PS) (v : Nat), l.length ≤ 100000 →
    Le ((caseL L j l s).el R B) (denK (ctx.over cl) 146 (.loop (Code.at (codeOf Tryd.f146) [1, 1, 1, 0, 0, 0, 1, 0, 1, 1, 0, 0, 0])) ⟨56, gl0, [(0, true, .ptr 0 0 0), (2, true, .ptr 200 1 0), (3, true, .ptr 250 1 0), (4, true, .vec 300 v 0 l.length)], csM L s x c l0 v1 v2 v (.vec 19 (l.map smD))⟩ k)
  | 0, hj, l, s, v, hl => by unfold caseL; exact Le.none
  | j + 1, hj, l, s, v, hl => by
    have ih := fun y s v h => case_loop x c l0 v1 v2 k R B hp hx j (by omega) (l ++ [y]) s v h
    have e1 := F.E.out 162 (by decide)
    have e2 := F.E.out 83 (by decide)
    have h1 := F.stmt
    simp only [pCB, pC2B, badKB] at h1
    refine Le.trans (caseL_le (f := f) (show j ≤ f by omega) l s).el ?_
    unfold caseW
    rw [endCase_bind]
    rw [denK_loop]
    simp only [el_bind]
    have h3 : (l.length + 1) * 288 ≤ 140737488355328 ∧ l.length ≤ 4611686018427387903 := by omega
    have hx := fun s v => hx l s v hl
    by_cases hlen : l.length < 100000
    · have ih := fun y s v => ih y s v (by simp; omega)
      simp [Tryd.f146, pM, csM, bxS0, exD_A, smD_A] at hp ih hx ⊢
      simp [labelled_r hL, is_r, hp, hlen, h1, h3, e1, e2, pC2B, badKB, drwK_end, range02, exD_A, smD_A]
      refine Le.el (fun b s => Le.ite (fun hb => hx _ _) fun hb => Le.el (fun b s => Le.ite (fun hb => hx _ _) fun hb => Le.el (fun b s => Le.ite (fun hb => hx _ _) fun hb => Le.el (fun y s => ?_) fun _ _ => Le.refl _) fun _ _ => Le.refl _) fun _ _ => Le.refl _) fun _ _ => Le.refl _
      exact ih _ _ _
    · simp only [if_neg hlen]
      simp [Tryd.f146, pM, csM, bxS0, exD_A, smD_A] at hp hx ⊢
      simp [labelled_r hL, is_r, hp, h1, h3, e1, e2, pC2B, badKB, drwK_end, range02, exD_A, smD_A]
      refine Le.el (fun b s => Le.ite (fun hb => hx _ _) fun hb => Le.el (fun b s => Le.ite (fun hb => hx _ _) fun hb => Le.el (fun b s => Le.ite (fun hb => hx _ _) fun hb => Le.el (fun y s => ?_) fun _ _ => Le.refl _) fun _ _ => Le.refl _) fun _ _ => Le.refl _) fun _ _ => Le.refl _
      exact Le.none
theorem cases_loop (x : Ex) (k : Kt) (R : Sm → PS → Ans) (B : Er → PS → Ans)
    (hp : ∀ env e s r, k (.panic 67 (fD e)) ⟨56, gl0, env, pM L s ++ r⟩ = B e s)
    (hx : ∀ c l s v1 v2 v3 c3, c.length ≤ 100000 → l.length ≤ 100000 → Le ((caseE L f x c l s).el R B) (k (.exit 0) ⟨56, gl0, [(0, true, .ptr 0 0 0), (2, true, .ptr 200 1 0), (3, true, .ptr 250 1 0), (11, true, .d (.bool false))], csM L s x c l v1 v2 v3 c3⟩)) :
    ∀ (j : Nat), j ≤ f → ∀ (c : List (List Int)) (l : List (List Sm)) (s : PS) (v1 v2 v3 : Nat) (c3 : Cont), c.length ≤ 100000 → l.length ≤ 100000 →
    Le ((casesL L j x c l s).el R B) (denK (ctx.over cl) 146 (.loop (Code.at (codeOf Tryd.f146) [1, 1, 1, 0, 0, 0])) ⟨56, gl0, [(0, true, .ptr 0 0 0), (2, true, .ptr 200 1 0), (3, true, .ptr 250 1 0)], csM L s x c l v1 v2 v3 c3⟩ k)
  | 0, hj, c, l, s, v1, v2, v3, c3, hc, hl => by unfold casesL; exact Le.none
  | j + 1, hj, c, l, s, v1, v2, v3, c3, hc, hl => by
    have ih := fun y b s v1 v2 v3 c3 h1 h2 => cases_loop x k R B hp hx j (by omega) (c ++ [y]) (l ++ [b]) s v1 v2 v3 c3 h1 h2
    have hcl := fun y v1 v2 k R B hp hx s v => case_loop hL F x (c ++ [y]) l v1 v2 k R B hp hx f (Nat.le_refl f) [] s v (by simp)
    have e1 := F.E.out 162 (by decide)
    have e2 := F.E.out 163 (by decide)
    refine Le.trans (casesL_le (f := f) (show j ≤ f by omega) x c l s).el ?_
    unfold casesW
    rw [denK_loop]
    have h3 : (c.length + 1) * 24 ≤ 140737488355328 ∧ c.length ≤ 4611686018427387903 := by omega
    have h4 : (l.length + 1) * 24 ≤ 140737488355328 ∧ l.length ≤ 4611686018427387903 := by omega
    have hlr := labelled_r (L := L) (s := s) hL
    cases hls : labelledS L s with
    | out => exact Le.none
    | bad e s1 =>
      apply Le.of_eq
      simp [hls, badKB] at hlr
      simp [Tryd.f146, pM, csM, bxS0] at hp ⊢
      simp [hlr, hp, e1]
    | ok b s1 =>
      simp only [bind_ok]
      simp [hls, pC2B] at hlr
      cases b with
      | false =>
        have hx := hx c l s1 v1 v2 v3 c3 hc hl
        simp [Tryd.f146, pM, csM, bxS0] at hx ⊢
        simpa [hlr, e1] using hx
      | true =>
        have hlb := labels_le hL f s1
        simp only [if_true]
        cases hbs : labelsS L f [] s1 with
        | out => exact Le.none
        | bad e s2 =>
          apply Le.of_eq
          simp only [hbs, el_bad, pCB, badKB] at hlb
          have hlb := hlb _ rfl
          simp [Tryd.f146, pM, csM, bxS0] at hp ⊢
          simp [hlr, hlb, hp, e1, e2, drwK_end, range02]
        | ok y s2 =>
          simp only [hbs, el_ok, pCB, pC2B] at hlb
          have hlb := hlb _ rfl
          have ih := ih y
          simp only [bind_ok, el_bind]
          simp [Tryd.f146, pM, csM, bxS0, bkD] at hp ih hcl ⊢
          simp [hlr, hlb, e1, e2, drwK_end, range02, h3, h4]
          refine hcl _ _ _ _ _ _ ?_ ?_ _ _
          · intro env e s r
            simp [hp]
          · intro b s v hb
            by_cases hlen : c.length < 100000 ∧ l.length < 100000
            · have ih := fun s v1 v2 v3 c3 => ih b s v1 v2 v3 c3 (by omega) (by omega)
              simp [hlen, h4, drwK_end, bkD]
              simpa using ih _ _ _ _ _
            · rw [if_neg hlen]; exact Le.none
theorem cases_f : Le ((casesS L (f + 1) s).el (fun x s => some (.ret (.d (smD x)), pC2 L s)) (badK L)) (callT ctx 146 [.ptr 0 0 0] (pC L s)) := by
  have hl := fun x k R B hp hx s v1 v2 v3 c3 => cases_loop hL F x k R B hp hx f (Nat.le_refl f) [] [] s v1 v2 v3 c3 (by simp) (by simp)
  have e1 := F.E.out 77 (by decide)
  have e2 := F.E.out 49 (by decide)
  have h1 := F.E.expr
  have h2 := fun s => F.block [[69, 78, 68, 95, 67, 65, 83, 69]] s (by decide)
  simp only [pCB, pC2B, badKB] at h1 h2
  refine Le.trans ?_ (ov146 F.E.le (by simp [pC]))
  unfold casesS
  simp only [el_bind]
  simp at h2
  simp [Tryd.f146, pM, csM, bxS0] at hl ⊢
  simp [pCB, pC2B, badKB, drwK_end, range02, must_r hL, e2, h1, exD_A]
  refine Le.el (fun x s => Le.el (fun _ s => ?_) fun _ _ => Le.refl _) fun _ _ => Le.refl _
  refine hl _ _ _ _ ?_ ?_ _ _ _ _ _
  · intro env e s r
    simp
  · intro c l s v1 v2 v3 c3 hc hl
    have h3 : (l.length + 1) * 24 ≤ 140737488355328 ∧ l.length ≤ 4611686018427387903 := by omega
    apply Le.of_eq
    simp [caseE, may_r hL, must_r hL, e1, e2, h2, h3, pC2B, badKB, drwK_end, range02, smD_A, ex0, bkD]
end
end Go.Am
end
section
namespace Go.Am
open Go Go.Proofs
variable [Inhabited Mx2]
set_option maxRecDepth 20000
def retE (L : List Sgn) (x : Ex) (s : PS) : Ans := some (.ret (.d (exD x)), pC2 L s)
def retS (L : List Sgn) (x : Sm) (s : PS) : Ans := some (.ret (.d (smD x)), pC2 L s)
def retB (L : List Sgn) (l : List Sm) (s : PS) : Ans := some (.ret (.d (.list (l.map smD))), pC2 L s)
/-- The calls of the parser's functions that call one another. -/
inductive TA where
  | level (n : Nat) (s : PS)
  | unary (s : PS)
  | factor (s : PS)
  | index (s : PS)
  | expr (s : PS)
  | block (ws : List Tx) (s : PS)
  | stmt (s : PS)
  | opn (s : PS)
  | branches (s : PS)
  | cases (s : PS)
  | counted (s : PS)
  | call (nm : Tx) (s : PS)
def TA.fid : TA → FuncId
  | .level .. => 164
  | .unary .. => 175
  | .factor .. => 181
  | .index .. => 150
  | .expr .. => 148
  | .block .. => 52
  | .stmt .. => 84
  | .opn .. => 117
  | .branches .. => 145
  | .cases .. => 146
  | .counted .. => 147
  | .call .. => 149
def TA.args : TA → List AV
  | .level n _ => [.ptr 0 0 0, .d (.int .i64 n)]
  | .block ws _ => [.ptr 0 0 0, .d (.list (ws.map .str))]
  | .call nm _ => [.ptr 0 0 0, .d (.str nm)]
  | _ => [.ptr 0 0 0]
def TA.st : TA → PS
  | .level _ s => s
  | .unary s => s
  | .factor s => s
  | .index s => s
  | .expr s => s
  | .block _ s => s
  | .stmt s => s
  | .opn s => s
  | .branches s => s
  | .cases s => s
  | .counted s => s
  | .call _ s => s
def TA.ans (L : List Sgn) (f : Nat) : TA → Ans
  | .level n s => (levelS L f n s).el (retE L) (badK L)
  | .unary s => (unaryS L f s).el (retE L) (badK L)
  | .factor s => (factorS L f s).el (retE L) (badK L)
  | .index s => (indexS L f s).el (retE L) (badK L)
  | .expr s => (exprS L f s).el (retE L) (badK L)
  | .block ws s => if ws.length < 1000 then (blockS L f ws s).el (retB L) (badK L) else none
  | .stmt s => (stmtS L f s).el (retS L) (badK L)
  | .opn s => (openS L f s).el (retS L) (badK L)
  | .branches s => (branchesS L f s).el (retS L) (badK L)
  | .cases s => (casesS L f s).el (retS L) (badK L)
  | .counted s => (countedS L f s).el (retS L) (badK L)
  | .call nm s => (callS L f nm s).el (retS L) (badK L)
theorem vrDs_inj : ∀ {l l' : List Vr}, l.map vrD = l'.map vrD → l = l'
  | [], [], _ => rfl
  | [], _ :: _, h => by simp at h
  | _ :: _, [], h => by simp at h
  | a :: l, b :: l', h => by
    simp only [List.map_cons, List.cons.injEq] at h
    rw [vrD_inj h.1, vrDs_inj h.2]
theorem strs_inj : ∀ {l l' : List Tx}, l.map D.str = l'.map D.str → l = l'
  | [], [], _ => rfl
  | [], _ :: _, h => by simp at h
  | _ :: _, [], h => by simp at h
  | a :: l, b :: l', h => by
    simp only [List.map_cons, List.cons.injEq, D.str.injEq] at h
    rw [h.1, strs_inj h.2]
theorem pC_inj {L : List Sgn} {s s' : PS} (h : pC L s = pC L s') : s = s' := by
  simp only [pC, pB, List.cons.injEq, Cont.box.injEq, Cont.vec.injEq, AV.d.injEq, D.int.injEq, true_and, and_true] at h
  obtain ⟨⟨h1, h2, _⟩, h3⟩ := h
  cases s; cases s'
  simp only at h1 h2 h3
  have h3 := vrDs_inj h3
  have h1 := Int.ofNat.inj h1
  subst h1 h2 h3
  rfl
theorem ans_inj {L : List Sgn} : ∀ (t t' : TA), t.fid = t'.fid → t.args = t'.args → t.st = t'.st → t = t'
  | t, t', h1, h2, h3 => by
    cases t <;> cases t' <;> simp [TA.fid] at h1 <;> simp only [TA.st] at h3 <;> subst h3 <;> try rfl
    · simp only [TA.args, List.cons.injEq, AV.d.injEq, D.int.injEq, true_and, and_true] at h2
      obtain rfl := Int.ofNat.inj h2; rfl
    · simp only [TA.args, List.cons.injEq, AV.d.injEq, D.list.injEq, true_and, and_true] at h2
      rw [strs_inj h2]
    · simp [TA.args] at h2
      subst h2; rfl
theorem parser_le {L : List Sgn} (hL : L.length < 1000000) (f : Nat) (t : TA) : Le (t.ans L f) (callT ctx t.fid t.args (pC L t.st)) := by
  intro r hr
  refine recur (X := ctx) TA.fid TA.args (fun t => pC L t.st) (fun f t => t.ans L f) ?_ ?_ ?_ f t r hr
  · intro t
    cases t <;> simp [TA.ans, levelS, unaryS, factorS, indexS, exprS, blockS, stmtS, openS, branchesS, casesS, countedS, callS]
  · intro t t' h1 h2 h3 f
    rw [ans_inj (L := L) t t' h1 h2 (pC_inj h3)]
  · intro f cl h1 h2 h3 t r hr
    have E : FamE L cl f := by
      refine ⟨h1, ?_, fun n s => h2 (.level n s), fun s => h2 (.unary s), fun s => h2 (.factor s), fun s => h2 (.index s), fun s => h2 (.expr s)⟩
      intro g hg
      funext a c
      refine h3 g (fun t => ?_) a c
      intro he
      subst he
      revert hg
      cases t <;> simp only [TA.fid] <;> decide
    have F : FamS L cl f := by
      refine ⟨E, fun ws s hw => ?_, fun s => h2 (.stmt s), fun s => h2 (.opn s), fun s => h2 (.branches s), fun s => h2 (.cases s), fun s => h2 (.counted s), fun nm s => h2 (.call nm s)⟩
      have := h2 (.block ws s)
      simp only [TA.ans, if_pos hw] at this
      exact this
    cases t with
    | level n s => exact level_f hL E n r hr
    | unary s => exact unary_f hL E r hr
    | factor s => exact factor_f hL E r hr
    | index s => exact index_f hL E r hr
    | expr s => exact expr_f hL E r hr
    | block ws s =>
      by_cases hw : ws.length < 1000
      · simp only [TA.ans, if_pos hw] at hr
        exact block_f hL F ws hw r hr
      · simp only [TA.ans, if_neg hw] at hr
        cases hr
    | stmt s => exact stmt_f hL F r hr
    | opn s => exact open_f hL F r hr
    | branches s => exact branches_f hL F r hr
    | cases s => exact cases_f hL F r hr
    | counted s => exact counted_f hL F r hr
    | call nm s => exact call_f hL F nm r hr
end Go.Am
end
section
namespace Go.Am
open Go
section
variable {α β : Type}
/-- What a run of the parser gives, if all is well. -/
def Tr (r : PM α) (Q : α → PS → Prop) : Prop := match r with
  | .ok a s => Q a s
  | .bad e _ => 1 ≤ e.line ∧ e.e ≠ 0
  | .out => False
theorem Tr.bind {r : PM α} {k : α → PS → PM β} {Q : α → PS → Prop} {Q' : β → PS → Prop} (h : Tr r Q) (hk : ∀ a s, Q a s → Tr (k a s) Q') : Tr (r.bind k) Q' := by
  cases r with
  | ok a s => exact hk a s h
  | bad e s => exact h
  | out => exact h.elim
theorem Tr.mono {r : PM α} {Q Q' : α → PS → Prop} (h : Tr r Q) (hk : ∀ a s, Q a s → Q' a s) : Tr r Q' := by
  cases r with
  | ok a s => exact hk a s h
  | bad e s => exact h
  | out => exact h.elim
theorem Tr.iff {c : Prop} [Decidable c] {a b : PM α} {Q : α → PS → Prop} (h : c → Tr a Q) (h' : ¬ c → Tr b Q) : Tr (if c then a else b) Q := by
  split
  · exact h ‹_›
  · exact h' ‹_›
theorem Tr.ok {a : α} {s : PS} {Q : α → PS → Prop} (h : Q a s) : Tr (.ok a s) Q := h
end
/-- Signs as Lex gives them: the last one, and it alone, is the end. -/
structure OkL (L : List Sgn) : Prop where
  ends : ∀ (i : Nat) (t : Sgn), L[i]? = some t → (t.kind = 0 ↔ i + 1 = L.length)
  line : ∀ (i : Nat) (t : Sgn), L[i]? = some t → 1 ≤ t.line
  len : L.length ≤ 49999
structure Iv (L : List Sgn) (s : PS) : Prop where
  at_ : s.at_ < L.length
  d0 : 0 ≤ s.deep
  d1 : s.deep ≤ 32
  vs : s.vars.length ≤ 64
/-- A step on: nothing but the place has changed. -/
structure Fw (L : List Sgn) (s s' : PS) : Prop where
  iv : Iv L s'
  deep : s'.deep = s.deep
  vars : s'.vars = s.vars
  at_ : s.at_ ≤ s'.at_
structure Fs (L : List Sgn) (s s' : PS) : Prop extends Fw L s s' where
  lt : s.at_ < s'.at_
theorem Fw.refl {L s} (h : Iv L s) : Fw L s s := ⟨h, rfl, rfl, Nat.le_refl _⟩
theorem Fw.trans {L s s1 s2} (h : Fw L s s1) (k : Fw L s1 s2) : Fw L s s2 := ⟨k.iv, k.deep.trans h.deep, k.vars.trans h.vars, Nat.le_trans h.at_ k.at_⟩
theorem Fs.trans {L s s1 s2} (h : Fs L s s1) (k : Fw L s1 s2) : Fs L s s2 := ⟨h.toFw.trans k, Nat.lt_of_lt_of_le h.lt k.at_⟩
theorem Fw.transS {L s s1 s2} (h : Fw L s s1) (k : Fs L s1 s2) : Fs L s s2 := ⟨h.trans k.toFw, Nat.lt_of_le_of_lt h.at_ k.lt⟩
section
variable {L : List Sgn} (hL : OkL L)
include hL
theorem now_tr {s : PS} (h : Iv L s) : Tr (nowS L s) fun t s' => s' = s ∧ L[s.at_]? = some t := by
  have := h.at_
  unfold nowS
  rw [List.getElem?_eq_getElem this]
  exact ⟨rfl, rfl⟩
theorem fail_tr {α : Type} {Q : α → PS → Prop} {e : Int} {t : Sgn} {s : PS} {i : Nat} (he : e ≠ 0) (ht : L[i]? = some t) : Tr (failS e t s) Q := ⟨hL.line i t ht, he⟩
theorem is_tr {s : PS} {w : Tx} (h : Iv L s) : Tr (isS L w s) fun b s' => s' = s ∧ ∃ t : Sgn, L[s.at_]? = some t ∧ b = isW t w := by
  unfold isS
  refine (now_tr hL h).bind fun t s' ⟨h1, h2⟩ => ?_
  exact ⟨h1, t, h2, rfl⟩
theorem any_tr {s : PS} (h : Iv L s) : ∀ ws : List Tx, Tr (anyS L ws s) fun b s' => s' = s ∧ (b = true → ∃ (t : Sgn) (w : Tx), L[s.at_]? = some t ∧ w ∈ ws ∧ isW t w = true)
  | [] => ⟨rfl, by simp⟩
  | w :: r => by
    unfold anyS
    refine (is_tr hL h).bind fun b s' ⟨h1, t, h2, h3⟩ => ?_
    subst h1
    refine Tr.iff (fun hb => ⟨rfl, fun _ => ⟨t, w, h2, by simp, by rw [← h3]; exact hb⟩⟩) fun hb => ?_
    exact (any_tr h r).mono fun b s' ⟨h1, h2⟩ => ⟨h1, fun hb => by obtain ⟨t, w', a, b, c⟩ := h2 hb; exact ⟨t, w', a, by simp [b], c⟩⟩
theorem take_tr {s : PS} (h : Iv L s) : Tr (takeS L s) fun t s' => L[s.at_]? = some t ∧ Fw L s s' ∧ (t.kind ≠ 0 → s.at_ < s'.at_) := by
  unfold takeS
  refine (now_tr hL h).bind fun t s' ⟨h1, h2⟩ => ?_
  subst h1
  refine ⟨h2, ?_⟩
  have he := hL.ends _ _ h2
  have hl := h.at_
  split
  · rename_i h0
    exact ⟨.refl h, fun hk => absurd h0 hk⟩
  · rename_i h0
    have hne : ¬ (s'.at_ + 1 = L.length) := fun e => h0 (he.2 e)
    exact ⟨⟨⟨by simp only; omega, h.d0, h.d1, h.vs⟩, rfl, rfl, by simp⟩, fun _ => by simp⟩
theorem isW_kind {t : Sgn} {w : Tx} (h : isW t w = true) : t.kind ≠ 0 := by
  simp [isW] at h
  omega
theorem may_tr {s : PS} {w : Tx} (h : Iv L s) : Tr (mayS L w s) fun b s' => (b = true → Fs L s s' ∧ ∃ t : Sgn, L[s.at_]? = some t ∧ isW t w = true) ∧ (b = false → s' = s) := by
  unfold mayS
  refine (is_tr hL h).bind fun b s' ⟨h1, t, h2, h3⟩ => ?_
  subst h1
  refine Tr.iff (fun hb => ?_) fun hb => ⟨(fun h => nomatch h), fun _ => rfl⟩
  refine (take_tr hL h).bind fun u s1 ⟨k1, k2, k3⟩ => ?_
  rw [h2] at k1
  cases k1
  refine ⟨fun _ => ⟨⟨k2, k3 (isW_kind hL (by rw [← h3]; exact hb))⟩, t, h2, by rw [← h3]; exact hb⟩, (fun h => nomatch h)⟩
theorem must_tr {s : PS} {w : Tx} (h : Iv L s) : Tr (mustS L w s) fun _ s' => Fs L s s' ∧ ∃ t : Sgn, L[s.at_]? = some t ∧ isW t w = true := by
  unfold mustS
  refine (may_tr hL h).bind fun b s' ⟨h1, h2⟩ => ?_
  refine Tr.iff (fun hb => h1 hb) fun hb => ?_
  have := h2 (by simpa using hb)
  subst this
  exact (now_tr hL h).bind fun t s1 ⟨_, k⟩ => fail_tr hL (by decide) k
theorem kind_tr {s : PS} {k : Int} (h : Iv L s) : Tr (kindS L k s) fun t s' => Fw L s s' ∧ L[s.at_]? = some t ∧ t.kind = k ∧ (k ≠ 0 → s.at_ < s'.at_) := by
  unfold kindS
  refine (now_tr hL h).bind fun t s' ⟨h1, h2⟩ => ?_
  subst h1
  refine Tr.iff (fun hb => ?_) fun hb => ?_
  · refine (take_tr hL h).mono fun u s1 ⟨k1, k2, k3⟩ => ?_
    rw [h2] at k1
    cases k1
    exact ⟨k2, h2, hb, fun hk => k3 (by rw [hb]; exact hk)⟩
  · exact (now_tr hL h).bind fun t s1 ⟨_, k⟩ => fail_tr hL (by decide) k
theorem kind_trS {s : PS} {k : Int} (hk : k ≠ 0) (h : Iv L s) : Tr (kindS L k s) fun t s' => Fs L s s' ∧ L[s.at_]? = some t ∧ t.kind = k :=
  (kind_tr hL h).mono fun _ _ ⟨a, b, c, d⟩ => ⟨⟨a, d hk⟩, b, c⟩
/-- One deeper. -/
structure Dn (L : List Sgn) (s s' : PS) : Prop where
  iv : Iv L s'
  deep : s'.deep = s.deep + 1
  vars : s'.vars = s.vars
  at_ : s'.at_ = s.at_
omit hL in
theorem wr_small {n : Int} (h : -100 ≤ n) (h' : n ≤ 100000000) : wr n = n := IntWalk.i64_in _ (by omega)
theorem in_tr {s : PS} (h : Iv L s) : Tr (inS L s) fun _ s' => Dn L s s' := by
  have h0 := h.d0
  have h1 := h.d1
  unfold inS
  rw [wr_small (by omega) (by omega)]
  refine Tr.iff (fun hb => ?_) fun hb => ?_
  · unfold nowS
    rw [List.getElem?_eq_getElem h.at_]
    exact fail_tr hL (by decide) (List.getElem?_eq_getElem h.at_)
  · exact ⟨⟨h.at_, by simp only; omega, by simp only; omega, h.vs⟩, rfl, rfl, rfl⟩
/-- What is between a step down and a step up. -/
theorem up_tr {α : Type} {s s1 s2 : PS} (h : Iv L s) (hd : Dn L s s1) (hf : Fw L s1 s2) {k : PS → PM α} {Q : α → PS → Prop} (hk : ∀ s', Fw L s s' → s'.at_ = s2.at_ → Tr (k s') Q) : Tr ((outS s2).bind fun _ s => k s) Q := by
  have h0 := h.d0
  have h1 := h.d1
  have e1 := hd.deep
  have e2 := hf.deep
  have e3 : s2.deep - 1 = s.deep := by omega
  unfold outS
  rw [e3, wr_small (by omega) (by omega)]
  exact hk _ ⟨⟨hf.iv.at_, h0, h1, hf.iv.vs⟩, rfl, hf.vars.trans hd.vars, by have := hf.at_; have := hd.at_; simp only; omega⟩ rfl
theorem plain_tr {s : PS} (h : Iv L s) : Tr (plainS L s) fun p s' => (p.2 = true → Fs L s s') ∧ (p.2 = false → s' = s) := by
  unfold plainS
  refine (may_tr hL h).bind fun b s1 ⟨h1, h2⟩ => Tr.iff (fun hb => ?_) fun hb => ?_
  · exact ⟨fun _ => (h1 hb).1, (fun h => nomatch h)⟩
  · have := h2 (by simpa using hb)
    subst this
    refine (may_tr hL h).bind fun b s2 ⟨h1, h2⟩ => Tr.iff (fun hb => ?_) fun hb => ?_
    · exact ⟨fun _ => (h1 hb).1, (fun h => nomatch h)⟩
    · exact ⟨(fun h => nomatch h), fun _ => h2 (by simpa using hb)⟩
theorem array_tr {s : PS} {k : Kd} (h : Iv L s) : Tr (arrayS L k s) fun k' s' => Fs L s s' ∧ k'.at_ = k.at_ := by
  unfold arrayS
  refine (must_tr hL h).bind fun _ s1 ⟨h1, _⟩ => (kind_trS hL (by decide) h1.iv).bind fun lo s2 ⟨h2, _⟩ => (must_tr hL h2.iv).bind fun _ s3 ⟨h3, _⟩ => (kind_trS hL (by decide) h3.iv).bind fun hi s4 ⟨h4, k4, _⟩ => ?_
  refine Tr.iff (fun _ => fail_tr hL (by decide) k4) fun _ => ?_
  refine (must_tr hL h4.iv).bind fun _ s5 ⟨h5, _⟩ => (must_tr hL h5.iv).bind fun _ s6 ⟨h6, _⟩ => (plain_tr hL h6.iv).bind fun p s7 ⟨h7, h7'⟩ => ?_
  have hf : Fs L s s6 := h1.trans (h2.toFw.trans (h3.toFw.trans (h4.toFw.trans (h5.toFw.trans h6.toFw))))
  refine Tr.iff (fun hb => ⟨hf.trans (h7 hb).toFw, rfl⟩) fun hb => ?_
  have := h7' (by simpa using hb)
  subst this
  exact (now_tr hL h6.iv).bind fun t s1 ⟨_, k⟩ => fail_tr hL (by decide) k
theorem typed_tr {s : PS} {kindN : Tx → Int} (h : Iv L s) : Tr (typedS L kindN s) fun k s' => Fs L s s' ∧ ∃ i : Nat, L[i]? = some k.at_ := by
  unfold typedS
  refine (now_tr hL h).bind fun t s1 ⟨e, k1⟩ => ?_
  subst e
  refine (plain_tr hL h).bind fun p s2 ⟨h2, h2'⟩ => Tr.iff (fun hb => ⟨h2 hb, _, k1⟩) fun hb => ?_
  have := h2' (by simpa using hb)
  subst this
  refine (may_tr hL h).bind fun b s3 ⟨h3, h3'⟩ => Tr.iff (fun hb => ?_) fun hb => ?_
  · exact (array_tr hL (h3 hb).1.iv).mono fun k s4 ⟨a, b⟩ => ⟨(h3 hb).1.trans a.toFw, _, by rw [b]; exact k1⟩
  · have := h3' (by simpa using hb)
    subst this
    refine (kind_trS hL (by decide) h).bind fun nm s4 ⟨h4, k4, _⟩ => Tr.iff (fun _ => fail_tr hL (by decide) k4) fun _ => ⟨h4, _, k1⟩
theorem signed_tr {s : PS} (h : Iv L s) : Tr (signedS L s) fun _ s' => Fs L s s' := by
  unfold signedS
  refine (may_tr hL h).bind fun b s1 ⟨h1, h1'⟩ => Tr.iff (fun hb => ?_) fun hb => ?_
  · exact (kind_trS hL (by decide) (h1 hb).1.iv).bind fun t s2 ⟨h2, _⟩ => (h1 hb).1.trans h2.toFw
  · have := h1' (by simpa using hb)
    subst this
    exact (kind_trS hL (by decide) h).bind fun t s2 ⟨h2, _⟩ => h2
theorem value_tr {s : PS} (h : Iv L s) : Tr (valueS L s) fun _ s' => Fs L s s' := by
  unfold valueS
  refine (may_tr hL h).bind fun b s1 ⟨h1, h1'⟩ => Tr.iff (fun hb => (h1 hb).1) fun hb => ?_
  have := h1' (by simpa using hb)
  subst this
  refine (may_tr hL h).bind fun b s1 ⟨h1, h1'⟩ => Tr.iff (fun hb => (h1 hb).1) fun hb => ?_
  have := h1' (by simpa using hb)
  subst this
  exact (signed_tr hL h).bind fun n s2 h2 => h2
theorem names_tr : ∀ (f : Nat) (l : List Sgn) (s : PS), Iv L s → L.length - s.at_ ≤ f → s.vars.length + l.length ≤ 64 → Tr (namesS L f l s) fun l' s' => Fs L s s' ∧ s'.vars.length + l'.length ≤ 64
  | 0, l, s, h, hf, hl => by have := h.at_; omega
  | f + 1, l, s, h, hf, hl => by
    unfold namesS
    refine (kind_trS hL (by decide) h).bind fun t s1 ⟨h1, k1, _⟩ => ?_
    have e1 := h1.vars
    have hlt := h1.lt
    have := h.at_
    refine Tr.iff (fun hb => ?_) fun hb => ?_
    · rw [if_pos (by rw [e1]; omega)]
      exact fail_tr hL (by decide) k1
    · refine (may_tr hL h1.iv).bind fun b s2 ⟨h2, h2'⟩ => Tr.iff (fun hb2 => ?_) fun hb2 => ?_
      · have e2 := (h2 hb2).1.vars
        have l2 := (h2 hb2).1.lt
        exact (names_tr f (l ++ [t]) s2 (h2 hb2).1.iv (by omega) (by rw [e2]; simp; omega)).mono fun l' s3 ⟨a, b⟩ => ⟨h1.trans ((h2 hb2).1.toFw.trans a.toFw), b⟩
      · have := h2' (by simpa using hb2)
        subst this
        exact ⟨h1, by simp; omega⟩
theorem init_tr {s : PS} {k : Kd} (h : Iv L s) {i : Nat} (hk : L[i]? = some k.at_) : Tr (initS L k s) fun _ s' => Fw L s s' := by
  unfold initS
  refine (may_tr hL h).bind fun b s1 ⟨h1, h1'⟩ => Tr.iff (fun hb => ?_) fun hb => ?_
  · exact (value_tr hL (h1 hb).1.iv).bind fun p s2 h2 => Tr.iff (fun _ => fail_tr hL (by decide) hk) fun _ => (h1 hb).1.toFw.trans h2.toFw
  · have := h1' (by simpa using hb)
    subst this
    exact .refl h
/-- A step on that may bring variables. -/
structure Fv (L : List Sgn) (s s' : PS) : Prop where
  iv : Iv L s'
  deep : s'.deep = s.deep
  at_ : s.at_ ≤ s'.at_
theorem declared_tr {s : PS} {kindN : Tx → Int} {f : Nat} {sec : Int} (h : Iv L s) (hf : L.length - s.at_ ≤ f) : Tr (declaredS L kindN f sec s) fun _ s' => Fv L s s' ∧ s.at_ < s'.at_ := by
  unfold declaredS
  refine (names_tr hL f [] s h hf (by simpa using h.vs)).bind fun l s1 ⟨h1, k1⟩ => (must_tr hL h1.iv).bind fun _ s2 ⟨h2, _⟩ => (typed_tr hL h2.iv).bind fun k s3 ⟨h3, i, k3⟩ => (init_tr hL h3.iv k3).bind fun n s4 h4 => (must_tr hL h4.iv).bind fun _ s5 ⟨h5, _⟩ => ?_
  have hf : Fs L s s5 := h1.trans (h2.toFw.trans (h3.toFw.trans (h4.trans h5.toFw)))
  have e : s5.vars = s1.vars := by rw [h5.vars, h4.vars, h3.vars, h2.vars]
  rw [if_pos (by rw [e]; exact k1)]
  exact ⟨⟨⟨hf.iv.at_, hf.iv.d0, hf.iv.d1, by simp only [List.length_append, List.length_map]; rw [e]; exact k1⟩, hf.deep, hf.at_⟩, hf.lt⟩
theorem lines_tr {kindN : Tx → Int} {sec : Int} : ∀ (f : Nat) (s : PS), Iv L s → L.length - s.at_ + 1 ≤ f → Tr (linesS L kindN sec f s) fun _ s' => Fv L s s' ∧ s.at_ < s'.at_
  | 0, s, h, hf => by have := h.at_; omega
  | f + 1, s, h, hf => by
    unfold linesS
    have := h.at_
    refine (may_tr hL h).bind fun b s1 ⟨h1, h1'⟩ => Tr.iff (fun hb => ⟨⟨(h1 hb).1.iv, (h1 hb).1.deep, (h1 hb).1.at_⟩, (h1 hb).1.lt⟩) fun hb => ?_
    have := h1' (by simpa using hb)
    subst this
    refine (declared_tr hL h (by omega)).bind fun _ s2 ⟨h2, h2'⟩ => ?_
    exact (lines_tr f s2 h2.iv (by omega)).mono fun _ s3 ⟨a, b⟩ => ⟨⟨a.iv, a.deep.trans h2.deep, by have := h2.at_; have := a.at_; omega⟩, by omega⟩
theorem section_tr {s : PS} (h : Iv L s) : Tr (sectionS L s) fun o s' => Fw L s s' ∧ (o ≠ none → s.at_ < s'.at_) := by
  unfold sectionS
  refine (may_tr hL h).bind fun b s1 ⟨h1, h1'⟩ => Tr.iff (fun hb => ⟨(h1 hb).1.toFw, fun _ => (h1 hb).1.lt⟩) fun hb => ?_
  have := h1' (by simpa using hb)
  subst this
  refine (may_tr hL h).bind fun b s1 ⟨h1, h1'⟩ => Tr.iff (fun hb => ⟨(h1 hb).1.toFw, fun _ => (h1 hb).1.lt⟩) fun hb => ?_
  have := h1' (by simpa using hb)
  subst this
  refine (may_tr hL h).bind fun b s1 ⟨h1, h1'⟩ => Tr.iff (fun hb => ⟨(h1 hb).1.toFw, fun _ => (h1 hb).1.lt⟩) fun hb => ?_
  have := h1' (by simpa using hb)
  subst this
  exact ⟨.refl h, fun h => absurd rfl h⟩
theorem sections_tr {kindN : Tx → Int} : ∀ (f : Nat) (s : PS), Iv L s → L.length - s.at_ + 2 ≤ f → Tr (sectionsS L kindN f s) fun _ s' => Fv L s s'
  | 0, s, h, hf => by have := h.at_; omega
  | f + 1, s, h, hf => by
    unfold sectionsS
    have := h.at_
    refine (section_tr hL h).bind fun o s1 ⟨h1, h1'⟩ => ?_
    cases o with
    | none => exact ⟨h1.iv, h1.deep, h1.at_⟩
    | some sec =>
      have h2 := h1' (by simp)
      refine (lines_tr hL f s1 h1.iv (by omega)).bind fun _ s2 ⟨h3, h4⟩ => ?_
      exact (sections_tr f s2 h3.iv (by omega)).mono fun _ s3 a => ⟨a.iv, a.deep.trans (h3.deep.trans h1.deep), by have := h3.at_; have := a.at_; omega⟩
theorem labelled_tr {s : PS} (h : Iv L s) : Tr (labelledS L s) fun _ s' => s' = s := by
  unfold labelledS
  refine (now_tr hL h).bind fun t s1 ⟨e, k1⟩ => ?_
  subst e
  exact Tr.iff (fun _ => rfl) fun _ => (is_tr hL h).mono fun b s' ⟨a, _⟩ => a
theorem endCase_tr {s : PS} (h : Iv L s) : Tr (endCaseS L s) fun _ s' => s' = s := by
  unfold endCaseS
  refine (labelled_tr hL h).bind fun t s1 e => ?_
  subst e
  refine Tr.iff (fun _ => rfl) fun _ => (is_tr hL h).bind fun b s2 ⟨e, _⟩ => ?_
  subst e
  exact Tr.iff (fun _ => rfl) fun _ => (is_tr hL h).mono fun b s' ⟨a, _⟩ => a
theorem labels_tr : ∀ (f : Nat) (l : List Int) (s : PS), Iv L s → L.length - s.at_ ≤ f → l.length ≤ 2 * s.at_ → Tr (labelsS L f l s) fun _ s' => Fs L s s'
  | 0, l, s, h, hf, hl => by have := h.at_; omega
  | f + 1, l, s, h, hf, hl => by
    unfold labelsS
    have := h.at_
    have := hL.len
    refine (signed_tr hL h).bind fun lo s1 h1 => (may_tr hL h1.iv).bind fun b s2 ⟨h2, h2'⟩ => ?_
    have h3 : Tr (if b = true then signedS L s2 else .ok lo s2) fun _ s' => Fw L s1 s' := by
      refine Tr.iff (fun hb => (signed_tr hL (h2 hb).1.iv).mono fun _ s' h => (h2 hb).1.toFw.trans h.toFw) fun hb => ?_
      have := h2' (by simpa using hb)
      subst this
      exact Fw.refl h1.iv
    refine h3.bind fun hi s3 h3 => ?_
    have := h1.lt
    have := h3.at_
    have := h3.iv.at_
    rw [if_pos (by omega)]
    refine (may_tr hL h3.iv).bind fun b s4 ⟨h4, h4'⟩ => Tr.iff (fun hb => ?_) fun hb => ?_
    · have h4 := (h4 hb).1
      have := h4.lt
      exact (labels_tr f _ s4 h4.iv (by omega) (by simp; omega)).mono fun _ s' h => h1.trans (h3.trans (h4.toFw.trans h.toFw))
    · have := h4' (by simpa using hb)
      subst this
      exact (must_tr hL h3.iv).bind fun _ s5 ⟨h5, _⟩ => h1.trans (h3.trans h5.toFw)
/-- All of it at once. -/
structure AllE (L : List Sgn) (f : Nat) : Prop where
  level : ∀ (n : Nat) (s : PS), n ≤ 6 → Iv L s → 20 * (L.length - s.at_) + (10 - n) ≤ f → Tr (levelS L f n s) fun _ s' => Fs L s s'
  loop : ∀ (n : Nat) (x : Ex) (s : PS), n < 6 → Iv L s → 20 * (L.length - s.at_) + 1 ≤ f → Tr (levelL L f n x s) fun _ s' => Fw L s s'
  unary : ∀ s : PS, Iv L s → 20 * (L.length - s.at_) + 3 ≤ f → Tr (unaryS L f s) fun _ s' => Fs L s s'
  unop : ∀ (op : Int) (t : Sgn) (s : PS), Iv L s → L[s.at_]? = some t → t.kind ≠ 0 → 20 * (L.length - s.at_) + 2 ≤ f → Tr (unopS L f op t s) fun _ s' => Fs L s s'
  expr : ∀ s : PS, Iv L s → 20 * (L.length - s.at_) + 11 ≤ f → Tr (exprS L f s) fun _ s' => Fs L s s'
  index : ∀ s : PS, Iv L s → 20 * (L.length - s.at_) + 1 ≤ f → Tr (indexS L f s) fun _ s' => Fs L s s'
  factor : ∀ s : PS, Iv L s → 20 * (L.length - s.at_) + 2 ≤ f → Tr (factorS L f s) fun _ s' => Fs L s s'
theorem allE : ∀ f, AllE L f
  | 0 => ⟨fun n s _ h hf => by have := h.at_; omega, fun n x s _ h hf => by have := h.at_; omega, fun s h hf => by have := h.at_; omega, fun op t s h _ _ hf => by have := h.at_; omega, fun s h hf => by have := h.at_; omega, fun s h hf => by have := h.at_; omega, fun s h hf => by have := h.at_; omega⟩
  | f + 1 => by
    have ih := allE f
    refine ⟨?_, ?_, ?_, ?_, ?_, ?_, ?_⟩
    · intro n s hn h hf
      unfold levelS
      refine Tr.iff (fun h6 => ih.unary s h (by omega)) fun h6 => ?_
      rw [if_pos (by omega)]
      refine (ih.level (n + 1) s (by omega) h (by omega)).bind fun x s1 h1 => ?_
      have := h1.lt
      have := h1.iv.at_
      exact (ih.loop n x s1 (by omega) h1.iv (by omega)).mono fun _ s2 h2 => h1.trans h2
    · intro n x s hn h hf
      unfold levelL
      refine (any_tr hL h _).bind fun b s1 ⟨e, h1⟩ => ?_
      subst e
      refine Tr.iff (fun hb => ?_) fun hb => .refl h
      obtain ⟨t, w, ht, _, hw⟩ := h1 hb
      refine (take_tr hL h).bind fun u s2 ⟨k1, k2, k3⟩ => ?_
      rw [ht] at k1
      cases k1
      have k3 := k3 (isW_kind hL hw)
      have := k2.iv.at_
      refine (ih.level (n + 1) s2 (by omega) k2.iv (by omega)).bind fun y s3 h3 => ?_
      have := h3.lt
      have := h3.iv.at_
      exact Tr.iff (fun _ => k2.trans h3.toFw) fun _ => (ih.loop n _ s3 hn h3.iv (by omega)).mono fun _ s4 h4 => k2.trans (h3.toFw.trans h4)
    · intro s h hf
      unfold unaryS
      refine (now_tr hL h).bind fun t s1 ⟨e, k1⟩ => ?_
      subst e
      refine (is_tr hL h).bind fun b s2 ⟨e, t2, k2, k3⟩ => ?_
      subst e
      rw [k1] at k2
      cases k2
      refine Tr.iff (fun hb => ih.unop 6 t s2 h k1 (isW_kind hL (by rw [← k3]; exact hb)) (by omega)) fun hb => ?_
      refine (is_tr hL h).bind fun b s3 ⟨e, t2, k2, k3⟩ => ?_
      subst e
      rw [k1] at k2
      cases k2
      exact Tr.iff (fun hb => ih.unop 7 t s3 h k1 (isW_kind hL (by rw [← k3]; exact hb)) (by omega)) fun hb => ih.factor s3 h (by omega)
    · intro op t s h ht hk hf
      unfold unopS
      refine (in_tr hL h).bind fun _ s1 h1 => (take_tr hL h1.iv).bind fun u s2 ⟨k1, k2, k3⟩ => ?_
      rw [h1.at_, ht] at k1
      cases k1
      have k3 := k3 hk
      have := k2.iv.at_
      have := h1.at_
      refine (ih.unary s2 k2.iv (by omega)).bind fun x s3 h3 => ?_
      exact up_tr hL h h1 (k2.trans h3.toFw) fun s' h4 h5 => ⟨h4, by have := h3.lt; omega⟩
    · intro s h hf
      unfold exprS
      exact ih.level 0 s (by omega) h (by omega)
    · intro s h hf
      unfold indexS
      refine (in_tr hL h).bind fun _ s1 h1 => (must_tr hL h1.iv).bind fun _ s2 ⟨h2, _⟩ => ?_
      have := h1.at_
      have := h2.lt
      have := h2.iv.at_
      refine (ih.expr s2 h2.iv (by omega)).bind fun x s3 h3 => (must_tr hL h3.iv).bind fun _ s4 ⟨h4, _⟩ => ?_
      exact up_tr hL h h1 (h2.toFw.trans (h3.toFw.trans h4.toFw)) fun s' h5 h6 => ⟨h5, by have := h3.lt; have := h4.lt; omega⟩
    · intro s h hf
      unfold factorS
      refine (now_tr hL h).bind fun t s1 ⟨e, k1⟩ => ?_
      subst e
      refine Tr.iff (fun hk => ?_) fun hk => ?_
      · refine (take_tr hL h).bind fun u s2 ⟨k2, k3, k4⟩ => ?_
        rw [k1] at k2
        cases k2
        exact ⟨k3, k4 (by rw [hk]; decide)⟩
      refine (may_tr hL h).bind fun b s2 ⟨h1, h1'⟩ => Tr.iff (fun hb => (h1 hb).1) fun hb => ?_
      have := h1' (by simpa using hb)
      subst this
      refine (may_tr hL h).bind fun b s2 ⟨h1, h1'⟩ => Tr.iff (fun hb => (h1 hb).1) fun hb => ?_
      have := h1' (by simpa using hb)
      subst this
      refine (is_tr hL h).bind fun b s3 ⟨e, t2, k2, k3⟩ => ?_
      subst e
      rw [k1] at k2
      cases k2
      refine Tr.iff (fun hb => ?_) fun hb => ?_
      · refine (in_tr hL h).bind fun _ s1 h1 => (take_tr hL h1.iv).bind fun u s2 ⟨q1, q2, q3⟩ => ?_
        rw [h1.at_, k1] at q1
        cases q1
        have q3 := q3 (isW_kind hL (by rw [← k3]; exact hb))
        have := q2.iv.at_
        have := h1.at_
        refine (ih.expr s2 q2.iv (by omega)).bind fun x s3 h3 => (must_tr hL h3.iv).bind fun _ s4 ⟨h4, _⟩ => ?_
        exact up_tr hL h h1 (q2.trans (h3.toFw.trans h4.toFw)) fun s' h5 h6 => ⟨h5, by have := h3.lt; have := h4.lt; omega⟩
      refine (kind_trS hL (by decide) h).bind fun _ s4 ⟨h4, _⟩ => ?_
      have := h4.lt
      have := h4.iv.at_
      refine (is_tr hL h4.iv).bind fun b s5 ⟨e, _⟩ => ?_
      subst e
      refine Tr.iff (fun hb => (ih.index s5 h4.iv (by omega)).bind fun x s6 h6 => h4.trans h6.toFw) fun hb => ?_
      refine (may_tr hL h4.iv).bind fun b s6 ⟨h6, h6'⟩ => Tr.iff (fun hb => (kind_trS hL (by decide) (h6 hb).1.iv).bind fun u s7 ⟨h7, _⟩ => h4.trans ((h6 hb).1.toFw.trans h7.toFw)) fun hb => ?_
      have := h6' (by simpa using hb)
      subst this
      exact h4
end
end Go.Am
end
section
namespace Go.Am
open Go
section
variable {L : List Sgn} (hL : OkL L)
include hL
structure AllS (L : List Sgn) (f : Nat) : Prop where
  block : ∀ (ws : List Tx) (s : PS), Iv L s → 20 * (L.length - s.at_) + 19 ≤ f → Tr (blockS L f ws s) fun _ s' => Fw L s s'
  loop : ∀ (ws : List Tx) (l : List Sm) (s : PS), Iv L s → l.length ≤ s.at_ → 20 * (L.length - s.at_) + 18 ≤ f → Tr (blockL L f ws l s) fun _ s' => Fw L s s'
  stmt : ∀ s : PS, Iv L s → 20 * (L.length - s.at_) + 17 ≤ f → Tr (stmtS L f s) fun _ s' => Fs L s s'
  opn : ∀ s : PS, Iv L s → 20 * (L.length - s.at_) + 16 ≤ f → Tr (openS L f s) fun _ s' => Fs L s s'
  branches : ∀ s : PS, Iv L s → 20 * (L.length - s.at_) + 15 ≤ f → Tr (branchesS L f s) fun _ s' => Fs L s s'
  branchesL : ∀ (c : List Ex) (l : List (List Sm)) (s : PS), Iv L s → c.length ≤ s.at_ → l.length ≤ s.at_ → 20 * (L.length - s.at_) + 14 ≤ f → Tr (branchesL L f c l s) fun _ s' => Fs L s s'
  cases : ∀ s : PS, Iv L s → 20 * (L.length - s.at_) + 15 ≤ f → Tr (casesS L f s) fun _ s' => Fs L s s'
  casesL : ∀ (v : Ex) (c : List (List Int)) (l : List (List Sm)) (s : PS), Iv L s → c.length ≤ s.at_ → l.length ≤ s.at_ → 20 * (L.length - s.at_) + 14 ≤ f → Tr (casesL L f v c l s) fun _ s' => Fs L s s'
  caseL : ∀ (l : List Sm) (s : PS), Iv L s → l.length ≤ s.at_ → 20 * (L.length - s.at_) + 18 ≤ f → Tr (caseL L f l s) fun _ s' => Fw L s s'
  counted : ∀ s : PS, Iv L s → 20 * (L.length - s.at_) + 15 ≤ f → Tr (countedS L f s) fun _ s' => Fs L s s'
  call : ∀ (nm : Tx) (s : PS), Iv L s → 20 * (L.length - s.at_) + 15 ≤ f → Tr (callS L f nm s) fun _ s' => Fs L s s'
  callL : ∀ (nm : Tx) (c : List Tx) (l : List Ex) (s : PS), Iv L s → c.length ≤ s.at_ → l.length ≤ s.at_ → 20 * (L.length - s.at_) + 14 ≤ f → Tr (callL L f nm c l s) fun _ s' => Fs L s s'
theorem allS : ∀ f, AllS L f
  | 0 => ⟨fun _ s h hf => by have := h.at_; omega, fun _ _ s h _ hf => by have := h.at_; omega, fun s h hf => by have := h.at_; omega, fun s h hf => by have := h.at_; omega, fun s h hf => by have := h.at_; omega,
      fun _ _ s h _ _ hf => by have := h.at_; omega, fun s h hf => by have := h.at_; omega, fun _ _ _ s h _ _ hf => by have := h.at_; omega, fun _ s h _ hf => by have := h.at_; omega, fun s h hf => by have := h.at_; omega,
      fun _ s h hf => by have := h.at_; omega, fun _ _ _ s h _ _ hf => by have := h.at_; omega⟩
  | f + 1 => by
    have ih := allS f
    have ihE := allE hL f
    have hlen := hL.len
    refine ⟨?_, ?_, ?_, ?_, ?_, ?_, ?_, ?_, ?_, ?_, ?_, ?_⟩
    · intro ws s h hf
      unfold blockS
      exact ih.loop ws [] s h (by simp) (by omega)
    · intro ws l s h hl hf
      unfold blockL
      have := h.at_
      refine (any_tr hL h _).bind fun b s1 ⟨e, h1⟩ => ?_
      subst e
      refine Tr.iff (fun hb => .refl h) fun hb => (ih.stmt s1 h (by omega)).bind fun x s2 h2 => ?_
      have := h2.lt
      have := h2.iv.at_
      rw [if_pos (by omega)]
      exact (ih.loop ws _ s2 h2.iv (by simp; omega) (by omega)).mono fun _ s3 h3 => h2.toFw.trans h3
    · intro s h hf
      unfold stmtS
      refine (now_tr hL h).bind fun t s1 ⟨e, k1⟩ => ?_
      subst e
      refine (in_tr hL h).bind fun _ s1 h1 => ?_
      have := h1.at_
      refine (ih.opn s1 h1.iv (by omega)).bind fun x s2 h2 => (must_tr hL h2.iv).bind fun _ s3 ⟨h3, _⟩ => ?_
      exact up_tr hL h h1 (h2.toFw.trans h3.toFw) fun s' h4 h5 => ⟨h4, by have := h2.lt; have := h3.lt; omega⟩
    · intro s h hf
      unfold openS
      have := h.at_
      refine (may_tr hL h).bind fun b s1 ⟨h1, h1'⟩ => Tr.iff (fun hb => ?_) fun hb => ?_
      · have h1 := (h1 hb).1
        have := h1.lt
        have := h1.iv.at_
        exact (ih.branches s1 h1.iv (by omega)).mono fun _ s2 h2 => h1.trans h2.toFw
      have := h1' (by simpa using hb); subst this
      refine (may_tr hL h).bind fun b s1 ⟨h1, h1'⟩ => Tr.iff (fun hb => ?_) fun hb => ?_
      · have h1 := (h1 hb).1
        have := h1.lt
        have := h1.iv.at_
        exact (ih.cases s1 h1.iv (by omega)).mono fun _ s2 h2 => h1.trans h2.toFw
      have := h1' (by simpa using hb); subst this
      refine (may_tr hL h).bind fun b s1 ⟨h1, h1'⟩ => Tr.iff (fun hb => ?_) fun hb => ?_
      · have h1 := (h1 hb).1
        have := h1.lt
        have := h1.iv.at_
        exact (ih.counted s1 h1.iv (by omega)).mono fun _ s2 h2 => h1.trans h2.toFw
      have := h1' (by simpa using hb); subst this
      refine (may_tr hL h).bind fun b s1 ⟨h1, h1'⟩ => Tr.iff (fun hb => ?_) fun hb => ?_
      · have h1 := (h1 hb).1
        have := h1.lt
        have := h1.iv.at_
        refine (ihE.expr s1 h1.iv (by omega)).bind fun v s2 h2 => (must_tr hL h2.iv).bind fun _ s3 ⟨h3, _⟩ => ?_
        have := h2.lt
        have := h3.lt
        have := h3.iv.at_
        refine (ih.block _ s3 h3.iv (by omega)).bind fun l s4 h4 => (must_tr hL h4.iv).bind fun _ s5 ⟨h5, _⟩ => ?_
        exact h1.trans (h2.toFw.trans (h3.toFw.trans (h4.trans h5.toFw)))
      have := h1' (by simpa using hb); subst this
      refine (may_tr hL h).bind fun b s1 ⟨h1, h1'⟩ => Tr.iff (fun hb => ?_) fun hb => ?_
      · have h1 := (h1 hb).1
        have := h1.lt
        have := h1.iv.at_
        refine (ih.block _ s1 h1.iv (by omega)).bind fun l s2 h2 => (must_tr hL h2.iv).bind fun _ s3 ⟨h3, _⟩ => ?_
        have := h2.at_
        have := h3.lt
        have := h3.iv.at_
        refine (ihE.expr s3 h3.iv (by omega)).bind fun v s4 h4 => (must_tr hL h4.iv).bind fun _ s5 ⟨h5, _⟩ => ?_
        exact h1.trans (h2.trans (h3.toFw.trans (h4.toFw.trans h5.toFw)))
      have := h1' (by simpa using hb); subst this
      refine (may_tr hL h).bind fun b s1 ⟨h1, h1'⟩ => Tr.iff (fun hb => (h1 hb).1) fun hb => ?_
      have := h1' (by simpa using hb); subst this
      refine (may_tr hL h).bind fun b s1 ⟨h1, h1'⟩ => Tr.iff (fun hb => (h1 hb).1) fun hb => ?_
      have := h1' (by simpa using hb); subst this
      refine (kind_trS hL (by decide) h).bind fun nm s2 ⟨h2, _⟩ => ?_
      have := h2.lt
      have := h2.iv.at_
      refine (may_tr hL h2.iv).bind fun b s3 ⟨h3, h3'⟩ => Tr.iff (fun hb => ?_) fun hb => ?_
      · have h3 := (h3 hb).1
        have := h3.lt
        have := h3.iv.at_
        exact (ih.call nm.text s3 h3.iv (by omega)).mono fun _ s4 h4 => h2.trans (h3.toFw.trans h4.toFw)
      have := h3' (by simpa using hb); subst this
      refine (is_tr hL h2.iv).bind fun b s4 ⟨e, _⟩ => ?_
      subst e
      have hto : Tr (if b = true then (indexS L f s4).bind fun x s => .ok (exSub 4 nm.text [x] nm.line) s else .ok (exVar nm) s4) fun _ s' => Fw L s4 s' :=
        Tr.iff (fun hb => (ihE.index s4 h2.iv (by omega)).bind fun x s5 h5 => h5.toFw) fun hb => Fw.refl h2.iv
      refine hto.bind fun to s5 h5 => (must_tr hL h5.iv).bind fun _ s6 ⟨h6, _⟩ => ?_
      have := h5.at_
      have := h6.lt
      have := h6.iv.at_
      exact (ihE.expr s6 h6.iv (by omega)).bind fun v s7 h7 => h2.trans (h5.trans (h6.toFw.trans h7.toFw))
    · intro s h hf
      unfold branchesS
      exact ih.branchesL [] [] s h (by simp) (by simp) (by omega)
    · intro c l s h hc hl hf
      unfold branchesL
      have := h.at_
      refine (ihE.expr s h (by omega)).bind fun x s1 h1 => (must_tr hL h1.iv).bind fun _ s2 ⟨h2, _⟩ => ?_
      have := h1.lt
      have := h2.lt
      have := h2.iv.at_
      refine (ih.block _ s2 h2.iv (by omega)).bind fun b s3 h3 => ?_
      have := h3.at_
      have := h3.iv.at_
      rw [if_pos (by omega)]
      refine (may_tr hL h3.iv).bind fun m s4 ⟨h4, h4'⟩ => Tr.iff (fun hb => ?_) fun hb => ?_
      · have h4 := (h4 hb).1
        have := h4.lt
        have := h4.iv.at_
        exact (ih.branchesL _ _ s4 h4.iv (by simp; omega) (by simp; omega) (by omega)).mono fun _ s5 h5 => h1.trans (h2.toFw.trans (h3.trans (h4.toFw.trans h5.toFw)))
      have := h4' (by simpa using hb); subst this
      refine (may_tr hL h3.iv).bind fun m s5 ⟨h5, h5'⟩ => ?_
      have hto : Tr (if m = true then (blockS L f [[69, 78, 68, 95, 73, 70]] s5).bind fun z s => .ok (l ++ [b] ++ [z]) s else .ok (l ++ [b]) s5) fun _ s' => Fw L s4 s' := by
        refine Tr.iff (fun hb => ?_) fun hb => ?_
        · have h5 := (h5 hb).1
          have := h5.lt
          have := h5.iv.at_
          exact (ih.block _ s5 h5.iv (by omega)).bind fun x s6 h6 => h5.toFw.trans h6
        · have := h5' (by simpa using hb); subst this
          exact Fw.refl h3.iv
      refine hto.bind fun l2 s6 h6 => (must_tr hL h6.iv).bind fun _ s7 ⟨h7, _⟩ => ?_
      exact h1.trans (h2.toFw.trans (h3.trans (h6.trans h7.toFw)))
    · intro s h hf
      unfold casesS
      have := h.at_
      refine (ihE.expr s h (by omega)).bind fun v s1 h1 => (must_tr hL h1.iv).bind fun _ s2 ⟨h2, _⟩ => ?_
      have := h1.lt
      have := h2.lt
      have := h2.iv.at_
      exact (ih.casesL v [] [] s2 h2.iv (by simp) (by simp) (by omega)).mono fun _ s3 h3 => h1.trans (h2.toFw.trans h3.toFw)
    · intro v c l s h hc hl hf
      unfold casesL
      have := h.at_
      refine (labelled_tr hL h).bind fun b s1 e => ?_
      subst e
      refine Tr.iff (fun hb => ?_) fun hb => ?_
      · refine (labels_tr hL f [] s1 h (by omega) (by simp)).bind fun x s2 h2 => ?_
        have := h2.lt
        have := h2.iv.at_
        refine (ih.caseL [] s2 h2.iv (by simp) (by omega)).bind fun b s3 h3 => ?_
        have := h3.at_
        have := h3.iv.at_
        rw [if_pos (by omega)]
        exact (ih.casesL v _ _ s3 h3.iv (by simp; omega) (by simp; omega) (by omega)).mono fun _ s4 h4 => h2.trans (h3.trans h4.toFw)
      refine (may_tr hL h).bind fun m s2 ⟨h2, h2'⟩ => ?_
      have hto : Tr (if m = true then (blockS L f [[69, 78, 68, 95, 67, 65, 83, 69]] s2).bind fun z s => if l.length < 100000 then .ok (l ++ [z]) s else .out else .ok l s2) fun _ s' => Fw L s1 s' := by
        refine Tr.iff (fun hb => ?_) fun hb => ?_
        · have h2 := (h2 hb).1
          have := h2.lt
          have := h2.iv.at_
          exact (ih.block _ s2 h2.iv (by omega)).bind fun x s3 h3 => by rw [if_pos (by omega)]; exact h2.toFw.trans h3
        · have := h2' (by simpa using hb); subst this
          exact Fw.refl h
      exact hto.bind fun l2 s3 h3 => (must_tr hL h3.iv).bind fun _ s4 ⟨h4, _⟩ => h3.transS h4
    · intro l s h hl hf
      unfold caseL
      have := h.at_
      refine (endCase_tr hL h).bind fun b s1 e => ?_
      subst e
      refine Tr.iff (fun hb => .refl h) fun hb => (ih.stmt s1 h (by omega)).bind fun x s2 h2 => ?_
      have := h2.lt
      have := h2.iv.at_
      rw [if_pos (by omega)]
      exact (ih.caseL _ s2 h2.iv (by simp; omega) (by omega)).mono fun _ s3 h3 => h2.toFw.trans h3
    · intro s h hf
      unfold countedS
      refine (kind_trS hL (by decide) h).bind fun nm s1 ⟨h1, _⟩ => (must_tr hL h1.iv).bind fun _ s2 ⟨h2, _⟩ => ?_
      have := h.at_
      have := h1.lt
      have := h2.lt
      have := h2.iv.at_
      refine (ihE.expr s2 h2.iv (by omega)).bind fun a s3 h3 => (must_tr hL h3.iv).bind fun _ s4 ⟨h4, _⟩ => ?_
      have := h3.lt
      have := h4.lt
      have := h4.iv.at_
      refine (ihE.expr s4 h4.iv (by omega)).bind fun b s5 h5 => (now_tr hL h5.iv).bind fun t s6 ⟨e, _⟩ => ?_
      subst e
      have := h5.lt
      have := h5.iv.at_
      refine (may_tr hL h5.iv).bind fun m s7 ⟨h7, h7'⟩ => ?_
      have hto : Tr (if m = true then exprS L f s7 else .ok (.mk 1 1 [] [] [] t.line) s7) fun _ s' => Fw L s6 s' := by
        refine Tr.iff (fun hb => ?_) fun hb => ?_
        · have h7 := (h7 hb).1
          have := h7.lt
          have := h7.iv.at_
          exact (ihE.expr s7 h7.iv (by omega)).mono fun _ s8 h8 => h7.toFw.trans h8.toFw
        · have := h7' (by simpa using hb); subst this
          exact Fw.refl h5.iv
      refine hto.bind fun c s8 h8 => (must_tr hL h8.iv).bind fun _ s9 ⟨h9, _⟩ => ?_
      have := h8.at_
      have := h9.lt
      have := h9.iv.at_
      refine (ih.block _ s9 h9.iv (by omega)).bind fun l s10 h10 => (must_tr hL h10.iv).bind fun _ s11 ⟨h11, _⟩ => ?_
      exact h1.trans (h2.toFw.trans (h3.toFw.trans (h4.toFw.trans (h5.toFw.trans (h8.trans (h9.toFw.trans (h10.trans h11.toFw)))))))
    · intro nm s h hf
      unfold callS
      refine (may_tr hL h).bind fun b s1 ⟨h1, h1'⟩ => Tr.iff (fun hb => (h1 hb).1) fun hb => ?_
      have := h1' (by simpa using hb); subst this
      exact ih.callL nm [] [] s1 h (by simp) (by simp) (by omega)
    · intro nm c l s h hc hl hf
      unfold callL
      have := h.at_
      refine (kind_trS hL (by decide) h).bind fun t s1 ⟨h1, _⟩ => (must_tr hL h1.iv).bind fun _ s2 ⟨h2, _⟩ => ?_
      have := h1.lt
      have := h2.lt
      have := h2.iv.at_
      refine (ihE.expr s2 h2.iv (by omega)).bind fun x s3 h3 => ?_
      have := h3.lt
      have := h3.iv.at_
      rw [if_pos (by omega)]
      refine (may_tr hL h3.iv).bind fun b s4 ⟨h4, h4'⟩ => Tr.iff (fun hb => ?_) fun hb => ?_
      · have h4 := (h4 hb).1
        have := h4.lt
        have := h4.iv.at_
        exact (ih.callL nm _ _ s4 h4.iv (by simp; omega) (by simp; omega) (by omega)).mono fun _ s5 h5 => h1.trans (h2.toFw.trans (h3.toFw.trans (h4.toFw.trans h5.toFw)))
      · have := h4' (by simpa using hb); subst this
        exact (must_tr hL h3.iv).bind fun _ s5 ⟨h5, _⟩ => h1.trans (h2.toFw.trans (h3.toFw.trans h5.toFw))
/-- What is known of a program that was read: END_PROGRAM stands in it. -/
theorem program_tr {kindN : Tx → Int} {f : Nat} {s : PS} (h : Iv L s) (hf : 20 * (L.length - s.at_) + 19 ≤ f) : Tr (programS L kindN f s) fun p s' => p.vars.length ≤ 64 ∧ ∃ (i : Nat) (t : Sgn), L[i]? = some t ∧ isW t [69, 78, 68, 95, 80, 82, 79, 71, 82, 65, 77] = true := by
  unfold programS
  have := h.at_
  refine (must_tr hL h).bind fun _ s1 ⟨h1, _⟩ => (kind_trS hL (by decide) h1.iv).bind fun nm s2 ⟨h2, _⟩ => ?_
  have := h1.lt
  have := h2.lt
  have := h2.iv.at_
  refine (sections_tr hL f s2 h2.iv (by omega)).bind fun _ s3 h3 => ?_
  have := h3.at_
  have := h3.iv.at_
  refine ((allS hL f).block _ s3 h3.iv (by omega)).bind fun l s4 h4 => (must_tr hL h4.iv).bind fun _ s5 ⟨h5, t, k5, k5'⟩ => (kind_tr hL h5.iv).bind fun _ s6 ⟨h6, _⟩ => ?_
  exact ⟨h6.iv.vs, _, t, k5, k5'⟩
end
end Go.Am
end
section
namespace Go.Am
open Go Go.Proofs
variable [Inhabited Mx2]
set_option maxRecDepth 20000
theorem Tr.of_ok {α : Type} {r : PM α} {Q : α → PS → Prop} (h : Tr r Q) {a : α} {s : PS} (e : r = .ok a s) : Q a s := by subst e; exact h
section
variable {L : List Sgn} {s : PS} (hL : L.length < 1000000)
include hL
theorem program_le (hOk : OkL L) (hI : Iv L s) (f : Nat) (hf : 20 * (L.length - s.at_) + 19 ≤ f) : Le ((programS L kindN f s).el (fun p s => some (.ret (.agg [.d (.str p.name), .vec 1 1 0 s.vars.length, .d (.list (p.body.map smD))]), pC3 L s)) (badK1 L)) (callT ctx 25 [.ptr 0 0 0] (pC L s)) := by
  rw [run25 (by simp [pC])]
  unfold programS
  have m1 := must_r (L := L) (s := s) hL [80, 82, 79, 71, 82, 65, 77]
  cases h1 : mustS L [80, 82, 79, 71, 82, 65, 77] s with
  | out => exact Le.none
  | bad e s1 =>
    apply Le.of_eq
    simp [h1, badKB] at m1
    simp [Tryd.f25, pCB, badK1, pC3, m1]
  | ok u s1 =>
    simp [h1, pC2B] at m1
    have m2 := kind_r (L := L) (s := s1) hL 1
    have i1 := ((must_tr hOk hI).of_ok h1).1
    have := i1.lt
    have := i1.iv.at_
    simp only [bind_ok]
    cases h2 : kindS L 1 s1 with
    | out => exact Le.none
    | bad e s2 =>
      apply Le.of_eq
      simp [h2, badKB] at m2
      simp [Tryd.f25, pCB, badK1, pC3, m1, m2]
    | ok nm s2 =>
      simp [h2, pC2B] at m2
      have m3 := sections_le (L := L) hL f s2
      have i2 := ((kind_trS hOk (by decide) i1.iv).of_ok h2).1
      have := i2.lt
      have := i2.iv.at_
      simp only [bind_ok]
      cases h3 : sectionsS L kindN f s2 with
      | out => exact Le.none
      | bad e s3 =>
        apply Le.of_eq
        simp only [h3, el_bad, badK1, pC3] at m3
        have m3 := m3 _ rfl
        simp [Tryd.f25, pCB, badK1, pC3, m1, m2, m3]
      | ok u s3 =>
        simp only [h3, el_ok, pC3] at m3
        have m3 := m3 _ rfl
        have i3 := (sections_tr hOk f s2 i2.iv (by omega)).of_ok h3
        have := i3.at_
        have m4 := parser_le (L := L) hL f (.block [[69, 78, 68, 95, 80, 82, 79, 71, 82, 65, 77]] s3)
        simp only [bind_ok]
        simp only [TA.ans, TA.fid, TA.args, TA.st, pCB, retB, pC2B, badKB] at m4
        rw [if_pos (by decide)] at m4
        cases h4 : blockS L f [[69, 78, 68, 95, 80, 82, 79, 71, 82, 65, 77]] s3 with
        | out => exact Le.none
        | bad e s4 =>
          apply Le.of_eq
          simp only [h4, el_bad] at m4
          have m4 := m4 _ rfl
          simp at m4
          simp [Tryd.f25, pCB, badK1, pC3, m1, m2, m3, m4]
        | ok l s4 =>
          simp only [h4, el_ok] at m4
          have m4 := m4 _ rfl
          simp at m4
          have i4 := ((allS hOk f).block _ s3 i3.iv (by omega)).of_ok h4
          have m5 := must_r (L := L) (s := s4) hL [69, 78, 68, 95, 80, 82, 79, 71, 82, 65, 77]
          simp only [bind_ok]
          apply Le.of_eq
          cases h5 : mustS L [69, 78, 68, 95, 80, 82, 79, 71, 82, 65, 77] s4 with
          | out => have := must_tr (w := [69, 78, 68, 95, 80, 82, 79, 71, 82, 65, 77]) hOk i4.iv; rw [h5] at this; exact this.elim
          | bad e s5 =>
            simp [h5, badKB] at m5
            simp [Tryd.f25, pCB, badK1, pC2B, pC3, m1, m2, m3, m4, m5]
          | ok u s5 =>
            have i5 := ((must_tr hOk i4.iv).of_ok h5).1
            simp [h5, pC2B] at m5
            have m6 := kind_r (L := L) (s := s5) hL 0
            simp only [bind_ok]
            cases h6 : kindS L 0 s5 with
            | out => have := kind_tr (k := 0) hOk i5.iv; rw [h6] at this; exact this.elim
            | bad e s6 =>
              simp [h6, badKB] at m6
              simp [Tryd.f25, pCB, badK1, pC2B, pC3, m1, m2, m3, m4, m5, m6]
            | ok u s6 =>
              have i6 := ((kind_tr hOk i5.iv).of_ok h6).1
              have hv : s6.vars = s3.vars := by rw [i6.vars, i5.vars, i4.vars]
              simp [h6, pC2B] at m6
              simp [Tryd.f25, pCB, pC2B, pC3, m1, m2, m3, m4, m5, m6, hv]
end
end Go.Am
end
section
namespace Go.Am
open Go
abbrev AnsT := Option (Out × List (Nat × Cont))
theorem hoistB (c : Prop) [Decidable c] (a b : Bool) (l : List (Nat × Cont)) : (if c then (some (Out.ret (.d (.bool a)), l) : AnsT) else some (Out.ret (.d (.bool b)), l)) = some (Out.ret (.d (.bool (if c then a else b))), l) := by split <;> rfl
theorem retB_iff (a b : Bool) (l : List (Nat × Cont)) : (some (Out.ret (.d (.bool a)), l) : AnsT) = some (Out.ret (.d (.bool b)), l) ↔ (a = true ↔ b = true) := by
  cases a <;> cases b <;> simp
theorem hoistI (c : Prop) [Decidable c] (k : IntKind) (a b : Int) (l : List (Nat × Cont)) : (if c then (some (Out.ret (.d (.int k a)), l) : AnsT) else some (Out.ret (.d (.int k b)), l)) = some (Out.ret (.d (.int k (if c then a else b))), l) := by split <;> rfl
theorem hoistT (c : Prop) [Decidable c] (a b : List AV) (l : List (Nat × Cont)) : (if c then (some (Out.ret (.tup a), l) : AnsT) else some (Out.ret (.tup b), l)) = some (Out.ret (.tup (if c then a else b)), l) := by split <;> rfl
end Go.Am
end
section
namespace Go.Am
open Go Go.Proofs
variable [Inhabited Mx2]
set_option maxRecDepth 20000
theorem wrap8_id {n : Int} (h1 : 0 ≤ n) (h2 : n ≤ 255) : IntKind.u8.wrap n = n := by
  simp [IntKind.wrap, IntKind.bits, IntKind.signed]
  omega
theorem letter_run (c : UInt8) : callT ctx 70 [.d (.int .u8 c.toNat)] [] = some (.ret (.d (.bool (letterB c))), []) := by
  rw [run70 (by simp)]
  simp [Tryd.f70, drwK_end]
  grind [letterB]
theorem digit_run (c : UInt8) : callT ctx 74 [.d (.int .u8 c.toNat)] [] = some (.ret (.d (.bool (digitB c))), []) := by
  rw [run74 (by simp)]
  simp [Tryd.f74, drwK_end]
  grind [digitB]
theorem inner_run (c : UInt8) : callT ctx 72 [.d (.int .u8 c.toNat)] [] = some (.ret (.d (.bool (innerB c))), []) := by
  rw [run72 (by simp)]
  simp [Tryd.f72, drwK_end, letter_run, digit_run]
  simp only [hoistB, retB_iff]
  grind [innerB]
theorem value_run (c : UInt8) : callT ctx 112 [.d (.int .u8 c.toNat)] [] = some (.ret (.d (.int .i64 (valB c))), []) := by
  rw [run112 (by simp)]
  simp [Tryd.f112, drwK_end, digit_run]
  have hc : c.toNat < 256 := c.toNat_lt
  have w : ∀ y : Int, -9223372036854775808 ≤ y → y ≤ 9223372036854775807 → IntKind.i64.wrap y = y := fun y h1 h2 => wrap_id ⟨h1, h2⟩
  have w8 : ∀ y : Int, 0 ≤ y → y ≤ 255 → IntKind.u8.wrap y = y := fun y h1 h2 => wrap8_id h1 h2
  grind [valB, digitB]
end Go.Am
end
section
namespace Go.Am
open Go Go.Proofs
variable [Inhabited Mx2]
set_option maxRecDepth 20000
theorem strAt_eq {s : Tx} {i : Nat} (h : i < s.length) : strAt s i = s[i] := by simp [strAt, h]
theorem u8_eq (c : UInt8) (n : Nat) (hn : n < 256) : ((c.toNat : Int) = n) ↔ c = UInt8.ofNat n := by
  constructor
  · intro h
    have h : c.toNat = n := by omega
    rw [← h]; simp
  · rintro rfl
    simp; omega
@[simp] def rBox (s : Tx) (i : Nat) : Cont := .box [.d (.str s), .d (.int .i64 i), .d (.int .i64 (plOf (s.take i)).1), .d (.int .i64 (plOf (s.take i)).2)]
theorem rest_run (s : Tx) (i : Nat) (h : i ≤ s.length) : callT ctx 46 [.ptr 0 0 0] [rBox s i] = some (.ret (.d (.str (s.drop i))), [(0, rBox s i)]) := by
  rw [run46 (by simp)]
  simp [Tryd.f46, drwK_end, h]
theorem skip_loop (s : Tx) (i n : Nat) (h : i + n ≤ s.length) (hs : s.length ≤ 100000) (k : Kt) : ∀ (r j : Nat), j + r = n →
    denK ctx 48 (.loop (Code.at (codeOf Tryd.f48) [1, 0, 0])) ⟨42, gl0, [(0, true, .ptr 0 0 0), (4, true, .d (.int .i64 n)), (5, true, .d (.int .i64 j))], [⟨0, 0, rBox s (i + j)⟩]⟩ k =
      k (.exit 0) ⟨42, gl0, [(0, true, .ptr 0 0 0), (4, true, .d (.int .i64 n)), (5, true, .d (.int .i64 n)), (6, true, .d (.bool false))], [⟨0, 0, rBox s (i + n)⟩]⟩
  | 0, j, hj => by
    have hj : j = n := by omega
    subst hj
    rw [denK_loop]
    simp [Tryd.f48]
  | r + 1, j, hj => by
    have ih := skip_loop s i n h hs k r (j + 1) (by omega)
    have hlt : i + j < s.length := by omega
    have hb := plOf_take (s := s) (i := i + j)
    have hsu := plOf_succ hlt
    rw [show i + (j + 1) = i + j + 1 by omega] at ih
    generalize hp : plOf (s.take (i + j)) = p at *
    generalize hq : plOf (s.take (i + j + 1)) = q at *
    obtain ⟨l, c⟩ := p
    obtain ⟨l2, c2⟩ := q
    simp only at hb
    have w1 : IntKind.i64.wrap (c + 1) = c + 1 := wrap_id (by unfold I64; omega)
    have w2 : IntKind.i64.wrap (l + 1) = l + 1 := wrap_id (by unfold I64; omega)
    have w3 : IntKind.i64.wrap ((i : Int) + j + 1) = (i : Int) + j + 1 := wrap_id (by unfold I64; omega)
    have w4 : IntKind.i64.wrap ((j : Int) + 1) = (j : Int) + 1 := wrap_id (by unfold I64; omega)
    have hjn : j < n := by omega
    rw [denK_loop]
    simp [Tryd.f48, hp, hq] at ih ⊢
    have h0 : (0 : Int) ≤ (i : Int) + j := by omega
    have ht : ((i : Int) + j).toNat = i + j := by omega
    have hst := strAt_eq hlt
    have h10 := u8_eq s[i + j] 10 (by omega)
    simp at h10
    unfold plStep at hsu
    by_cases hc : s[i + j] = 10
    · rw [if_pos hc] at hsu
      cases hsu
      simp [hjn, w1, w2, w3, w4, hlt, drwK_end, h0, ht, hst, hc, ih]
    · rw [if_neg hc] at hsu
      cases hsu
      simp [hjn, w1, w2, w3, w4, hlt, drwK_end, h0, ht, hst, h10, hc, ih]
theorem skip_run (s : Tx) (i n : Nat) (h : i + n ≤ s.length) (hs : s.length ≤ 100000) : callT ctx 48 [.ptr 0 0 0, .d (.int .i64 n)] [rBox s i] = some (.ret (.tup []), [(0, rBox s (i + n))]) := by
  have hl := fun k => skip_loop s i n h hs k n 0 (by omega)
  rw [run48 (by simp)]
  simp [Tryd.f48] at hl ⊢
  simp [hl]
end Go.Am
end
section
namespace Go.Am
open Go Go.Proofs
variable [Inhabited Mx2]
set_option maxRecDepth 20000
theorem indexByte_run (t : Tx) (c : UInt8) : callT ctx 68 [.d (.str t), .d (.int .u8 c.toNat)] [] = some (.ret (.d (.int .i64 (Go.Lib.indexByte t c))), []) := by
  rw [run68 (by simp)]
  simp [Tryd.f68, drwK_end]
set_option maxHeartbeats 1000000 in
theorem gap_loop (s : Tx) (hs : s.length ≤ 100000) (k : Kt) (R : Ans) : ∀ (f i : Nat), i ≤ s.length → s.length - i < f →
    (k .ret ⟨51, gl0, [(2, true, .d (.bool (gapC f (s.drop i)).2))], [⟨0, 0, rBox s (i + (gapC f (s.drop i)).1)⟩]⟩ = R) →
    denK ctx 45 (.loop (Code.at (codeOf Tryd.f45) [1, 0, 0])) ⟨51, gl0, [(0, true, .ptr 0 0 0)], [⟨0, 0, rBox s i⟩]⟩ k = R
  | 0, i, hi, hf, hk => by omega
  | f + 1, i, hi, hf, hk => by
    have hr := rest_run s i hi
    cases ht : s.drop i with
    | nil =>
      rw [ht] at hr hk
      simp [gapC] at hr hk
      rw [denK_loop]
      simp [Tryd.f45, hr, hk, drwK_end]
    | cons c r =>
      have hlen : i + (r.length + 1) = s.length := by have := congrArg List.length ht; simp at this; omega
      have hb1 := indexByte_run (c :: r) 10
      rw [indexByte_line] at hb1
      rw [ht] at hr hk
      unfold gapC at hk
      have hst : strAt (c :: r) 0 = c := rfl
      have hlb := lineN_le (c :: r)
      by_cases h1 : blankB c = true
      · rw [if_pos h1] at hk
        have hsk := skip_run s i 1 (by omega) hs
        have hd : s.drop (i + 1) = r := by rw [← List.tail_drop, ht]; rfl
        have ih := gap_loop s hs k R f (i + 1) (by omega) (by omega) (by rw [hd, show i + 1 + (gapC f r).1 = i + (1 + (gapC f r).1) by omega]; exact hk)
        simp [blankB] at h1
        rw [denK_loop]
        simp [Tryd.f45] at hr hsk ih ⊢
        rcases h1 with (h1 | h1) | h1 <;> simp [hr, hst, h1, hsk, ih, drwK_end]
      rw [if_neg h1] at hk
      have n1 : ¬ (c.toNat : Int) = 32 := fun h => h1 (by simp [blankB]; omega)
      have n2 : ¬ (c.toNat : Int) = 10 := fun h => h1 (by simp [blankB]; omega)
      have n3 : ¬ (c.toNat : Int) = 9 := fun h => h1 (by simp [blankB]; omega)
      have p1 := hasPrefix2 47 47 c r
      have p2 := hasPrefix2 40 42 c r
      by_cases h2 : c = 47 ∧ r.head? = some 47
      · rw [if_pos h2] at hk
        have p1 : Go.Lib.hasPrefix (c :: r) [47, 47] = true := by rw [p1]; simp [h2]
        have hsk := skip_run s i (lineN (c :: r)) (by simp at hlb; omega) hs
        have hd : s.drop (i + lineN (c :: r)) = (c :: r).drop (lineN (c :: r)) := by rw [← List.drop_drop, ht]
        have hpos : 0 < lineN (c :: r) := by simp [lineN, h2.1]
        have ih := gap_loop s hs k R f (i + lineN (c :: r)) (by simp at hlb; omega) (by omega) (by rw [hd, Nat.add_assoc]; exact hk)
        generalize lineN (c :: r) = n at *
        rw [denK_loop]
        by_cases hl : n < (c :: r).length
        · rw [if_pos hl] at hb1
          have hnn : ¬ ((n : Int) < 0) := by omega
          simp [Tryd.f45] at hr hsk ih hb1 ⊢
          simp [hr, hst, n1, n2, n3, p1, hb1, hnn, hsk, ih, drwK_end]
        · rw [if_neg hl] at hb1
          have hn : n = r.length + 1 := by simp at hl hlb; omega
          subst hn
          simp [Tryd.f45] at hr hsk ih hb1 ⊢
          simp [hr, hst, n1, n2, n3, p1, hb1, hsk, ih, drwK_end]
      rw [if_neg h2] at hk
      have p1 : Go.Lib.hasPrefix (c :: r) [47, 47] = false := by rw [p1]; simpa using h2
      by_cases h3 : c = 40 ∧ r.head? = some 42
      · rw [if_pos h3] at hk
        have p2 : Go.Lib.hasPrefix (c :: r) [40, 42] = true := by rw [p2]; simp [h3]
        have hi2 := index_end r.tail
        have h2l : (2 : Int) ≤ (r.length : Int) + 1 := by cases r with | nil => simp at h3 | cons d r => simp; omega
        have hb : r.length - 1 < 4294967281 := by omega
        cases hf2 : findEnd r.tail with
        | none =>
          rw [hf2] at hk hi2
          simp at hk hi2 hr
          rw [denK_loop]
          simp [Tryd.f45]
          simp [hr, hst, n1, n2, n3, p1, p2, h2l, hb, hi2, hk, drwK_end]
        | some m =>
          rw [hf2] at hk hi2
          have hm := findEnd_le hf2
          have hmt : r.tail.length = r.length - 1 := by simp
          have hsk := skip_run s i (m + 4) (by omega) hs
          have hd : s.drop (i + (m + 4)) = (c :: r).drop (m + 4) := by rw [← List.drop_drop, ht]
          have ih := gap_loop s hs k R f (i + (m + 4)) (by omega) (by omega) (by rw [hd, Nat.add_assoc]; exact hk)
          have hnn : ¬ ((m : Int) < 0) := by omega
          have w1 : IntKind.i64.wrap ((m : Int) + 4) = m + 4 := wrap_id (by unfold I64; omega)
          rw [denK_loop]
          simp [Tryd.f45] at hr hsk ih hi2 ⊢
          simp [hr, hst, n1, n2, n3, p1, p2, h2l, hb, hi2, hnn, w1, hsk, ih, drwK_end]
      rw [if_neg h3] at hk
      have p2 : Go.Lib.hasPrefix (c :: r) [40, 42] = false := by rw [p2]; simpa using h3
      simp at hk hr
      rw [denK_loop]
      simp [Tryd.f45]
      simp [hr, hst, n1, n2, n3, p1, p2, hk, drwK_end]
theorem gap_run (s : Tx) (i : Nat) (hi : i ≤ s.length) (hs : s.length ≤ 100000) (f : Nat) (hf : s.length - i < f) :
    callT ctx 45 [.ptr 0 0 0] [rBox s i] = some (.ret (.d (.bool (gapC f (s.drop i)).2)), [(0, rBox s (i + (gapC f (s.drop i)).1))]) := by
  have hl := fun k R => gap_loop s hs k R f i hi hf
  rw [run45 (by simp)]
  simp [Tryd.f45] at hl ⊢
  rw [hl]
  simp
end Go.Am
end
section
namespace Go.Am
open Go Go.Proofs
variable [Inhabited Mx2]
set_option maxRecDepth 20000
theorem number1_run (c : UInt8) (b : Int) : callT ctx 111 [.d (.int .u8 c.toNat), .ptr 0 0 0] [.box [.d (.int .i64 b)]] = some (.ret (.d (.bool (decide ((valB c : Int) < b)))), [(0, .box [.d (.int .i64 b)])]) := by
  rw [run111 (by simp)]
  simp [Tryd.f111, drwK_end, value_run]
theorem whileA_loop (s : Tx) (hs : s.length ≤ 100000) (k : Kt) : ∀ (r n : Nat), n + r = s.length →
    denK ctx 71 (.loop (Code.at (codeOf Tryd.f71) [1, 1, 0, 0, 0])) ⟨20, gl0, [(0, true, .d (.str s)), (1, true, .fn 72 []), (5, true, .d (.int .i64 n))], []⟩ k =
      k (.exit 0) ⟨20, gl0, [(0, true, .d (.str s)), (1, true, .fn 72 []), (5, true, .d (.int .i64 (n + ((s.drop n).takeWhile innerB).length : Nat))), (16, true, .d (.bool false))], []⟩
  | 0, n, hn => by
    have hn : n = s.length := by omega
    subst hn
    rw [denK_loop]
    simp [Tryd.f71]
  | r + 1, n, hn => by
    have hlt : n < s.length := by omega
    have ih := whileA_loop s hs k r (n + 1) (by omega)
    have w1 : IntKind.i64.wrap ((n : Int) + 1) = (n : Int) + 1 := wrap_id (by unfold I64; omega)
    have hst := strAt_eq hlt
    have hin := inner_run s[n]
    have hd : s.drop n = s[n] :: s.drop (n + 1) := List.drop_eq_getElem_cons hlt
    rw [hd, List.takeWhile_cons]
    rw [denK_loop]
    cases hq : innerB s[n] with
    | true =>
      rw [hq] at hin
      have e : n + 1 + (List.takeWhile innerB (s.drop (n + 1))).length = n + ((List.takeWhile innerB (s.drop (n + 1))).length + 1) := by omega
      rw [e] at ih
      simp [Tryd.f71] at ih hin ⊢
      simp [hlt, hst, hin, w1, ih]
    | false =>
      rw [hq] at hin
      simp [Tryd.f71] at hin ⊢
      simp [hlt, hst, hin]
theorem whileA_run (s : Tx) (hs : s.length ≤ 100000) : callT ctx 71 [.d (.str s), .fn 72 []] [] = some (.ret (.d (.int .i64 (s.takeWhile innerB).length)), []) := by
  have hl := fun k => whileA_loop s hs k s.length 0 (by omega)
  rw [run71 (by simp)]
  simp [Tryd.f71] at hl ⊢
  simp [hl]
theorem whileB_loop (s : Tx) (hs : s.length ≤ 100000) (b : Nat) (k : Kt) : ∀ (r n : Nat), n + r = s.length →
    denK ctx 71 (.loop (Code.at (codeOf Tryd.f71) [1, 1, 0, 0, 0])) ⟨20, gl0, [(0, true, .d (.str s)), (1, true, .fn 111 [.ptr 0 0 0]), (5, true, .d (.int .i64 n))], [⟨0, 0, .box [.d (.int .i64 b)]⟩]⟩ k =
      k (.exit 0) ⟨20, gl0, [(0, true, .d (.str s)), (1, true, .fn 111 [.ptr 0 0 0]), (5, true, .d (.int .i64 (n + ((s.drop n).takeWhile (fun c => decide (valB c < b))).length : Nat))), (16, true, .d (.bool false))], [⟨0, 0, .box [.d (.int .i64 b)]⟩]⟩
  | 0, n, hn => by
    have hn : n = s.length := by omega
    subst hn
    rw [denK_loop]
    simp [Tryd.f71]
  | r + 1, n, hn => by
    have hlt : n < s.length := by omega
    have ih := whileB_loop s hs b k r (n + 1) (by omega)
    have w1 : IntKind.i64.wrap ((n : Int) + 1) = (n : Int) + 1 := wrap_id (by unfold I64; omega)
    have hst := strAt_eq hlt
    have hin := number1_run s[n] b
    have hd : s.drop n = s[n] :: s.drop (n + 1) := List.drop_eq_getElem_cons hlt
    rw [hd, List.takeWhile_cons]
    rw [denK_loop]
    by_cases hq : valB s[n] < b
    · have e : n + 1 + (List.takeWhile (fun c => decide (valB c < b)) (s.drop (n + 1))).length = n + ((List.takeWhile (fun c => decide (valB c < b)) (s.drop (n + 1))).length + 1) := by omega
      rw [e] at ih
      simp [Tryd.f71, hq] at ih hin ⊢
      simp [hlt, hst, hin, w1, ih]
    · simp [Tryd.f71, hq] at hin ⊢
      simp [hlt, hst, hin]
theorem whileB_run (s : Tx) (hs : s.length ≤ 100000) (b : Nat) : callT ctx 71 [.d (.str s), .fn 111 [.ptr 0 0 0]] [.box [.d (.int .i64 b)]] =
    some (.ret (.d (.int .i64 (s.takeWhile (fun c => decide (valB c < b))).length)), [(0, .box [.d (.int .i64 b)])]) := by
  have hl := fun k => whileB_loop s hs b k s.length 0 (by omega)
  rw [run71 (by simp)]
  simp [Tryd.f71] at hl ⊢
  simp [hl]
end Go.Am
end
section
namespace Go.Am
open Go Go.Proofs
variable [Inhabited Mx2]
set_option maxRecDepth 20000
theorem valB_le (c : UInt8) : valB c ≤ 99 := by
  unfold valB digitB
  split
  · rename_i h; simp at h; omega
  · split <;> omega
set_option maxHeartbeats 1000000 in
theorem num_loop (s : Tx) (hs : s.length ≤ 100000) (b : Nat) (hb : 2 ≤ b ∧ b ≤ 16) (n v : Nat) (ct : Cont) (hn : n ≤ s.length) (k : Kt) (R : Ans) : ∀ (rest : Tx) (i x : Nat), (s.drop i).take rest.length = rest → i + rest.length = n → x ≤ 9223372036854775807 →
    (match valN b x rest with
      | none => k .ret ⟨83, gl0, [(2, true, .d (.int .i64 0)), (3, true, .d (.int .i64 0)), (4, true, .d (.int .i64 2))], [⟨350, 1, .box [.d (.int .i64 b)]⟩, ⟨500, v, ct⟩]⟩
      | some y => k (.exit 2) ⟨83, gl0, [(0, true, .d (.str s)), (5, true, .ptr 350 1 0), (9, true, .d (.int .i64 n)), (10, true, .d (.int .i64 y)), (11, true, .d (.int .i64 n)), (63, true, .d (.bool false))], [⟨350, 1, .box [.d (.int .i64 b)]⟩, ⟨500, v, ct⟩]⟩) = R →
    denK ctx 75 (.loop (Code.at (codeOf Tryd.f75) [1, 1, 1, 1, 1, 1, 0, 1, 0, 0])) ⟨83, gl0, [(0, true, .d (.str s)), (5, true, .ptr 350 1 0), (9, true, .d (.int .i64 n)), (10, true, .d (.int .i64 x)), (11, true, .d (.int .i64 i))], [⟨350, 1, .box [.d (.int .i64 b)]⟩, ⟨500, v, ct⟩]⟩ k = R
  | [], i, x, ht, hi, hx, hR => by
    have hi : i = n := by simpa using hi
    subst hi
    simp [valN] at hR
    rw [denK_loop]
    simp [Tryd.f75, hR]
  | c :: rest, i, x, ht, hi, hx, hR => by
    simp only [List.length_cons] at hi ht
    have hlt : i < s.length := by omega
    have hin : i < n := by omega
    have hd : s.drop i = s[i] :: s.drop (i + 1) := List.drop_eq_getElem_cons hlt
    rw [hd, List.take_succ_cons] at ht
    have hc : s[i] = c := (List.cons.inj ht).1
    have ht2 := (List.cons.inj ht).2
    have hst := strAt_eq hlt
    have hv := value_run c
    have hvl := valB_le c
    have w1 : IntKind.i64.wrap ((i : Int) + 1) = (i : Int) + 1 := wrap_id (by unfold I64; omega)
    have w2 : IntKind.i64.wrap (9223372036854775807 - (valB c : Int)) = ((9223372036854775807 - valB c : Nat) : Int) := by rw [wrap_id (by unfold I64; omega)]; omega
    have hqb : (9223372036854775807 - valB c) / b ≤ 9223372036854775807 := Nat.le_trans (Nat.div_le_self _ _) (Nat.sub_le _ _)
    have w3 : IntKind.i64.wrap (((9223372036854775807 - valB c : Nat) : Int) / (b : Int)) = (((9223372036854775807 - valB c) / b : Nat) : Int) := by
      rw [← Int.natCast_ediv]
      generalize (9223372036854775807 - valB c) / b = z at hqb
      exact wrap_id (by unfold I64; omega)
    have hb0 : b ≠ 0 := by omega
    unfold valN at hR
    rw [denK_loop]
    by_cases ho : (9223372036854775807 - valB c) / b < x
    · have ho' : ((9223372036854775807 - valB c : Nat) : Int) / (b : Int) < x := by rw [← Int.natCast_ediv]; exact Int.ofNat_lt.2 ho
      rw [if_pos ho] at hR
      simp at hR hv
      simp [Tryd.f75]
      simp [hin, hlt, hst, hc, hv, w2, w3, hb0, ho', hR]
    · have ho' : ¬ (((9223372036854775807 - valB c : Nat) : Int) / (b : Int) < x) := by rw [← Int.natCast_ediv]; exact fun h => ho (Int.ofNat_lt.1 h)
      rw [if_neg ho] at hR
      have hm : x * b ≤ 9223372036854775807 - valB c := by
        have h1 : x ≤ (9223372036854775807 - valB c) / b := by omega
        have := Nat.mul_le_mul_right b h1
        have h2 := Nat.div_mul_le_self (9223372036854775807 - valB c) b
        omega
      have hm2 : (x : Int) * (b : Int) = ((x * b : Nat) : Int) := by simp
      have w4 : IntKind.i64.wrap ((x : Int) * b) = ((x * b : Nat) : Int) := by rw [hm2]; exact wrap_id (by unfold I64; omega)
      have w5 : IntKind.i64.wrap (((x * b : Nat) : Int) + valB c) = ((x * b + valB c : Nat) : Int) := by rw [wrap_id (by unfold I64; omega)]; simp
      have ih := num_loop s hs b hb n v ct hn k R rest (i + 1) (x * b + valB c) ht2 (by omega) (by omega) hR
      generalize hxb : x * b + valB c = xb at *
      generalize x * b = xm at *
      simp [Tryd.f75] at ih ⊢
      simp [hin, hlt, hst, hc, hv, w1, w2, w3, w4, w5, hb0, ho', ih]
theorem pre_head {a : UInt8} {p s : Tx} (h : (a :: p).isPrefixOf s = true) : s.head? = some a ∧ p.length + 1 ≤ s.length := by
  have h' := List.isPrefixOf_iff_prefix.1 h
  refine ⟨?_, by simpa using h'.length_le⟩
  obtain ⟨t, rfl⟩ := h'
  rfl
theorem head_cases (s : Tx) : (Go.Lib.hasPrefix s [50, 35] = true ∧ Go.Lib.hasPrefix s [56, 35] = false ∧ Go.Lib.hasPrefix s [49, 54, 35] = false ∧ headN s = (2, 2) ∧ 2 ≤ s.length) ∨
    (Go.Lib.hasPrefix s [50, 35] = false ∧ Go.Lib.hasPrefix s [56, 35] = true ∧ Go.Lib.hasPrefix s [49, 54, 35] = false ∧ headN s = (8, 2) ∧ 2 ≤ s.length) ∨
    (Go.Lib.hasPrefix s [50, 35] = false ∧ Go.Lib.hasPrefix s [56, 35] = false ∧ Go.Lib.hasPrefix s [49, 54, 35] = true ∧ headN s = (16, 3) ∧ 3 ≤ s.length) ∨
    (Go.Lib.hasPrefix s [50, 35] = false ∧ Go.Lib.hasPrefix s [56, 35] = false ∧ Go.Lib.hasPrefix s [49, 54, 35] = false ∧ headN s = (10, 0) ∧ 0 ≤ s.length) := by
  unfold Go.Lib.hasPrefix headN
  have x1 : ([50, 35] : Tx).isPrefixOf s = true → ([56, 35] : Tx).isPrefixOf s = true → False := fun h g => by
    have h := (pre_head h).1; have g := (pre_head g).1; rw [h] at g; revert g; decide
  have x2 : ([50, 35] : Tx).isPrefixOf s = true → ([49, 54, 35] : Tx).isPrefixOf s = true → False := fun h g => by
    have h := (pre_head h).1; have g := (pre_head g).1; rw [h] at g; revert g; decide
  have x3 : ([56, 35] : Tx).isPrefixOf s = true → ([49, 54, 35] : Tx).isPrefixOf s = true → False := fun h g => by
    have h := (pre_head h).1; have g := (pre_head g).1; rw [h] at g; revert g; decide
  have l1 : ([50, 35] : Tx).isPrefixOf s = true → 2 ≤ s.length := fun h => (pre_head h).2
  have l2 : ([56, 35] : Tx).isPrefixOf s = true → 2 ≤ s.length := fun h => (pre_head h).2
  have l3 : ([49, 54, 35] : Tx).isPrefixOf s = true → 3 ≤ s.length := fun h => (pre_head h).2
  cases h2 : ([50, 35] : Tx).isPrefixOf s <;> cases h8 : ([56, 35] : Tx).isPrefixOf s <;> cases h16 : ([49, 54, 35] : Tx).isPrefixOf s <;> simp_all
set_option maxHeartbeats 2000000 in
theorem number_run (s : Tx) (hs : s.length ≤ 100000) : callT ctx 75 [.d (.str s)] [] = some (.ret (.tup [.d (.int .i64 (numF s).1), .d (.int .i64 (numF s).2.1), .d (.int .i64 (numF s).2.2)]), []) := by
  obtain ⟨b, h, hbh, hb, hhl⟩ : ∃ b h, headN s = (b, h) ∧ (2 ≤ b ∧ b ≤ 16) ∧ h ≤ s.length := by
    rcases head_cases s with ⟨_, _, _, e, hl⟩ | ⟨_, _, _, e, hl⟩ | ⟨_, _, _, e, hl⟩ | ⟨_, _, _, e, hl⟩ <;> exact ⟨_, _, e, by omega, by omega⟩
  have hw := whileB_run (s.drop h) (by simp; omega) b
  obtain ⟨ds, hds⟩ : ∃ ds, ds = (s.drop h).takeWhile (fun c => decide (valB c < b)) := ⟨_, rfl⟩
  rw [← hds] at hw
  have hdl : ds.length ≤ s.length - h := by
    have := (List.takeWhile_prefix (fun c => decide (valB c < b)) (l := s.drop h)).length_le
    rw [← hds] at this; simpa using this
  have hdt : (s.drop h).take ds.length = ds := by
    rw [hds]; exact List.prefix_iff_eq_take.1 (List.takeWhile_prefix _) |>.symm
  obtain ⟨n, hn⟩ : ∃ n, n = h + ds.length := ⟨_, rfl⟩
  have hns : n ≤ s.length := by omega
  have hloop := fun v ct k R => num_loop s hs b hb n v ct hns k R ds h 0 hdt hn.symm (by omega)
  have wn : IntKind.i64.wrap ((h : Int) + ds.length) = (n : Int) := by rw [wrap_id (by unfold I64; omega)]; omega
  have hn0 : ¬ ((n : Int) < 0) := by omega
  have hn1 : (0 : Int) ≤ n := by omega
  obtain ⟨F, hF⟩ : ∃ F : Nat × Nat × Nat, F = numG s b h ds := ⟨_, rfl⟩
  have hFF : numF s = F := by unfold numF; rw [hF, hbh]; simp only [← hds]
  rw [hFF]
  have c1 : IntKind.i64.wrap 1 = 1 := wrap_id (by unfold I64; omega)
  have c2 : IntKind.i64.wrap 2 = 2 := wrap_id (by unfold I64; omega)
  have c3 : IntKind.i64.wrap 3 = 3 := wrap_id (by unfold I64; omega)
  have r3 : List.range' 0 3 = [0, 1, 2] := rfl
  have key : ∀ (v : Nat) (ct : Cont) (k : Kt), n ≠ h → (n < s.length → innerB (strAt s n) = false ∧ strAt s n ≠ 35) →
      (∀ x, k (.exit 2) ⟨83, gl0, [(0, true, .d (.str s)), (5, true, .ptr 350 1 0), (9, true, .d (.int .i64 n)), (10, true, .d (.int .i64 x)), (11, true, .d (.int .i64 n)), (63, true, .d (.bool false))], [⟨350, 1, .box [.d (.int .i64 b)]⟩, ⟨500, v, ct⟩]⟩ = some (.ret (.tup [.d (.int .i64 n), .d (.int .i64 x), .d (.int .i64 0)]), [])) →
      (k .ret ⟨83, gl0, [(2, true, .d (.int .i64 0)), (3, true, .d (.int .i64 0)), (4, true, .d (.int .i64 2))], [⟨350, 1, .box [.d (.int .i64 b)]⟩, ⟨500, v, ct⟩]⟩ = some (.ret (.tup [.d (.int .i64 0), .d (.int .i64 0), .d (.int .i64 2)]), [])) →
      denK ctx 75 (.loop (Code.at (codeOf Tryd.f75) [1, 1, 1, 1, 1, 1, 0, 1, 0, 0])) ⟨83, gl0, [(0, true, .d (.str s)), (5, true, .ptr 350 1 0), (9, true, .d (.int .i64 n)), (10, true, .d (.int .i64 (0 : Nat))), (11, true, .d (.int .i64 h))], [⟨350, 1, .box [.d (.int .i64 b)]⟩, ⟨500, v, ct⟩]⟩ k =
        some (.ret (.tup [.d (.int .i64 F.1), .d (.int .i64 F.2.1), .d (.int .i64 F.2.2)]), []) := by
    intro v ct k h1 h2 h3 h4
    have hne : ¬ (ds = [] ∨ ∃ c, s[h + ds.length]? = some c ∧ (innerB c = true ∨ c = 35)) := by
      rintro (hc | ⟨c, hc, hc2⟩)
      · exact h1 (by rw [hn, hc]; rfl)
      · rw [← hn] at hc
        obtain ⟨hlt, hcc⟩ := List.getElem?_eq_some_iff.1 hc
        have h5 := h2 hlt
        rw [strAt_eq hlt, hcc] at h5
        rcases hc2 with hc2 | hc2
        · rw [h5.1] at hc2; cases hc2
        · exact h5.2 hc2
    unfold numG at hF
    rw [if_neg hne, ← hn] at hF
    refine hloop v ct k _ ?_
    cases hv : valN b 0 ds with
    | none => rw [hv] at hF; rw [hF]; exact h4
    | some x => rw [hv] at hF; rw [hF]; exact h3 x
  have err : ∀ c, n < s.length → strAt s n = c → (innerB c = true ∨ c = 35) → F = (0, 0, 5) := by
    intro c hlt hc hc2
    unfold numG at hF
    rw [hF, if_pos (.inr ⟨c, by rw [← hn, List.getElem?_eq_getElem hlt, ← strAt_eq hlt, hc], hc2⟩)]
  have err2 : n = h → F = (0, 0, 5) := by
    intro he
    unfold numG at hF
    rw [hF, if_pos (.inl (List.length_eq_zero_iff.1 (by omega)))]
  have hinr := inner_run (strAt s n)
  have h35 := u8_eq (strAt s n) 35 (by omega)
  simp at h35
  clear hF hloop
  rw [run75 (by simp)]
  rcases head_cases s with ⟨p1, p2, p3, e, hl⟩ | ⟨p1, p2, p3, e, hl⟩ | ⟨p1, p2, p3, e, hl⟩ | ⟨p1, p2, p3, e, hl⟩
  all_goals
    obtain ⟨h', hh'⟩ : ∃ h' : Nat, h' = h := ⟨_, rfl⟩
    rw [hbh] at e
    cases e
    have hlI := Int.ofNat_le.2 hl
    simp [Tryd.f75] at hw wn hlI key err2
    simp [Tryd.f75, r3]
    iterate 4 (rw [denK_loop]; simp [p1, p2, p3, c1, c2, c3, drwK_end])
    simp [hl, hlI, hw, wn]
    by_cases hnh : n = h'
    · have hFe := err2 (hnh.trans hh')
      rw [hh'] at hnh
      simp [hnh, hFe]
    · have hnI : ¬ ((n : Int) = (h' : Int)) := by omega
      rw [hh'] at hnI hnh
      simp at hnI
      by_cases hlt : n < s.length
      · cases hin : innerB (strAt s n)
        · rw [hin] at hinr
          by_cases h35' : strAt s n = 35
          · have hFe := err _ hlt h35' (.inr rfl)
            rw [h35'] at hinr
            simp at hinr
            simp [hnI, hlt, hinr, h35', hFe]
          · have h35n : ¬ ((strAt s n).toNat : Int) = 35 := fun h => h35' (h35.1 h)
            simp [hnI, hlt, hinr, h35n]
            exact key _ _ _ hnh (fun _ => ⟨hin, h35'⟩) (fun x => by simp) (by simp)
        · have hFe := err _ hlt rfl (.inl hin)
          rw [hin] at hinr
          simp [hnI, hlt, hinr, hFe]
      · simp [hnI, hlt]
        exact key _ _ _ hnh (fun h => absurd h hlt) (fun x => by simp) (by simp)
end Go.Am
end
section
namespace Go.Am
open Go Go.Proofs
variable [Inhabited Mx2]
set_option maxRecDepth 20000
def idxR (s : Tx) : Nat → List Tx → Int
  | _, [] => -1
  | i, x :: r => if s = x then (i : Int) else idxR s (i + 1) r
theorem idxR_mem (s : Tx) : ∀ (l : List Tx) (i : Nat), decide (0 ≤ idxR s i l) = decide (s ∈ l)
  | [], i => by simp [idxR]
  | x :: r, i => by
    have := idxR_mem s r (i + 1)
    unfold idxR
    by_cases h : s = x
    · simp [h]
    · simp only [if_neg h, this]; simp [h]
theorem strIdx_loop (l : List Tx) (hl : l.length ≤ 1000) (s : Tx) (k : Kt) (R : Ans) : ∀ (rest : List Tx) (i : Nat), l.drop i = rest → i + rest.length = l.length →
    ((if 0 ≤ idxR s i rest then k .ret ⟨19, gl0, [(4, true, .d (.int .i64 (idxR s i rest)))], []⟩ else k (.exit 0) ⟨19, gl0, [(0, true, .d (.list (l.map .str))), (1, true, .d (.str s)), (7, true, .d (.int .i64 l.length)), (8, true, .d (.int .i64 l.length)), (9, true, .d (.bool false))], []⟩) = R) →
    denK ctx 139 (.loop (Code.at (codeOf Tryd.f139) [1, 0, 1, 0, 0])) ⟨19, gl0, [(0, true, .d (.list (l.map .str))), (1, true, .d (.str s)), (7, true, .d (.int .i64 l.length)), (8, true, .d (.int .i64 i))], []⟩ k = R
  | [], i, hd, hi, h => by
    have hi : i = l.length := by simpa using hi
    subst hi
    rw [denK_loop]
    simp [idxR] at h
    simp [Tryd.f139, h]
  | x :: rest, i, hd, hi, h => by
    have hlt : i < l.length := by simp at hi; omega
    have hx : l[i] = x := by
      have := congrArg (·[0]?) hd
      simp at this
      simpa [hlt] using this
    have w1 : IntKind.i64.wrap ((i : Int) + 1) = (i : Int) + 1 := wrap_id (by unfold I64; omega)
    unfold idxR at h
    rw [denK_loop]
    by_cases hs : s = x
    · simp [hs] at h
      simp [Tryd.f139]
      simp [hlt, hx, hs, h]
    · rw [if_neg hs] at h
      have ih := strIdx_loop l hl s k R rest (i + 1) (by rw [← List.tail_drop, hd]; rfl) (by simp at hi; omega) h
      simp [Tryd.f139] at ih ⊢
      simp [hlt, hx, hs, w1, ih]
theorem idxR_neg (s : Tx) : ∀ (l : List Tx) (i : Nat), ¬ 0 ≤ idxR s i l → idxR s i l = -1
  | [], i, _ => rfl
  | x :: r, i, h => by
    unfold idxR at h ⊢
    split
    · rename_i hs; rw [if_pos hs] at h; omega
    · rename_i hs; rw [if_neg hs] at h; exact idxR_neg s r (i + 1) h
theorem strIdx_run (l : List Tx) (hl : l.length ≤ 1000) (s : Tx) : callT ctx 139 [.d (.list (l.map .str)), .d (.str s)] [] = some (.ret (.d (.int .i64 (idxR s 0 l))), []) := by
  have hlo := fun k R h => strIdx_loop l hl s k R l 0 rfl (by simp) h
  rw [run139 (by simp)]
  simp [Tryd.f139] at hlo ⊢
  rw [hlo]
  split
  · simp
  · rename_i h; simp [idxR_neg s l 0 h]
theorem contains_run (l : List Tx) (hl : l.length ≤ 1000) (s : Tx) : callT ctx 109 [.d (.list (l.map .str)), .d (.str s)] [] = some (.ret (.d (.bool (decide (s ∈ l)))), []) := by
  have h := strIdx_run l hl s
  rw [run109 (by simp)]
  simp [Tryd.f109, h, ← idxR_mem s l 0]
theorem fields_run : callT ctx 110 [.d (.str wordsT)] [] = some (.ret (.d (.list (wordsL.map .str))), []) := callT_of 300 (by kernel_rfl)
theorem word_run (s : Tx) : callT ctx 73 [.d (.str s)] [] = some (.ret (.d (.bool (wordB s))), []) := by
  have hf := fields_run
  have hc := contains_run wordsL (by decide) s
  unfold wordsT at hf
  generalize wordsL.map D.str = W at hf hc
  rw [run73 (by simp)]
  simp [Tryd.f73, hf, hc, wordB]
theorem indexByte_mem (c : UInt8) : ∀ (l : Tx), 0 ≤ Go.Lib.indexByte l c ↔ c ∈ l
  | [] => by simp [Go.Lib.indexByte]
  | b :: r => by
    have ih := indexByte_mem c r
    have hg := Go.Lib.indexByte_ge r c
    unfold Go.Lib.indexByte
    by_cases h : b = c
    · simp [h]
    · have h' : ¬ c = b := fun e => h e.symm
      simp only [beq_iff_eq, h, if_false, List.mem_cons, h', false_or, ← ih]
      split <;> omega
theorem signF_eq (c : UInt8) (r : Tx) : signF (c :: r) = if Go.Lib.hasPrefix (c :: r) [58, 61] = true then 2 else if Go.Lib.hasPrefix (c :: r) [60, 61] = true then 2 else if Go.Lib.hasPrefix (c :: r) [62, 61] = true then 2 else if Go.Lib.hasPrefix (c :: r) [60, 62] = true then 2 else if Go.Lib.hasPrefix (c :: r) [46, 46] = true then 2 else if 0 ≤ Go.Lib.indexByte signs1 c then 1 else 0 := by
  have hm := indexByte_mem c signs1
  unfold signF signs2 Go.Lib.hasPrefix
  simp only [List.any_cons, List.any_nil, Bool.or_false, Bool.or_eq_true, hm]
  grind
theorem sign_run (c : UInt8) (r : Tx) : callT ctx 76 [.d (.str (c :: r))] [] = some (.ret (.d (.int .i64 (signF (c :: r)))), []) := by
  have r5 : List.range' 0 5 = [0, 1, 2, 3, 4] := rfl
  have c1 : IntKind.i64.wrap 1 = 1 := wrap_id (by unfold I64; omega)
  have c2 : IntKind.i64.wrap 2 = 2 := wrap_id (by unfold I64; omega)
  have c3 : IntKind.i64.wrap 3 = 3 := wrap_id (by unfold I64; omega)
  have c4 : IntKind.i64.wrap 4 = 4 := wrap_id (by unfold I64; omega)
  have c5 : IntKind.i64.wrap 5 = 5 := wrap_id (by unfold I64; omega)
  have hb := indexByte_run signs1 c
  rw [run76 (by simp)]
  simp [Tryd.f76, r5]
  iterate 6 (try (rw [denK_loop]; simp [c1, c2, c3, c4, c5, drwK_end]))
  have hst : strAt (c :: r) 0 = c := rfl
  rw [signF_eq]
  unfold signs1 at hb ⊢
  simp [hst, hb]
  grind
end Go.Am
end

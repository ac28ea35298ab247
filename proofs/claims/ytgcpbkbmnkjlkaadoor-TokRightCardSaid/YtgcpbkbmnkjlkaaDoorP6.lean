/-
  Texts of one proof, one behind the other.
-/
import Derived.Test.YtgcpbkbmnkjlkaaDoorP5
import Derived.Lib.Bytealg
import Derived.Lib.Index
import Derived.Lib.Strings
import Derived.ProofKit
import Derived.ChangeArms
import Derived.ChangeCalls
import Derived.Test.YtgcpbkbmnkjlkaaDoorProg
import Derived.Shelf.Lays
import Derived.KernelRfl
import Derived.Shelf.Strings.Search3
import Derived.Shelf.Strings.Prefix
import Derived.LaidLaws
import Derived.SizedLaws
import Derived.Handed
import Derived.Shelf.Vars
set_option linter.all false
section
namespace Go.Am
open Go
@[simp] theorem range_2 : List.range 2 = [0, 1] := rfl
@[simp] theorem range_3 : List.range 3 = [0, 1, 2] := rfl
@[simp] theorem range_4 : List.range 4 = [0, 1, 2, 3] := rfl
@[simp] theorem range_5 : List.range 5 = [0, 1, 2, 3, 4] := rfl
@[simp] theorem range_6 : List.range 6 = [0, 1, 2, 3, 4, 5] := rfl
@[simp] theorem int_beq (a b : Int) : (a == b) = decide (a = b) := by by_cases h : a = b <;> simp [h]
def I64 (n : Int) : Prop := -9223372036854775808 ≤ n ∧ n ≤ 9223372036854775807
theorem wrap_id {n : Int} (h : I64 n) : IntKind.i64.wrap n = n := IntWalk.i64_in _ (by unfold I64 at h; omega)
end Go.Am
end
section
namespace Go.Am
open Go
abbrev AnsT := Option (Out × List (Nat × Cont))
theorem hoistB (c : Prop) [Decidable c] (a b : Bool) (l : List (Nat × Cont)) : (if c then (some (Out.ret (.d (.bool a)), l) : AnsT) else some (Out.ret (.d (.bool b)), l)) = some (Out.ret (.d (.bool (if c then a else b))), l) := by split <;> rfl
theorem retB_iff (a b : Bool) (l : List (Nat × Cont)) : (some (Out.ret (.d (.bool a)), l) : AnsT) = some (Out.ret (.d (.bool b)), l) ↔ (a = true ↔ b = true) := by
  cases a <;> cases b <;> simp
theorem hoistI (c : Prop) [Decidable c] (k : IntKind) (a b : Int) (l : List (Nat × Cont)) : (if c then (some (Out.ret (.d (.int k a)), l) : AnsT) else some (Out.ret (.d (.int k b)), l)) = some (Out.ret (.d (.int k (if c then a else b))), l) := by split <;> rfl
theorem hoistT (c : Prop) [Decidable c] (a b : List AV) (l : List (Nat × Cont)) : (if c then (some (Out.ret (.tup a), l) : AnsT) else some (Out.ret (.tup b), l)) = some (Out.ret (.tup (if c then a else b)), l) := by split <;> rfl
end Go.Am
end
section
namespace Go.Am
abbrev Tx := List UInt8
def letterB (c : UInt8) : Bool := decide (65 ≤ c.toNat) && decide (c.toNat ≤ 90) || decide (97 ≤ c.toNat) && decide (c.toNat ≤ 122)
def digitB (c : UInt8) : Bool := decide (48 ≤ c.toNat) && decide (c.toNat ≤ 57)
def innerB (c : UInt8) : Bool := letterB c || digitB c || decide (c.toNat = 95)
def blankB (c : UInt8) : Bool := decide (c.toNat = 32) || decide (c.toNat = 10) || decide (c.toNat = 9)
/-- What a digit is worth; 99: it is none. -/
def valB (c : UInt8) : Nat := if digitB c then c.toNat - 48 else if 65 ≤ c.toNat ∧ c.toNat ≤ 70 then c.toNat - 65 + 10 else 99
/-- Places. -/
def plStep (p : Int × Int) (c : UInt8) : Int × Int := if c = 10 then (p.1 + 1, 1) else (p.1, p.2 + 1)
def plOf (s : Tx) : Int × Int := s.foldl plStep (1, 1)
theorem plOf_bound : ∀ (s : Tx) (p : Int × Int) (n : Nat), 1 ≤ p.1 → p.1 ≤ n → 1 ≤ p.2 → p.2 ≤ n → 1 ≤ (s.foldl plStep p).1 ∧ (s.foldl plStep p).1 ≤ n + s.length ∧ 1 ≤ (s.foldl plStep p).2 ∧ (s.foldl plStep p).2 ≤ n + s.length
  | [], p, n, h1, h2, h3, h4 => by simp; omega
  | c :: r, p, n, h1, h2, h3, h4 => by
    have h := plOf_bound r (plStep p c) (n + 1) (by unfold plStep; split <;> simp <;> omega) (by unfold plStep; split <;> simp <;> omega) (by unfold plStep; split <;> simp <;> omega) (by unfold plStep; split <;> simp <;> omega)
    simp only [List.foldl_cons, List.length_cons]
    omega
theorem plOf_take {s : Tx} {i : Nat} : 1 ≤ (plOf (s.take i)).1 ∧ (plOf (s.take i)).1 ≤ s.length + 1 ∧ 1 ≤ (plOf (s.take i)).2 ∧ (plOf (s.take i)).2 ≤ s.length + 1 := by
  have h := plOf_bound (s.take i) (1, 1) 1 (by simp) (by simp) (by simp) (by simp)
  have hl : (s.take i).length ≤ s.length := by simp; omega
  unfold plOf
  omega
theorem plOf_succ {s : Tx} {i : Nat} (h : i < s.length) : plOf (s.take (i + 1)) = plStep (plOf (s.take i)) s[i] := by
  unfold plOf
  rw [List.take_add_one, List.getElem?_eq_getElem h, List.foldl_append]
  rfl
/-- The end of a remark. -/
def findEnd : Tx → Option Nat
  | [] => none
  | c :: r => if c = 42 ∧ r.head? = some 41 then some 0 else (findEnd r).map (· + 1)
/-- How many bytes up to the end of the line. -/
def lineN (s : Tx) : Nat := (s.takeWhile (· ≠ 10)).length
theorem lineN_le (s : Tx) : lineN s ≤ s.length := by unfold lineN; exact (List.takeWhile_prefix _).length_le
theorem u8beq (a c : UInt8) : (a == c) = decide (c = a) := by
  by_cases h : c = a
  · simp [h]
  · simp [h]; exact fun e => h e.symm
theorem indexByte_line : ∀ (t : Tx), Go.Lib.indexByte t 10 = if lineN t < t.length then (lineN t : Int) else -1
  | [] => rfl
  | c :: r => by
    have ih := indexByte_line r
    unfold Go.Lib.indexByte
    by_cases hc : c = 10
    · subst hc; simp [lineN]
    · have e : lineN (c :: r) = lineN r + 1 := by simp [lineN, hc]
      rw [e, ih]
      simp only [beq_iff_eq, hc, if_false, List.length_cons]
      by_cases h : lineN r < r.length
      · simp only [if_pos h]
        rw [if_neg (by omega), if_pos (by omega)]; omega
      · simp [h]
theorem findEnd_le : ∀ {t : Tx} {m : Nat}, findEnd t = some m → m + 2 ≤ t.length
  | [], m, h => by cases h
  | c :: r, m, h => by
    unfold findEnd at h
    split at h
    · rename_i hc
      cases h
      cases r with
      | nil => simp at hc
      | cons d r => simp
    · cases hf : findEnd r with
      | none => rw [hf] at h; cases h
      | some n =>
        rw [hf] at h
        cases h
        have := findEnd_le hf
        simp; omega
theorem index_end : ∀ (t : Tx), Go.Lib.index t [42, 41] = match findEnd t with | none => -1 | some m => (m : Int)
  | [] => rfl
  | c :: r => by
    have ih := index_end r
    unfold Go.Lib.index findEnd
    have e : (([42, 41] : Tx).isPrefixOf (c :: r)) = decide (c = 42 ∧ r.head? = some 41) := by
      cases r with
      | nil => simp [List.isPrefixOf]
      | cons d r => simp [List.isPrefixOf, u8beq]
    rw [e, ih]
    by_cases hc : c = 42 ∧ r.head? = some 41
    · simp [hc]
    · rw [if_neg hc]
      simp only [hc, decide_false, Bool.false_eq_true, if_false]
      cases hf : findEnd r with
      | none => simp
      | some n => simp
theorem hasPrefix2 (a b c : UInt8) (r : Tx) : Go.Lib.hasPrefix (c :: r) [a, b] = (decide (c = a) && decide (r.head? = some b)) := by
  unfold Go.Lib.hasPrefix
  cases r with
  | nil => simp [List.isPrefixOf]
  | cons d r => simp [List.isPrefixOf, u8beq]
/-- Blanks and remarks: how many bytes; is each remark one? -/
def gapC : Nat → Tx → Nat × Bool
  | 0, _ => (0, true)
  | _ + 1, [] => (0, true)
  | f + 1, c :: r =>
    if blankB c then (1 + (gapC f r).1, (gapC f r).2)
    else if c = 47 ∧ r.head? = some 47 then (lineN (c :: r) + (gapC f ((c :: r).drop (lineN (c :: r)))).1, (gapC f ((c :: r).drop (lineN (c :: r)))).2)
    else if c = 40 ∧ r.head? = some 42 then match findEnd r.tail with
      | none => (0, false)
      | some m => (m + 4 + (gapC f ((c :: r).drop (m + 4))).1, (gapC f ((c :: r).drop (m + 4))).2)
    else (0, true)
/-- A number at the beginning: base, length of its head. -/
def headN (s : Tx) : Nat × Nat := if [49, 54, 35].isPrefixOf s then (16, 3) else if [56, 35].isPrefixOf s then (8, 2) else if [50, 35].isPrefixOf s then (2, 2) else (10, 0)
/-- Its value, if there is room. -/
def valN (base : Nat) : Nat → Tx → Option Nat
  | x, [] => some x
  | x, c :: r => if (9223372036854775807 - valB c) / base < x then none else valN base (x * base + valB c) r
/-- A number at the beginning, its digits known: its length, value, error. -/
def numG (s : Tx) (b h : Nat) (ds : Tx) : Nat × Nat × Nat :=
  if ds = [] ∨ (∃ c, s[h + ds.length]? = some c ∧ (innerB c = true ∨ c = 35)) then (0, 0, 5)
  else match valN b 0 ds with
    | none => (0, 0, 2)
    | some x => (h + ds.length, x, 0)
def numF (s : Tx) : Nat × Nat × Nat := numG s (headN s).1 (headN s).2 ((s.drop (headN s).2).takeWhile (fun c => decide (valB c < (headN s).1)))
def signs1 : Tx := [43, 45, 42, 47, 40, 41, 91, 93, 46, 44, 59, 58, 60, 62, 61]
def signs2 : List Tx := [[58, 61], [60, 61], [62, 61], [60, 62], [46, 46]]
def signF (s : Tx) : Nat := if signs2.any (fun p => p.isPrefixOf s) then 2 else match s with
  | [] => 0
  | c :: _ => if c ∈ signs1 then 1 else 0
theorem gapC_le : ∀ (f : Nat) (t : Tx), (gapC f t).1 ≤ t.length
  | 0, _ => by simp [gapC]
  | _ + 1, [] => by simp [gapC]
  | f + 1, c :: r => by
    unfold gapC
    split
    · have := gapC_le f r; simp; omega
    · split
      · have h1 := gapC_le f ((c :: r).drop (lineN (c :: r)))
        have h2 := lineN_le (c :: r)
        simp only [List.length_drop] at h1
        simp only; omega
      · split
        · split
          · simp
          · rename_i m hm
            have h1 := gapC_le f ((c :: r).drop (m + 4))
            have h2 := findEnd_le hm
            have h3 : r.tail.length = r.length - 1 := by simp
            simp only [List.length_drop, List.length_cons] at h1 ⊢
            omega
        · simp
/-- The words of the language. -/
def wordsT : Tx := [80, 82, 79, 71, 82, 65, 77, 32, 69, 78, 68, 95, 80, 82, 79, 71, 82, 65, 77, 32, 86, 65, 82, 32, 86, 65, 82, 95, 73, 78, 80, 85, 84, 32, 86, 65, 82, 95, 79, 85, 84, 80, 85, 84, 32, 69, 78, 68, 95, 86, 65, 82, 32, 73, 78, 84, 32, 66, 79, 79, 76, 32, 65, 82, 82, 65, 89, 32, 79, 70, 32, 84, 82, 85, 69, 32, 70, 65, 76, 83, 69, 32, 73, 70, 32, 84, 72, 69, 78, 32, 69, 76, 83, 73, 70, 32, 69, 76, 83, 69, 32, 69, 78, 68, 95, 73, 70, 32, 67, 65, 83, 69, 32, 69, 78, 68, 95, 67, 65, 83, 69, 32, 70, 79, 82, 32, 84, 79, 32, 66, 89, 32, 68, 79, 32, 69, 78, 68, 95, 70, 79, 82, 32, 87, 72, 73, 76, 69, 32, 69, 78, 68, 95, 87, 72, 73, 76, 69, 32, 82, 69, 80, 69, 65, 84, 32, 85, 78, 84, 73, 76, 32, 69, 78, 68, 95, 82, 69, 80, 69, 65, 84, 32, 69, 88, 73, 84, 32, 82, 69, 84, 85, 82, 78, 32, 65, 78, 68, 32, 79, 82, 32, 88, 79, 82, 32, 78, 79, 84, 32, 77, 79, 68]
def wordsL : List Tx := [[80, 82, 79, 71, 82, 65, 77], [69, 78, 68, 95, 80, 82, 79, 71, 82, 65, 77], [86, 65, 82], [86, 65, 82, 95, 73, 78, 80, 85, 84], [86, 65, 82, 95, 79, 85, 84, 80, 85, 84], [69, 78, 68, 95, 86, 65, 82], [73, 78, 84], [66, 79, 79, 76], [65, 82, 82, 65, 89], [79, 70], [84, 82, 85, 69], [70, 65, 76, 83, 69], [73, 70], [84, 72, 69, 78], [69, 76, 83, 73, 70], [69, 76, 83, 69], [69, 78, 68, 95, 73, 70], [67, 65, 83, 69], [69, 78, 68, 95, 67, 65, 83, 69], [70, 79, 82], [84, 79], [66, 89], [68, 79], [69, 78, 68, 95, 70, 79, 82], [87, 72, 73, 76, 69], [69, 78, 68, 95, 87, 72, 73, 76, 69], [82, 69, 80, 69, 65, 84], [85, 78, 84, 73, 76], [69, 78, 68, 95, 82, 69, 80, 69, 65, 84], [69, 88, 73, 84], [82, 69, 84, 85, 82, 78], [65, 78, 68], [79, 82], [88, 79, 82], [78, 79, 84], [77, 79, 68]]
def wordB (s : Tx) : Bool := decide (s ∈ wordsL)
structure Sgn where
  kind : Int
  text : Tx
  n : Int
  line : Int
  col : Int
  deriving DecidableEq
/-- The sign at the beginning: error, kind, length, value. -/
def nextF (s : Tx) : Nat × Nat × Nat × Nat :=
  match s with
  | [] => (5, 0, 0, 0)
  | c :: _ =>
    if letterB c then
      if wordB (s.take (s.takeWhile innerB).length) then (0, 2, (s.takeWhile innerB).length, 0)
      else if 16 < (s.takeWhile innerB).length then (9, 1, 0, 0) else (0, 1, (s.takeWhile innerB).length, 0)
    else if digitB c then
      if (numF s).2.2 = 0 then (0, 3, (numF s).1, (numF s).2.1) else ((numF s).2.2, 0, 0, 0)
    else if signF s = 0 then (5, 0, 0, 0) else (0, 4, signF s, 0)
def here (p : Int × Int) : Sgn := ⟨0, [], 0, p.1, p.2⟩
/-- All signs from a place on. -/
def lexF (s : Tx) : Nat → Nat → List Sgn → List Sgn × Nat × Sgn
  | 0, _, _ => ([], 5, ⟨0, [], 0, 0, 0⟩)
  | f + 1, i, out =>
    if (gapC (s.length + 1) (s.drop i)).2 = false then ([], 5, here (plOf (s.take (i + (gapC (s.length + 1) (s.drop i)).1))))
    else if s.drop (i + (gapC (s.length + 1) (s.drop i)).1) = [] then (out ++ [here (plOf (s.take (i + (gapC (s.length + 1) (s.drop i)).1)))], 0, ⟨0, [], 0, 0, 0⟩)
    else if (nextF (s.drop (i + (gapC (s.length + 1) (s.drop i)).1))).1 ≠ 0 then ([], (nextF (s.drop (i + (gapC (s.length + 1) (s.drop i)).1))).1, here (plOf (s.take (i + (gapC (s.length + 1) (s.drop i)).1))))
    else lexF s f (i + (gapC (s.length + 1) (s.drop i)).1 + (nextF (s.drop (i + (gapC (s.length + 1) (s.drop i)).1))).2.2.1)
      (out ++ [⟨(nextF (s.drop (i + (gapC (s.length + 1) (s.drop i)).1))).2.1, (s.drop (i + (gapC (s.length + 1) (s.drop i)).1)).take (nextF (s.drop (i + (gapC (s.length + 1) (s.drop i)).1))).2.2.1, (nextF (s.drop (i + (gapC (s.length + 1) (s.drop i)).1))).2.2.2,
        (plOf (s.take (i + (gapC (s.length + 1) (s.drop i)).1))).1, (plOf (s.take (i + (gapC (s.length + 1) (s.drop i)).1))).2⟩])
def lexP (s : Tx) : List Sgn × Nat × Sgn := if 16384 < s.length then ([], 13, ⟨0, [], 0, 1, 1⟩) else lexF s (s.length + 1) 0 []
end Go.Am
end
section
namespace Go.Am
open Go Go.Proofs
variable [Inhabited Mx2]
set_option maxRecDepth 20000
theorem wrap8_id {n : Int} (h1 : 0 ≤ n) (h2 : n ≤ 255) : IntKind.u8.wrap n = n := by
  simp [IntKind.wrap, IntKind.bits, IntKind.signed]
  omega
theorem letter_run (c : UInt8) : callT ctx 84 [.d (.int .u8 c.toNat)] [] = some (.ret (.d (.bool (letterB c))), []) := by
  rw [run84 (by simp)]
  simp [Tryd.f84, drwK_end]
  grind [letterB]
theorem digit_run (c : UInt8) : callT ctx 87 [.d (.int .u8 c.toNat)] [] = some (.ret (.d (.bool (digitB c))), []) := by
  rw [run87 (by simp)]
  simp [Tryd.f87, drwK_end]
  grind [digitB]
theorem inner_run (c : UInt8) : callT ctx 86 [.d (.int .u8 c.toNat)] [] = some (.ret (.d (.bool (innerB c))), []) := by
  rw [run86 (by simp)]
  simp [Tryd.f86, drwK_end, letter_run, digit_run]
  simp only [hoistB, retB_iff]
  grind [innerB]
theorem value_run (c : UInt8) : callT ctx 128 [.d (.int .u8 c.toNat)] [] = some (.ret (.d (.int .i64 (valB c))), []) := by
  rw [run128 (by simp)]
  simp [Tryd.f128, drwK_end, digit_run]
  have hc : c.toNat < 256 := c.toNat_lt
  have w : ∀ y : Int, -9223372036854775808 ≤ y → y ≤ 9223372036854775807 → IntKind.i64.wrap y = y := fun y h1 h2 => wrap_id ⟨h1, h2⟩
  have w8 : ∀ y : Int, 0 ≤ y → y ≤ 255 → IntKind.u8.wrap y = y := fun y h1 h2 => wrap8_id h1 h2
  grind [valB, digitB]
end Go.Am
end
section
namespace Go.Am
open Go Go.Proofs
variable [Inhabited Mx2]
set_option maxRecDepth 20000
theorem strAt_eq {s : Tx} {i : Nat} (h : i < s.length) : strAt s i = s[i] := by simp [strAt, h]
theorem u8_eq (c : UInt8) (n : Nat) (hn : n < 256) : ((c.toNat : Int) = n) ↔ c = UInt8.ofNat n := by
  constructor
  · intro h
    have h : c.toNat = n := by omega
    rw [← h]; simp
  · rintro rfl
    simp; omega
@[simp] def rBox (s : Tx) (i : Nat) : Cont := .box [.d (.str s), .d (.int .i64 i), .d (.int .i64 (plOf (s.take i)).1), .d (.int .i64 (plOf (s.take i)).2)]
theorem rest_run (s : Tx) (i : Nat) (h : i ≤ s.length) : callT ctx 44 [.ptr 0 0 0] [rBox s i] = some (.ret (.d (.str (s.drop i))), [(0, rBox s i)]) := by
  rw [run44 (by simp)]
  simp [Tryd.f44, drwK_end, h]
theorem skip_loop (s : Tx) (i n : Nat) (h : i + n ≤ s.length) (hs : s.length ≤ 100000) (k : Kt) : ∀ (r j : Nat), j + r = n →
    denK ctx 46 (.loop (Code.at (codeOf Tryd.f46) [1, 0, 0])) ⟨42, gl0, [(0, true, .ptr 0 0 0), (4, true, .d (.int .i64 n)), (5, true, .d (.int .i64 j))], [⟨0, 0, rBox s (i + j)⟩]⟩ k =
      k (.exit 0) ⟨42, gl0, [(0, true, .ptr 0 0 0), (4, true, .d (.int .i64 n)), (5, true, .d (.int .i64 n)), (6, true, .d (.bool false))], [⟨0, 0, rBox s (i + n)⟩]⟩
  | 0, j, hj => by
    have hj : j = n := by omega
    subst hj
    rw [denK_loop]
    simp [Tryd.f46]
  | r + 1, j, hj => by
    have ih := skip_loop s i n h hs k r (j + 1) (by omega)
    have hlt : i + j < s.length := by omega
    have hb := plOf_take (s := s) (i := i + j)
    have hsu := plOf_succ hlt
    rw [show i + (j + 1) = i + j + 1 by omega] at ih
    generalize hp : plOf (s.take (i + j)) = p at *
    generalize hq : plOf (s.take (i + j + 1)) = q at *
    obtain ⟨l, c⟩ := p
    obtain ⟨l2, c2⟩ := q
    simp only at hb
    have w1 : IntKind.i64.wrap (c + 1) = c + 1 := wrap_id (by unfold I64; omega)
    have w2 : IntKind.i64.wrap (l + 1) = l + 1 := wrap_id (by unfold I64; omega)
    have w3 : IntKind.i64.wrap ((i : Int) + j + 1) = (i : Int) + j + 1 := wrap_id (by unfold I64; omega)
    have w4 : IntKind.i64.wrap ((j : Int) + 1) = (j : Int) + 1 := wrap_id (by unfold I64; omega)
    have hjn : j < n := by omega
    rw [denK_loop]
    simp [Tryd.f46, hp, hq] at ih ⊢
    have h0 : (0 : Int) ≤ (i : Int) + j := by omega
    have ht : ((i : Int) + j).toNat = i + j := by omega
    have hst := strAt_eq hlt
    have h10 := u8_eq s[i + j] 10 (by omega)
    simp at h10
    unfold plStep at hsu
    by_cases hc : s[i + j] = 10
    · rw [if_pos hc] at hsu
      cases hsu
      simp [hjn, w1, w2, w3, w4, hlt, drwK_end, h0, ht, hst, hc, ih]
    · rw [if_neg hc] at hsu
      cases hsu
      simp [hjn, w1, w2, w3, w4, hlt, drwK_end, h0, ht, hst, h10, hc, ih]
theorem skip_run (s : Tx) (i n : Nat) (h : i + n ≤ s.length) (hs : s.length ≤ 100000) : callT ctx 46 [.ptr 0 0 0, .d (.int .i64 n)] [rBox s i] = some (.ret (.tup []), [(0, rBox s (i + n))]) := by
  have hl := fun k => skip_loop s i n h hs k n 0 (by omega)
  rw [run46 (by simp)]
  simp [Tryd.f46] at hl ⊢
  simp [hl]
end Go.Am
end
section
namespace Go.Am
open Go Go.Proofs
variable [Inhabited Mx2]
set_option maxRecDepth 20000
theorem indexByte_run (t : Tx) (c : UInt8) : callT ctx 82 [.d (.str t), .d (.int .u8 c.toNat)] [] = some (.ret (.d (.int .i64 (Go.Lib.indexByte t c))), []) := by
  rw [run82 (by simp)]
  simp [Tryd.f82, drwK_end]
set_option maxHeartbeats 1000000 in
theorem gap_loop (s : Tx) (hs : s.length ≤ 100000) (k : Kt) (R : Ans) : ∀ (f i : Nat), i ≤ s.length → s.length - i < f →
    (k .ret ⟨51, gl0, [(2, true, .d (.bool (gapC f (s.drop i)).2))], [⟨0, 0, rBox s (i + (gapC f (s.drop i)).1)⟩]⟩ = R) →
    denK ctx 43 (.loop (Code.at (codeOf Tryd.f43) [1, 0, 0])) ⟨51, gl0, [(0, true, .ptr 0 0 0)], [⟨0, 0, rBox s i⟩]⟩ k = R
  | 0, i, hi, hf, hk => by omega
  | f + 1, i, hi, hf, hk => by
    have hr := rest_run s i hi
    cases ht : s.drop i with
    | nil =>
      rw [ht] at hr hk
      simp [gapC] at hr hk
      rw [denK_loop]
      simp [Tryd.f43, hr, hk, drwK_end]
    | cons c r =>
      have hlen : i + (r.length + 1) = s.length := by have := congrArg List.length ht; simp at this; omega
      have hb1 := indexByte_run (c :: r) 10
      rw [indexByte_line] at hb1
      rw [ht] at hr hk
      unfold gapC at hk
      have hst : strAt (c :: r) 0 = c := rfl
      have hlb := lineN_le (c :: r)
      by_cases h1 : blankB c = true
      · rw [if_pos h1] at hk
        have hsk := skip_run s i 1 (by omega) hs
        have hd : s.drop (i + 1) = r := by rw [← List.tail_drop, ht]; rfl
        have ih := gap_loop s hs k R f (i + 1) (by omega) (by omega) (by rw [hd, show i + 1 + (gapC f r).1 = i + (1 + (gapC f r).1) by omega]; exact hk)
        simp [blankB] at h1
        rw [denK_loop]
        simp [Tryd.f43] at hr hsk ih ⊢
        rcases h1 with (h1 | h1) | h1 <;> simp [hr, hst, h1, hsk, ih, drwK_end]
      rw [if_neg h1] at hk
      have n1 : ¬ (c.toNat : Int) = 32 := fun h => h1 (by simp [blankB]; omega)
      have n2 : ¬ (c.toNat : Int) = 10 := fun h => h1 (by simp [blankB]; omega)
      have n3 : ¬ (c.toNat : Int) = 9 := fun h => h1 (by simp [blankB]; omega)
      have p1 := hasPrefix2 47 47 c r
      have p2 := hasPrefix2 40 42 c r
      by_cases h2 : c = 47 ∧ r.head? = some 47
      · rw [if_pos h2] at hk
        have p1 : Go.Lib.hasPrefix (c :: r) [47, 47] = true := by rw [p1]; simp [h2]
        have hsk := skip_run s i (lineN (c :: r)) (by simp at hlb; omega) hs
        have hd : s.drop (i + lineN (c :: r)) = (c :: r).drop (lineN (c :: r)) := by rw [← List.drop_drop, ht]
        have hpos : 0 < lineN (c :: r) := by simp [lineN, h2.1]
        have ih := gap_loop s hs k R f (i + lineN (c :: r)) (by simp at hlb; omega) (by omega) (by rw [hd, Nat.add_assoc]; exact hk)
        generalize lineN (c :: r) = n at *
        rw [denK_loop]
        by_cases hl : n < (c :: r).length
        · rw [if_pos hl] at hb1
          have hnn : ¬ ((n : Int) < 0) := by omega
          simp [Tryd.f43] at hr hsk ih hb1 ⊢
          simp [hr, hst, n1, n2, n3, p1, hb1, hnn, hsk, ih, drwK_end]
        · rw [if_neg hl] at hb1
          have hn : n = r.length + 1 := by simp at hl hlb; omega
          subst hn
          simp [Tryd.f43] at hr hsk ih hb1 ⊢
          simp [hr, hst, n1, n2, n3, p1, hb1, hsk, ih, drwK_end]
      rw [if_neg h2] at hk
      have p1 : Go.Lib.hasPrefix (c :: r) [47, 47] = false := by rw [p1]; simpa using h2
      by_cases h3 : c = 40 ∧ r.head? = some 42
      · rw [if_pos h3] at hk
        have p2 : Go.Lib.hasPrefix (c :: r) [40, 42] = true := by rw [p2]; simp [h3]
        have hi2 := index_end r.tail
        have h2l : (2 : Int) ≤ (r.length : Int) + 1 := by cases r with | nil => simp at h3 | cons d r => simp; omega
        have hb : r.length - 1 < 4294967281 := by omega
        cases hf2 : findEnd r.tail with
        | none =>
          rw [hf2] at hk hi2
          simp at hk hi2 hr
          rw [denK_loop]
          simp [Tryd.f43]
          simp [hr, hst, n1, n2, n3, p1, p2, h2l, hb, hi2, hk, drwK_end]
        | some m =>
          rw [hf2] at hk hi2
          have hm := findEnd_le hf2
          have hmt : r.tail.length = r.length - 1 := by simp
          have hsk := skip_run s i (m + 4) (by omega) hs
          have hd : s.drop (i + (m + 4)) = (c :: r).drop (m + 4) := by rw [← List.drop_drop, ht]
          have ih := gap_loop s hs k R f (i + (m + 4)) (by omega) (by omega) (by rw [hd, Nat.add_assoc]; exact hk)
          have hnn : ¬ ((m : Int) < 0) := by omega
          have w1 : IntKind.i64.wrap ((m : Int) + 4) = m + 4 := wrap_id (by unfold I64; omega)
          rw [denK_loop]
          simp [Tryd.f43] at hr hsk ih hi2 ⊢
          simp [hr, hst, n1, n2, n3, p1, p2, h2l, hb, hi2, hnn, w1, hsk, ih, drwK_end]
      rw [if_neg h3] at hk
      have p2 : Go.Lib.hasPrefix (c :: r) [40, 42] = false := by rw [p2]; simpa using h3
      simp at hk hr
      rw [denK_loop]
      simp [Tryd.f43]
      simp [hr, hst, n1, n2, n3, p1, p2, hk, drwK_end]
theorem gap_run (s : Tx) (i : Nat) (hi : i ≤ s.length) (hs : s.length ≤ 100000) (f : Nat) (hf : s.length - i < f) :
    callT ctx 43 [.ptr 0 0 0] [rBox s i] = some (.ret (.d (.bool (gapC f (s.drop i)).2)), [(0, rBox s (i + (gapC f (s.drop i)).1))]) := by
  have hl := fun k R => gap_loop s hs k R f i hi hf
  rw [run43 (by simp)]
  simp [Tryd.f43] at hl ⊢
  rw [hl]
  simp
end Go.Am
end
section
namespace Go.Am
open Go Go.Proofs
variable [Inhabited Mx2]
set_option maxRecDepth 20000
theorem number1_run (c : UInt8) (b : Int) : callT ctx 127 [.d (.int .u8 c.toNat), .ptr 0 0 0] [.box [.d (.int .i64 b)]] = some (.ret (.d (.bool (decide ((valB c : Int) < b)))), [(0, .box [.d (.int .i64 b)])]) := by
  rw [run127 (by simp)]
  simp [Tryd.f127, drwK_end, value_run]
theorem whileA_loop (s : Tx) (hs : s.length ≤ 100000) (k : Kt) : ∀ (r n : Nat), n + r = s.length →
    denK ctx 85 (.loop (Code.at (codeOf Tryd.f85) [1, 1, 0, 0, 0])) ⟨20, gl0, [(0, true, .d (.str s)), (1, true, .fn 86 []), (5, true, .d (.int .i64 n))], []⟩ k =
      k (.exit 0) ⟨20, gl0, [(0, true, .d (.str s)), (1, true, .fn 86 []), (5, true, .d (.int .i64 (n + ((s.drop n).takeWhile innerB).length : Nat))), (16, true, .d (.bool false))], []⟩
  | 0, n, hn => by
    have hn : n = s.length := by omega
    subst hn
    rw [denK_loop]
    simp [Tryd.f85]
  | r + 1, n, hn => by
    have hlt : n < s.length := by omega
    have ih := whileA_loop s hs k r (n + 1) (by omega)
    have w1 : IntKind.i64.wrap ((n : Int) + 1) = (n : Int) + 1 := wrap_id (by unfold I64; omega)
    have hst := strAt_eq hlt
    have hin := inner_run s[n]
    have hd : s.drop n = s[n] :: s.drop (n + 1) := List.drop_eq_getElem_cons hlt
    rw [hd, List.takeWhile_cons]
    rw [denK_loop]
    cases hq : innerB s[n] with
    | true =>
      rw [hq] at hin
      have e : n + 1 + (List.takeWhile innerB (s.drop (n + 1))).length = n + ((List.takeWhile innerB (s.drop (n + 1))).length + 1) := by omega
      rw [e] at ih
      simp [Tryd.f85] at ih hin ⊢
      simp [hlt, hst, hin, w1, ih]
    | false =>
      rw [hq] at hin
      simp [Tryd.f85] at hin ⊢
      simp [hlt, hst, hin]
theorem whileA_run (s : Tx) (hs : s.length ≤ 100000) : callT ctx 85 [.d (.str s), .fn 86 []] [] = some (.ret (.d (.int .i64 (s.takeWhile innerB).length)), []) := by
  have hl := fun k => whileA_loop s hs k s.length 0 (by omega)
  rw [run85 (by simp)]
  simp [Tryd.f85] at hl ⊢
  simp [hl]
theorem whileB_loop (s : Tx) (hs : s.length ≤ 100000) (b : Nat) (k : Kt) : ∀ (r n : Nat), n + r = s.length →
    denK ctx 85 (.loop (Code.at (codeOf Tryd.f85) [1, 1, 0, 0, 0])) ⟨20, gl0, [(0, true, .d (.str s)), (1, true, .fn 127 [.ptr 0 0 0]), (5, true, .d (.int .i64 n))], [⟨0, 0, .box [.d (.int .i64 b)]⟩]⟩ k =
      k (.exit 0) ⟨20, gl0, [(0, true, .d (.str s)), (1, true, .fn 127 [.ptr 0 0 0]), (5, true, .d (.int .i64 (n + ((s.drop n).takeWhile (fun c => decide (valB c < b))).length : Nat))), (16, true, .d (.bool false))], [⟨0, 0, .box [.d (.int .i64 b)]⟩]⟩
  | 0, n, hn => by
    have hn : n = s.length := by omega
    subst hn
    rw [denK_loop]
    simp [Tryd.f85]
  | r + 1, n, hn => by
    have hlt : n < s.length := by omega
    have ih := whileB_loop s hs b k r (n + 1) (by omega)
    have w1 : IntKind.i64.wrap ((n : Int) + 1) = (n : Int) + 1 := wrap_id (by unfold I64; omega)
    have hst := strAt_eq hlt
    have hin := number1_run s[n] b
    have hd : s.drop n = s[n] :: s.drop (n + 1) := List.drop_eq_getElem_cons hlt
    rw [hd, List.takeWhile_cons]
    rw [denK_loop]
    by_cases hq : valB s[n] < b
    · have e : n + 1 + (List.takeWhile (fun c => decide (valB c < b)) (s.drop (n + 1))).length = n + ((List.takeWhile (fun c => decide (valB c < b)) (s.drop (n + 1))).length + 1) := by omega
      rw [e] at ih
      simp [Tryd.f85, hq] at ih hin ⊢
      simp [hlt, hst, hin, w1, ih]
    · simp [Tryd.f85, hq] at hin ⊢
      simp [hlt, hst, hin]
theorem whileB_run (s : Tx) (hs : s.length ≤ 100000) (b : Nat) : callT ctx 85 [.d (.str s), .fn 127 [.ptr 0 0 0]] [.box [.d (.int .i64 b)]] =
    some (.ret (.d (.int .i64 (s.takeWhile (fun c => decide (valB c < b))).length)), [(0, .box [.d (.int .i64 b)])]) := by
  have hl := fun k => whileB_loop s hs b k s.length 0 (by omega)
  rw [run85 (by simp)]
  simp [Tryd.f85] at hl ⊢
  simp [hl]
end Go.Am
end
section
namespace Go.Am
open Go Go.Proofs
variable [Inhabited Mx2]
set_option maxRecDepth 20000
theorem valB_le (c : UInt8) : valB c ≤ 99 := by
  unfold valB digitB
  split
  · rename_i h; simp at h; omega
  · split <;> omega
set_option maxHeartbeats 1000000 in
theorem num_loop (s : Tx) (hs : s.length ≤ 100000) (b : Nat) (hb : 2 ≤ b ∧ b ≤ 16) (n v : Nat) (ct : Cont) (hn : n ≤ s.length) (k : Kt) (R : Ans) : ∀ (rest : Tx) (i x : Nat), (s.drop i).take rest.length = rest → i + rest.length = n → x ≤ 9223372036854775807 →
    (match valN b x rest with
      | none => k .ret ⟨83, gl0, [(2, true, .d (.int .i64 0)), (3, true, .d (.int .i64 0)), (4, true, .d (.int .i64 2))], [⟨350, 1, .box [.d (.int .i64 b)]⟩, ⟨500, v, ct⟩]⟩
      | some y => k (.exit 2) ⟨83, gl0, [(0, true, .d (.str s)), (5, true, .ptr 350 1 0), (9, true, .d (.int .i64 n)), (10, true, .d (.int .i64 y)), (11, true, .d (.int .i64 n)), (63, true, .d (.bool false))], [⟨350, 1, .box [.d (.int .i64 b)]⟩, ⟨500, v, ct⟩]⟩) = R →
    denK ctx 88 (.loop (Code.at (codeOf Tryd.f88) [1, 1, 1, 1, 1, 1, 0, 1, 0, 0])) ⟨83, gl0, [(0, true, .d (.str s)), (5, true, .ptr 350 1 0), (9, true, .d (.int .i64 n)), (10, true, .d (.int .i64 x)), (11, true, .d (.int .i64 i))], [⟨350, 1, .box [.d (.int .i64 b)]⟩, ⟨500, v, ct⟩]⟩ k = R
  | [], i, x, ht, hi, hx, hR => by
    have hi : i = n := by simpa using hi
    subst hi
    simp [valN] at hR
    rw [denK_loop]
    simp [Tryd.f88, hR]
  | c :: rest, i, x, ht, hi, hx, hR => by
    simp only [List.length_cons] at hi ht
    have hlt : i < s.length := by omega
    have hin : i < n := by omega
    have hd : s.drop i = s[i] :: s.drop (i + 1) := List.drop_eq_getElem_cons hlt
    rw [hd, List.take_succ_cons] at ht
    have hc : s[i] = c := (List.cons.inj ht).1
    have ht2 := (List.cons.inj ht).2
    have hst := strAt_eq hlt
    have hv := value_run c
    have hvl := valB_le c
    have w1 : IntKind.i64.wrap ((i : Int) + 1) = (i : Int) + 1 := wrap_id (by unfold I64; omega)
    have w2 : IntKind.i64.wrap (9223372036854775807 - (valB c : Int)) = ((9223372036854775807 - valB c : Nat) : Int) := by rw [wrap_id (by unfold I64; omega)]; omega
    have hqb : (9223372036854775807 - valB c) / b ≤ 9223372036854775807 := Nat.le_trans (Nat.div_le_self _ _) (Nat.sub_le _ _)
    have w3 : IntKind.i64.wrap (((9223372036854775807 - valB c : Nat) : Int) / (b : Int)) = (((9223372036854775807 - valB c) / b : Nat) : Int) := by
      rw [← Int.natCast_ediv]
      generalize (9223372036854775807 - valB c) / b = z at hqb
      exact wrap_id (by unfold I64; omega)
    have hb0 : b ≠ 0 := by omega
    unfold valN at hR
    rw [denK_loop]
    by_cases ho : (9223372036854775807 - valB c) / b < x
    · have ho' : ((9223372036854775807 - valB c : Nat) : Int) / (b : Int) < x := by rw [← Int.natCast_ediv]; exact Int.ofNat_lt.2 ho
      rw [if_pos ho] at hR
      simp at hR hv
      simp [Tryd.f88]
      simp [hin, hlt, hst, hc, hv, w2, w3, hb0, ho', hR]
    · have ho' : ¬ (((9223372036854775807 - valB c : Nat) : Int) / (b : Int) < x) := by rw [← Int.natCast_ediv]; exact fun h => ho (Int.ofNat_lt.1 h)
      rw [if_neg ho] at hR
      have hm : x * b ≤ 9223372036854775807 - valB c := by
        have h1 : x ≤ (9223372036854775807 - valB c) / b := by omega
        have := Nat.mul_le_mul_right b h1
        have h2 := Nat.div_mul_le_self (9223372036854775807 - valB c) b
        omega
      have hm2 : (x : Int) * (b : Int) = ((x * b : Nat) : Int) := by simp
      have w4 : IntKind.i64.wrap ((x : Int) * b) = ((x * b : Nat) : Int) := by rw [hm2]; exact wrap_id (by unfold I64; omega)
      have w5 : IntKind.i64.wrap (((x * b : Nat) : Int) + valB c) = ((x * b + valB c : Nat) : Int) := by rw [wrap_id (by unfold I64; omega)]; simp
      have ih := num_loop s hs b hb n v ct hn k R rest (i + 1) (x * b + valB c) ht2 (by omega) (by omega) hR
      generalize hxb : x * b + valB c = xb at *
      generalize x * b = xm at *
      simp [Tryd.f88] at ih ⊢
      simp [hin, hlt, hst, hc, hv, w1, w2, w3, w4, w5, hb0, ho', ih]
theorem pre_head {a : UInt8} {p s : Tx} (h : (a :: p).isPrefixOf s = true) : s.head? = some a ∧ p.length + 1 ≤ s.length := by
  have h' := List.isPrefixOf_iff_prefix.1 h
  refine ⟨?_, by simpa using h'.length_le⟩
  obtain ⟨t, rfl⟩ := h'
  rfl
theorem head_cases (s : Tx) : (Go.Lib.hasPrefix s [50, 35] = true ∧ Go.Lib.hasPrefix s [56, 35] = false ∧ Go.Lib.hasPrefix s [49, 54, 35] = false ∧ headN s = (2, 2) ∧ 2 ≤ s.length) ∨
    (Go.Lib.hasPrefix s [50, 35] = false ∧ Go.Lib.hasPrefix s [56, 35] = true ∧ Go.Lib.hasPrefix s [49, 54, 35] = false ∧ headN s = (8, 2) ∧ 2 ≤ s.length) ∨
    (Go.Lib.hasPrefix s [50, 35] = false ∧ Go.Lib.hasPrefix s [56, 35] = false ∧ Go.Lib.hasPrefix s [49, 54, 35] = true ∧ headN s = (16, 3) ∧ 3 ≤ s.length) ∨
    (Go.Lib.hasPrefix s [50, 35] = false ∧ Go.Lib.hasPrefix s [56, 35] = false ∧ Go.Lib.hasPrefix s [49, 54, 35] = false ∧ headN s = (10, 0) ∧ 0 ≤ s.length) := by
  unfold Go.Lib.hasPrefix headN
  have x1 : ([50, 35] : Tx).isPrefixOf s = true → ([56, 35] : Tx).isPrefixOf s = true → False := fun h g => by
    have h := (pre_head h).1; have g := (pre_head g).1; rw [h] at g; revert g; decide
  have x2 : ([50, 35] : Tx).isPrefixOf s = true → ([49, 54, 35] : Tx).isPrefixOf s = true → False := fun h g => by
    have h := (pre_head h).1; have g := (pre_head g).1; rw [h] at g; revert g; decide
  have x3 : ([56, 35] : Tx).isPrefixOf s = true → ([49, 54, 35] : Tx).isPrefixOf s = true → False := fun h g => by
    have h := (pre_head h).1; have g := (pre_head g).1; rw [h] at g; revert g; decide
  have l1 : ([50, 35] : Tx).isPrefixOf s = true → 2 ≤ s.length := fun h => (pre_head h).2
  have l2 : ([56, 35] : Tx).isPrefixOf s = true → 2 ≤ s.length := fun h => (pre_head h).2
  have l3 : ([49, 54, 35] : Tx).isPrefixOf s = true → 3 ≤ s.length := fun h => (pre_head h).2
  cases h2 : ([50, 35] : Tx).isPrefixOf s <;> cases h8 : ([56, 35] : Tx).isPrefixOf s <;> cases h16 : ([49, 54, 35] : Tx).isPrefixOf s <;> simp_all
set_option maxHeartbeats 2000000 in
theorem number_run (s : Tx) (hs : s.length ≤ 100000) : callT ctx 88 [.d (.str s)] [] = some (.ret (.tup [.d (.int .i64 (numF s).1), .d (.int .i64 (numF s).2.1), .d (.int .i64 (numF s).2.2)]), []) := by
  obtain ⟨b, h, hbh, hb, hhl⟩ : ∃ b h, headN s = (b, h) ∧ (2 ≤ b ∧ b ≤ 16) ∧ h ≤ s.length := by
    rcases head_cases s with ⟨_, _, _, e, hl⟩ | ⟨_, _, _, e, hl⟩ | ⟨_, _, _, e, hl⟩ | ⟨_, _, _, e, hl⟩ <;> exact ⟨_, _, e, by omega, by omega⟩
  have hw := whileB_run (s.drop h) (by simp; omega) b
  obtain ⟨ds, hds⟩ : ∃ ds, ds = (s.drop h).takeWhile (fun c => decide (valB c < b)) := ⟨_, rfl⟩
  rw [← hds] at hw
  have hdl : ds.length ≤ s.length - h := by
    have := (List.takeWhile_prefix (fun c => decide (valB c < b)) (l := s.drop h)).length_le
    rw [← hds] at this; simpa using this
  have hdt : (s.drop h).take ds.length = ds := by
    rw [hds]; exact List.prefix_iff_eq_take.1 (List.takeWhile_prefix _) |>.symm
  obtain ⟨n, hn⟩ : ∃ n, n = h + ds.length := ⟨_, rfl⟩
  have hns : n ≤ s.length := by omega
  have hloop := fun v ct k R => num_loop s hs b hb n v ct hns k R ds h 0 hdt hn.symm (by omega)
  have wn : IntKind.i64.wrap ((h : Int) + ds.length) = (n : Int) := by rw [wrap_id (by unfold I64; omega)]; omega
  have hn0 : ¬ ((n : Int) < 0) := by omega
  have hn1 : (0 : Int) ≤ n := by omega
  obtain ⟨F, hF⟩ : ∃ F : Nat × Nat × Nat, F = numG s b h ds := ⟨_, rfl⟩
  have hFF : numF s = F := by unfold numF; rw [hF, hbh]; simp only [← hds]
  rw [hFF]
  have c1 : IntKind.i64.wrap 1 = 1 := wrap_id (by unfold I64; omega)
  have c2 : IntKind.i64.wrap 2 = 2 := wrap_id (by unfold I64; omega)
  have c3 : IntKind.i64.wrap 3 = 3 := wrap_id (by unfold I64; omega)
  have r3 : List.range' 0 3 = [0, 1, 2] := rfl
  have key : ∀ (v : Nat) (ct : Cont) (k : Kt), n ≠ h → (n < s.length → innerB (strAt s n) = false ∧ strAt s n ≠ 35) →
      (∀ x, k (.exit 2) ⟨83, gl0, [(0, true, .d (.str s)), (5, true, .ptr 350 1 0), (9, true, .d (.int .i64 n)), (10, true, .d (.int .i64 x)), (11, true, .d (.int .i64 n)), (63, true, .d (.bool false))], [⟨350, 1, .box [.d (.int .i64 b)]⟩, ⟨500, v, ct⟩]⟩ = some (.ret (.tup [.d (.int .i64 n), .d (.int .i64 x), .d (.int .i64 0)]), [])) →
      (k .ret ⟨83, gl0, [(2, true, .d (.int .i64 0)), (3, true, .d (.int .i64 0)), (4, true, .d (.int .i64 2))], [⟨350, 1, .box [.d (.int .i64 b)]⟩, ⟨500, v, ct⟩]⟩ = some (.ret (.tup [.d (.int .i64 0), .d (.int .i64 0), .d (.int .i64 2)]), [])) →
      denK ctx 88 (.loop (Code.at (codeOf Tryd.f88) [1, 1, 1, 1, 1, 1, 0, 1, 0, 0])) ⟨83, gl0, [(0, true, .d (.str s)), (5, true, .ptr 350 1 0), (9, true, .d (.int .i64 n)), (10, true, .d (.int .i64 (0 : Nat))), (11, true, .d (.int .i64 h))], [⟨350, 1, .box [.d (.int .i64 b)]⟩, ⟨500, v, ct⟩]⟩ k =
        some (.ret (.tup [.d (.int .i64 F.1), .d (.int .i64 F.2.1), .d (.int .i64 F.2.2)]), []) := by
    intro v ct k h1 h2 h3 h4
    have hne : ¬ (ds = [] ∨ ∃ c, s[h + ds.length]? = some c ∧ (innerB c = true ∨ c = 35)) := by
      rintro (hc | ⟨c, hc, hc2⟩)
      · exact h1 (by rw [hn, hc]; rfl)
      · rw [← hn] at hc
        obtain ⟨hlt, hcc⟩ := List.getElem?_eq_some_iff.1 hc
        have h5 := h2 hlt
        rw [strAt_eq hlt, hcc] at h5
        rcases hc2 with hc2 | hc2
        · rw [h5.1] at hc2; cases hc2
        · exact h5.2 hc2
    unfold numG at hF
    rw [if_neg hne, ← hn] at hF
    refine hloop v ct k _ ?_
    cases hv : valN b 0 ds with
    | none => rw [hv] at hF; rw [hF]; exact h4
    | some x => rw [hv] at hF; rw [hF]; exact h3 x
  have err : ∀ c, n < s.length → strAt s n = c → (innerB c = true ∨ c = 35) → F = (0, 0, 5) := by
    intro c hlt hc hc2
    unfold numG at hF
    rw [hF, if_pos (.inr ⟨c, by rw [← hn, List.getElem?_eq_getElem hlt, ← strAt_eq hlt, hc], hc2⟩)]
  have err2 : n = h → F = (0, 0, 5) := by
    intro he
    unfold numG at hF
    rw [hF, if_pos (.inl (List.length_eq_zero_iff.1 (by omega)))]
  have hinr := inner_run (strAt s n)
  have h35 := u8_eq (strAt s n) 35 (by omega)
  simp at h35
  clear hF hloop
  rw [run88 (by simp)]
  rcases head_cases s with ⟨p1, p2, p3, e, hl⟩ | ⟨p1, p2, p3, e, hl⟩ | ⟨p1, p2, p3, e, hl⟩ | ⟨p1, p2, p3, e, hl⟩
  all_goals
    obtain ⟨h', hh'⟩ : ∃ h' : Nat, h' = h := ⟨_, rfl⟩
    rw [hbh] at e
    cases e
    have hlI := Int.ofNat_le.2 hl
    simp [Tryd.f88] at hw wn hlI key err2
    simp [Tryd.f88, r3]
    iterate 4 (rw [denK_loop]; simp [p1, p2, p3, c1, c2, c3, drwK_end])
    simp [hl, hlI, hw, wn]
    by_cases hnh : n = h'
    · have hFe := err2 (hnh.trans hh')
      rw [hh'] at hnh
      simp [hnh, hFe]
    · have hnI : ¬ ((n : Int) = (h' : Int)) := by omega
      rw [hh'] at hnI hnh
      simp at hnI
      by_cases hlt : n < s.length
      · cases hin : innerB (strAt s n)
        · rw [hin] at hinr
          by_cases h35' : strAt s n = 35
          · have hFe := err _ hlt h35' (.inr rfl)
            rw [h35'] at hinr
            simp at hinr
            simp [hnI, hlt, hinr, h35', hFe]
          · have h35n : ¬ ((strAt s n).toNat : Int) = 35 := fun h => h35' (h35.1 h)
            simp [hnI, hlt, hinr, h35n]
            exact key _ _ _ hnh (fun _ => ⟨hin, h35'⟩) (fun x => by simp) (by simp)
        · have hFe := err _ hlt rfl (.inl hin)
          rw [hin] at hinr
          simp [hnI, hlt, hinr, hFe]
      · simp [hnI, hlt]
        exact key _ _ _ hnh (fun h => absurd h hlt) (fun x => by simp) (by simp)
end Go.Am
end
section
namespace Go.Am
open Go Go.Proofs
variable [Inhabited Mx2]
set_option maxRecDepth 20000
def idxR (s : Tx) : Nat → List Tx → Int
  | _, [] => -1
  | i, x :: r => if s = x then (i : Int) else idxR s (i + 1) r
theorem idxR_mem (s : Tx) : ∀ (l : List Tx) (i : Nat), decide (0 ≤ idxR s i l) = decide (s ∈ l)
  | [], i => by simp [idxR]
  | x :: r, i => by
    have := idxR_mem s r (i + 1)
    unfold idxR
    by_cases h : s = x
    · simp [h]
    · simp only [if_neg h, this]; simp [h]
theorem strIdx_loop (l : List Tx) (hl : l.length ≤ 1000) (s : Tx) (k : Kt) (R : Ans) : ∀ (rest : List Tx) (i : Nat), l.drop i = rest → i + rest.length = l.length →
    ((if 0 ≤ idxR s i rest then k .ret ⟨19, gl0, [(4, true, .d (.int .i64 (idxR s i rest)))], []⟩ else k (.exit 0) ⟨19, gl0, [(0, true, .d (.list (l.map .str))), (1, true, .d (.str s)), (7, true, .d (.int .i64 l.length)), (8, true, .d (.int .i64 l.length)), (9, true, .d (.bool false))], []⟩) = R) →
    denK ctx 92 (.loop (Code.at (codeOf Tryd.f92) [1, 0, 1, 0, 0])) ⟨19, gl0, [(0, true, .d (.list (l.map .str))), (1, true, .d (.str s)), (7, true, .d (.int .i64 l.length)), (8, true, .d (.int .i64 i))], []⟩ k = R
  | [], i, hd, hi, h => by
    have hi : i = l.length := by simpa using hi
    subst hi
    rw [denK_loop]
    simp [idxR] at h
    simp [Tryd.f92, h]
  | x :: rest, i, hd, hi, h => by
    have hlt : i < l.length := by simp at hi; omega
    have hx : l[i] = x := by
      have := congrArg (·[0]?) hd
      simp at this
      simpa [hlt] using this
    have w1 : IntKind.i64.wrap ((i : Int) + 1) = (i : Int) + 1 := wrap_id (by unfold I64; omega)
    unfold idxR at h
    rw [denK_loop]
    by_cases hs : s = x
    · simp [hs] at h
      simp [Tryd.f92]
      simp [hlt, hx, hs, h]
    · rw [if_neg hs] at h
      have ih := strIdx_loop l hl s k R rest (i + 1) (by rw [← List.tail_drop, hd]; rfl) (by simp at hi; omega) h
      simp [Tryd.f92] at ih ⊢
      simp [hlt, hx, hs, w1, ih]
theorem idxR_neg (s : Tx) : ∀ (l : List Tx) (i : Nat), ¬ 0 ≤ idxR s i l → idxR s i l = -1
  | [], i, _ => rfl
  | x :: r, i, h => by
    unfold idxR at h ⊢
    split
    · rename_i hs; rw [if_pos hs] at h; omega
    · rename_i hs; rw [if_neg hs] at h; exact idxR_neg s r (i + 1) h
theorem strIdx_run (l : List Tx) (hl : l.length ≤ 1000) (s : Tx) : callT ctx 92 [.d (.list (l.map .str)), .d (.str s)] [] = some (.ret (.d (.int .i64 (idxR s 0 l))), []) := by
  have hlo := fun k R h => strIdx_loop l hl s k R l 0 rfl (by simp) h
  rw [run92 (by simp)]
  simp [Tryd.f92] at hlo ⊢
  rw [hlo]
  split
  · simp
  · rename_i h; simp [idxR_neg s l 0 h]
theorem contains_run (l : List Tx) (hl : l.length ≤ 1000) (s : Tx) : callT ctx 54 [.d (.list (l.map .str)), .d (.str s)] [] = some (.ret (.d (.bool (decide (s ∈ l)))), []) := by
  have h := strIdx_run l hl s
  rw [run54 (by simp)]
  simp [Tryd.f54, h, ← idxR_mem s l 0]
theorem fields_run : callT ctx 55 [.d (.str wordsT)] [] = some (.ret (.d (.list (wordsL.map .str))), []) := callT_of 300 (by kernel_rfl)
theorem word_run (s : Tx) : callT ctx 22 [.d (.str s)] [] = some (.ret (.d (.bool (wordB s))), []) := by
  have hf := fields_run
  have hc := contains_run wordsL (by decide) s
  unfold wordsT at hf
  generalize wordsL.map D.str = W at hf hc
  rw [run22 (by simp)]
  simp [Tryd.f22, hf, hc, wordB]
theorem indexByte_mem (c : UInt8) : ∀ (l : Tx), 0 ≤ Go.Lib.indexByte l c ↔ c ∈ l
  | [] => by simp [Go.Lib.indexByte]
  | b :: r => by
    have ih := indexByte_mem c r
    have hg := Go.Lib.indexByte_ge r c
    unfold Go.Lib.indexByte
    by_cases h : b = c
    · simp [h]
    · have h' : ¬ c = b := fun e => h e.symm
      simp only [beq_iff_eq, h, if_false, List.mem_cons, h', false_or, ← ih]
      split <;> omega
theorem signF_eq (c : UInt8) (r : Tx) : signF (c :: r) = if Go.Lib.hasPrefix (c :: r) [58, 61] = true then 2 else if Go.Lib.hasPrefix (c :: r) [60, 61] = true then 2 else if Go.Lib.hasPrefix (c :: r) [62, 61] = true then 2 else if Go.Lib.hasPrefix (c :: r) [60, 62] = true then 2 else if Go.Lib.hasPrefix (c :: r) [46, 46] = true then 2 else if 0 ≤ Go.Lib.indexByte signs1 c then 1 else 0 := by
  have hm := indexByte_mem c signs1
  unfold signF signs2 Go.Lib.hasPrefix
  simp only [List.any_cons, List.any_nil, Bool.or_false, Bool.or_eq_true, hm]
  grind
theorem sign_run (c : UInt8) (r : Tx) : callT ctx 89 [.d (.str (c :: r))] [] = some (.ret (.d (.int .i64 (signF (c :: r)))), []) := by
  have r5 : List.range' 0 5 = [0, 1, 2, 3, 4] := rfl
  have c1 : IntKind.i64.wrap 1 = 1 := wrap_id (by unfold I64; omega)
  have c2 : IntKind.i64.wrap 2 = 2 := wrap_id (by unfold I64; omega)
  have c3 : IntKind.i64.wrap 3 = 3 := wrap_id (by unfold I64; omega)
  have c4 : IntKind.i64.wrap 4 = 4 := wrap_id (by unfold I64; omega)
  have c5 : IntKind.i64.wrap 5 = 5 := wrap_id (by unfold I64; omega)
  have hb := indexByte_run signs1 c
  rw [run89 (by simp)]
  simp [Tryd.f89, r5]
  iterate 6 (try (rw [denK_loop]; simp [c1, c2, c3, c4, c5, drwK_end]))
  have hst : strAt (c :: r) 0 = c := rfl
  rw [signF_eq]
  unfold signs1 at hb ⊢
  simp [hst, hb]
  grind
end Go.Am
end
section
namespace Go.Am
open Go Go.Proofs
variable [Inhabited Mx2]
set_option maxRecDepth 20000
@[simp] def sgnD (t : Sgn) : D := .agg [.int .i64 t.kind, .str t.text, .int .i64 t.n, .int .i64 t.line, .int .i64 t.col]
theorem numF_le (s : Tx) : (numF s).1 ≤ s.length := by
  unfold numF numG
  rcases head_cases s with ⟨_, _, _, e, hl⟩ | ⟨_, _, _, e, hl⟩ | ⟨_, _, _, e, hl⟩ | ⟨_, _, _, e, hl⟩
  all_goals
    rw [e]
    simp only
    split
    · simp
    · split
      · simp
      · rename_i x _
        simp only
        have := (List.takeWhile_prefix (fun c => decide (valB c < (headN s).1)) (l := s.drop (headN s).2)).length_le
        rw [e] at this
        simp only [List.length_drop] at this
        omega
theorem signF_le (c : UInt8) (r : Tx) : signF (c :: r) ≤ (c :: r).length := by
  unfold signF
  split
  · rename_i h
    simp only [signs2, List.any_cons, List.any_nil, Bool.or_false, Bool.or_eq_true] at h
    rcases h with h | h | h | h | h <;> exact (pre_head h).2
  · simp only
    split <;> simp
set_option maxHeartbeats 1000000 in
theorem next_run (c : UInt8) (r : Tx) (hs : (c :: r).length ≤ 100000) (line col : Int) : callT ctx 45 [.d (.str (c :: r)), .d (sgnD ⟨0, [], 0, line, col⟩)] [] =
    some (.ret (.tup [.d (sgnD ⟨(nextF (c :: r)).2.1, (c :: r).take (nextF (c :: r)).2.2.1, (nextF (c :: r)).2.2.2, line, col⟩), .d (.int .i64 (nextF (c :: r)).1)]), []) := by
  have hst : strAt (c :: r) 0 = c := rfl
  have hl := letter_run c
  have hd := digit_run c
  have hw := whileA_run (c :: r) hs
  have hnr := number_run (c :: r) hs
  have hsg := sign_run c r
  have hwle : ((c :: r).takeWhile innerB).length ≤ (c :: r).length := (List.takeWhile_prefix _).length_le
  have hnle := numF_le (c :: r)
  have hsle := signF_le c r
  have hwd := word_run ((c :: r).take ((c :: r).takeWhile innerB).length)
  unfold nextF
  generalize hn1 : ((c :: r).takeWhile innerB).length = n1 at *
  generalize hn2 : signF (c :: r) = n2 at *
  generalize hF : numF (c :: r) = F at *
  obtain ⟨n, x, e⟩ := F
  simp only at hnr hnle
  rw [run45 (by simp)]
  simp only [List.length_cons] at hwle hnle hsle
  cases h1 : letterB c with
  | true =>
    rw [h1] at hl
    cases h2 : wordB ((c :: r).take n1) with
    | true =>
      rw [h2] at hwd
      simp [Tryd.f45, drwK_end, hst, hl, hw, hwle, hwd, h1, h2]
    | false =>
      rw [h2] at hwd
      by_cases h3 : 16 < n1
      · simp [Tryd.f45, drwK_end, hst, hl, hw, hwle, hwd, h1, h2, h3]
        omega
      · simp [Tryd.f45, drwK_end, hst, hl, hw, hwle, hwd, h1, h2, h3]
        omega
  | false =>
    rw [h1] at hl
    cases h2 : digitB c with
    | true =>
      rw [h2] at hd
      by_cases h3 : e = 0
      · simp [Tryd.f45, drwK_end, hst, hl, hd, hnr, hnle, h1, h2, h3]
      · simp [Tryd.f45, drwK_end, hst, hl, hd, hnr, hnle, h1, h2, h3]
    | false =>
      rw [h2] at hd
      by_cases h3 : n2 = 0
      · simp [Tryd.f45, drwK_end, hst, hl, hd, hsg, hsle, h1, h2, h3]
      · simp [Tryd.f45, drwK_end, hst, hl, hd, hsg, hsle, h1, h2, h3]
end Go.Am
end
section
namespace Go.Am
open Go Go.Proofs
variable [Inhabited Mx2]
set_option maxRecDepth 20000
theorem numF_pos {s : Tx} (h : (numF s).2.2 = 0) : 1 ≤ (numF s).1 := by
  unfold numF numG at h ⊢
  split
  · rename_i hc; rw [if_pos hc] at h; simp at h
  · rename_i hc
    rw [if_neg hc] at h
    split
    · rename_i hv; rw [hv] at h; simp at h
    · simp only
      simp only [not_or] at hc
      have := List.length_pos_iff.2 hc.1
      omega
theorem nextF_ok {c : UInt8} {r : Tx} (h : (nextF (c :: r)).1 = 0) : 1 ≤ (nextF (c :: r)).2.2.1 ∧ (nextF (c :: r)).2.2.1 ≤ (c :: r).length := by
  have hwle : ((c :: r).takeWhile innerB).length ≤ (c :: r).length := (List.takeWhile_prefix _).length_le
  have hnle := numF_le (c :: r)
  have hsle := signF_le c r
  have hlp : letterB c = true → 1 ≤ ((c :: r).takeWhile innerB).length := by
    intro hl
    have : innerB c = true := by unfold innerB; rw [hl]; rfl
    simp [this]
  have hnp := numF_pos (s := c :: r)
  unfold nextF at h ⊢
  simp only at h ⊢
  generalize ((c :: r).takeWhile innerB).length = n1 at *
  generalize signF (c :: r) = n2 at *
  generalize numF (c :: r) = F at *
  by_cases h1 : letterB c = true
  · simp only [if_pos h1] at h ⊢
    have := hlp h1
    split at h
    · rename_i hw; rw [if_pos hw]; exact ⟨this, hwle⟩
    · rename_i hw
      rw [if_neg hw]
      split at h
      · simp at h
      · rename_i h16; rw [if_neg h16]; exact ⟨this, hwle⟩
  · simp only [if_neg h1] at h ⊢
    by_cases h2 : digitB c = true
    · simp only [if_pos h2] at h ⊢
      split at h
      · rename_i he; rw [if_pos he]; exact ⟨hnp he, hnle⟩
      · rename_i he; exact absurd h he
    · simp only [if_neg h2] at h ⊢
      split at h
      · simp at h
      · rename_i he; rw [if_neg he]; exact ⟨by simp only; omega, hsle⟩
set_option maxHeartbeats 1000000 in
theorem lex_loop (s : Tx) (hs : s.length ≤ 16384) : ∀ (f i : Nat) (out : List Sgn) (v4 v5 v55 : Nat) (c5 c55 : Cont), i ≤ s.length → s.length - i < f → out.length ≤ i →
    denK ctx 19 (.loop (Code.at (codeOf Tryd.f19) [1, 1, 1, 1, 0, 0])) ⟨62, gl0, [(4, true, .ptr 300 1 0), (5, true, .ptr 950 1 0), (6, true, .vec 400 v4 0 out.length)],
      [⟨200, 1, .vec 5 []⟩, ⟨300, 1, .box [.d (.int .i64 0), .d (.str []), .d (.int .i64 0), .d (.int .i64 0), .d (.int .i64 0)]⟩, ⟨400, v4, .vec 5 (out.map sgnD)⟩, ⟨500, v5, c5⟩, ⟨550, v55, c55⟩, ⟨950, 1, rBox s i⟩]⟩
      (blkK 0 (finK Tryd.prog fp19 0 [.tmp 2, .tmp 3, .cell 4 33])) = some (.ret (.tup [.d (.list ((lexF s f i out).1.map sgnD)), .d (.int .i64 (lexF s f i out).2.1), .d (sgnD (lexF s f i out).2.2)]), [])
  | 0, i, out, v4, v5, v55, c5, c55, hi, hf, ho => by omega
  | f + 1, i, out, v4, v5, v55, c5, c55, hi, hf, ho => by
    have hg := gap_run s i hi (by omega) (s.length + 1) (by omega)
    have hgl := gapC_le (s.length + 1) (s.drop i)
    unfold lexF
    generalize gapC (s.length + 1) (s.drop i) = g at *
    obtain ⟨n, ok⟩ := g
    simp only [List.length_drop] at hgl
    simp only at hg ⊢
    obtain ⟨j, hj⟩ : ∃ j, j = i + n := ⟨_, rfl⟩
    have hjl : j ≤ s.length := by omega
    have hcast : ((i + n : Nat) : Int) = (i : Int) + n := by omega
    rw [← hj] at hg ⊢
    have hr := rest_run s j hjl
    generalize hp : plOf (s.take j) = p at *
    obtain ⟨l, c⟩ := p
    rw [denK_loop]
    cases ok with
    | false =>
      simp [hp] at hg
      simp [Tryd.f19, drwK_end, hg, here]
    | true =>
      simp only [Bool.true_eq_false, if_false]
      cases ht : s.drop j with
      | nil =>
        rw [ht] at hr
        simp [hp] at hg hr
        have g1 : (out.length + 1) * 48 ≤ 140737488355328 ∧ out.length ≤ 4611686018427387903 := by omega
        simp [Tryd.f19, drwK_end, hg, hr, here, g1]
      | cons a r =>
        rw [ht] at hr
        have hlen : j + (r.length + 1) = s.length := by have := congrArg List.length ht; simp at this; omega
        have hn := next_run a r (by simp; omega) l c
        have hok := nextF_ok (c := a) (r := r)
        have hne : ¬ (a :: r = []) := by simp
        simp only [if_neg hne]
        generalize nextF (a :: r) = F at *
        obtain ⟨e, kd, m, x⟩ := F
        simp only at hn hok ⊢
        simp [hp] at hg hr
        have g1 : (out.length + 1) * 48 ≤ 140737488355328 ∧ out.length ≤ 4611686018427387903 := by omega
        by_cases he : e = 0
        · subst he
          obtain ⟨hm1, hm2⟩ := hok rfl
          simp only [List.length_cons] at hm2
          have hsk := skip_run s j m (by omega) (by omega)
          have ih := fun v4 v5 v55 c5 c55 => lex_loop s hs f (j + m) (out ++ [⟨kd, (a :: r).take m, x, l, c⟩]) v4 v5 v55 c5 c55 (by omega) (by omega) (by simp; omega)
          have hmin : min m (r.length + 1) = m := by omega
          have hminI : ((min m (r.length + 1) : Nat) : Int) = m := by rw [hmin]
          simp at hn
          simp [Tryd.f19, hp] at ih hsk ⊢
          simp [drwK_end, hg, hr, hn, g1, hmin, hsk, ih]
        · simp at hn
          have heI : ¬ ((e : Int) = 0) := by omega
          simp [Tryd.f19, drwK_end, hg, hr, hn, he, heI, here]
theorem lex_run (s : Tx) : callT ctx 19 [.d (.str s)] [] = some (.ret (.tup [.d (.list ((lexP s).1.map sgnD)), .d (.int .i64 (lexP s).2.1), .d (sgnD (lexP s).2.2)]), []) := by
  rw [run19 (by simp)]
  unfold lexP
  by_cases h : 16384 < s.length
  · have hI : (16384 : Int) < s.length := by omega
    simp [Tryd.f19, drwK_end, h, hI]
  · have hI : ¬ ((16384 : Int) < s.length) := by omega
    have hl := fun v4 v5 v55 c5 c55 => lex_loop s (by omega) (s.length + 1) 0 [] v4 v5 v55 c5 c55 (by omega) (by omega) (by simp)
    rw [if_neg h]
    generalize lexF s (s.length + 1) 0 [] = L at *
    have hp : plOf [] = (1, 1) := rfl
    simp [Tryd.f19, hp] at hl
    simp [Tryd.f19, drwK_end, h, hI]
    exact hl _ _ _ _ _
end Go.Am
end
section
namespace Go.Am
open Go Go.Proofs
variable [Inhabited Mx2]
set_option maxRecDepth 20000
theorem alpha_run (c : UInt8) : callT ctx 49 [.d (.int .u8 c.toNat)] [] = some (.ret (.d (.bool (letterB c))), []) := by
  rw [run49 (by simp)]
  simp [Tryd.f49, drwK_end]
  simp only [hoistB, retB_iff]
  grind [letterB]
theorem num_run (c : UInt8) : callT ctx 51 [.d (.int .u8 c.toNat)] [] = some (.ret (.d (.bool (digitB c))), []) := by
  rw [run51 (by simp)]
  simp [Tryd.f51, drwK_end]
  grind [digitB]
theorem body_run (c : UInt8) : callT ctx 50 [.d (.int .u8 c.toNat)] [] = some (.ret (.d (.bool (innerB c))), []) := by
  rw [run50 (by simp)]
  simp [Tryd.f50, drwK_end, alpha_run, num_run]
  simp only [hoistB, retB_iff]
  grind [innerB]
theorem u8_inj (a c : UInt8) : ((a.toNat : Int) = (c.toNat : Int)) ↔ a = c := by
  constructor
  · intro h; exact UInt8.toNat_inj.1 (by omega)
  · rintro rfl; rfl
theorem two_pre (s : Tx) (i : Nat) (a b : UInt8) : ([a, b] : Tx).isPrefixOf (s.drop i) = (decide (i + 1 < s.length) && decide (strAt s i = a) && decide (strAt s (i + 1) = b)) := by
  by_cases h : i + 1 < s.length
  · have h1 : s.drop i = s[i] :: s[i + 1] :: s.drop (i + 2) := by
      rw [List.drop_eq_getElem_cons (by omega), List.drop_eq_getElem_cons h]
    rw [h1, strAt_eq (by omega), strAt_eq h]
    simp [List.isPrefixOf, u8beq, h]
  · have hl : (s.drop i).length ≤ 1 := by simp; omega
    simp only [h, decide_false, Bool.false_and]
    cases hc : ([a, b] : Tx).isPrefixOf (s.drop i) with
    | false => rfl
    | true => have := (pre_head hc).2; simp only [List.length_singleton] at this; omega
theorem two_run (s : Tx) (hs : s.length ≤ 100000) (i : Nat) (hi : i ≤ s.length) (a b : UInt8) : callT ctx 90 [.d (.str s), .d (.int .i64 i), .d (.int .u8 a.toNat), .d (.int .u8 b.toNat)] [] = some (.ret (.d (.bool (([a, b] : Tx).isPrefixOf (s.drop i)))), []) := by
  have w1 : IntKind.i64.wrap ((i : Int) + 1) = (i : Int) + 1 := wrap_id (by unfold I64; omega)
  rw [run90 (by simp), two_pre]
  have h0 : (0 : Int) ≤ (i : Int) + 1 := by omega
  have h1 : ((i : Int) + 1).toNat = i + 1 := by omega
  by_cases h : i + 1 < s.length
  · have h2 : i < s.length := by omega
    have hI : (i : Int) + 1 < s.length := by omega
    by_cases ha : strAt s i = a
    · simp [Tryd.f90, drwK_end, w1, h0, h1, h, hI, h2, ha, u8_inj]
    · simp [Tryd.f90, drwK_end, w1, h0, h1, h, hI, h2, ha, u8_inj]
  · have hI : ¬ ((i : Int) + 1 < s.length) := by omega
    simp [Tryd.f90, drwK_end, w1, h0, h1, h, hI]
theorem rdigit_run (c : UInt8) (b : Nat) : callT ctx 91 [.d (.int .u8 c.toNat), .d (.int .u64 b)] [] = some (.ret (.tup [.d (.int .u64 (valB c)), .d (.bool (decide (valB c < b)))]), []) := by
  have hc : c.toNat < 256 := c.toNat_lt
  have w : ∀ y : Int, 0 ≤ y → y ≤ 9223372036854775807 → IntKind.u64.wrap y = y := fun y h1 h2 => by simp [IntKind.wrap, IntKind.bits, IntKind.signed]; omega
  have w8 : ∀ y : Int, 0 ≤ y → y ≤ 255 → IntKind.u8.wrap y = y := fun y h1 h2 => wrap8_id h1 h2
  rw [run91 (by simp)]
  have hn := num_run c
  cases hd : digitB c with
  | true =>
    rw [hd] at hn
    have hd' := hd
    simp [digitB] at hd'
    have e : valB c = c.toNat - 48 := by simp [valB, hd]
    have w1 : IntKind.u64.wrap (IntKind.u8.wrap ((c.toNat : Int) - 48)) = ((c.toNat - 48 : Nat) : Int) := by rw [w8 _ (by omega) (by omega), w _ (by omega) (by omega)]; omega
    have h65 : ¬ ((65 : Int) ≤ c.toNat) := by omega
    simp [Tryd.f91, drwK_end, hn, e, w1, h65]
  | false =>
    rw [hd] at hn
    by_cases h65 : 65 ≤ c.toNat ∧ c.toNat ≤ 70
    · have e : valB c = c.toNat - 65 + 10 := by simp [valB, hd, h65]
      have w1 : IntKind.u64.wrap (IntKind.u64.wrap (IntKind.u8.wrap ((c.toNat : Int) - 65)) + 10) = ((c.toNat - 65 + 10 : Nat) : Int) := by rw [w8 ((c.toNat : Int) - 65) (by omega) (by omega), w ((c.toNat : Int) - 65) (by omega) (by omega), w ((c.toNat : Int) - 65 + 10) (by omega) (by omega)]; omega
      have h1 : (65 : Int) ≤ c.toNat := by omega
      have h2 : (c.toNat : Int) ≤ 70 := by omega
      simp only [e]
      generalize c.toNat - 65 + 10 = z at *
      simp [Tryd.f91, drwK_end, hn, w1, h1, h2]
    · have e : valB c = 99 := by simp [valB, hd, h65]
      by_cases h1 : (65 : Int) ≤ c.toNat
      · have h2 : ¬ ((c.toNat : Int) ≤ 70) := by omega
        simp [Tryd.f91, drwK_end, hn, e, h1, h2]
        try omega
      · simp [Tryd.f91, drwK_end, hn, e, h1]
        try omega
end Go.Am
end
section
namespace Go.Am
open Go Go.Proofs
variable [Inhabited Mx2]
set_option maxRecDepth 20000
theorem place_loop (s : Tx) (hs : s.length ≤ 100000) (n : Nat) (hn : n ≤ s.length) (k : Kt) : ∀ (r i : Nat), i + r = n →
    denK ctx 48 (.loop (Code.at (codeOf Tryd.f48) [1, 1, 0, 1, 0, 0])) ⟨27, gl0, [(0, true, .d (.str s)), (1, true, .d (.int .i64 n)), (4, true, .ptr 300 1 0), (5, true, .ptr 350 1 0), (6, true, .d (.int .i64 i))],
      [⟨300, 1, .box [.d (.int .i64 0), .d (.str []), .d (.int .i64 0), .d (.int .i64 0), .d (.int .i64 0)]⟩, ⟨350, 1, .box [.d (.int .i64 0), .d (.str []), .d (.int .i64 0), .d (.int .i64 (plOf (s.take i)).1), .d (.int .i64 (plOf (s.take i)).2)]⟩]⟩ k =
      k (.exit 0) ⟨27, gl0, [(0, true, .d (.str s)), (1, true, .d (.int .i64 n)), (4, true, .ptr 300 1 0), (5, true, .ptr 350 1 0), (6, true, .d (.int .i64 n)), (10, true, .d (.bool false))],
      [⟨300, 1, .box [.d (.int .i64 0), .d (.str []), .d (.int .i64 0), .d (.int .i64 0), .d (.int .i64 0)]⟩, ⟨350, 1, .box [.d (.int .i64 0), .d (.str []), .d (.int .i64 0), .d (.int .i64 (plOf (s.take n)).1), .d (.int .i64 (plOf (s.take n)).2)]⟩]⟩
  | 0, i, hi => by
    have hi : i = n := by omega
    subst hi
    rw [denK_loop]
    simp [Tryd.f48]
  | r + 1, i, hi => by
    have ih := place_loop s hs n hn k r (i + 1) (by omega)
    have hin : i < n := by omega
    have hlt : i < s.length := by omega
    have hb := plOf_take (s := s) (i := i)
    have hsu := plOf_succ hlt
    have hst := strAt_eq hlt
    have h10 := u8_eq s[i] 10 (by omega)
    simp at h10
    generalize hp : plOf (s.take i) = p at *
    generalize hq : plOf (s.take (i + 1)) = q at *
    obtain ⟨l, c⟩ := p
    simp only at hb
    have w1 : IntKind.i64.wrap (c + 1) = c + 1 := wrap_id (by unfold I64; omega)
    have w2 : IntKind.i64.wrap (l + 1) = l + 1 := wrap_id (by unfold I64; omega)
    have w4 : IntKind.i64.wrap ((i : Int) + 1) = (i : Int) + 1 := wrap_id (by unfold I64; omega)
    unfold plStep at hsu
    rw [denK_loop]
    by_cases hc : s[i] = 10
    · rw [if_pos hc] at hsu
      cases hsu
      simp [Tryd.f48] at ih ⊢
      simp [hin, hlt, hst, hc, w1, w2, w4, ih]
    · rw [if_neg hc] at hsu
      cases hsu
      simp [Tryd.f48] at ih ⊢
      simp [hin, hlt, hst, hc, h10, w1, w2, w4, ih]
theorem place_run (s : Tx) (hs : s.length ≤ 100000) (n : Nat) (hn : n ≤ s.length) : callT ctx 48 [.d (.str s), .d (.int .i64 n)] [] = some (.ret (.d (sgnD (here (plOf (s.take n))))), []) := by
  have hl := fun k => place_loop s hs n hn k n 0 (by omega)
  have hp : plOf [] = (1, 1) := rfl
  rw [run48 (by simp)]
  simp [Tryd.f48, hp] at hl
  simp [Tryd.f48, drwK_end]
  rw [hl]
  simp [here]
theorem pline_loop (s : Tx) (hs : s.length ≤ 100000) (k : Kt) : ∀ (r i : Nat) (X : Env), (X = [] ∨ X = [(31, true, .d (.bool true))]) → i + r = s.length →
    denK ctx 47 (.loop (Code.at (codeOf Tryd.f47) [1, 0, 0, 0, 1, 0, 1, 0, 1, 0, 0, 0, 0])) ⟨70, gl0, [(0, true, .d (.str s)), (1, true, .d (.int .i64 i))] ++ X, []⟩ k =
      k (.exit 2) ⟨70, gl0, [(0, true, .d (.str s)), (1, true, .d (.int .i64 (i + lineN (s.drop i) : Nat))), (41, true, .d (.bool false))], []⟩
  | 0, i, X, hX, hi => by
    have hi : i = s.length := by omega
    subst hi
    rcases hX with rfl | rfl
    all_goals
      rw [denK_loop]
      simp [Tryd.f47, lineN]
  | r + 1, i, X, hX, hi => by
    have ih := pline_loop s hs k r (i + 1) [] (.inl rfl) (by omega)
    have hlt : i < s.length := by omega
    have hst := strAt_eq hlt
    have h10 := u8_eq s[i] 10 (by omega)
    simp at h10
    have w4 : IntKind.i64.wrap ((i : Int) + 1) = (i : Int) + 1 := wrap_id (by unfold I64; omega)
    have hd : s.drop i = s[i] :: s.drop (i + 1) := List.drop_eq_getElem_cons hlt
    by_cases hc : s[i] = 10
    · have e : lineN (s.drop i) = 0 := by rw [hd]; simp [lineN, hc]
      rw [e]
      rcases hX with rfl | rfl
      all_goals
        rw [denK_loop]
        simp [Tryd.f47]
        simp [hlt, hst, hc]
    · have e : lineN (s.drop i) = lineN (s.drop (i + 1)) + 1 := by
        unfold lineN
        rw [hd, List.takeWhile_cons, if_pos (by simpa using hc)]
        rfl
      rw [show i + lineN (s.drop i) = i + 1 + lineN (s.drop (i + 1)) by omega]
      simp [Tryd.f47] at ih
      rcases hX with rfl | rfl
      all_goals
        rw [denK_loop]
        simp [Tryd.f47]
        simp [hlt, hst, hc, h10, w4, ih]
def endAt (s : Tx) (i : Nat) : Nat := match findEnd (s.drop i) with | none => s.length | some m => i + m
theorem findEnd_step {s : Tx} {i : Nat} (h : i < s.length) : findEnd (s.drop i) = if ([42, 41] : Tx).isPrefixOf (s.drop i) = true then some 0 else (findEnd (s.drop (i + 1))).map (· + 1) := by
  rw [List.drop_eq_getElem_cons h]
  have := hasPrefix2 42 41 s[i] (s.drop (i + 1))
  unfold Go.Lib.hasPrefix at this
  rw [this, findEnd]
  simp
theorem pend_loop (s : Tx) (hs : s.length ≤ 100000) (a : Int) (k : Kt) : ∀ (r i : Nat), i + r = s.length →
    denK ctx 47 (.loop (Code.at (codeOf Tryd.f47) [1, 0, 0, 0, 1, 0, 1, 1, 1, 1, 0, 0, 0])) ⟨70, gl0, [(0, true, .d (.str s)), (1, true, .d (.int .i64 a)), (6, true, .d (.int .i64 i))], []⟩ k =
      k (.exit 4) ⟨70, gl0, [(0, true, .d (.str s)), (1, true, .d (.int .i64 a)), (6, true, .d (.int .i64 (endAt s i))), (59, true, .d (.bool false))], []⟩
  | 0, i, hi => by
    have hi : i = s.length := by omega
    subst hi
    rw [denK_loop]
    simp [Tryd.f47, endAt, findEnd]
  | r + 1, i, hi => by
    have ih := pend_loop s hs a k r (i + 1) (by omega)
    have hlt : i < s.length := by omega
    have w4 : IntKind.i64.wrap ((i : Int) + 1) = (i : Int) + 1 := wrap_id (by unfold I64; omega)
    have htw := two_run s hs i (by omega) 42 41
    have hfe := findEnd_step hlt
    rw [denK_loop]
    cases hq : ([42, 41] : Tx).isPrefixOf (s.drop i) with
    | true =>
      rw [hq] at htw
      have e : endAt s i = i := by unfold endAt; rw [hfe, hq]; simp
      rw [e]
      simp at htw
      simp [Tryd.f47]
      simp [hlt, htw]
    | false =>
      rw [hq] at htw
      have e : endAt s i = endAt s (i + 1) := by unfold endAt; rw [hfe, hq]; cases findEnd (s.drop (i + 1)) <;> simp; omega
      rw [e]
      simp at htw
      simp [Tryd.f47] at ih ⊢
      simp [hlt, htw, w4, ih]
theorem endAt_le (s : Tx) (i : Nat) (h : i ≤ s.length) : endAt s i ≤ s.length := by
  unfold endAt
  cases hf : findEnd (s.drop i) with
  | none => simp
  | some m => have := findEnd_le hf; simp only [List.length_drop] at this; simp only; omega
set_option maxHeartbeats 1000000 in
theorem past_loop (s : Tx) (hs : s.length ≤ 100000) (k : Kt) (R : Ans) : ∀ (f i : Nat) (X : Env), (X = [] ∨ X = [(41, true, .d (.bool false))]) → i ≤ s.length → s.length - i < f →
    ((if (gapC f (s.drop i)).2 = true then ∀ Y : Env, k (.exit 0) (⟨70, gl0, [(0, true, .d (.str s)), (1, true, .d (.int .i64 (i + (gapC f (s.drop i)).1 : Nat)))] ++ Y, []⟩ : St) = R
      else k .ret ⟨70, gl0, [(4, true, .d (.int .i64 (i + (gapC f (s.drop i)).1 : Nat))), (5, true, .d (.bool false))], []⟩ = R)) →
    denK ctx 47 (.loop (Code.at (codeOf Tryd.f47) [1, 0, 0, 0])) ⟨70, gl0, [(0, true, .d (.str s)), (1, true, .d (.int .i64 i))] ++ X, []⟩ k = R
  | 0, i, X, hX, hi, hf, hk => by omega
  | f + 1, i, X, hX, hi, hf, hk => by
    cases ht : s.drop i with
    | nil =>
      have hil : i = s.length := by have := congrArg List.length ht; simp at this; omega
      subst hil
      rw [ht] at hk
      simp [gapC] at hk
      rcases hX with rfl | rfl
      all_goals
        rw [denK_loop]
        simp [Tryd.f47, hk]
    | cons c r =>
      have hlen : i + (r.length + 1) = s.length := by have := congrArg List.length ht; simp at this; omega
      have hlt : i < s.length := by omega
      have hsi : s[i] = c := by
        have := congrArg (·[0]?) ht
        simp at this
        simpa [hlt] using this
      have hst : strAt s i = c := by rw [strAt_eq hlt, hsi]
      have hlb := lineN_le (c :: r)
      have ht1 := two_run s hs i hi 47 47
      have ht2 := two_run s hs i hi 40 42
      have p1 := hasPrefix2 47 47 c r
      have p2 := hasPrefix2 40 42 c r
      unfold Go.Lib.hasPrefix at p1 p2
      rw [ht] at hk ht1 ht2
      unfold gapC at hk
      by_cases h1 : blankB c = true
      · simp only [if_pos h1] at hk
        have hd : s.drop (i + 1) = r := by rw [← List.tail_drop, ht]; rfl
        have ih := past_loop s hs k R f (i + 1) [] (.inl rfl) (by omega) (by omega) (by rw [hd, show i + 1 + (gapC f r).1 = i + (1 + (gapC f r).1) by omega]; exact hk)
        have w1 : IntKind.i64.wrap ((i : Int) + 1) = (i : Int) + 1 := wrap_id (by unfold I64; omega)
        simp [blankB] at h1
        simp [Tryd.f47] at ih
        rcases hX with rfl | rfl
        all_goals
          rw [denK_loop]
          simp [Tryd.f47]
          rcases h1 with (h1 | h1) | h1 <;> simp [hlt, hst, h1, w1, ih]
      simp only [if_neg h1] at hk
      have n1 : ¬ (c.toNat : Int) = 32 := fun h => h1 (by simp [blankB]; omega)
      have n2 : ¬ (c.toNat : Int) = 10 := fun h => h1 (by simp [blankB]; omega)
      have n3 : ¬ (c.toNat : Int) = 9 := fun h => h1 (by simp [blankB]; omega)
      by_cases h2 : c = 47 ∧ r.head? = some 47
      · simp only [if_pos h2] at hk
        rw [p1] at ht1
        simp [h2] at ht1
        have hd : s.drop (i + lineN (c :: r)) = (c :: r).drop (lineN (c :: r)) := by rw [← List.drop_drop, ht]
        have hpos : 0 < lineN (c :: r) := by simp [lineN, h2.1]
        have ih := past_loop s hs k R f (i + lineN (c :: r)) [(41, true, .d (.bool false))] (.inr rfl) (by simp at hlb; omega) (by omega) (by rw [hd, Nat.add_assoc]; exact hk)
        have hpl := fun k => pline_loop s hs k (r.length + 1) i _ (.inr rfl) hlen
        rw [ht] at hpl
        generalize lineN (c :: r) = n at *
        simp [Tryd.f47] at ih hpl
        rcases hX with rfl | rfl
        all_goals
          rw [denK_loop]
          simp [Tryd.f47]
          simp [hlt, hst, n1, n2, n3, ht1, hpl, ih]
      simp only [if_neg h2] at hk
      rw [p1] at ht1
      have h2' : (decide (c = 47) && decide (r.head? = some 47)) = false := by simpa using h2
      rw [h2'] at ht1
      rw [p2] at ht2
      by_cases h3 : c = 40 ∧ r.head? = some 42
      · simp only [if_pos h3] at hk
        have h3' : (decide (c = 40) && decide (r.head? = some 42)) = true := by simpa using h3
        rw [h3'] at ht2
        have h2l : 1 ≤ r.length := by cases r with | nil => simp at h3 | cons d r => simp
        have hd2 : s.drop (i + 2) = r.tail := by rw [← List.drop_drop, ht]; simp
        have hpe := fun k => pend_loop s hs i k (s.length - (i + 2)) (i + 2) (by omega)
        have w2 : IntKind.i64.wrap ((i : Int) + 2) = (i : Int) + 2 := wrap_id (by unfold I64; omega)
        cases hf2 : findEnd r.tail with
        | none =>
          have he : endAt s (i + 2) = s.length := by unfold endAt; rw [hd2, hf2]
          rw [he] at hpe
          simp only [hf2] at hk
          simp at hk ht1 ht2
          simp [Tryd.f47] at hpe
          rcases hX with rfl | rfl
          all_goals
            rw [denK_loop]
            simp [Tryd.f47]
            simp [hlt, hst, n1, n2, n3, ht1, ht2, w2, hpe, hk]
        | some m =>
          have he : endAt s (i + 2) = i + 2 + m := by unfold endAt; rw [hd2, hf2]
          have hm := findEnd_le hf2
          have hmt : r.tail.length = r.length - 1 := by simp
          rw [he] at hpe
          simp only [hf2] at hk
          have hd : s.drop (i + (m + 4)) = (c :: r).drop (m + 4) := by rw [← List.drop_drop, ht]
          have ih := past_loop s hs k R f (i + (m + 4)) [] (.inl rfl) (by omega) (by omega) (by rw [hd, Nat.add_assoc]; exact hk)
          have hnl : ¬ ((s.length : Int) ≤ (i : Int) + 2 + m) := by omega
          have w3 : IntKind.i64.wrap ((i : Int) + 2 + m + 2) = (i : Int) + (m + 4) := by rw [wrap_id (by unfold I64; omega)]; omega
          simp at ht1 ht2
          simp [Tryd.f47] at hpe ih
          rcases hX with rfl | rfl
          all_goals
            rw [denK_loop]
            simp [Tryd.f47]
            simp [hlt, hst, n1, n2, n3, ht1, ht2, w2, w3, hnl, hpe, ih]
      simp only [if_neg h3] at hk
      have h3' : (decide (c = 40) && decide (r.head? = some 42)) = false := by simpa using h3
      rw [h3'] at ht2
      simp at hk ht1 ht2
      rcases hX with rfl | rfl
      all_goals
        rw [denK_loop]
        simp [Tryd.f47]
        simp [hlt, hst, n1, n2, n3, ht1, ht2, hk]
theorem past_run (s : Tx) (hs : s.length ≤ 100000) (i : Nat) (hi : i ≤ s.length) (f : Nat) (hf : s.length - i < f) :
    callT ctx 47 [.d (.str s), .d (.int .i64 i)] [] = some (.ret (.tup [.d (.int .i64 (i + (gapC f (s.drop i)).1 : Nat)), .d (.bool (gapC f (s.drop i)).2)]), []) := by
  have hl := fun k R h => past_loop s hs k R f i [] (.inl rfl) hi hf h
  rw [run47 (by simp)]
  simp [Tryd.f47] at hl ⊢
  rw [hl]
  split
  · rename_i h; intro Y; simp [h]
  · rename_i h; simp at h; simp [h]
end Go.Am
end
section
namespace Go.Am
open Go Go.Proofs
variable [Inhabited Mx2]
set_option maxRecDepth 20000
def valS (b : Nat) (p : Nat × Bool) (c : UInt8) : Nat × Bool := if (9223372036854775807 - valB c) / b < p.1 then (p.1, true) else (p.1 * b + valB c, p.2)
def valO (b : Nat) (p : Nat × Bool) (l : Tx) : Nat × Bool := l.foldl (valS b) p
theorem valO_true (b : Nat) : ∀ (l : Tx) (x : Nat), (valO b (x, true) l).2 = true
  | [], _ => rfl
  | c :: r, x => by
    show (valO b (valS b (x, true) c) r).2 = true
    unfold valS
    split <;> exact valO_true b r _
theorem valO_N (b : Nat) : ∀ (l : Tx) (x : Nat), valN b x l = if (valO b (x, false) l).2 = true then none else some (valO b (x, false) l).1
  | [], x => by simp [valN, valO]
  | c :: r, x => by
    have e : valO b (x, false) (c :: r) = valO b (valS b (x, false) c) r := rfl
    rw [e]
    unfold valN valS
    simp only
    split
    · rw [if_pos (valO_true b r x)]
    · exact valO_N b r _
theorem u64w {y : Int} (h1 : 0 ≤ y) (h2 : y ≤ 18446744073709551615) : IntKind.u64.wrap y = y := by simp [IntKind.wrap, IntKind.bits, IntKind.signed]; omega
set_option maxHeartbeats 1000000 in
theorem rnum_loop (s : Tx) (hs : s.length ≤ 100000) (b : Nat) (hb : 2 ≤ b ∧ b ≤ 16) (k : Kt) (R : Ans) : ∀ (q i x : Nat) (sm ov : Bool), i + q = s.length → x ≤ 9223372036854775807 →
    (∀ Y : Env, k (.exit 0) ⟨95, gl0, (0, true, .d (.str s)) :: (1, true, .d (.int .i64 (i + ((s.drop i).takeWhile (fun c => decide (valB c < b))).length : Nat))) :: (7, true, .d (.int .u64 b)) :: (8, true, .d (.int .u64 (valO b (x, ov) ((s.drop i).takeWhile (fun c => decide (valB c < b)))).1)) :: (9, true, .d (.bool (sm || decide (0 < ((s.drop i).takeWhile (fun c => decide (valB c < b))).length)))) :: (10, true, .d (.bool (valO b (x, ov) ((s.drop i).takeWhile (fun c => decide (valB c < b)))).2)) :: Y, []⟩ = R) →
    denK ctx 52 (.loop (Code.at (codeOf Tryd.f52) [1, 1, 1, 1, 1, 0, 0, 0])) ⟨95, gl0, [(0, true, .d (.str s)), (1, true, .d (.int .i64 i)), (7, true, .d (.int .u64 b)), (8, true, .d (.int .u64 x)), (9, true, .d (.bool sm)), (10, true, .d (.bool ov))], []⟩ k = R
  | 0, i, x, sm, ov, hi, hx, hR => by
    have hi : i = s.length := by omega
    subst hi
    simp [valO] at hR
    rw [denK_loop]
    simp [Tryd.f52, hR]
  | q + 1, i, x, sm, ov, hi, hx, hR => by
    have hlt : i < s.length := by omega
    have hst := strAt_eq hlt
    have hv := rdigit_run s[i] b
    have hvl := valB_le s[i]
    have hd : s.drop i = s[i] :: s.drop (i + 1) := List.drop_eq_getElem_cons hlt
    have w1 : IntKind.i64.wrap ((i : Int) + 1) = (i : Int) + 1 := wrap_id (by unfold I64; omega)
    rw [hd, List.takeWhile_cons] at hR
    rw [denK_loop]
    by_cases hq : valB s[i] < b
    · rw [if_pos (by simpa using hq)] at hR
      generalize htw : (s.drop (i + 1)).takeWhile (fun c => decide (valB c < b)) = tw at *
      have e : ∀ p, valO b p (s[i] :: tw) = valO b (valS b p s[i]) tw := fun p => rfl
      simp only [e, List.length_cons] at hR
      have w2 : IntKind.u64.wrap (9223372036854775807 - (valB s[i] : Int)) = ((9223372036854775807 - valB s[i] : Nat) : Int) := by rw [u64w (by omega) (by omega)]; omega
      have hqb : (9223372036854775807 - valB s[i]) / b ≤ 9223372036854775807 := Nat.le_trans (Nat.div_le_self _ _) (Nat.sub_le _ _)
      have w3 : IntKind.u64.wrap (((9223372036854775807 - valB s[i] : Nat) : Int) / (b : Int)) = (((9223372036854775807 - valB s[i]) / b : Nat) : Int) := by
        rw [← Int.natCast_ediv]
        generalize (9223372036854775807 - valB s[i]) / b = z at hqb
        exact u64w (by omega) (by omega)
      have hb0 : b ≠ 0 := by omega
      simp [hq] at hv
      unfold valS at hR
      by_cases ho : (9223372036854775807 - valB s[i]) / b < x
      · have ho' : ((9223372036854775807 - valB s[i] : Nat) : Int) / (b : Int) < x := by rw [← Int.natCast_ediv]; exact Int.ofNat_lt.2 ho
        simp only [if_pos ho] at hR
        have ih := rnum_loop s hs b hb k R q (i + 1) x true true (by omega) hx (by rw [htw]; intro Y; rw [show i + 1 + tw.length = i + (tw.length + 1) by omega]; simpa using hR Y)
        simp [Tryd.f52] at ih ⊢
        simp [hlt, hst, hv, w1, w2, w3, hb0, ho', ih]
      · have ho' : ¬ (((9223372036854775807 - valB s[i] : Nat) : Int) / (b : Int) < x) := by rw [← Int.natCast_ediv]; exact fun h => ho (Int.ofNat_lt.1 h)
        have hm : x * b ≤ 9223372036854775807 - valB s[i] := by
          have h1 : x ≤ (9223372036854775807 - valB s[i]) / b := by omega
          have := Nat.mul_le_mul_right b h1
          have h2 := Nat.div_mul_le_self (9223372036854775807 - valB s[i]) b
          omega
        have hm2 : (x : Int) * (b : Int) = ((x * b : Nat) : Int) := by simp
        have w4 : IntKind.u64.wrap ((x : Int) * b) = ((x * b : Nat) : Int) := by rw [hm2]; exact u64w (by omega) (by omega)
        have w5 : IntKind.u64.wrap (((x * b : Nat) : Int) + valB s[i]) = ((x * b + valB s[i] : Nat) : Int) := by rw [u64w (by omega) (by omega)]; simp
        simp only [if_neg ho] at hR
        have ih := rnum_loop s hs b hb k R q (i + 1) (x * b + valB s[i]) true ov (by omega) (by omega) (by rw [htw]; intro Y; rw [show i + 1 + tw.length = i + (tw.length + 1) by omega]; simpa using hR Y)
        generalize hxb : x * b + valB s[i] = xb at *
        generalize x * b = xm at *
        simp [Tryd.f52] at ih ⊢
        simp [hlt, hst, hv, w1, w2, w3, w4, w5, hb0, ho', ih]
    · rw [if_neg (by simpa using hq)] at hR
      simp [valO] at hR
      simp [hq] at hv
      simp [Tryd.f52]
      simp [hlt, hst, hv, hR]
theorem three_pre (s : Tx) (i : Nat) (a b c : UInt8) : ([a, b, c] : Tx).isPrefixOf (s.drop i) = (([a, b] : Tx).isPrefixOf (s.drop i) && (decide (i + 2 < s.length) && decide (strAt s (i + 2) = c))) := by
  by_cases h : i + 2 < s.length
  · have h1 : s.drop i = s[i] :: s[i + 1] :: s[i + 2] :: s.drop (i + 3) := by
      rw [List.drop_eq_getElem_cons (by omega), List.drop_eq_getElem_cons (by omega), List.drop_eq_getElem_cons h]
    rw [h1, strAt_eq h]
    simp [List.isPrefixOf, u8beq, h, Bool.and_assoc]
  · have hl : (s.drop i).length ≤ 2 := by simp; omega
    simp only [h, decide_false, Bool.false_and, Bool.and_false]
    cases hc : ([a, b, c] : Tx).isPrefixOf (s.drop i) with
    | false => rfl
    | true => have := (pre_head hc).2; simp at this hl; omega
/-- What is to be shown of what comes behind the digits. -/
def NumK (s : Tx) (j b : Nat) (k : Kt) : Prop := ∀ Y : Env, ∀ (x : Nat) (sm ov : Bool), (if sm = false ∨ (j < s.length ∧ (innerB (strAt s j) = true ∨ strAt s j = 35)) then k (.exit 0) ⟨95, gl0, (0, true, .d (.str s)) :: (1, true, .d (.int .i64 j)) :: (7, true, .d (.int .u64 b)) :: (8, true, .d (.int .u64 x)) :: (9, true, .d (.bool sm)) :: (10, true, .d (.bool ov)) :: Y, []⟩ = some (.ret (.tup [.d (.int .i64 j), .d (.int .i64 0), .d (.int .i64 5)]), [])
        else k (.exit 0) ⟨95, gl0, (0, true, .d (.str s)) :: (1, true, .d (.int .i64 j)) :: (7, true, .d (.int .u64 b)) :: (8, true, .d (.int .u64 x)) :: (9, true, .d (.bool sm)) :: (10, true, .d (.bool ov)) :: Y, []⟩ = if ov = true then some (.ret (.tup [.d (.int .i64 j), .d (.int .i64 0), .d (.int .i64 2)]), []) else some (.ret (.tup [.d (.int .i64 j), .d (.int .i64 (IntKind.i64.wrap x)), .d (.int .i64 0)]), []))
set_option maxHeartbeats 2000000 in
theorem rnumber_run (s : Tx) (hs : s.length ≤ 100000) (i : Nat) (hi : i ≤ s.length) : callT ctx 52 [.d (.str s), .d (.int .i64 i)] [] =
    some (.ret (.tup [.d (.int .i64 (i + ((headN (s.drop i)).2 + (((s.drop i).drop (headN (s.drop i)).2).takeWhile (fun c => decide (valB c < (headN (s.drop i)).1))).length) : Nat)), .d (.int .i64 (numF (s.drop i)).2.1), .d (.int .i64 (numF (s.drop i)).2.2)]), []) := by
  have ht2 := two_run s hs i hi 50 35
  have ht8 := two_run s hs i hi 56 35
  have ht16 := two_run s hs i hi 49 54
  have h3 := three_pre s i 49 54 35
  have hc := head_cases (s.drop i)
  unfold Go.Lib.hasPrefix at hc
  obtain ⟨b, h, hbh, hb, hhl⟩ : ∃ b h, headN (s.drop i) = (b, h) ∧ (2 ≤ b ∧ b ≤ 16) ∧ h ≤ (s.drop i).length := by
    rcases head_cases (s.drop i) with ⟨_, _, _, e, hl⟩ | ⟨_, _, _, e, hl⟩ | ⟨_, _, _, e, hl⟩ | ⟨_, _, _, e, hl⟩ <;> exact ⟨_, _, e, by omega, by omega⟩
  simp only [List.length_drop] at hhl
  have hF : numF (s.drop i) = numG (s.drop i) b h (((s.drop i).drop h).takeWhile (fun c => decide (valB c < b))) := by unfold numF; rw [hbh]
  rw [hF, hbh]
  simp only
  have hdd : (s.drop i).drop h = s.drop (i + h) := by rw [List.drop_drop]
  rw [hdd]
  have hloop := fun k R => rnum_loop s hs b hb k R (s.length - (i + h)) (i + h) 0 false false (by omega) (by omega)
  have hdl : ((s.drop (i + h)).takeWhile (fun c => decide (valB c < b))).length ≤ s.length - (i + h) := by
    have := (List.takeWhile_prefix (fun c => decide (valB c < b)) (l := s.drop (i + h))).length_le
    simpa using this
  generalize (s.drop (i + h)).takeWhile (fun c => decide (valB c < b)) = ds at *
  obtain ⟨j, hj⟩ : ∃ j, j = i + h + ds.length := ⟨_, rfl⟩
  have hj2 : i + (h + ds.length) = j := by omega
  have hG : numG (s.drop i) b h ds = if ds = [] ∨ (∃ c, s[j]? = some c ∧ (innerB c = true ∨ c = 35)) then (0, 0, 5) else if (valO b (0, false) ds).2 = true then (0, 0, 2) else (h + ds.length, (valO b (0, false) ds).1, 0) := by
    unfold numG
    rw [List.getElem?_drop, hj2, valO_N]
    split
    · rfl
    · cases (valO b (0, false) ds).2 <;> rfl
  rw [hG, hj2]
  rw [← hj] at hloop
  have hjs : j ≤ s.length := by omega
  have key : ∀ (k : Kt), NumK s j b k →
      denK ctx 52 (.loop (Code.at (codeOf Tryd.f52) [1, 1, 1, 1, 1, 0, 0, 0])) ⟨95, gl0, [(0, true, .d (.str s)), (1, true, .d (.int .i64 (i + h : Nat))), (7, true, .d (.int .u64 b)), (8, true, .d (.int .u64 (0 : Nat))), (9, true, .d (.bool false)), (10, true, .d (.bool false))], []⟩ k =
        some (.ret (.tup [.d (.int .i64 j), .d (.int .i64 (if ds = [] ∨ (∃ c, s[j]? = some c ∧ (innerB c = true ∨ c = 35)) then ((0, 0, 5) : Nat × Nat × Nat) else if (valO b (0, false) ds).2 = true then (0, 0, 2) else (h + ds.length, (valO b (0, false) ds).1, 0)).2.1), .d (.int .i64 (if ds = [] ∨ (∃ c, s[j]? = some c ∧ (innerB c = true ∨ c = 35)) then ((0, 0, 5) : Nat × Nat × Nat) else if (valO b (0, false) ds).2 = true then (0, 0, 2) else (h + ds.length, (valO b (0, false) ds).1, 0)).2.2)]), []) := by
    intro k hk
    refine hloop k _ (fun Y => ?_)
    have hk := hk Y (valO b (0, false) ds).1 (false || decide (0 < ds.length)) (valO b (0, false) ds).2
    have hcond : (ds = [] ∨ (∃ c, s[j]? = some c ∧ (innerB c = true ∨ c = 35))) ↔ ((false || decide (0 < ds.length)) = false ∨ (j < s.length ∧ (innerB (strAt s j) = true ∨ strAt s j = 35))) := by
      constructor
      · rintro (hh | ⟨c, hc, h2⟩)
        · left; simp [hh]
        · right
          obtain ⟨hlt, hcc⟩ := List.getElem?_eq_some_iff.1 hc
          rw [strAt_eq hlt, hcc]
          exact ⟨hlt, h2⟩
      · rintro (hh | ⟨hlt, h2⟩)
        · left; simp at hh; exact hh
        · right
          rw [strAt_eq hlt] at h2
          exact ⟨s[j], List.getElem?_eq_getElem hlt, h2⟩
    by_cases hcc : ds = [] ∨ (∃ c, s[j]? = some c ∧ (innerB c = true ∨ c = 35))
    · rw [if_pos (hcond.1 hcc)] at hk
      simp only [if_pos hcc]
      exact hk
    · rw [if_neg (fun h => hcc (hcond.2 h))] at hk
      simp only [if_neg hcc]
      rw [hk]
      have hvb : (valO b (0, false) ds).1 ≤ 9223372036854775807 := by
        have : ∀ (l : Tx) (p : Nat × Bool), p.1 ≤ 9223372036854775807 → (valO b p l).1 ≤ 9223372036854775807 := by
          intro l
          induction l with
          | nil => intro p hp; exact hp
          | cons c r ih =>
            intro p hp
            show (valO b (valS b p c) r).1 ≤ _
            refine ih _ ?_
            unfold valS
            split
            · exact hp
            · rename_i hno
              have h1 : p.1 ≤ (9223372036854775807 - valB c) / b := by omega
              have := Nat.mul_le_mul_right b h1
              have h2 := Nat.div_mul_le_self (9223372036854775807 - valB c) b
              have h3 := valB_le c
              simp only; omega
        exact this ds _ (by simp)
      have hw : IntKind.i64.wrap ((valO b (0, false) ds).1 : Int) = ((valO b (0, false) ds).1 : Int) := wrap_id (by unfold I64; omega)
      cases (valO b (0, false) ds).2 <;> simp [hw]
  generalize (if ds = [] ∨ (∃ c, s[j]? = some c ∧ (innerB c = true ∨ c = 35)) then ((0, 0, 5) : Nat × Nat × Nat) else if (valO b (0, false) ds).2 = true then (0, 0, 2) else (h + ds.length, (valO b (0, false) ds).1, 0)) = F at *
  clear hloop hG hF
  have hbr := body_run (strAt s j)
  have h35 := u8_eq (strAt s j) 35 (by omega)
  simp at h35
  have w2 : IntKind.i64.wrap ((i : Int) + 2) = (i : Int) + 2 := wrap_id (by unfold I64; omega)
  have w3 : IntKind.i64.wrap ((i : Int) + 3) = (i : Int) + 3 := wrap_id (by unfold I64; omega)
  have t0 : (0 : Int) ≤ (i : Int) + 2 := by omega
  have t1 : ((i : Int) + 2).toNat = i + 2 := by omega
  rw [run52 (by simp)]
  rcases hc with ⟨p1, p2, p3, e, hl⟩ | ⟨p1, p2, p3, e, hl⟩ | ⟨p1, p2, p3, e, hl⟩ | ⟨p1, p2, p3, e, hl⟩
  all_goals
    rw [hbh] at e
    cases e
  · rw [p1] at ht2
    simp at ht2
    simp [Tryd.f52] at key
    simp [Tryd.f52, drwK_end, ht2, w2]
    refine key _ ?_
    unfold NumK
    intro Y x sm ov
    cases hin : innerB (strAt s j)
    · rw [hin] at hbr
      by_cases h35' : strAt s j = 35
      · rw [h35'] at hbr
        simp at hbr
        by_cases hlt : j < s.length <;> cases sm <;> cases ov <;> simp [hlt, hbr, h35']
      · have h35n : ¬ ((strAt s j).toNat : Int) = 35 := fun h => h35' (h35.1 h)
        by_cases hlt : j < s.length <;> cases sm <;> cases ov <;> simp [hlt, hbr, h35', h35n]
    · rw [hin] at hbr
      by_cases hlt : j < s.length <;> cases sm <;> cases ov <;> simp [hlt, hbr]
  · rw [p1] at ht2
    rw [p2] at ht8
    simp at ht2 ht8
    simp [Tryd.f52] at key
    simp [Tryd.f52, drwK_end, ht2, ht8, w2]
    refine key _ ?_
    unfold NumK
    intro Y x sm ov
    cases hin : innerB (strAt s j)
    · rw [hin] at hbr
      by_cases h35' : strAt s j = 35
      · rw [h35'] at hbr
        simp at hbr
        by_cases hlt : j < s.length <;> cases sm <;> cases ov <;> simp [hlt, hbr, h35']
      · have h35n : ¬ ((strAt s j).toNat : Int) = 35 := fun h => h35' (h35.1 h)
        by_cases hlt : j < s.length <;> cases sm <;> cases ov <;> simp [hlt, hbr, h35', h35n]
    · rw [hin] at hbr
      by_cases hlt : j < s.length <;> cases sm <;> cases ov <;> simp [hlt, hbr]
  · rw [p1] at ht2
    rw [p2] at ht8
    rw [p3] at h3
    have h3 := h3.symm
    simp only [Bool.and_eq_true, decide_eq_true_eq] at h3
    obtain ⟨q1, q2, q3⟩ := h3
    rw [q1] at ht16
    have q2I : (i : Int) + 2 < s.length := by omega
    simp at ht2 ht8 ht16
    simp [Tryd.f52] at key
    simp [Tryd.f52, drwK_end, ht2, ht8, ht16, w2, w3, t0, t1, q2, q2I, q3]
    refine key _ ?_
    unfold NumK
    intro Y x sm ov
    cases hin : innerB (strAt s j)
    · rw [hin] at hbr
      by_cases h35' : strAt s j = 35
      · rw [h35'] at hbr
        simp at hbr
        by_cases hlt : j < s.length <;> cases sm <;> cases ov <;> simp [hlt, hbr, h35']
      · have h35n : ¬ ((strAt s j).toNat : Int) = 35 := fun h => h35' (h35.1 h)
        by_cases hlt : j < s.length <;> cases sm <;> cases ov <;> simp [hlt, hbr, h35', h35n]
    · rw [hin] at hbr
      by_cases hlt : j < s.length <;> cases sm <;> cases ov <;> simp [hlt, hbr]
  · rw [p1] at ht2
    rw [p2] at ht8
    rw [p3] at h3
    simp [Tryd.f52] at key
    cases q1 : ([49, 54] : Tx).isPrefixOf (s.drop i) with
    | false =>
      rw [q1] at ht16
      simp at ht2 ht8 ht16
      simp [Tryd.f52, drwK_end, ht2, ht8, ht16]
      refine key _ ?_
      unfold NumK
      intro Y x sm ov
      cases hin : innerB (strAt s j)
      · rw [hin] at hbr
        by_cases h35' : strAt s j = 35
        · rw [h35'] at hbr
          simp at hbr
          by_cases hlt : j < s.length <;> cases sm <;> cases ov <;> simp [hlt, hbr, h35']
        · have h35n : ¬ ((strAt s j).toNat : Int) = 35 := fun h => h35' (h35.1 h)
          by_cases hlt : j < s.length <;> cases sm <;> cases ov <;> simp [hlt, hbr, h35', h35n]
      · rw [hin] at hbr
        by_cases hlt : j < s.length <;> cases sm <;> cases ov <;> simp [hlt, hbr]
    | true =>
      rw [q1] at ht16 h3
      by_cases q2 : i + 2 < s.length
      · have q2I : (i : Int) + 2 < s.length := by omega
        have q3 : ¬ strAt s (i + 2) = 35 := by simpa [q2] using h3
        have q3n : ¬ ((strAt s (i + 2)).toNat : Int) = 35 := fun h => q3 (((u8_eq (strAt s (i + 2)) 35 (by omega)).1 h))
        simp at ht2 ht8 ht16
        simp [Tryd.f52, drwK_end, ht2, ht8, ht16, w2, t0, t1, q2, q2I, q3n]
        refine key _ ?_
        unfold NumK
        intro Y x sm ov
        cases hin : innerB (strAt s j)
        · rw [hin] at hbr
          by_cases h35' : strAt s j = 35
          · rw [h35'] at hbr
            simp at hbr
            by_cases hlt : j < s.length <;> cases sm <;> cases ov <;> simp [hlt, hbr, h35']
          · have h35n : ¬ ((strAt s j).toNat : Int) = 35 := fun h => h35' (h35.1 h)
            by_cases hlt : j < s.length <;> cases sm <;> cases ov <;> simp [hlt, hbr, h35', h35n]
        · rw [hin] at hbr
          by_cases hlt : j < s.length <;> cases sm <;> cases ov <;> simp [hlt, hbr]
      · have q2I : ¬ ((i : Int) + 2 < s.length) := by omega
        simp at ht2 ht8 ht16
        simp [Tryd.f52, drwK_end, ht2, ht8, ht16, w2, q2I]
        refine key _ ?_
        unfold NumK
        intro Y x sm ov
        cases hin : innerB (strAt s j)
        · rw [hin] at hbr
          by_cases h35' : strAt s j = 35
          · rw [h35'] at hbr
            simp at hbr
            by_cases hlt : j < s.length <;> cases sm <;> cases ov <;> simp [hlt, hbr, h35']
          · have h35n : ¬ ((strAt s j).toNat : Int) = 35 := fun h => h35' (h35.1 h)
            by_cases hlt : j < s.length <;> cases sm <;> cases ov <;> simp [hlt, hbr, h35', h35n]
        · rw [hin] at hbr
          by_cases hlt : j < s.length <;> cases sm <;> cases ov <;> simp [hlt, hbr]
end Go.Am
end
section
namespace Go.Am
open Go Go.Proofs
variable [Inhabited Mx2]
set_option maxRecDepth 20000
@[simp] def u8D (c : UInt8) : D := .int .u8 c.toNat
theorem rsign_loop (s : Tx) (i : Nat) (hi : i < s.length) (l : Tx) (hl : l.length ≤ 1000) (v : Nat) (k : Kt) (R1 R2 : Ans)
    (h1 : k .ret ⟨43, gl0, [(4, true, .d (.int .i64 1))], [⟨1600, v, .dead⟩]⟩ = R1)
    (h2 : ∀ Y : Env, k (.exit 0) ⟨43, gl0, Y, [⟨1600, v, .dead⟩]⟩ = R2) : ∀ (rest : Tx) (j : Nat), l.drop j = rest → j + rest.length = l.length →
    denK ctx 53 (.loop (Code.at (codeOf Tryd.f53) [1, 1, 0, 1, 0, 0])) ⟨43, gl0, [(0, true, .d (.str s)), (1, true, .d (.int .i64 i)), (31, true, .d (.list (l.map u8D))), (32, true, .d (.int .i64 l.length)), (33, true, .d (.int .i64 j))], [⟨1600, v, .dead⟩]⟩ k = if strAt s i ∈ rest then R1 else R2
  | [], j, hd, hj => by
    have hj : j = l.length := by simpa using hj
    subst hj
    rw [denK_loop]
    simp [Tryd.f53, h2]
  | x :: rest, j, hd, hj => by
    have hlt : j < l.length := by simp at hj; omega
    have hx : l[j] = x := by
      have := congrArg (·[0]?) hd
      simp at this
      simpa [hlt] using this
    have ih := rsign_loop s i hi l hl v k R1 R2 h1 h2 rest (j + 1) (by rw [← List.tail_drop, hd]; rfl) (by simp at hj; omega)
    have w1 : IntKind.i64.wrap ((j : Int) + 1) = (j : Int) + 1 := wrap_id (by unfold I64; omega)
    rw [denK_loop]
    by_cases hs : strAt s i = x
    · simp [Tryd.f53]
      simp [hlt, hx, hi, hs, h1]
    · have hs' : ¬ ((x.toNat : Int) = ((strAt s i).toNat : Int)) := fun h => hs ((u8_inj _ _).1 h).symm
      simp [Tryd.f53] at ih ⊢
      simp [hlt, hx, hi, hs, hs', w1, ih]
theorem rsign_run (s : Tx) (hs : s.length ≤ 100000) (i : Nat) (hi : i < s.length) : callT ctx 53 [.d (.str s), .d (.int .i64 i)] [] = some (.ret (.d (.int .i64 (signF (s.drop i)))), []) := by
  have h1 := two_run s hs i (by omega) 58 61
  have h2 := two_run s hs i (by omega) 60 61
  have h3 := two_run s hs i (by omega) 62 61
  have h4 := two_run s hs i (by omega) 60 62
  have h5 := two_run s hs i (by omega) 46 46
  have r15 : List.range' 0 15 = [0, 1, 2, 3, 4, 5, 6, 7, 8, 9, 10, 11, 12, 13, 14] := rfl
  have hlo := fun v k R1 R2 h1 h2 => rsign_loop s i hi signs1 (by decide) v k R1 R2 h1 h2 signs1 0 rfl (by decide)
  have hd : s.drop i = strAt s i :: s.drop (i + 1) := by rw [strAt_eq hi]; exact List.drop_eq_getElem_cons hi
  have hsg : signF (s.drop i) = if (signs2.any fun p => p.isPrefixOf (s.drop i)) = true then 2 else if strAt s i ∈ signs1 then 1 else 0 := by
    rw [hd]; rfl
  rw [hsg]
  rw [run53 (by simp)]
  simp only [signs2, List.any_cons, List.any_nil, Bool.or_false]
  simp at h1 h2 h3 h4 h5
  simp [Tryd.f53, signs1] at hlo
  cases q1 : ([58, 61] : Tx).isPrefixOf (s.drop i)
  rotate_left
  · simp [Tryd.f53, drwK_end, h1, q1]
  cases q2 : ([60, 61] : Tx).isPrefixOf (s.drop i)
  rotate_left
  · simp [Tryd.f53, drwK_end, h1, h2, q1, q2]
  cases q3 : ([62, 61] : Tx).isPrefixOf (s.drop i)
  rotate_left
  · simp [Tryd.f53, drwK_end, h1, h2, h3, q1, q2, q3]
  cases q4 : ([60, 62] : Tx).isPrefixOf (s.drop i)
  rotate_left
  · simp [Tryd.f53, drwK_end, h1, h2, h3, h4, q1, q2, q3, q4]
  cases q5 : ([46, 46] : Tx).isPrefixOf (s.drop i)
  rotate_left
  · simp [Tryd.f53, drwK_end, h1, h2, h3, h4, h5, q1, q2, q3, q4, q5]
  simp [Tryd.f53, drwK_end, h1, h2, h3, h4, h5, q1, q2, q3, q4, q5, r15]
  rw [hlo _ _ (some (.ret (.d (.int .i64 1)), [])) (some (.ret (.d (.int .i64 0)), [])) (by simp) (by simp)]
  by_cases hm : strAt s i ∈ signs1
  · rw [if_pos hm]
    simp only [signs1, List.mem_cons, List.not_mem_nil, or_false] at hm
    rw [if_pos (by simpa using hm)]
    rfl
  · rw [if_neg hm]
    simp only [signs1, List.mem_cons, List.not_mem_nil, or_false] at hm
    rw [if_neg (by simpa using hm)]
    rfl
end Go.Am
end
section
namespace Go.Am
open Go Go.Proofs
variable [Inhabited Mx2]
set_option maxRecDepth 20000
@[simp] def strD (t : Tx) : D := .str t
theorem rword_loop (s : Tx) (l : List Tx) (hl : l.length ≤ 1000) (k : Kt) (R1 R2 : Ans)
    (h1 : k .ret ⟨15, gl0, [(2, true, .d (.bool true))], []⟩ = R1)
    (h2 : ∀ Y : Env, k (.exit 0) ⟨15, gl0, Y, []⟩ = R2) : ∀ (rest : List Tx) (j : Nat), l.drop j = rest → j + rest.length = l.length →
    denK ctx 23 (.loop (Code.at (codeOf Tryd.f23) [1, 0, 1, 0, 0])) ⟨15, gl0, [(0, true, .d (.str s)), (5, true, .d (.list (l.map strD))), (6, true, .d (.int .i64 l.length)), (7, true, .d (.int .i64 j))], []⟩ k = if s ∈ rest then R1 else R2
  | [], j, hd, hj => by
    have hj : j = l.length := by simpa using hj
    subst hj
    rw [denK_loop]
    simp [Tryd.f23, h2]
  | x :: rest, j, hd, hj => by
    have hlt : j < l.length := by simp at hj; omega
    have hx : l[j] = x := by
      have := congrArg (·[0]?) hd
      simp at this
      simpa [hlt] using this
    have ih := rword_loop s l hl k R1 R2 h1 h2 rest (j + 1) (by rw [← List.tail_drop, hd]; rfl) (by simp at hj; omega)
    have w1 : IntKind.i64.wrap ((j : Int) + 1) = (j : Int) + 1 := wrap_id (by unfold I64; omega)
    rw [denK_loop]
    by_cases hs : x = s
    · simp [Tryd.f23]
      simp [hlt, hx, hs, h1]
    · have hs' : ¬ s = x := fun h => hs h.symm
      simp [Tryd.f23] at ih ⊢
      simp [hlt, hx, hs, hs', w1, ih]
theorem rword_run (s : Tx) : callT ctx 23 [.d (.str s)] [] = some (.ret (.d (.bool (wordB s))), []) := by
  have hlo := fun k R1 R2 h1 h2 => rword_loop s wordsL (by decide) k R1 R2 h1 h2 wordsL 0 rfl (by decide)
  have e : List.map strD wordsL = wordsL.map strD := rfl
  have hlen : wordsL.length = 36 := rfl
  have r36 : List.range' 0 36 = [0, 1, 2, 3, 4, 5, 6, 7, 8, 9, 10, 11, 12, 13, 14, 15, 16, 17, 18, 19, 20, 21, 22, 23, 24, 25, 26, 27, 28, 29, 30, 31, 32, 33, 34, 35] := rfl
  rw [run23 (by simp)]
  unfold wordB
  generalize hB : decide (s ∈ wordsL) = B
  simp [Tryd.f23, wordsL] at hlo
  simp [Tryd.f23, r36]
  rw [hlo _ (some (.ret (.d (.bool true)), [])) (some (.ret (.d (.bool false)), [])) (by simp) (by simp)]
  subst hB
  by_cases hm : s ∈ wordsL
  · rw [decide_eq_true hm]
    simp only [wordsL, List.mem_cons, List.not_mem_nil, or_false] at hm
    rw [if_pos hm]
  · rw [decide_eq_false hm]
    simp only [wordsL, List.mem_cons, List.not_mem_nil, or_false] at hm
    rw [if_neg hm]
end Go.Am
end
section
namespace Go.Am
open Go Go.Proofs
variable [Inhabited Mx2]
def bq : Nat → Nat
  | 0 => 10
  | 1 => 2
  | 2 => 8
  | _ => 16
def hq : Nat → Tx
  | 0 => []
  | 1 => [50, 35]
  | 2 => [56, 35]
  | _ => [49, 54, 35]
/-- The digits. -/
def digC (d : Nat) : UInt8 := UInt8.ofNat (if d < 10 then 48 + d else 55 + d)
def digs (b : Nat) : Nat → Nat → Tx → Tx
  | 0, _, s => s
  | f + 1, m, s => if m = 0 ∧ s ≠ [] then s else digs b f (m / b) (digC (m % b) :: s)
def valF (b x : Nat) (l : Tx) : Nat := l.foldl (fun x c => x * b + valB c) x
theorem digC_val : ∀ d : Nat, d < 16 → valB (digC d) = d := by decide
theorem valF_ge (b : Nat) (hb : 1 ≤ b) : ∀ (l : Tx) (x : Nat), x ≤ valF b x l
  | [], x => Nat.le_refl _
  | c :: r, x => by
    have h := valF_ge b hb r (x * b + valB c)
    have h2 : x * 1 ≤ x * b := Nat.mul_le_mul_left x hb
    show x ≤ valF b (x * b + valB c) r
    omega
theorem valN_F (b : Nat) (hb : 1 ≤ b) : ∀ (l : Tx) (x : Nat), x ≤ 9223372036854775807 → valN b x l = if valF b x l ≤ 9223372036854775807 then some (valF b x l) else none
  | [], x, hx => by simp [valN, valF, hx]
  | c :: r, x, hx => by
    have hv := valB_le c
    have e : valF b x (c :: r) = valF b (x * b + valB c) r := rfl
    rw [e]
    unfold valN
    have hd : (9223372036854775807 - valB c) / b < x ↔ 9223372036854775807 - valB c < x * b := Nat.div_lt_iff_lt_mul (by omega)
    by_cases h : (9223372036854775807 - valB c) / b < x
    · rw [if_pos h]
      have h1 := hd.1 h
      have h2 := valF_ge b hb r (x * b + valB c)
      rw [if_neg (by omega)]
    · rw [if_neg h]
      have h1 : ¬ (9223372036854775807 - valB c < x * b) := fun hh => h (hd.2 hh)
      exact valN_F b hb r _ (by omega)
theorem digs_val (b : Nat) (hb : 2 ≤ b ∧ b ≤ 16) : ∀ (f m : Nat) (s : Tx), m < 2 ^ f → ∀ x, valF b x (digs b f m s) = valF b (x * b ^ ((digs b f m s).length - s.length) + m) s ∧ s.length ≤ (digs b f m s).length
  | 0, m, s, hm, x => by
    have : m = 0 := by simpa using hm
    subst this
    simp [digs]
  | f + 1, m, s, hm, x => by
    unfold digs
    by_cases h : m = 0 ∧ s ≠ []
    · rw [if_pos h]
      obtain ⟨rfl, _⟩ := h
      simp
    · rw [if_neg h]
      have hlt : m / b < 2 ^ f := by
        have : m / b ≤ m / 2 := Nat.div_le_div_left hb.1 (by omega)
        have h2 : m / 2 < 2 ^ f := by rw [Nat.div_lt_iff_lt_mul (by omega)]; rw [Nat.pow_succ] at hm; omega
        omega
      obtain ⟨h1, h2⟩ := digs_val b hb f (m / b) (digC (m % b) :: s) hlt x
      have hmod : m % b < b := Nat.mod_lt _ (by omega)
      rw [h1]
      generalize (digs b f (m / b) (digC (m % b) :: s)).length = n at *
      simp only [List.length_cons] at h2 ⊢
      refine ⟨?_, by omega⟩
      have e : valF b (x * b ^ (n - (s.length + 1)) + m / b) (digC (m % b) :: s) = valF b ((x * b ^ (n - (s.length + 1)) + m / b) * b + valB (digC (m % b))) s := rfl
      rw [e, digC_val _ (by omega)]
      congr 1
      have e2 : n - s.length = (n - (s.length + 1)) + 1 := by omega
      rw [e2, Nat.pow_succ, Nat.add_mul, Nat.mul_assoc, Nat.add_assoc]
      congr 1
      have := Nat.div_add_mod m b
      rw [Nat.mul_comm] at this
      exact this
theorem digs_all (b : Nat) (hb : 2 ≤ b ∧ b ≤ 16) : ∀ (f m : Nat) (s : Tx), (∀ c ∈ s, valB c < b) → ∀ c ∈ digs b f m s, valB c < b
  | 0, m, s, h => h
  | f + 1, m, s, h => by
    unfold digs
    split
    · exact h
    · have hmod : m % b < b := Nat.mod_lt _ (by omega)
      exact digs_all b hb f _ _ (fun c hc => by
        rcases List.mem_cons.1 hc with rfl | hc
        · rw [digC_val _ (by omega)]; exact hmod
        · exact h c hc)
theorem digs_len (b : Nat) : ∀ (f m : Nat) (s : Tx), (digs b f m s).length ≤ s.length + f
  | 0, m, s => by simp [digs]
  | f + 1, m, s => by
    unfold digs
    split
    · omega
    · have := digs_len b f (m / b) (digC (m % b) :: s)
      simp only [List.length_cons] at this
      omega
theorem bq_ok (q : Nat) : 2 ≤ bq q ∧ bq q ≤ 16 := by unfold bq; split <;> omega
theorem hq_head (q : Nat) (r : Tx) : headN (hq q ++ 48 :: r) = (bq q, (hq q).length) := by
  unfold hq bq headN
  split <;> simp [List.isPrefixOf]
theorem takeWhile_all {p : UInt8 → Bool} : ∀ {l : Tx}, (∀ c ∈ l, p c = true) → l.takeWhile p = l
  | [], _ => rfl
  | c :: r, h => by rw [List.takeWhile_cons, if_pos (h c (by simp)), takeWhile_all (fun d hd => h d (by simp [hd]))]
theorem numF_written (q : Nat) (r : Tx) (hr : ∀ c ∈ r, valB c < bq q) :
    numF (hq q ++ 48 :: r) = match valN (bq q) 0 (48 :: r) with | none => (0, 0, 2) | some x => ((hq q).length + (r.length + 1), x, 0) := by
  unfold numF
  rw [hq_head]
  simp only
  have hdr : (hq q ++ 48 :: r).drop (hq q).length = 48 :: r := by simp
  have h48 : valB 48 < bq q := by
    have e : valB 48 = 0 := by decide
    have := (bq_ok q).1
    omega
  have htw : (48 :: r).takeWhile (fun c => decide (valB c < bq q)) = 48 :: r := by
    refine takeWhile_all (fun c hc => ?_)
    rcases List.mem_cons.1 hc with rfl | hc
    · simpa using h48
    · simpa using hr c hc
  rw [hdr, htw]
  unfold numG
  have hno : ¬ ((48 :: r : Tx) = [] ∨ ∃ c, (hq q ++ 48 :: r)[(hq q).length + (48 :: r : Tx).length]? = some c ∧ (innerB c = true ∨ c = 35)) := by
    rintro (h | ⟨c, h, _⟩)
    · cases h
    · rw [List.getElem?_eq_none (by simp)] at h; cases h
  rw [if_neg hno]
  rfl
theorem nextF_written (q : Nat) (r : Tx) : nextF (hq q ++ 48 :: r) = if (numF (hq q ++ 48 :: r)).2.2 = 0 then (0, 3, (numF (hq q ++ 48 :: r)).1, (numF (hq q ++ 48 :: r)).2.1) else ((numF (hq q ++ 48 :: r)).2.2, 0, 0, 0) := by
  unfold hq
  split <;> (unfold nextF; simp only [List.nil_append, List.cons_append]; rfl)
theorem gapC_written (q : Nat) (r : Tx) (f : Nat) : gapC (f + 1) (hq q ++ 48 :: r) = (0, true) := by
  unfold hq
  split <;> (unfold gapC; simp [blankB])
theorem lexF_end {s : Tx} {i : Nat} (h : s.drop i = []) (f : Nat) (out : List Sgn) : lexF s (f + 1) i out = (out ++ [here (plOf (s.take i))], 0, ⟨0, [], 0, 0, 0⟩) := by
  have hg : gapC (s.length + 1) [] = (0, true) := rfl
  unfold lexF
  rw [h, hg]
  simp [h]
theorem lexP_written (q : Nat) (r : Tx) (hr : ∀ c ∈ r, valB c < bq q) (hl : r.length ≤ 1000) :
    (9223372036854775807 < valF (bq q) 0 (48 :: r) → (lexP (hq q ++ 48 :: r)).2.1 = 2) ∧
    (valF (bq q) 0 (48 :: r) ≤ 9223372036854775807 → (lexP (hq q ++ 48 :: r)).2.1 = 0 ∧ ∃ t u, (lexP (hq q ++ 48 :: r)).1 = [t, u] ∧ t.kind = 3 ∧ t.n = valF (bq q) 0 (48 :: r)) := by
  have hqs : (hq q).length ≤ 3 := by unfold hq; split <;> simp
  have hlen : (hq q ++ 48 :: r).length = (hq q).length + (r.length + 1) := by simp
  have hnf := numF_written q r hr
  have hnx := nextF_written q r
  have hgp := fun f => gapC_written q r f
  have hne : hq q ++ 48 :: r ≠ [] := by simp
  have hv := valN_F (bq q) (by have := (bq_ok q).1; omega) (48 :: r) 0 (by omega)
  rw [hv] at hnf
  generalize hq q ++ 48 :: r = t at *
  unfold lexP
  rw [if_neg (by omega)]
  unfold lexF
  simp only [List.drop_zero, hgp, Bool.true_eq_false, if_false, Nat.add_zero, if_neg hne]
  constructor
  · intro hov
    rw [if_neg (by omega)] at hnf
    rw [hnf] at hnx
    rw [hnx]
    simp
  · intro hok
    rw [if_pos hok] at hnf
    rw [hnf] at hnx
    simp only at hnx
    rw [hnx]
    simp only [if_true, ne_eq, not_true_eq_false, if_false]
    have hd : t.drop (0 + ((hq q).length + (r.length + 1))) = [] := by rw [← hlen]; simp
    obtain ⟨f, hf⟩ : ∃ f, t.length = f + 1 := ⟨t.length - 1, by omega⟩
    rw [hf, lexF_end hd]
    simp
end Go.Am
end
section
namespace Go.Am
open Go Go.Proofs
variable [Inhabited Mx2]
set_option maxRecDepth 20000
def sameB (pl : Bool) (a b : Sgn) : Bool := decide (a.kind = b.kind) && decide (a.text = b.text) && decide (a.n = b.n) && (!pl || (decide (a.line = b.line) && decide (a.col = b.col)))
def sameL (pl : Bool) : List Sgn → List Sgn → Bool
  | [], [] => true
  | a :: r, b :: t => sameB pl a b && sameL pl r t
  | _, _ => false
set_option maxHeartbeats 1000000 in
theorem same_loop (la lb : List Sgn) (hl : la.length = lb.length) (hb : la.length ≤ 100000) (pl : Bool) (K : Kt) (R1 R2 : Ans)
    (h1 : ∀ v c v2 c2, K .ret ⟨38, gl0, [(6, true, .d (.bool false))], [⟨500, v, c⟩, ⟨550, v2, c2⟩]⟩ = R1)
    (h2 : ∀ v c v2 c2, K (.exit 0) ⟨38, gl0, [(0, true, .d (.list (la.map sgnD))), (1, true, .d (.list (lb.map sgnD))), (2, true, .d (.bool pl)), (7, true, .d (.int .i64 la.length)), (18, true, .d (.bool false))], [⟨500, v, c⟩, ⟨550, v2, c2⟩]⟩ = R2) :
    ∀ (ra rb : List Sgn) (i : Nat), la.drop i = ra → lb.drop i = rb → i + ra.length = la.length → ∀ (v v2 : Nat) (c c2 : Cont),
    denK ctx 21 (.loop (Code.at (codeOf Tryd.f21) [1, 1, 0, 1, 0, 0])) ⟨38, gl0, [(0, true, .d (.list (la.map sgnD))), (1, true, .d (.list (lb.map sgnD))), (2, true, .d (.bool pl)), (7, true, .d (.int .i64 i))], [⟨500, v, c⟩, ⟨550, v2, c2⟩]⟩ K =
      if sameL pl ra rb = true then R2 else R1
  | [], rb, i, ha, hb2, hi, v, v2, c, c2 => by
    have hi : i = la.length := by simpa using hi
    subst hi
    have : rb = [] := by rw [← hb2, hl]; simp
    subst this
    rw [denK_loop]
    simp [Tryd.f21, sameL, h2]
  | x :: ra, rb, i, ha, hb2, hi, v, v2, c, c2 => by
    have hlt : i < la.length := by simp at hi; omega
    have hlt2 : i < lb.length := by omega
    have hx : la[i] = x := by
      have := congrArg (·[0]?) ha
      simp at this
      simpa [hlt] using this
    obtain ⟨y, hy⟩ : ∃ y, y = lb[i] := ⟨_, rfl⟩
    have hrb : rb = y :: lb.drop (i + 1) := by rw [← hb2, hy]; exact List.drop_eq_getElem_cons hlt2
    have ih := same_loop la lb hl hb pl K R1 R2 h1 h2 ra (lb.drop (i + 1)) (i + 1) (by rw [← List.tail_drop, ha]; rfl) rfl (by simp at hi; omega)
    have w1 : IntKind.i64.wrap ((i : Int) + 1) = (i : Int) + 1 := wrap_id (by unfold I64; omega)
    rw [hrb, sameL, denK_loop]
    simp [Tryd.f21] at ih
    simp [Tryd.f21]
    simp [hlt, hlt2, hx, ← hy, w1, ih, h1, drwK_end]
    clear ih h1 h2
    cases pl <;> grind [sameB]
theorem same_run (la lb : List Sgn) (hb : la.length ≤ 100000) (pl : Bool) : callT ctx 21 [.d (.list (la.map sgnD)), .d (.list (lb.map sgnD)), .d (.bool pl)] [] = some (.ret (.d (.bool (sameL pl la lb))), []) := by
  have hne : ∀ (a b : List Sgn), a.length ≠ b.length → sameL pl a b = false := by
    intro a
    induction a with
    | nil => intro b h; cases b with | nil => simp at h | cons y b => rfl
    | cons x a ih => intro b h; cases b with | nil => rfl | cons y b => rw [sameL, ih b (by simpa using h)]; simp
  rw [run21 (by simp)]
  by_cases hl : la.length = lb.length
  · have hlo := fun K R1 R2 h1 h2 => same_loop la lb hl hb pl K R1 R2 h1 h2 la lb 0 rfl rfl (by simp)
    simp [Tryd.f21, hl] at hlo
    simp [Tryd.f21, drwK_end, hl]
    rw [hlo _ (some (.ret (.d (.bool false)), [])) (some (.ret (.d (.bool true)), [])) (by simp) (by simp)]
    cases sameL pl la lb <;> simp
  · have hI : ¬ ((la.length : Int) = lb.length) := by omega
    simp [Tryd.f21, drwK_end, hl, hI, hne la lb hl]
end Go.Am
end
section
namespace Go.Am
open Go Go.Proofs
variable [Inhabited Mx2]
def ltP (p q : Int × Int) : Prop := p.1 < q.1 ∨ (p.1 = q.1 ∧ p.2 < q.2)
theorem ltP_step (p : Int × Int) (c : UInt8) : ltP p (plStep p c) := by
  unfold ltP plStep
  split
  · left; simp only; omega
  · right; simp only; exact ⟨trivial, by omega⟩
theorem ltP_trans {p q r : Int × Int} (h : ltP p q) (k : ltP q r) : ltP p r := by
  unfold ltP at *; omega
theorem plOf_lt {s : Tx} : ∀ (d i : Nat), i + d + 1 ≤ s.length → ltP (plOf (s.take i)) (plOf (s.take (i + d + 1)))
  | 0, i, h => by
    rw [plOf_succ (show i + 0 < s.length by omega)]
    exact ltP_step _ _
  | d + 1, i, h => by
    have := plOf_lt (s := s) d i (by omega)
    rw [plOf_succ (show i + (d + 1) < s.length by omega)]
    exact ltP_trans this (ltP_step _ _)
theorem plOf_ne {s : Tx} {i j : Nat} (h : i < j) (hj : j ≤ s.length) : ¬ ((plOf (s.take j)).1 = (plOf (s.take i)).1 ∧ (plOf (s.take j)).2 = (plOf (s.take i)).2) := by
  have := plOf_lt (s := s) (j - i - 1) i (by omega)
  rw [show i + (j - i - 1) + 1 = j by omega] at this
  unfold ltP at this
  omega
/-- Signs that stand one behind the other, from a place on, the end behind them. -/
inductive Laid (s : Tx) : Nat → List Sgn → Prop
  | fin (i : Nat) (h : i ≤ s.length) : Laid s i [here (plOf (s.take s.length))]
  | sign (i j m : Nat) (k n : Int) (r : List Sgn) (h1 : i ≤ j) (h2 : j + m ≤ s.length) (h3 : 1 ≤ m) (h : Laid s (j + m) r) :
      Laid s i (⟨k, (s.drop j).take m, n, (plOf (s.take j)).1, (plOf (s.take j)).2⟩ :: r)
theorem Laid.weaken {s : Tx} {i i' : Nat} {r : List Sgn} (h : Laid s i r) (hi : i' ≤ i) : Laid s i' r := by
  cases h with
  | fin _ h => exact .fin i' (by omega)
  | sign _ j m k n r h1 h2 h3 h => exact .sign i' j m k n r (by omega) h2 h3 h
theorem Laid.step {s : Tx} {i : Nat} {t : Sgn} {r : List Sgn} (h : Laid s i (t :: r)) (hi : i ≤ s.length) :
    (¬ (t.line = (plOf (s.take i)).1 ∧ t.col = (plOf (s.take i)).2) ∧ i < s.length ∧ Laid s (i + 1) (t :: r)) ∨
    ((t.line = (plOf (s.take i)).1 ∧ t.col = (plOf (s.take i)).2) ∧ t.text.length ≤ s.length - i ∧ (s.drop i).take t.text.length = t.text ∧ ((i < s.length ∧ Laid s (i + 1) r) ∨ (i = s.length ∧ r = []))) := by
  cases h with
  | fin _ h =>
    by_cases he : i = s.length
    · subst he
      right
      simp [here]
    · left
      have hlt : i < s.length := by omega
      exact ⟨plOf_ne hlt (Nat.le_refl _), hlt, .fin _ (by omega)⟩
  | sign _ j m k n r h1 h2 h3 h =>
    by_cases he : i = j
    · subst he
      right
      have hl : ((s.drop i).take m).length = m := by simp; omega
      refine ⟨⟨rfl, rfl⟩, ?_, ?_, .inl ⟨by omega, h.weaken (by omega)⟩⟩
      · simp only [hl]; omega
      · simp only [hl]
    · left
      have hlt : i < j := by omega
      exact ⟨plOf_ne hlt (by omega), by omega, .sign _ j m k n r (by omega) h2 h3 h⟩
theorem lexF_laid (s : Tx) : ∀ (f i : Nat) (out : List Sgn), i ≤ s.length → (lexF s f i out).2.1 = 0 → ∃ r, (lexF s f i out).1 = out ++ r ∧ Laid s i r ∧ (lexF s f i out).2.2 = ⟨0, [], 0, 0, 0⟩
  | 0, i, out, hi, h => by simp [lexF] at h
  | f + 1, i, out, hi, h => by
    have hgl := gapC_le (s.length + 1) (s.drop i)
    unfold lexF at h ⊢
    generalize gapC (s.length + 1) (s.drop i) = g at *
    obtain ⟨n, ok⟩ := g
    simp only [List.length_drop] at hgl
    simp only at h ⊢
    cases ok with
    | false => simp at h
    | true =>
      simp only [Bool.true_eq_false, if_false] at h ⊢
      by_cases ht : s.drop (i + n) = []
      · rw [if_pos ht]
        have hj : i + n = s.length := by
          have := congrArg List.length ht
          simp at this; omega
        exact ⟨_, rfl, by rw [hj]; exact .fin i hi, rfl⟩
      · rw [if_neg ht] at h ⊢
        obtain ⟨a, t, hat⟩ : ∃ a t, s.drop (i + n) = a :: t := by
          cases hc : s.drop (i + n) with
          | nil => exact absurd hc ht
          | cons a t => exact ⟨a, t, rfl⟩
        have hlen : (i + n) + (t.length + 1) = s.length := by have := congrArg List.length hat; simp at this; omega
        have hok := nextF_ok (c := a) (r := t)
        rw [hat] at h ⊢
        by_cases he : (nextF (a :: t)).1 = 0
        · have hne : ¬ ((nextF (a :: t)).1 ≠ 0) := fun hh => hh he
          rw [if_neg hne] at h ⊢
          obtain ⟨hm1, hm2⟩ := hok he
          simp only [List.length_cons] at hm2
          obtain ⟨r, h1, h2, h3⟩ := lexF_laid s f (i + n + (nextF (a :: t)).2.2.1) _ (by omega) h
          refine ⟨_ :: r, by rw [h1, List.append_assoc]; rfl, ?_, h3⟩
          have := Laid.sign (s := s) i (i + n) (nextF (a :: t)).2.2.1 (nextF (a :: t)).2.1 (nextF (a :: t)).2.2.2 r (by omega) (by omega) hm1 h2
          rw [hat] at this
          exact this
        · rw [if_pos he] at h
          exact absurd h he
theorem lexP_laid {s : Tx} (h : (lexP s).2.1 = 0) : Laid s 0 (lexP s).1 ∧ (lexP s).2.2 = ⟨0, [], 0, 0, 0⟩ := by
  unfold lexP at h ⊢
  split at h
  · simp at h
  · rename_i hl
    rw [if_neg hl]
    obtain ⟨r, h1, h2, h3⟩ := lexF_laid s _ 0 [] (by omega) h
    rw [h1]
    exact ⟨h2, h3⟩
theorem lexF_err (s : Tx) : ∀ (f i : Nat) (out : List Sgn), s.length - i < f → i ≤ s.length → (lexF s f i out).2.1 ≠ 0 → (lexF s f i out).1 = [] ∧ ∃ j, (lexF s f i out).2.2 = here (plOf (s.take j))
  | 0, i, out, hf, _, h => by omega
  | f + 1, i, out, hf, hi, h => by
    have hgl := gapC_le (s.length + 1) (s.drop i)
    unfold lexF at h ⊢
    generalize gapC (s.length + 1) (s.drop i) = g at *
    obtain ⟨n, ok⟩ := g
    simp only [List.length_drop] at hgl
    simp only at h ⊢
    cases ok with
    | false => exact ⟨rfl, _, rfl⟩
    | true =>
      simp only [Bool.true_eq_false, if_false] at h ⊢
      by_cases ht : s.drop (i + n) = []
      · rw [if_pos ht] at h; simp at h
      · rw [if_neg ht] at h ⊢
        obtain ⟨a, t, hat⟩ : ∃ a t, s.drop (i + n) = a :: t := by
          cases hc : s.drop (i + n) with
          | nil => exact absurd hc ht
          | cons a t => exact ⟨a, t, rfl⟩
        have hlen : (i + n) + (t.length + 1) = s.length := by have := congrArg List.length hat; simp at this; omega
        have hok := nextF_ok (c := a) (r := t)
        rw [hat] at h ⊢
        by_cases he : (nextF (a :: t)).1 = 0
        · have hne : ¬ ((nextF (a :: t)).1 ≠ 0) := fun hh => hh he
          rw [if_neg hne] at h ⊢
          obtain ⟨hm1, hm2⟩ := hok he
          simp only [List.length_cons] at hm2
          exact lexF_err s f _ _ (by omega) (by omega) h
        · rw [if_pos he]
          exact ⟨rfl, _, rfl⟩
end Go.Am
end
section
namespace Go.Am
open Go Go.Proofs
variable [Inhabited Mx2]
def gapT : Nat → Tx
  | 0 => [32]
  | 1 => [10]
  | 2 => [9]
  | 3 => [32, 47, 47, 32, 120, 10]
  | 4 => [40, 42, 32, 42, 32, 42, 41]
  | 5 => [40, 42, 42, 41, 32]
  | 6 => [10, 10]
  | _ => [40, 42, 47, 47, 42, 41]
/-- A byte that ends any sign. -/
def neut (x : UInt8) : Bool := decide (x = 32) || decide (x = 10) || decide (x = 9) || decide (x = 40)
theorem gapT_neut (q : Nat) : ∃ x r, gapT q = x :: r ∧ neut x = true := by
  unfold gapT
  split <;> exact ⟨_, _, rfl, by decide⟩
theorem neut_inner : ∀ x : UInt8, neut x = true → innerB x = false ∧ x ≠ 35 ∧ x ≠ 61 ∧ x ≠ 62 ∧ x ≠ 46 ∧ x ≠ 42 ∧ x ≠ 47 ∧ valB x = 99 ∧ x ≠ 54 ∧ x ≠ 49 ∧ x ≠ 50 ∧ x ≠ 56 := by
  intro x h
  simp only [neut, Bool.or_eq_true, decide_eq_true_eq] at h
  rcases h with ((rfl | rfl) | rfl) | rfl <;> decide
theorem takeWhile_cut {p : UInt8 → Bool} {x : UInt8} (hx : p x = false) (g : Tx) : ∀ (u : Tx) (m : Nat), (u.takeWhile p).length = m → (u.take m ++ x :: g).takeWhile p = u.takeWhile p
  | [], m, h => by simp at h; subst h; simp [hx]
  | c :: r, m, h => by
    rw [List.takeWhile_cons] at h ⊢
    by_cases hc : p c = true
    · rw [if_pos hc] at h ⊢
      obtain ⟨m, rfl⟩ : ∃ m', m = m' + 1 := ⟨m - 1, by simp at h; omega⟩
      rw [List.take_succ_cons, List.cons_append, List.takeWhile_cons, if_pos hc, takeWhile_cut hx g r m (by simpa using h)]
    · rw [if_neg hc] at h ⊢
      simp at h
      subst h
      simp [hx]
theorem pre_cut1 {x : UInt8} (hx : neut x = true) (g : Tx) : ∀ (p r : Tx) (m : Nat), (∀ y ∈ p, neut y = false) → p.isPrefixOf r = false → p.isPrefixOf (r.take m ++ x :: g) = false
  | [], r, m, _, h => by simp at h
  | q :: p, [], m, hp, h => by
    have : q ≠ x := fun e => by have := hp q (by simp); rw [e, hx] at this; cases this
    simp [List.isPrefixOf, this]
  | q :: p, d :: r, 0, hp, h => by
    have : q ≠ x := fun e => by have := hp q (by simp); rw [e, hx] at this; cases this
    simp [List.isPrefixOf, this]
  | q :: p, d :: r, m + 1, hp, h => by
    have ih := pre_cut1 hx g p r m (fun y hy => hp y (by simp [hy]))
    simp only [List.take_succ_cons, List.cons_append, List.isPrefixOf] at h ⊢
    by_cases hq : (q == d) = true
    · rw [hq] at h ⊢; simpa using ih (by simpa using h)
    · simp [hq]
theorem pre_cut {x : UInt8} (hx : neut x = true) (g : Tx) {a c : UInt8} {p r : Tx} {m : Nat} (hp : ∀ y ∈ p, neut y = false) (h : (a :: p).isPrefixOf (c :: r) = false) : (a :: p).isPrefixOf (c :: (r.take m ++ x :: g)) = false := by
  simp only [List.isPrefixOf] at h ⊢
  by_cases hq : (a == c) = true
  · rw [hq] at h ⊢; simpa using pre_cut1 hx g p r m hp (by simpa using h)
  · simp [hq]
theorem pre_keep {p s : Tx} {m : Nat} (y : Tx) (h : p.isPrefixOf s = true) (hm : p.length ≤ m) : p.isPrefixOf (s.take m ++ y) = true := by
  rw [List.isPrefixOf_iff_prefix] at h ⊢
  exact (List.prefix_take_iff.2 ⟨h, hm⟩).trans (List.prefix_append _ _)
theorem head_cut {x : UInt8} (hx : neut x = true) (g : Tx) {c : UInt8} {r : Tx} {m : Nat} (hm : (headN (c :: r)).2 ≤ m + 1) : headN ((c :: r).take (m + 1) ++ x :: g) = headN (c :: r) := by
  have e : (c :: r).take (m + 1) ++ x :: g = c :: (r.take m ++ x :: g) := by simp
  unfold headN at hm ⊢
  cases h1 : ([49, 54, 35] : Tx).isPrefixOf (c :: r)
  · have k1 := pre_cut hx g (m := m) (by decide) h1
    cases h2 : ([56, 35] : Tx).isPrefixOf (c :: r)
    · have k2 := pre_cut hx g (m := m) (by decide) h2
      cases h3 : ([50, 35] : Tx).isPrefixOf (c :: r)
      · have k3 := pre_cut hx g (m := m) (by decide) h3
        rw [e, k1, k2, k3]
      · rw [h1, h2, h3] at hm
        have k3 := pre_keep (m := m + 1) (x :: g) h3 (by simp at hm; simp; omega)
        rw [k3, e, k1, k2]
    · rw [h1, h2] at hm
      have k2 := pre_keep (m := m + 1) (x :: g) h2 (by simp at hm; simp; omega)
      rw [k2, e, k1]
      rfl
  · rw [h1] at hm
    have k1 := pre_keep (m := m + 1) (x :: g) h1 (by simp at hm; simp; omega)
    rw [k1]
    rfl
theorem numF_cut {x : UInt8} (hx : neut x = true) (g : Tx) {c : UInt8} {r : Tx} (h : (numF (c :: r)).2.2 = 0) (m : Nat) (hm : (numF (c :: r)).1 = m + 1) (hl : m ≤ r.length) : numF ((c :: r).take (m + 1) ++ x :: g) = numF (c :: r) := by
  have hn := neut_inner x hx
  unfold numF at h hm ⊢
  obtain ⟨b, hd, hbh⟩ : ∃ b hd, headN (c :: r) = (b, hd) := ⟨_, _, rfl⟩
  have hhc := head_cut (x := x) hx g (c := c) (r := r) (m := m)
  have hb : b ≤ 99 := by
    have : b = (headN (c :: r)).1 := by rw [hbh]
    rw [this]; unfold headN; (repeat' split) <;> simp
  rw [hbh] at h hm hhc ⊢
  simp only at h hm hhc ⊢
  obtain ⟨ds, hds⟩ : ∃ ds, ds = ((c :: r).drop hd).takeWhile (fun c => decide (valB c < b)) := ⟨_, rfl⟩
  rw [← hds] at h hm ⊢
  unfold numG at h hm
  by_cases hc : ds = [] ∨ (∃ c', (c :: r)[hd + ds.length]? = some c' ∧ (innerB c' = true ∨ c' = 35))
  · rw [if_pos hc] at h; simp at h
  rw [if_neg hc] at h hm
  cases hv : valN b 0 ds with
  | none => rw [hv] at h; simp at h
  | some v =>
    rw [hv] at hm
    simp only at hm
    rw [hhc (by omega)]
    simp only
    have hlen : ((c :: r).take (m + 1)).length = m + 1 := by simp; omega
    have hdr : ((c :: r).take (m + 1) ++ x :: g).drop hd = ((c :: r).drop hd).take ds.length ++ x :: g := by
      rw [List.drop_append_of_le_length (by omega), List.drop_take, show m + 1 - hd = ds.length by omega]
    have hcut := takeWhile_cut (p := fun c => decide (valB c < b)) (x := x) (by simp [hn.2.2.2.2.2.2.2.1]; omega) g ((c :: r).drop hd) ds.length (by rw [← hds])
    rw [hdr, hcut, ← hds]
    unfold numG
    have hc2 : ¬ (ds = [] ∨ (∃ c', ((c :: r).take (m + 1) ++ x :: g)[hd + ds.length]? = some c' ∧ (innerB c' = true ∨ c' = 35))) := by
      rintro (h | ⟨c', h1, h2⟩)
      · exact hc (.inl h)
      · rw [hm, List.getElem?_append_right (by omega), hlen] at h1
        simp at h1
        subst h1
        rcases h2 with h2 | h2
        · rw [hn.1] at h2; cases h2
        · exact hn.2.1 h2
    rw [if_neg hc, if_neg hc2]
theorem nextF_cons (c : UInt8) (r : Tx) : nextF (c :: r) = if letterB c then
      if wordB ((c :: r).take ((c :: r).takeWhile innerB).length) then (0, 2, ((c :: r).takeWhile innerB).length, 0)
      else if 16 < ((c :: r).takeWhile innerB).length then (9, 1, 0, 0) else (0, 1, ((c :: r).takeWhile innerB).length, 0)
    else if digitB c then
      if (numF (c :: r)).2.2 = 0 then (0, 3, (numF (c :: r)).1, (numF (c :: r)).2.1) else ((numF (c :: r)).2.2, 0, 0, 0)
    else if signF (c :: r) = 0 then (5, 0, 0, 0) else (0, 4, signF (c :: r), 0) := rfl
theorem signF_cut {x : UInt8} (hx : neut x = true) (g : Tx) {c : UInt8} {r : Tx} (m : Nat) (hm : signF (c :: r) = m + 1) : signF ((c :: r).take (m + 1) ++ x :: g) = m + 1 := by
  have e : (c :: r).take (m + 1) ++ x :: g = c :: (r.take m ++ x :: g) := by simp
  unfold signF at hm ⊢
  by_cases ha : (signs2.any (fun p => p.isPrefixOf (c :: r))) = true
  · rw [if_pos ha] at hm
    have hk : (signs2.any (fun p => p.isPrefixOf ((c :: r).take (m + 1) ++ x :: g))) = true := by
      rw [List.any_eq_true] at ha ⊢
      obtain ⟨p, hp, h⟩ := ha
      refine ⟨p, hp, pre_keep _ h ?_⟩
      have : p.length = 2 := by
        simp only [signs2, List.mem_cons, List.not_mem_nil, or_false] at hp
        rcases hp with rfl | rfl | rfl | rfl | rfl <;> rfl
      omega
    rw [if_pos hk, hm]
  · rw [if_neg ha] at hm
    have hk : ¬ (signs2.any (fun p => p.isPrefixOf ((c :: r).take (m + 1) ++ x :: g))) = true := by
      intro hk
      rw [List.any_eq_true] at hk
      obtain ⟨p, hp, h⟩ := hk
      have hno : p.isPrefixOf (c :: r) = false := by
        cases hq : p.isPrefixOf (c :: r) with
        | false => rfl
        | true => exact absurd (List.any_eq_true.2 ⟨p, hp, hq⟩) ha
      rw [e] at h
      simp only [signs2, List.mem_cons, List.not_mem_nil, or_false] at hp
      rcases hp with rfl | rfl | rfl | rfl | rfl
      all_goals
        rw [pre_cut hx g (m := m) (by decide) hno] at h
        cases h
    rw [if_neg hk, e]
    exact hm
theorem nextF_cut {x : UInt8} (hx : neut x = true) (g : Tx) {s : Tx} (h : (nextF s).1 = 0) : nextF (s.take (nextF s).2.2.1 ++ x :: g) = nextF s := by
  have hn := neut_inner x hx
  cases s with
  | nil => simp [nextF] at h
  | cons c r =>
    obtain ⟨h1, h2⟩ := nextF_ok h
    obtain ⟨m, hm⟩ : ∃ m, (nextF (c :: r)).2.2.1 = m + 1 := ⟨(nextF (c :: r)).2.2.1 - 1, by omega⟩
    rw [hm] at h2 ⊢
    have e : (c :: r).take (m + 1) ++ x :: g = c :: (r.take m ++ x :: g) := by simp
    rw [e, nextF_cons, ← e]
    rw [nextF_cons] at h hm ⊢
    simp only [List.length_cons] at h2
    by_cases hl : letterB c = true
    · simp only [if_pos hl] at h hm ⊢
      have hm2 : ((c :: r).takeWhile innerB).length = m + 1 := by
        split at hm
        · exact hm
        · split at hm
          · rename_i h1 h2; simp [h1, h2] at h
          · exact hm
      have hcut := takeWhile_cut (p := innerB) hn.1 g (c :: r) (m + 1) hm2
      rw [hcut, hm2]
      have ht : ((c :: r).take (m + 1) ++ x :: g).take (m + 1) = (c :: r).take (m + 1) := by
        rw [List.take_append_of_le_length (by simp; omega), List.take_take, Nat.min_self]
      rw [ht]
    · simp only [if_neg hl] at h hm ⊢
      by_cases hd : digitB c = true
      · simp only [if_pos hd] at h hm ⊢
        by_cases hz : (numF (c :: r)).2.2 = 0
        · simp only [if_pos hz] at h hm ⊢
          rw [numF_cut hx g hz m hm (by omega), if_pos hz]
        · rw [if_neg hz] at h; exact absurd h hz
      · simp only [if_neg hd] at h hm ⊢
        by_cases hz : signF (c :: r) = 0
        · rw [if_pos hz] at h; simp at h
        · simp only [if_neg hz] at hm ⊢
          rw [signF_cut hx g m hm, if_neg (by omega), hm]
theorem gapC_sign {x : UInt8} (hx : neut x = true) (g : Tx) {s : Tx} (h : (nextF s).1 = 0) (f : Nat) : gapC f (s.take (nextF s).2.2.1 ++ x :: g) = (0, true) := by
  have hn := neut_inner x hx
  cases f with
  | zero => rfl
  | succ f =>
  cases s with
  | nil => simp [nextF] at h
  | cons c r =>
    obtain ⟨h1, h2⟩ := nextF_ok h
    obtain ⟨m, hm⟩ : ∃ m, (nextF (c :: r)).2.2.1 = m + 1 := ⟨(nextF (c :: r)).2.2.1 - 1, by omega⟩
    rw [hm]
    have e : (c :: r).take (m + 1) ++ x :: g = c :: (r.take m ++ x :: g) := by simp
    have hb : blankB c = false := by
      cases hb : blankB c with
      | false => rfl
      | true =>
        simp only [blankB, Bool.or_eq_true, decide_eq_true_eq] at hb
        have : c = 32 ∨ c = 10 ∨ c = 9 := by
          rcases hb with (hb | hb) | hb
          · exact .inl (UInt8.toNat_inj.1 hb)
          · exact .inr (.inl (UInt8.toNat_inj.1 hb))
          · exact .inr (.inr (UInt8.toNat_inj.1 hb))
        rcases this with rfl | rfl | rfl <;> simp [nextF, letterB, digitB, signF, signs1, signs2, List.isPrefixOf] at h
    rw [e]
    unfold gapC
    rw [hb]
    by_cases h47 : c = 47
    · subst h47
      have : m = 0 := by simp [nextF, letterB, digitB, signF, signs1, signs2, List.isPrefixOf] at hm; omega
      subst this
      simp [hn.2.2.2.2.2.2.1]
    · by_cases h40 : c = 40
      · subst h40
        have : m = 0 := by simp [nextF, letterB, digitB, signF, signs1, signs2, List.isPrefixOf] at hm; omega
        subst this
        simp [hn.2.2.2.2.2.1]
      · simp [h47, h40]
theorem gapC_gap (q : Nat) (rest : Tx) (hr : ∀ f, gapC f rest = (0, true)) (f : Nat) (hf : (gapT q).length ≤ f) : gapC f (gapT q ++ rest) = ((gapT q).length, true) := by
  obtain ⟨f, rfl⟩ : ∃ f', f = f' + (gapT q).length := ⟨f - (gapT q).length, by omega⟩
  clear hf
  unfold gapT
  split <;> simp [gapC, blankB, lineN, findEnd, hr]
structure SgnOk (t : Sgn) (u : Tx) : Prop where
  h : (nextF u).1 = 0
  hk : t.kind = (nextF u).2.1
  ht : t.text = u.take (nextF u).2.2.1
  hn : t.n = (nextF u).2.2.2
inductive SgnsOk : List Sgn → Prop
  | fin (p : Int × Int) : SgnsOk [here p]
  | sign (t : Sgn) (u : Tx) (r : List Sgn) (h : SgnOk t u) (hr : SgnsOk r) : SgnsOk (t :: r)
theorem lexF_sgns (s : Tx) : ∀ (f i : Nat) (out : List Sgn), (lexF s f i out).2.1 = 0 → ∃ r, (lexF s f i out).1 = out ++ r ∧ SgnsOk r
  | 0, i, out, h => by simp [lexF] at h
  | f + 1, i, out, h => by
    unfold lexF at h ⊢
    generalize gapC (s.length + 1) (s.drop i) = g at *
    obtain ⟨n, ok⟩ := g
    simp only at h ⊢
    cases ok with
    | false => simp at h
    | true =>
      simp only [Bool.true_eq_false, if_false] at h ⊢
      by_cases ht : s.drop (i + n) = []
      · rw [if_pos ht]
        exact ⟨_, rfl, .fin _⟩
      · rw [if_neg ht] at h ⊢
        by_cases he : (nextF (s.drop (i + n))).1 = 0
        · have hne : ¬ ((nextF (s.drop (i + n))).1 ≠ 0) := fun hh => hh he
          rw [if_neg hne] at h ⊢
          obtain ⟨r, h1, h2⟩ := lexF_sgns s f (i + n + (nextF (s.drop (i + n))).2.2.1) _ h
          exact ⟨_ :: r, by rw [h1, List.append_assoc]; rfl, .sign _ (s.drop (i + n)) r ⟨he, rfl, rfl, rfl⟩ h2⟩
        · rw [if_pos he] at h
          exact absurd h he
/-- The text that is made of signs with gaps between them. -/
def mkG (g : Nat → Nat) : Nat → List Sgn → Tx
  | _, [] => []
  | k, t :: r => gapT (g k) ++ (t.text ++ mkG g (k + 1) r)
theorem mkG_head (g : Nat → Nat) (k : Nat) {r : List Sgn} (h : SgnsOk r) : ∃ x y, mkG g k r = x :: y ∧ neut x = true := by
  obtain ⟨x, y, e, hx⟩ := gapT_neut (g k)
  cases h with
  | fin p => exact ⟨x, _, by rw [mkG, e]; rfl, hx⟩
  | sign t u r h hr => exact ⟨x, _, by rw [mkG, e]; rfl, hx⟩
theorem lexF_mk (s : Tx) (g : Nat → Nat) {r : List Sgn} (hr : SgnsOk r) : ∀ (k i f : Nat) (out : List Sgn), s.drop i = mkG g k r → r.length ≤ f → ∃ M z, lexF s f i out = (out ++ M, 0, z) ∧ sameL false r M = true := by
  induction hr with
  | fin p =>
    intro k i f out hd hf
    obtain ⟨f, rfl⟩ : ∃ f', f = f' + 1 := ⟨f - 1, by simp at hf; omega⟩
    have hl : (gapT (g k)).length ≤ s.length := by
      have := congrArg List.length hd
      simp [mkG, here] at this; omega
    have hd' : s.drop i = gapT (g k) ++ [] := by rw [hd]; simp [mkG, here]
    have hg := gapC_gap (g k) [] (fun f => by cases f <;> rfl) (s.length + 1) (by omega)
    have hd2 : s.drop (i + (gapT (g k)).length) = [] := by rw [← List.drop_drop, hd']; simp
    unfold lexF
    rw [hd', hg]
    simp only [Bool.true_eq_false, if_false, hd2, if_true]
    exact ⟨_, _, rfl, by simp [sameL, sameB, here]⟩
  | sign t u r h hr ih =>
    intro k i f out hd hf
    obtain ⟨f, rfl⟩ : ∃ f', f = f' + 1 := ⟨f - 1, by simp at hf; omega⟩
    obtain ⟨x, y, e, hx⟩ := mkG_head g (k + 1) hr
    have hcut := nextF_cut hx y h.h
    have hgs := gapC_sign hx y h.h
    have hl : (gapT (g k)).length ≤ s.length := by
      have := congrArg List.length hd
      simp [mkG] at this; omega
    have hd' : s.drop i = gapT (g k) ++ (u.take (nextF u).2.2.1 ++ x :: y) := by rw [hd, mkG, e, h.ht]
    have hg := gapC_gap (g k) _ hgs (s.length + 1) (by omega)
    have hd2 : s.drop (i + (gapT (g k)).length) = u.take (nextF u).2.2.1 ++ x :: y := by rw [← List.drop_drop, hd']; simp
    have hul : (u.take (nextF u).2.2.1).length = (nextF u).2.2.1 := by
      have : (nextF u).2.2.1 ≤ u.length := by
        cases u with
        | nil => have := h.h; simp [nextF] at this
        | cons c r => exact (nextF_ok h.h).2
      simp; omega
    have hd3 : s.drop (i + (gapT (g k)).length + (nextF u).2.2.1) = mkG g (k + 1) r := by
      rw [← List.drop_drop, hd2, List.drop_append_of_le_length (by omega), List.drop_of_length_le (by omega), e]; rfl
    unfold lexF
    rw [hd', hg]
    have hne : ¬ (u.take (nextF u).2.2.1 ++ x :: y = []) := by simp
    simp only [Bool.true_eq_false, if_false, hd2, if_neg hne, hcut, h.h, ne_eq, not_true_eq_false]
    obtain ⟨M, z, h1, h2⟩ := ih (k + 1) (i + (gapT (g k)).length + (nextF u).2.2.1) f _ hd3 (by simp at hf; omega)
    rw [h1]
    refine ⟨_ :: M, z, by rw [List.append_assoc]; rfl, ?_⟩
    have ht : (u.take (nextF u).2.2.1 ++ x :: y).take (nextF u).2.2.1 = t.text := by
      rw [List.take_append_of_le_length (by omega), List.take_take, Nat.min_self, h.ht]
    simp [sameL, sameB, h2, ht, h.hk, h.hn]
theorem mkG_len (g : Nat → Nat) : ∀ (r : List Sgn) (k : Nat), r.length ≤ (mkG g k r).length ∧ (mkG g k r).length ≤ 7 * r.length + (r.map (·.text.length)).sum
  | [], k => by simp [mkG]
  | t :: r, k => by
    have ih := mkG_len g r (k + 1)
    have h1 : 1 ≤ (gapT (g k)).length ∧ (gapT (g k)).length ≤ 7 := by unfold gapT; split <;> simp
    simp only [mkG, List.length_append, List.length_cons, List.map_cons, List.sum_cons]
    omega
theorem Laid.sum {s : Tx} {i : Nat} {r : List Sgn} (h : Laid s i r) : i + (r.map (·.text.length)).sum ≤ s.length := by
  induction h with
  | fin i h => simp [here]; omega
  | sign i j m k n r h1 h2 h3 h ih =>
    have : ((s.drop j).take m).length = m := by simp; omega
    simp only [List.map_cons, List.sum_cons, this]
    omega
theorem lexP_gaps {s : Tx} (h : (lexP s).2.1 = 0) (g : Nat → Nat) (hl : (mkG g 0 (lexP s).1).length ≤ 16384) : (lexP (mkG g 0 (lexP s).1)).2.1 = 0 ∧ sameL false (lexP s).1 (lexP (mkG g 0 (lexP s).1)).1 = true := by
  have hs : SgnsOk (lexP s).1 := by
    unfold lexP at h ⊢
    split at h
    · simp at h
    · rename_i hh
      rw [if_neg hh]
      obtain ⟨r, h1, h2⟩ := lexF_sgns s _ 0 [] h
      rw [h1]; exact h2
  generalize (lexP s).1 = r at *
  obtain ⟨M, z, h1, h2⟩ := lexF_mk (mkG g 0 r) g hs 0 0 ((mkG g 0 r).length + 1) [] rfl (by have := (mkG_len g r 0).1; omega)
  unfold lexP
  rw [if_neg (by omega), h1]
  exact ⟨rfl, h2⟩
end Go.Am
end
section
namespace Go.Am
open Go Go.Proofs
variable [Inhabited Mx2]
set_option maxRecDepth 20000
theorem rname_loop (s : Tx) (hs : s.length ≤ 100000) (M : Mem) (A4 A5 A9 A10 : AV) (i : Nat) (k : Kt) (R : Ans) : ∀ (d j : Nat) (X : Env), (X = [] ∨ X = [(48, true, .d (.bool true))]) → j + d = s.length →
    (k (.exit 2) ⟨112, gl0, [(0, true, .d (.str s)), (4, true, A4), (5, true, A5), (6, true, .d (.int .i64 i)), (9, true, A9), (10, true, A10), (11, true, .d (.int .i64 (j + ((s.drop j).takeWhile innerB).length : Nat))), (58, true, .d (.bool false))], M⟩ = R) →
    denK ctx 20 (.loop (Code.at (codeOf Tryd.f20) [1, 1, 1, 1, 0, 0, 0, 1, 1, 1, 1, 1, 1, 1, 0, 1, 0, 0, 0, 0]))
      ⟨112, gl0, [(0, true, .d (.str s)), (4, true, A4), (5, true, A5), (6, true, .d (.int .i64 i)), (9, true, A9), (10, true, A10), (11, true, .d (.int .i64 j))] ++ X, M⟩ k = R
  | 0, j, X, hX, hj, hR => by
    have hj : j = s.length := by omega
    subst hj
    simp at hR
    rcases hX with rfl | rfl
    all_goals
      rw [denK_loop]
      simp [Tryd.f20, hR]
  | d + 1, j, X, hX, hj, hR => by
    have hlt : j < s.length := by omega
    have hst := strAt_eq hlt
    have hb := body_run s[j]
    have hd : s.drop j = s[j] :: s.drop (j + 1) := List.drop_eq_getElem_cons hlt
    have w4 : IntKind.i64.wrap ((j : Int) + 1) = (j : Int) + 1 := wrap_id (by unfold I64; omega)
    rw [hd, List.takeWhile_cons] at hR
    cases hc : innerB s[j] with
    | true =>
      rw [hc] at hb hR
      simp only [if_true, List.length_cons] at hR
      have ih := rname_loop s hs M A4 A5 A9 A10 i k R d (j + 1) [] (.inl rfl) (by omega) (by rw [show j + 1 + ((s.drop (j + 1)).takeWhile innerB).length = j + (((s.drop (j + 1)).takeWhile innerB).length + 1) by omega]; exact hR)
      simp [Tryd.f20] at ih
      rcases hX with rfl | rfl
      all_goals
        rw [denK_loop]
        simp [Tryd.f20]
        simp [hlt, hst, hb, w4, ih]
    | false =>
      rw [hc] at hb hR
      simp at hR
      rcases hX with rfl | rfl
      all_goals
        rw [denK_loop]
        simp [Tryd.f20]
        simp [hlt, hst, hb, hR]
end Go.Am
end
section
namespace Go.Am
open Go Go.Proofs
variable [Inhabited Mx2]
set_option maxRecDepth 20000
theorem numF_len {s : Tx} (h : (numF s).2.2 = 0) : (numF s).1 = (headN s).2 + ((s.drop (headN s).2).takeWhile (fun c => decide (valB c < (headN s).1))).length := by
  unfold numF numG at h ⊢
  split
  · rename_i hc; rw [if_pos hc] at h; simp at h
  · rename_i hc
    rw [if_neg hc] at h
    split
    · rename_i hv; rw [hv] at h; simp at h
    · rfl
set_option maxHeartbeats 2000000 in
theorem rlex_loop (s : Tx) (hs : s.length ≤ 16384) : ∀ (f i : Nat) (out : List Sgn) (v4 v5 v55 : Nat) (c5 c55 : Cont), i ≤ s.length → s.length - i < f → out.length ≤ i →
    denK ctx 20 (.loop (Code.at (codeOf Tryd.f20) [1, 1, 1, 1, 0, 0])) ⟨112, gl0, [(0, true, .d (.str s)), (4, true, .ptr 300 1 0), (5, true, .vec 350 v4 0 out.length), (6, true, .d (.int .i64 i))],
      [⟨200, 1, .vec 5 []⟩, ⟨300, 1, .box [.d (.int .i64 0), .d (.str []), .d (.int .i64 0), .d (.int .i64 0), .d (.int .i64 0)]⟩, ⟨350, v4, .vec 5 (out.map sgnD)⟩, ⟨550, v5, c5⟩, ⟨600, v55, c55⟩]⟩
      (blkK 0 (finK Tryd.prog fp20 0 [.tmp 2, .tmp 3, .cell 4 33])) = some (.ret (.tup [.d (.list ((lexF s f i out).1.map sgnD)), .d (.int .i64 (lexF s f i out).2.1), .d (sgnD (lexF s f i out).2.2)]), [])
  | 0, i, out, v4, v5, v55, c5, c55, hi, hf, ho => by omega
  | f + 1, i, out, v4, v5, v55, c5, c55, hi, hf, ho => by
    have hg := past_run s (by omega) i hi (s.length + 1) (by omega)
    have hgl := gapC_le (s.length + 1) (s.drop i)
    unfold lexF
    generalize gapC (s.length + 1) (s.drop i) = g at *
    obtain ⟨n, ok⟩ := g
    simp only [List.length_drop] at hgl
    simp only at hg ⊢
    obtain ⟨j, hj⟩ : ∃ j, j = i + n := ⟨_, rfl⟩
    have hjl : j ≤ s.length := by omega
    rw [← hj] at hg ⊢
    have hpl := place_run s (by omega) j hjl
    generalize hp : plOf (s.take j) = p at *
    obtain ⟨l, c⟩ := p
    rw [denK_loop]
    cases ok with
    | false =>
      simp [here] at hpl
      simp [Tryd.f20, drwK_end, hg, here, hpl]
    | true =>
      simp only [Bool.true_eq_false, if_false]
      simp [here] at hpl
      cases ht : s.drop j with
      | nil =>
        have hjs : j = s.length := by have := congrArg List.length ht; simp at this; omega
        have g1 : (out.length + 1) * 48 ≤ 140737488355328 ∧ out.length ≤ 4611686018427387903 := by omega
        subst hjs
        simp [Tryd.f20, drwK_end, hg, here, hpl, g1]
      | cons a r =>
        have hlen : j + (r.length + 1) = s.length := by have := congrArg List.length ht; simp at this; omega
        have hlt : j < s.length := by omega
        have hne1 : ¬ j = s.length := by omega
        have hneI : ¬ (j : Int) = s.length := by omega
        have hsi : s[j] = a := by
          have := congrArg (·[0]?) ht
          simp at this
          simpa [hlt] using this
        have hst : strAt s j = a := by rw [strAt_eq hlt, hsi]
        have hok := nextF_ok (c := a) (r := r)
        have hne : ¬ (a :: r = []) := by simp
        simp only [if_neg hne]
        have g1 : (out.length + 1) * 48 ≤ 140737488355328 ∧ out.length ≤ 4611686018427387903 := by omega
        have hal := alpha_run a
        have hnu := num_run a
        have hsl : ∀ m, (s.take (j + m)).drop j = (a :: r).take m := fun m => by rw [List.drop_take, ht]; congr 1; omega
        rw [nextF_cons] at hok ⊢
        by_cases hla : letterB a = true
        · rw [hla] at hal
          simp only [if_pos hla] at hok ⊢
          have hnl := fun M A4 A5 A9 A10 k R => rname_loop s (by omega) M A4 A5 A9 A10 j k R (s.length - j) j [(48, true, .d (.bool true))] (.inr rfl) (by omega)
          rw [ht] at hnl
          have hwl : ((a :: r).takeWhile innerB).length ≤ r.length + 1 := by simpa using (List.takeWhile_prefix innerB (l := a :: r)).length_le
          generalize ((a :: r).takeWhile innerB).length = m at *
          have hsl := hsl m
          have hwd := rword_run ((a :: r).take m)
          have k1 : (j : Int) ≤ (j : Int) + m := by omega
          have k2 : (j : Int) + m ≤ s.length := by omega
          have k3 : ((j : Int) + m).toNat = j + m := by omega
          have k4 : j + m ≤ s.length := by omega
          have k5 : IntKind.i64.wrap ((j : Int) + m - j) = (m : Int) := by rw [wrap_id (by unfold I64; omega)]; omega
          obtain ⟨nm, hnm⟩ : ∃ nm, (a :: r).take m = nm := ⟨_, rfl⟩
          rw [hnm] at hsl hwd hok ⊢
          simp [Tryd.f20] at hnl
          cases hw : wordB nm with
          | true =>
            rw [hw] at hwd hok
            simp at hok
            have ih := fun v4 v5 v55 c5 c55 => rlex_loop s hs f (j + m) (out ++ [⟨2, nm, 0, l, c⟩]) v4 v5 v55 c5 c55 (by omega) (by omega) (by simp; omega)
            simp [Tryd.f20] at ih
            simp [Tryd.f20, drwK_end, hg, hpl, hlt, hne1, hneI, hst, hal]
            rw [hnl]
            simp [hsl, hwd, k1, k2, k3, k4, g1, hnm, ih]
          | false =>
            rw [hw] at hwd hok
            simp [Tryd.f20, drwK_end, hg, hpl, hlt, hne1, hneI, hst, hal]
            rw [hnl]
            by_cases h16 : 16 < m
            · have h16I : (16 : Int) < m := by omega
              simp [hsl, hwd, k1, k2, k3, k4, k5, g1, h16, h16I, here, drwK_end]
            · have h16I : ¬ (16 : Int) < m := by omega
              simp only [if_neg h16] at hok
              simp at hok
              have ih := fun v4 v5 v55 c5 c55 => rlex_loop s hs f (j + m) (out ++ [⟨1, nm, 0, l, c⟩]) v4 v5 v55 c5 c55 (by omega) (by omega) (by simp; omega)
              simp [Tryd.f20] at ih
              simp [hsl, hwd, k1, k2, k3, k4, k5, g1, h16, h16I, hnm, ih]
        · simp only [if_neg hla] at hok ⊢
          have hla' : letterB a = false := by simpa using hla
          rw [hla'] at hal
          by_cases hda : digitB a = true
          · rw [hda] at hnu
            simp only [if_pos hda] at hok ⊢
            have hnr := rnumber_run s (by omega) j hjl
            have hnl := numF_len (s := a :: r)
            have hnle := numF_le (a :: r)
            rw [ht] at hnr
            generalize (headN (a :: r)).2 + (((a :: r).drop (headN (a :: r)).2).takeWhile (fun c => decide (valB c < (headN (a :: r)).1))).length = m at *
            generalize numF (a :: r) = F at *
            obtain ⟨m', x, e⟩ := F
            simp only at hnr hnl hnle hok ⊢
            by_cases he : e = 0
            · subst he
              have hm := hnl rfl
              subst hm
              simp only [if_true] at hok
              obtain ⟨hm1, hm2⟩ := hok trivial
              simp only [List.length_cons] at hm2
              have hsl := hsl m'
              have k1 : (j : Int) ≤ (j : Int) + m' := by omega
              have k2 : (j : Int) + m' ≤ s.length := by omega
              have k3 : ((j : Int) + m').toNat = j + m' := by omega
              have k4 : j + m' ≤ s.length := by omega
              obtain ⟨nm, hnm⟩ : ∃ nm, (a :: r).take m' = nm := ⟨_, rfl⟩
              rw [hnm] at hsl
              have ih := fun v4 v5 v55 c5 c55 => rlex_loop s hs f (j + m') (out ++ [⟨3, nm, x, l, c⟩]) v4 v5 v55 c5 c55 (by omega) (by omega) (by simp; omega)
              simp [Tryd.f20] at ih
              simp at hnr
              simp [Tryd.f20, drwK_end, hg, hpl, hlt, hne1, hneI, hst, hal, hnu, hnr, hsl, k1, k2, k3, k4, g1, hnm, ih]
            · have heI : ¬ (e : Int) = 0 := by omega
              simp at hnr
              simp [Tryd.f20, drwK_end, hg, hpl, hlt, hne1, hneI, hst, hal, hnu, hnr, he, heI, here]
          · have hda' : digitB a = false := by simpa using hda
            rw [hda'] at hnu
            simp only [if_neg hda] at hok ⊢
            have hsr := rsign_run s (by omega) j hlt
            rw [ht] at hsr
            have hsle := signF_le a r
            generalize signF (a :: r) = m at *
            simp only [List.length_cons] at hsle
            have w1 : IntKind.i64.wrap ((j : Int) + m) = (j : Int) + m := wrap_id (by unfold I64; omega)
            by_cases hm0 : m = 0
            · subst hm0
              simp at w1
              simp [Tryd.f20, drwK_end, hg, hpl, hlt, hne1, hneI, hst, hal, hnu, hsr, w1, here]
            · have hmI : ¬ (j : Int) + m = j := by omega
              have hsl := hsl m
              have k1 : (j : Int) ≤ (j : Int) + m := by omega
              have k2 : (j : Int) + m ≤ s.length := by omega
              have k3 : ((j : Int) + m).toNat = j + m := by omega
              have k4 : j + m ≤ s.length := by omega
              obtain ⟨nm, hnm⟩ : ∃ nm, (a :: r).take m = nm := ⟨_, rfl⟩
              rw [hnm] at hsl
              have ih := fun v4 v5 v55 c5 c55 => rlex_loop s hs f (j + m) (out ++ [⟨4, nm, 0, l, c⟩]) v4 v5 v55 c5 c55 (by omega) (by omega) (by simp; omega)
              simp [Tryd.f20] at ih
              simp [Tryd.f20, drwK_end, hg, hpl, hlt, hne1, hneI, hst, hal, hnu, hsr, w1, hmI, hm0, hsl, k1, k2, k3, k4, g1, hnm, ih]
end Go.Am
end
section
namespace Go.Am
open Go Go.Proofs
variable [Inhabited Mx2]
set_option maxRecDepth 20000
set_option maxHeartbeats 2000000 in
theorem tp_loop (s : Tx) (hs : s.length ≤ 1500) (L : List Sgn) (hL : L.length ≤ 100000) (A : Cont) (K : Kt) (R : Ans)
    (hR : ∀ l c : Int, K (.exit 0) ⟨145, gl0, [(0, true, .d (.str s)), (3, true, .d (.list (L.map sgnD))), (5, true, .ptr 350 1 0), (6, true, .d (.int .i64 l)), (7, true, .d (.int .i64 c)), (8, true, .d (.int .i64 L.length)), (9, true, .d (.int .i64 ((s.length : Int) + 1))), (56, true, .d (.bool false))], [⟨350, 1, A⟩]⟩ = R) :
    ∀ (d i k : Nat) (r : List Sgn), i + d = s.length → L.drop k = r → k + r.length = L.length → Laid s i r →
    denK ctx 7 (.loop (Code.at (codeOf Tryd.f7) [1, 1, 1, 1, 1, 1, 0, 1, 0, 0])) ⟨145, gl0, [(0, true, .d (.str s)), (3, true, .d (.list (L.map sgnD))), (5, true, .ptr 350 1 0), (6, true, .d (.int .i64 (plOf (s.take i)).1)), (7, true, .d (.int .i64 (plOf (s.take i)).2)), (8, true, .d (.int .i64 k)), (9, true, .d (.int .i64 i))], [⟨350, 1, A⟩]⟩ K = R := by
  intro d
  induction d with
  | zero =>
    intro i k r hi hr hk hl
    have hi : i = s.length := by omega
    subst hi
    cases r with
    | nil => cases hl
    | cons t r =>
      have hkl : k < L.length := by simp at hk; omega
      have hkI : (k : Int) < L.length := by omega
      have ht : L[k] = t := by
        have := congrArg (·[0]?) hr
        simp at this
        simpa [hkl] using this
      have hst := hl.step (Nat.le_refl _)
      have hb := plOf_take (s := s) (i := s.length)
      rcases hst with ⟨_, h, _⟩ | ⟨⟨h1, h2⟩, h3, h4, h5⟩
      · omega
      · rcases h5 with ⟨h, _⟩ | ⟨_, rfl⟩
        · omega
        · have hkl2 : k + 1 = L.length := by simpa using hk
          have htx : t.text = [] := by
            have : t.text.length = 0 := by omega
            exact List.length_eq_zero_iff.1 this
          generalize plOf (s.take s.length) = p at *
          obtain ⟨l, c⟩ := p
          simp only at h1 h2 hb
          have w1 : IntKind.i64.wrap ((k : Int) + 1) = (L.length : Int) := by rw [wrap_id (by unfold I64; omega)]; omega
          have w2 : IntKind.i64.wrap (c + 1) = c + 1 := wrap_id (by unfold I64; omega)
          have w3 : IntKind.i64.wrap ((s.length : Int) + 1) = (s.length : Int) + 1 := wrap_id (by unfold I64; omega)
          have w0 : IntKind.i64.wrap 0 = 0 := wrap_id (by unfold I64; omega)
          have w4 : IntKind.i64.wrap (s.length : Int) = (s.length : Int) := wrap_id (by unfold I64; omega)
          rw [denK_loop]
          simp [Tryd.f7]
          simp [hkl, hkI, ht, h1, h2, htx, w0, w1, w2, w3, w4, drwK_end]
          have hnn : ¬ ((s.length : Int) + 1 ≤ s.length) := by omega
          rw [denK_loop]
          simp [hnn, hR]
  | succ d ih =>
    intro i k r hi hr hk hl
    have hlt : i < s.length := by omega
    cases r with
    | nil => cases hl
    | cons t r =>
      have hkl : k < L.length := by simp at hk; omega
      have hkI : (k : Int) < L.length := by omega
      have hiI : (i : Int) ≤ s.length := by omega
      have hiN : i ≤ s.length := by omega
      have hiI2 : (i : Int) < s.length := by omega
      have ht : L[k] = t := by
        have := congrArg (·[0]?) hr
        simp at this
        simpa [hkl] using this
      have hr2 : L.drop (k + 1) = r := by rw [← List.tail_drop, hr]; rfl
      have hst := hl.step (by omega)
      have hb := plOf_take (s := s) (i := i)
      have hsu := plOf_succ hlt
      have hs10 := strAt_eq hlt
      have h10 := u8_eq s[i] 10 (by omega)
      simp at h10
      have hn0 : ¬ ((i : Int) < 0) := by omega
      have hn1 : (0 : Int) ≤ i := by omega
      have ih1 := fun r' hr' hk' hl' => ih (i + 1) k r' (by omega) hr' hk' hl'
      have ih2 := fun r' hr' hk' hl' => ih (i + 1) (k + 1) r' (by omega) hr' hk' hl'
      generalize hp : plOf (s.take i) = p at *
      generalize hq : plOf (s.take (i + 1)) = q at *
      obtain ⟨l, c⟩ := p
      simp only at hb
      have w1 : IntKind.i64.wrap ((k : Int) + 1) = (k : Int) + 1 := wrap_id (by unfold I64; omega)
      have w2 : IntKind.i64.wrap (c + 1) = c + 1 := wrap_id (by unfold I64; omega)
      have w3 : IntKind.i64.wrap ((i : Int) + 1) = (i : Int) + 1 := wrap_id (by unfold I64; omega)
      have w4 : IntKind.i64.wrap (l + 1) = l + 1 := wrap_id (by unfold I64; omega)
      unfold plStep at hsu
      rcases hst with ⟨h1, _, h2⟩ | ⟨⟨h1, h2⟩, h3, h4, h5⟩
      · have ih := ih1 (t :: r) hr hk h2
        simp only at h1
        by_cases hc : s[i] = 10
        · rw [if_pos hc] at hsu
          cases hsu
          simp [Tryd.f7] at ih
          by_cases hl1 : t.line = l
          · have hc1 : ¬ t.col = c := fun h => h1 ⟨hl1, h⟩
            rw [denK_loop]
            simp [Tryd.f7]
            simp [hiI, hiN, hiI2, hlt, hkl, hkI, ht, hl1, hc1, hs10, hc, w2, w3, w4, ih]
          · rw [denK_loop]
            simp [Tryd.f7]
            simp [hiI, hiN, hiI2, hlt, hkl, hkI, ht, hl1, hs10, hc, w2, w3, w4, ih]
        · rw [if_neg hc] at hsu
          cases hsu
          simp [Tryd.f7] at ih
          by_cases hl1 : t.line = l
          · have hc1 : ¬ t.col = c := fun h => h1 ⟨hl1, h⟩
            rw [denK_loop]
            simp [Tryd.f7]
            simp [hiI, hiN, hiI2, hlt, hkl, hkI, ht, hl1, hc1, hs10, hc, h10, w2, w3, w4, ih]
          · rw [denK_loop]
            simp [Tryd.f7]
            simp [hiI, hiN, hiI2, hlt, hkl, hkI, ht, hl1, hs10, hc, h10, w2, w3, w4, ih]
      · rcases h5 with ⟨_, h5⟩ | ⟨h5, _⟩
        rotate_left
        · omega
        have ih := ih2 r hr2 (by simp at hk; omega) h5
        simp only at h1 h2
        obtain ⟨m, hm⟩ : ∃ m, m = t.text.length := ⟨_, rfl⟩
        rw [← hm] at h3 h4
        have w5 : IntKind.i64.wrap ((s.length : Int) - i) = (s.length : Int) - i := wrap_id (by unfold I64; omega)
        have w6 : IntKind.i64.wrap ((i : Int) + m) = (i : Int) + m := wrap_id (by unfold I64; omega)
        have hml : ¬ ((s.length : Int) - i < m) := by omega
        have a1 : (i : Int) ≤ (i : Int) + m := by omega
        have a2 : (i : Int) + m ≤ s.length := by omega
        have a3 : ((i : Int) + m).toNat = i + m := by omega
        have a4 : i + m ≤ s.length := by omega
        have h4 : (s.take (i + m)).drop i = t.text := by rw [← h4, List.drop_take]; congr 1; omega
        by_cases hc : s[i] = 10
        · rw [if_pos hc] at hsu
          cases hsu
          simp [Tryd.f7] at ih
          rw [denK_loop]
          simp [Tryd.f7]
          simp [hiI, hiN, hiI2, hlt, hkl, hkI, ht, h1, h2, ← hm, w5, w6, hml, a1, a2, a3, a4, h4, hs10, hc, w1, w2, w3, w4, ih, drwK_end]
        · rw [if_neg hc] at hsu
          cases hsu
          simp [Tryd.f7] at ih
          rw [denK_loop]
          simp [Tryd.f7]
          simp [hiI, hiN, hiI2, hlt, hkl, hkI, ht, h1, h2, ← hm, w5, w6, hml, a1, a2, a3, a4, h4, hs10, hc, h10, w1, w2, w3, w4, ih, drwK_end]
end Go.Am
end
section
namespace Go.Am
open Go Go.Proofs
variable [Inhabited Mx2]
set_option maxRecDepth 20000
theorem awake17_run : callT ctx 18 [] [] = some (.ret (.d (.bool true)), []) := callT_of 300 (by kernel_rfl)
end Go.Am
end
section
namespace Go.Am
open Go Go.Proofs
variable [Inhabited Mx2]
set_option maxRecDepth 20000
theorem Laid.len {s : Tx} {i : Nat} {r : List Sgn} (h : Laid s i r) : r.length ≤ s.length - i + 1 := by
  induction h with
  | fin i h => simp
  | sign i j m k n r h1 h2 h3 h ih => simp; omega
theorem Laid.last {s : Tx} {i : Nat} {r : List Sgn} (h : Laid s i r) : ∃ r0, r = r0 ++ [here (plOf (s.take s.length))] := by
  induction h with
  | fin i h => exact ⟨[], rfl⟩
  | sign i j m k n r h1 h2 h3 h ih => obtain ⟨r0, e⟩ := ih; exact ⟨_ :: r0, by rw [e]; rfl⟩
/-- A text of which no more than 1500 bytes are looked at. -/
theorem cut_facts (t : Tx) : ∃ n : Nat, (if (1500 : Int) < t.length then (1500 : Int) else t.length) = (n : Int) ∧ n ≤ t.length ∧ (n : Int) ≤ t.length ∧ (t.take n).length ≤ 1500 := by
  by_cases h : 1500 < t.length
  · exact ⟨1500, by rw [if_pos (by omega)]; rfl, by omega, by omega, by simp; omega⟩
  · exact ⟨t.length, by rw [if_neg (by omega)], by omega, by omega, by simp; omega⟩
theorem tokPlaces_run (t : Tx) : callT ctx 7 [.d (.str t)] [] = some (.ret (.d (.bool true)), []) := by
  obtain ⟨n, hn1, hn2, hn3, hsl⟩ := cut_facts t
  obtain ⟨s, hs⟩ : ∃ s, t.take n = s := ⟨_, rfl⟩
  rw [hs] at hsl
  have hlx := lex_run s
  have haw := awake17_run
  rw [run7 (by simp)]
  by_cases he : (lexP s).2.1 = 0
  · obtain ⟨hl, hz⟩ := lexP_laid he
    have hlen := hl.len
    obtain ⟨r0, hr0⟩ := hl.last
    rw [he, hz] at hlx
    have htp := fun A K R hR => tp_loop s hsl (lexP s).1 (by omega) A K R hR s.length 0 0 (lexP s).1 (by omega) rfl (by simp) hl
    generalize (lexP s).1 = L at *
    have hp0 : plOf [] = (1, 1) := rfl
    have hLl : L.length = r0.length + 1 := by rw [hr0]; simp
    have w1 : IntKind.i64.wrap ((L.length : Int) - 1) = (r0.length : Int) := by rw [wrap_id (by unfold I64; omega)]; omega
    have hlast : L[r0.length]? = some (here (plOf (s.take s.length))) := by rw [hr0]; simp
    have hrl : r0.length < L.length := by omega
    have hrlI : (r0.length : Int) < L.length := by omega
    have hget : L[r0.length] = here (plOf (s.take s.length)) := by
      rw [List.getElem?_eq_getElem hrl] at hlast; exact Option.some.inj hlast
    simp [Tryd.f7, hp0] at htp hlx
    simp [Tryd.f7, drwK_end, haw, hn1, hn2, hn3, hs, hlx]
    refine htp _ _ _ (fun l c => ?_)
    simp [w1, hrl, hrlI, hget, here]
  · have hle : ¬ 16384 < s.length := by omega
    have her : (lexP s).1 = [] ∧ ∃ j, (lexP s).2.2 = here (plOf (s.take j)) := by
      unfold lexP at he ⊢
      rw [if_neg hle] at he ⊢
      exact lexF_err s _ 0 [] (by omega) (by omega) he
    obtain ⟨h1, j, h2⟩ := her
    have hb := plOf_take (s := s) (i := j)
    rw [h1, h2] at hlx
    generalize plOf (s.take j) = p at *
    obtain ⟨l, c⟩ := p
    generalize (lexP s).2.1 = e at *
    have heI : ¬ ((e : Int) = 0) := by omega
    simp only at hb
    simp [here] at hlx
    simp [Tryd.f7, drwK_end, haw, hn1, hn2, hn3, hs, hlx, heI, he]
    omega
end Go.Am
end
section
namespace Go.Am
open Go Go.Proofs
variable [Inhabited Mx2]
set_option maxRecDepth 20000
theorem rlex_run (s : Tx) : callT ctx 20 [.d (.str s)] [] = some (.ret (.tup [.d (.list ((lexP s).1.map sgnD)), .d (.int .i64 (lexP s).2.1), .d (sgnD (lexP s).2.2)]), []) := by
  rw [run20 (by simp)]
  unfold lexP
  by_cases h : 16384 < s.length
  · have hI : (16384 : Int) < s.length := by omega
    simp [Tryd.f20, drwK_end, h, hI]
  · have hI : ¬ ((16384 : Int) < s.length) := by omega
    have hl := fun v4 v5 v55 c5 c55 => rlex_loop s (by omega) (s.length + 1) 0 [] v4 v5 v55 c5 c55 (by omega) (by omega) (by simp)
    rw [if_neg h]
    generalize lexF s (s.length + 1) 0 [] = L at *
    simp [Tryd.f20] at hl
    simp [Tryd.f20, drwK_end, h, hI]
    rw [hl]
theorem sameL_refl (pl : Bool) : ∀ l : List Sgn, sameL pl l l = true
  | [] => rfl
  | a :: r => by simp [sameL, sameB, sameL_refl pl r]
theorem lexF_len (s : Tx) : ∀ (f i : Nat) (out : List Sgn), (lexF s f i out).1.length ≤ out.length + f
  | 0, i, out => by simp [lexF]
  | f + 1, i, out => by
    unfold lexF
    split
    · simp
    · split
      · simp
      · split
        · simp
        · have := lexF_len s f (i + (gapC (s.length + 1) (s.drop i)).1 + (nextF (s.drop (i + (gapC (s.length + 1) (s.drop i)).1))).2.2.1)
            (out ++ [⟨(nextF (s.drop (i + (gapC (s.length + 1) (s.drop i)).1))).2.1, (s.drop (i + (gapC (s.length + 1) (s.drop i)).1)).take (nextF (s.drop (i + (gapC (s.length + 1) (s.drop i)).1))).2.2.1, (nextF (s.drop (i + (gapC (s.length + 1) (s.drop i)).1))).2.2.2,
              (plOf (s.take (i + (gapC (s.length + 1) (s.drop i)).1))).1, (plOf (s.take (i + (gapC (s.length + 1) (s.drop i)).1))).2⟩])
          simp only [List.length_append, List.length_singleton] at this
          omega
theorem lexP_len (s : Tx) : (lexP s).1.length ≤ s.length + 1 := by
  unfold lexP
  split
  · simp
  · have := lexF_len s (s.length + 1) 0 []
    simpa using this
theorem tokRight_run (t : Tx) : callT ctx 5 [.d (.str t)] [] = some (.ret (.d (.bool true)), []) := by
  obtain ⟨n, hn1, hn2, hn3, hsl⟩ := cut_facts t
  obtain ⟨s, hs⟩ : ∃ s, t.take n = s := ⟨_, rfl⟩
  rw [hs] at hsl
  have hlx := lex_run s
  have hrx := rlex_run s
  have hll := lexP_len s
  have hsm := same_run (lexP s).1 (lexP s).1 (by omega) true
  rw [sameL_refl] at hsm
  have haw := awake17_run
  have hw1 := word_run s
  have hw2 := rword_run s
  generalize wordB s = B at *
  generalize lexP s = L at *
  obtain ⟨l, e, z⟩ := L
  simp at hlx hrx hsm
  rw [run5 (by simp)]
  simp [Tryd.f5, drwK_end, haw, hn1, hn2, hn3, hs, hlx, hrx, hsm, hw1, hw2]
end Go.Am
end
section
namespace Go.Am
open Go Go.ChangeShapes Go.WideShapes Go.RowKit

def tiles (P : Program) (ok : TypeId → Bool) : List Field → Nat → Nat → Bool
  | [], o, tot => o == tot
  | f :: r, o, tot => f.offset == o && ok f.type && tiles P ok r (o + P.cellsOf f.type) tot
/-- Types whose readings are data: no pointer in them. -/
def plainT (P : Program) : Nat → TypeId → Bool
  | 0, _ => false
  | n + 1, t => match P.underlying t with
    | some .bool | some (.int _) | some .string => P.cellsOf t == 1
    | some (.slice e) => P.cellsOf t == 1 && plainT P n e && decide (1 ≤ P.cellsOf e)
    | some (.struct fs) => tiles P (plainT P n) fs.toList 0 (P.cellsOf t)
    | _ => false
def typed (P : Program) : Nat → TypeId → D → Prop
  | 0, _, _ => False
  | n + 1, t, d => match P.underlying t with
    | some .bool => ∃ b, d = .bool b
    | some (.int k) => ∃ z, d = .int k z ∧ (Lit.int k z).wf = true
    | some .string => ∃ s, d = .str s ∧ s.length ≤ maxLen
    | some (.slice e) => ∃ xs, d = .list xs ∧ xs.length ≤ maxLen ∧ ∀ x ∈ xs, typed P n e x
    | some (.struct fs) => ∃ ys : List D, d = .agg (ys.flatMap D.cells) ∧ ys.length = fs.size ∧ ∀ (i : Nat) (f : Field) (y : D), fs[i]? = some f → ys[i]? = some y → typed P n f.type y
    | _ => False

def Reads (w : World) (F : Nat → Prop) (d : D) (cs : List Value) : Prop :=
  d.cells.length = cs.length ∧ (∀ u ∈ cs, cell1 u = true) ∧ ∀ (i : Nat) c u, d.cells[i]? = some c → cs[i]? = some u → DRel w F c u ∧ c.flat = true

theorem Reads.one {w F d v} (h : DRel w F d v) (hf : d.flat = true) (hc : d.cells = [d]) : Reads w F d [v] := by
  refine ⟨by rw [hc]; rfl, fun u hu => ?_, fun i c u h1 h2 => ?_⟩
  · simp at hu; subst hu; exact h.one hf
  · rw [hc] at h1
    cases i with
    | zero => simp at h1 h2; subst h1; subst h2; exact ⟨h, hf⟩
    | succ i => simp at h1
/-- A value with these cells, and what it is. -/
def shaped (d : D) (cs : List Value) : Value :=
  match d with
  | .agg _ => .agg cs.toArray
  | _ => cs.headD undef
theorem Reads.rel {w F d cs} (h : Reads w F d cs) : DRel w F d (shaped d cs) := by
  obtain ⟨h1, h2, h3⟩ := h
  have key : d.flat = true → d.cells = [d] → DRel w F d (cs.headD undef) := by
    intro hf hc
    rw [hc] at h1 h3
    match cs, h1 with
    | [u], _ => exact (h3 0 d u rfl rfl).1
  cases d with
  | agg ds => exact DRel.ofCells h1 h2 (fun i c v hc hv => (h3 i c v hc hv).1)
  | _ => exact key rfl rfl
theorem Reads.shaped_cells {w F d cs} (h : Reads w F d cs) : (shaped d cs).cells.toList = cs := by
  obtain ⟨h1, h2, h3⟩ := h
  have key : d.cells = [d] → (cs.headD undef).cells.toList = cs := by
    intro hc
    rw [hc] at h1
    match cs, h1, h2 with
    | [u], _, h2 => simp only [List.headD]; rw [cells_of_cell1 (h2 u (by simp))]
  cases d with
  | agg ds => simp [shaped, Value.cells]
  | _ => exact key rfl

theorem cells?_get {w : World} {base : Nat} {a : Addr} {n : Nat} {cs : List Value} (h : w.cells? base a n = some cs) : cs.length = n ∧ ∀ j, j < n → w.cell? (a.add j) = cs[j]? := by
  unfold World.cells? at h
  split at h
  · exact ⟨by simpa using mapM_some_length h, fun j hj => mapM_some_get h j j (by simp [hj])⟩
  · cases h
theorem add_add {b off n j : Nat} : (Addr.add (Addr.add ⟨b, off, none⟩ n) j) = ⟨b, off + n + j, none⟩ := by
  unfold Addr.add
  split <;> split <;> simp_all
theorem cell?_lt {w : World} {a : Addr} {c : Value} (h : w.cell? a = some c) : a.block < w.heap.size ∧ a.spot = none := by
  unfold World.cell? at h
  split at h
  · rename_i hh
    refine ⟨(Array.getElem?_eq_some_iff.1 hh).1, ?_⟩
    split at h
    · cases h
    · rename_i hs; simpa using hs
  · cases h

/-- The fields of a struct, laid end to end. -/
theorem reads_fields {P : Program} {w : World} {F : Nat → Prop} {n : Nat} {cs : List Value} {ok : TypeId → Bool} : ∀ (fs : List Field) (o : Nat), tiles P ok fs o cs.length = true →
    (∀ f ∈ fs, ok f.type = true → ∃ d, typed P n f.type d ∧ Reads w F d ((cs.drop f.offset).take (P.cellsOf f.type)) ∧ d.cells.length = P.cellsOf f.type) →
    ∃ ys : List D, ys.length = fs.length ∧ (∀ (i : Nat) (f : Field) (y : D), fs[i]? = some f → ys[i]? = some y → typed P n f.type y) ∧ o ≤ cs.length ∧ Reads w F (.agg (ys.flatMap D.cells)) (cs.drop o)
  | [], o, ht, _ => by
    simp only [tiles, beq_iff_eq] at ht
    subst ht
    exact ⟨[], rfl, fun i f y hf => by simp at hf, Nat.le_refl _, by simp [D.cells], by simp, fun i c u h1 => by simp [D.cells] at h1⟩
  | f :: r, o, ht, hf => by
    simp only [tiles, Bool.and_eq_true, beq_iff_eq] at ht
    obtain ⟨⟨rfl, hok⟩, hr⟩ := ht
    obtain ⟨ys, h1, h2, h3, h4⟩ := reads_fields r _ hr (fun f' h' => hf f' (by simp [h']))
    obtain ⟨d, hd, hR, hl⟩ := hf f (by simp) hok
    refine ⟨d :: ys, by simp [h1], fun i f' y hi hy => ?_, by omega, ?_⟩
    · cases i with
      | zero => simp at hi hy; subst hi; subst hy; exact hd
      | succ i => simp at hi hy; exact h2 i f' y hi hy
    · have hsplit : cs.drop f.offset = (cs.drop f.offset).take (P.cellsOf f.type) ++ cs.drop (f.offset + P.cellsOf f.type) := by
        rw [← List.drop_drop, List.take_append_drop]
      obtain ⟨a1, a2, a3⟩ := hR
      obtain ⟨b1, b2, b3⟩ := h4
      have hcells : (D.agg ((d :: ys).flatMap D.cells)).cells = d.cells ++ (D.agg (ys.flatMap D.cells)).cells := by simp [D.cells]
      rw [hsplit]
      unfold Reads
      rw [hcells]
      refine ⟨by simp only [List.length_append, a1, b1], fun u hu => ?_, fun i c u hc hu => ?_⟩
      · rcases List.mem_append.1 hu with hu | hu
        · exact a2 u hu
        · exact b2 u hu
      · by_cases hi : i < d.cells.length
        · rw [List.getElem?_append_left hi] at hc
          rw [List.getElem?_append_left (by omega)] at hu
          exact a3 i c u hc hu
        · rw [List.getElem?_append_right (by omega)] at hc
          rw [List.getElem?_append_right (by omega)] at hu
          rw [← a1] at hu
          exact b3 _ c u hc hu

section
variable {H : Type} {enc : TypeId × Value → H} {P : Program} {w : World} {base : Nat} {sp : Nat → Bool} {held : Bool}

theorem read_data : ∀ (n : Nat) (m : Nat) (t : TypeId) (cs : List Value) (x : DataW H × List MemPlace), plainT P n t = true → DataW.trod enc P w base sp held m t cs = some x →
    ∃ d, typed P n t d ∧ Reads w (fun _ => False) d cs ∧ d.cells.length = P.cellsOf t
  | 0, _, _, _, _, hp, _ => by cases hp
  | n + 1, m, t, cs, x, hp, hx => by
    simp only [plainT] at hp
    simp only [typed]
    cases ht : P.underlying t with
    | none => rw [ht] at hp; cases hp
    | some u =>
      rw [ht] at hp
      cases u with
      | bool =>
        obtain ⟨b, rfl, _⟩ := DataW.trod_bool ht hx
        exact ⟨.bool b, ⟨b, rfl⟩, Reads.one (.bool b) rfl rfl, by simp at hp; simp [D.cells, hp]⟩
      | int k =>
        obtain ⟨z, rfl, _, hw⟩ := DataW.trod_int ht hx
        exact ⟨.int k z, ⟨z, rfl, hw⟩, Reads.one (.int k z) rfl rfl, by simp at hp; simp [D.cells, hp]⟩
      | string =>
        obtain ⟨s, rfl, _, hw⟩ := DataW.trod_string ht hx
        exact ⟨.str s.data.toList, ⟨_, rfl, by simpa using hw⟩, Reads.one (.str s _ rfl) rfl rfl, by simp at hp; simp [D.cells, hp]⟩
      | slice e =>
        simp only [Bool.and_eq_true, beq_iff_eq, decide_eq_true_eq] at hp
        obtain ⟨⟨h1, h2⟩, h3⟩ := hp
        rcases DataW.trod_slice ht hx with ⟨rfl, _⟩ | ⟨a, len, cap, elems, rest, m', rfl, rfl, _, hb, hlc, hcm, hel, hget, _⟩
        · exact ⟨.list [], ⟨[], rfl, by simp, by simp⟩, Reads.one (.nil none 0 (fun _ => rfl)) rfl rfl, by simp [D.cells, h1]⟩
        · have hq : ∀ i, ∃ p : D × Value, i < len → typed P n e p.1 ∧ DRel w (fun _ => False) p.1 p.2 ∧ p.1.size = P.cellsOf e ∧ a.block < w.heap.size ∧ a.spot = none ∧
              ∀ j c, p.2.cells[j]? = some c → w.cell? ⟨a.block, a.off + i * P.cellsOf e + j, none⟩ = some c := by
            intro i
            by_cases hi : i < len
            · have h4 := hget i hi
              have h5 : ∃ y, elems[i]? = some y := ⟨elems[i]'(by omega), by simp [show i < elems.length by omega]⟩
              obtain ⟨y, hy⟩ := h5
              rw [hy] at h4
              simp only [Option.bind_eq_some_iff] at h4
              obtain ⟨cs', hcs, hy'⟩ := h4
              obtain ⟨d, hd, hR, hl⟩ := read_data n m' e cs' y h2 hy'
              obtain ⟨g1, g2⟩ := cells?_get hcs
              have g3 : a.block < w.heap.size ∧ a.spot = none := by
                have h0 : ∃ i0, i0 < len ∧ i0 = 0 := ⟨0, by omega, rfl⟩
                have h40 := hget 0 (by omega)
                have h50 : ∃ y, elems[0]? = some y := ⟨elems[0]'(by omega), by simp [show 0 < elems.length by omega]⟩
                obtain ⟨y0, hy0⟩ := h50
                rw [hy0] at h40
                simp only [Option.bind_eq_some_iff] at h40
                obtain ⟨cs0, hcs0, _⟩ := h40
                obtain ⟨g01, g02⟩ := cells?_get hcs0
                have h6 := g02 0 (by omega)
                have h7 : ∃ c, cs0[0]? = some c := ⟨cs0[0]'(by omega), by simp [show 0 < cs0.length by omega]⟩
                obtain ⟨c, hc⟩ := h7
                rw [hc] at h6
                have h8 := cell?_lt h6
                simpa [Addr.add] using h8
              refine ⟨⟨d, shaped d cs'⟩, fun _ => ⟨hd, hR.rel, by rw [← D.cells_length]; exact hl, g3.1, g3.2, fun j c hj => ?_⟩⟩
              have h6 := hR.shaped_cells
              have h7 : cs'[j]? = some c := by rw [← h6]; simpa using hj
              have hjl : j < P.cellsOf e := by
                have := (List.getElem?_eq_some_iff.1 h7).1
                omega
              have h8 := g2 j hjl
              obtain ⟨ab, ao, ae⟩ := a
              obtain rfl : ae = none := g3.2
              rw [add_add] at h8
              rw [h8]; exact h7
            · exact ⟨⟨.bool false, undef⟩, fun h => absurd h hi⟩
          obtain ⟨f, hf⟩ := Classical.axiomOfChoice hq
          refine ⟨.list ((List.range len).map fun i => (f i).1), ⟨_, rfl, by simp; omega, fun x hx => ?_⟩, Reads.one ?_ rfl rfl, by simp [D.cells, h1]⟩
          · simp only [List.mem_map, List.mem_range] at hx
            obtain ⟨i, hi, rfl⟩ := hx
            exact (hf i hi).1
          · by_cases hl : len = 0
            · subst hl
              exact .nil (some a) cap (fun h => by cases h)
            · have h0 := hf 0 (by omega)
              obtain ⟨ab, ao, ae⟩ := a
              obtain rfl : ae = none := h0.2.2.2.2.1
              have hlen : ((List.range len).map fun i => (f i).1).length = len := by simp
              have := DRel.list (w := w) (F := fun _ => False) ((List.range len).map fun i => (f i).1) ab ao cap (P.cellsOf e) (fun i => (f i).2) (by rw [hlen]; exact hlc) h0.2.2.2.1 (fun h => h)
                (fun d hd => by
                  simp only [List.mem_map, List.mem_range] at hd
                  obtain ⟨i, hi, rfl⟩ := hd
                  exact (hf i hi).2.2.1)
                (fun i d hd => by
                  simp only [List.getElem?_map, Option.map_eq_some_iff] at hd
                  obtain ⟨i', hi', rfl⟩ := hd
                  have := List.getElem?_eq_some_iff.1 hi'
                  obtain ⟨hi2, hi3⟩ := this
                  simp at hi2 hi3
                  subst hi3
                  exact (hf _ hi2).2.1)
                (fun i j c hi hj => by
                  rw [hlen] at hi
                  exact (hf i hi).2.2.2.2.2 j c hj)
              rw [hlen] at this
              exact this
      | struct fs =>
        obtain ⟨xs, m', rfl, _, hl, hxs, hget⟩ := DataW.trod_struct ht hx
        simp only at hp
        rw [← hl] at hp
        obtain ⟨ys, h1, h2, _, h4⟩ := reads_fields (n := n) (w := w) (F := fun _ => False) fs.toList 0 hp (fun f hf hok => by
          obtain ⟨i, hi, he⟩ := List.mem_iff_getElem.1 hf
          have h5 := hget i f (by simp at hi he; simp [hi, he])
          have h6 : ∃ y, xs[i]? = some y := ⟨xs[i]'(by simp at hi; omega), by simp [show i < xs.length by simp at hi; omega]⟩
          obtain ⟨y, hy⟩ := h6
          rw [hy] at h5
          exact read_data n m' f.type _ y hok h5)
        refine ⟨.agg (ys.flatMap D.cells), ⟨ys, rfl, by simpa using h1, fun i f y hi hy => h2 i f y (by simpa using hi) hy⟩, by simpa using h4, ?_⟩
        have := h4.1
        rw [this]; simpa using hl
      | _ => cases hp
end
end Go.Am
end
section
namespace Go.Am
open Go Go.ChangeShapes Go.WideShapes Go.RowKit

section
variable {H : Type} {enc : TypeId × Value → H} {P : Program} {w : World} {base : Nat} {sp : Nat → Bool} {held : Bool}

theorem arg_rel {n : Nat} {t : TypeId} {v : Value} {d : DataW H} {ps : List MemPlace} {b0 : Nat} (hp : plainT P n t = true) (hv : Value.okWide P w .any b0 t v) (h : DataW.Trod enc P w base sp held t v d ps) :
    ∃ x, typed P n t x ∧ DRel w (fun _ => False) x v := by
  obtain ⟨m, hm⟩ := h
  obtain ⟨x, hx, hR, _⟩ := read_data n m t _ _ hp hm
  refine ⟨x, hx, ?_⟩
  have h1 := hR.rel
  cases n with
  | zero => cases hp
  | succ n =>
    simp only [plainT] at hp
    simp only [typed] at hx
    cases ht : P.underlying t with
    | none => rw [ht] at hp; cases hp
    | some u =>
      rw [ht] at hp hx
      cases u with
      | bool => obtain ⟨b, rfl⟩ := okWide_bool ht hv; obtain ⟨y, rfl⟩ := hx; exact h1
      | int k => obtain ⟨b, rfl⟩ := okWide_int ht hv; obtain ⟨y, rfl, _⟩ := hx; exact h1
      | string => obtain ⟨b, rfl⟩ := okWide_string ht hv; obtain ⟨y, rfl, _⟩ := hx; exact h1
      | slice e => obtain ⟨a, len, cap, rfl⟩ := okWide_slice ht hv; obtain ⟨y, rfl, _⟩ := hx; exact h1
      | struct fs =>
        simp only [Value.okWide, ht] at hv
        obtain ⟨cs, rfl, _⟩ := hv
        obtain ⟨ys, rfl, _⟩ := hx
        simpa [shaped, Value.cells] using h1
      | _ => cases hp

theorem args_rel {n b0 : Nat} : ∀ {ts : List TypeId} {vs : List Value} {ds : List (DataW H)} {ps : List MemPlace}, DataW.TrodAll enc P w base sp held ts vs ds ps → (∀ t ∈ ts, plainT P n t = true) →
    (∀ (j : Nat) t v, ts[j]? = some t → vs[j]? = some v → Value.okWide P w .any b0 t v) →
    ∃ xs : List D, xs.length = vs.length ∧ xs.length = ts.length ∧ (∀ (i : Nat) t x, ts[i]? = some t → xs[i]? = some x → typed P n t x) ∧ ∀ (i : Nat) x v, xs[i]? = some x → vs[i]? = some v → DRel w (fun _ => False) x v
  | [], [], [], _, _, _, _ => ⟨[], rfl, rfl, fun i t x h => by simp at h, fun i x v h => by simp at h⟩
  | t :: ts, v :: vs, d :: ds, ps, h, hp, hv => by
    obtain ⟨p, q, h1, h2, _⟩ := h
    obtain ⟨x, hx, hr⟩ := arg_rel (hp t (by simp)) (hv 0 t v rfl rfl) h1
    obtain ⟨xs, g1, g2, g3, g4⟩ := args_rel h2 (fun t ht => hp t (by simp [ht])) (fun j t v h3 h4 => hv (j + 1) t v (by simpa using h3) (by simpa using h4))
    refine ⟨x :: xs, by simp [g1], by simp [g2], fun i t' x' h3 h4 => ?_, fun i x' v' h3 h4 => ?_⟩
    · cases i with
      | zero => simp at h3 h4; subst h3; subst h4; exact hx
      | succ i => simp at h3 h4; exact g3 i t' x' h3 h4
    · cases i with
      | zero => simp at h3 h4; subst h3; subst h4; exact hr
      | succ i => simp at h3 h4; exact g4 i x' v' h3 h4
  | [], _ :: _, _, _, h, _, _ => by cases h
  | [], [], _ :: _, _, h, _, _ => by cases h
  | _ :: _, [], _, _, h, _, _ => by cases h
  | _ :: _, _ :: _, [], _, h, _, _ => by cases h

theorem trodAll_stays (hl : laidOutB P = true) {W W' : World} (hb : Below W.heap.size W W') : ∀ {ts : List TypeId} {vs : List Value} {ds : List (DataW H)} {ps : List MemPlace}, DataW.TrodAll enc P W 0 (fun _ => true) true ts vs ds ps →
    (∀ t ∈ ts, P.readableRec t = true ∧ t < P.types.size) → (∀ x ∈ ps, x.block < W.heap.size) → DataW.TrodAll enc P W' 0 (fun b => decide (b < W.heap.size)) true ts vs ds ps
  | [], [], [], _, h, _, _ => h
  | t :: ts, v :: vs, d :: ds, ps, h, hp, hlt => by
    obtain ⟨p, q, h1, h2, rfl⟩ := h
    exact ⟨p, q, Below.trod hl (hp t (by simp)).1 (hp t (by simp)).2 h1 hb (fun x hx => hlt x (by simp [hx])), trodAll_stays hl hb h2 (fun t ht => hp t (by simp [ht])) (fun x hx => hlt x (by simp [hx])), rfl⟩
  | [], _ :: _, _, _, h, _, _ => by cases h
  | [], [], _ :: _, _, h, _, _ => by cases h
  | _ :: _, [], _, _, h, _, _ => by cases h
  | _ :: _, _ :: _, [], _, h, _, _ => by cases h
end

section
variable {P : Program} {n : Nat} {t : TypeId} {d : D}
def fieldsT (P : Program) (n : Nat) : List Field → List D → Prop
  | [], ds => ds = []
  | f :: r, ds => ∃ y ds', typed P n f.type y ∧ fieldsT P n r ds' ∧ ds = y.cells ++ ds'
theorem fieldsT_of : ∀ {fs : List Field} {ys : List D}, ys.length = fs.length → (∀ (i : Nat) (f : Field) (y : D), fs[i]? = some f → ys[i]? = some y → typed P n f.type y) → fieldsT P n fs (ys.flatMap D.cells)
  | [], [], _, _ => rfl
  | f :: fs, y :: ys, h, hf => ⟨y, ys.flatMap D.cells, hf 0 f y rfl rfl, fieldsT_of (by simpa using h) (fun i f y h1 h2 => hf (i + 1) f y (by simpa using h1) (by simpa using h2)), by simp⟩
theorem typed_int {k : IntKind} (ht : P.underlying t = some (.int k)) (h : typed P (n + 1) t d) : ∃ z, d = .int k z ∧ (Lit.int k z).wf = true := by simpa only [typed, ht] using h
theorem typed_bool (ht : P.underlying t = some .bool) (h : typed P (n + 1) t d) : ∃ b, d = .bool b := by simpa only [typed, ht] using h
theorem typed_string (ht : P.underlying t = some .string) (h : typed P (n + 1) t d) : ∃ s, d = .str s ∧ s.length ≤ maxLen := by simpa only [typed, ht] using h
theorem typed_slice {e : TypeId} (ht : P.underlying t = some (.slice e)) (h : typed P (n + 1) t d) : ∃ xs, d = .list xs ∧ xs.length ≤ maxLen ∧ ∀ x ∈ xs, typed P n e x := by simpa only [typed, ht] using h
theorem typed_struct {fs : Array Field} (ht : P.underlying t = some (.struct fs)) (h : typed P (n + 1) t d) : ∃ ds, d = .agg ds ∧ fieldsT P n fs.toList ds := by
  simp only [typed, ht] at h
  obtain ⟨ys, rfl, h1, h2⟩ := h
  exact ⟨_, rfl, fieldsT_of (by simpa using h1) (fun i f y h3 h4 => h2 i f y (by simpa using h3) h4)⟩
end
def ctxB (X : Ctx) : Bool :=
  (List.range X.P.funcs.size).all (fun g => match X.P.funcs[g]? with | some fn => fn.name != "runtime.NumGoroutine" && (match fn.body with | some c => codeDst X g fn.ntmps c | none => true) | none => true) && X.P.follows .mixedOrders
def OrcOk (X : Ctx) (g : FuncId) (h : List D → Option D) : Prop := callable X.P g = true ∧ ∀ (ds : List D) (d : D), h ds = some d → ∀ (F : Nat → Prop) (w : World) (vs : Array Value), GlobRel w F X.gl → ds.length = vs.size →
    (∀ (i : Nat) x v, ds[i]? = some x → vs[i]? = some v → DRel w F x v) → Calls X.P g vs w fun e w' => ∃ v, e = .returned v ∧ Below w.heap.size w w' ∧ DRel w' F d v
theorem CtxOk.of {X : Ctx} (h : ctxB X = true) (ho : ∀ g h, X.orc g = some h → OrcOk X g h) : CtxOk X := by
  simp only [ctxB, Bool.and_eq_true, List.all_eq_true, List.mem_range] at h
  have key : ∀ (g : FuncId) (fn : Func), X.P.funcs[g]? = some fn → fn.name ≠ "runtime.NumGoroutine" ∧ (match fn.body with | some c => codeDst X g fn.ntmps c | none => true) = true := by
    intro g fn hg
    have h1 := h.1 g (Array.getElem?_eq_some_iff.1 hg).1
    rw [hg] at h1
    simpa using h1
  refine ⟨fun g fn hg => (key g fn hg).1, fun g fn c hg hb => ?_, h.2, ho⟩
  have := (key g fn hg).2
  rw [hb] at this
  exact this

theorem list_map_of {α : Type} {f : α → D} : ∀ {xs : List D}, (∀ x ∈ xs, ∃ r, x = f r) → ∃ rs : List α, xs = rs.map f
  | [], _ => ⟨[], rfl⟩
  | x :: xs, h => by
    obtain ⟨r, rfl⟩ := h x (by simp)
    obtain ⟨rs, rfl⟩ := list_map_of (xs := xs) (fun y hy => h y (by simp [hy]))
    exact ⟨r :: rs, rfl⟩

/-- A call at data alone: it ends as the evaluator says; nothing old has turned. -/
theorem law_calls {X : Ctx} (hX : CtxOk X) {f : FuncId} {b : Bool} {xs : List D} (hc : callT X f (xs.map .d) [] = some (.ret (.d (.bool b)), [])) {W : World} {args : Array Value} (hl : xs.length = args.size)
    (hr : ∀ (i : Nat) x v, xs[i]? = some x → args[i]? = some v → DRel W (fun _ => False) x v) (hg : GlobRel W (fun _ => False) X.gl) :
    Calls X.P f args W fun e W' => e = .returned (.bool b) ∧ Below W.heap.size W W' := by
  have h := (callT_ok hX f _ _ _ _ hc).2
  have hF : ∀ b, Fo (fun _ => False) (fun _ => none) (inM 0 []) b → False := by
    intro b hb
    rcases hb with hb | ⟨e, he, _⟩
    · exact hb
    · simp [inM] at he
  refine (h (fun _ => none) (fun _ => False) W args ⟨by simp [inM], fun k L hL => by simp at hL, fun e he => by simp [inM] at he, fun e he => by simp [inM] at he, fun b ⟨e, he, _⟩ => by simp [inM] at he, fun b hb => hb.elim⟩
    (hg.mono (fun _ _ _ => rfl) (Nat.le_refl _) (fun b _ hb => hF b hb)) (by simpa using hl) (fun i x v hx hv => ?_)).mono ?_
  · simp only [List.getElem?_map, Option.map_eq_some_iff] at hx
    obtain ⟨d, hd, rfl⟩ := hx
    exact .d d v ((hr i d v hd hv).mono (fun _ _ _ => rfl) (Nat.le_refl _) (fun b _ hb => hF b hb))
  · rintro e W' ⟨φ', m', out, ⟨rfl, rfl⟩, hm, hk, ho⟩
    refine ⟨?_, hk.os, hk.tape, hk.output, hk.size, fun k hk' => hk.old k hk' (fun ⟨e, he, _⟩ => by simp [inM] at he)⟩
    cases e with
    | returned v =>
      simp only [OutRel] at ho
      cases ho with
      | d x v h => cases h; rfl
    | _ => exact ho.elim

section
variable {H : Type} {enc : TypeId × Value → H}
/-- The contract of a law's row. -/
theorem law_contract {X : Ctx} (hX : CtxOk X) {f : FuncId} {fn : Func} {s : ChangeSpec} {apart fresh handsOn : Bool} {n : Nat} {tb : TypeId}
    (hlaid : laidOutB X.P = true) (hts : (fn.params.toList.all fun t => X.P.readableRec t && decide (t < X.P.types.size) && plainT X.P n t) = true)
    (hres : fn.resultTypes = #[tb]) (htb : X.P.underlying tb = some .bool) (hvars : s.vars = [])
    (hspec : ∀ ds : List (DataW H), ds.length = fn.params.size → s.fn H ds = { results := [.lit (.bool true)], args := ds })
    {W : World} {base : Nat} {args : Array Value} {ds gs : List (DataW H)} {before : List MemPlace}
    (hval : ∀ (j : Nat) t v, fn.params[j]? = some t → args[j]? = some v → Value.okWide X.P W .any base t v)
    (hW : DataW.Whole enc X.P fn.params.toList s.vars apart W args.toList ds gs before) (hg : GlobRel W (fun _ => False) X.gl)
    (hrun : ∀ xs : List D, xs.length = fn.params.size → (∀ (i : Nat) t x, fn.params[i]? = some t → xs[i]? = some x → typed X.P n t x) → callT X f (xs.map .d) [] = some (.ret (.d (.bool true)), [])) :
    Calls X.P f args W fun e W' => ∃ v, e = .returned v ∧ s.post enc X.P fn apart fresh handsOn false W args v W' := by
  have hW' := hW
  obtain ⟨p, q, hA, hV, rfl, hfz, hnd⟩ := hW
  rw [hvars] at hV
  obtain ⟨rfl, rfl⟩ : gs = [] ∧ q = [] := by
    cases gs with
    | nil => exact ⟨rfl, hV⟩
    | cons g r => exact absurd hV (by intro h; cases h)
  simp only [List.all_eq_true, Bool.and_eq_true, decide_eq_true_eq] at hts
  obtain ⟨xs, h1, h2, h3, h4⟩ := args_rel (n := n) (b0 := base) hA (fun t ht => (hts t ht).2) (fun j t v ht hv => hval j t v (by simpa using ht) (by simpa using hv))
  have hlen := trodAll_length hA
  refine (law_calls hX (hrun xs (by simpa using h2) (fun i t x ht hx => h3 i t x (by simpa using ht) hx)) (by simpa using h1) (fun i x v hx hv => h4 i x v hx (by simpa using hv)) hg).mono ?_
  rintro e W' ⟨rfl, hb⟩
  have hlt : ∀ x ∈ p, x.block < W.heap.size := fun x hx => by simpa using hW'.lt x (by simpa using hx)
  have hs : s.fn H (ds ++ []) = { results := [.lit (.bool true)], args := ds } := by
    rw [List.append_nil]; exact hspec ds (by simpa using hlen.2)
  refine ⟨_, rfl, ds, [], p ++ [], [], p, [], hW', ?_, ?_, ?_, hb.frame _, fun h => by cases h⟩
  · rw [hs, hres]
    exact trodAll_mk1 (shut_bool htb true)
  · rw [hs]
    exact trodAll_stays hlaid hb hA (fun t ht => (hts t ht).1) hlt
  · rw [hs, hvars]
    rfl
end
end Go.Am
end
section
namespace Go.Am
open Go
set_option maxRecDepth 20000
def rhoF : Nat → Nat
  | 99 => 81
  | 143 => 83
  | 206 => 124
  | 217 => 125
  | 219 => 126
  | 224 => 148
  | 225 => 147
  | 266 => 146
  | 267 => 149
  | 314 => 167
  | _ => 0
def rhoT : Nat → Nat
  | 3 => 3
  | 4 => 4
  | 5 => 5
  | 9 => 9
  | 46 => 148
  | 51 => 175
  | 146 => 219
  | _ => 0
def rhoG : Nat → Nat
  | 1 => 2
  | _ => 0
def rho : Go.Shelf.Ren := ⟨rhoF, rhoT, rhoG⟩
theorem lays143 : Go.Proofs.Lays.n143 Go.Proofs.Tryd.prog rho where
  mixed := by kernel_rfl
  f143 := by kernel_rfl
  f217 := by kernel_rfl
  f219 := by kernel_rfl
  f224 := by kernel_rfl
  f225 := by kernel_rfl
  f266 := by kernel_rfl
  f267 := by kernel_rfl
  f314 := by kernel_rfl
  t3 := by kernel_rfl
  a3 := by intro w; kernel_rfl
  z3 := by intro w; kernel_rfl
  v3 := by intro w; kernel_rfl
  t4 := by kernel_rfl
  a4 := by intro w; kernel_rfl
  z4 := by intro w; kernel_rfl
  v4 := by intro w; kernel_rfl
  t5 := by kernel_rfl
  a5 := by intro w; kernel_rfl
  z5 := by intro w; kernel_rfl
  v5 := by intro w; kernel_rfl
  t9 := by kernel_rfl
  a9 := by intro w; kernel_rfl
  z9 := by intro w; kernel_rfl
  v9 := by intro w; kernel_rfl
  t46 := by kernel_rfl
  a46 := by intro w; kernel_rfl
  z46 := by intro w; kernel_rfl
  v46 := by intro w; kernel_rfl
  t51 := by kernel_rfl
  a51 := by intro w; kernel_rfl
  z51 := by intro w; kernel_rfl
  v51 := by intro w; kernel_rfl
  t146 := by kernel_rfl
  a146 := by intro w; kernel_rfl
  z146 := by intro w; kernel_rfl
  v146 := by intro w; kernel_rfl
  g1 := by kernel_rfl
theorem lays217 : Go.Proofs.Lays.n217 Go.Proofs.Tryd.prog rho where
  mixed := by kernel_rfl
  f217 := by kernel_rfl
  f266 := by kernel_rfl
  t3 := by kernel_rfl
  a3 := by intro w; kernel_rfl
  z3 := by intro w; kernel_rfl
  v3 := by intro w; kernel_rfl
  t5 := by kernel_rfl
  a5 := by intro w; kernel_rfl
  z5 := by intro w; kernel_rfl
  v5 := by intro w; kernel_rfl
  t9 := by kernel_rfl
  a9 := by intro w; kernel_rfl
  z9 := by intro w; kernel_rfl
  v9 := by intro w; kernel_rfl
theorem lays99 : Go.Proofs.Lays.n99 Go.Proofs.Tryd.prog rho where
  mixed := by kernel_rfl
  f99 := by kernel_rfl
  f206 := by kernel_rfl
  t3 := by kernel_rfl
  a3 := by intro w; kernel_rfl
  z3 := by intro w; kernel_rfl
  v3 := by intro w; kernel_rfl
  t4 := by kernel_rfl
  a4 := by intro w; kernel_rfl
  z4 := by intro w; kernel_rfl
  v4 := by intro w; kernel_rfl
  t9 := by kernel_rfl
  a9 := by intro w; kernel_rfl
  z9 := by intro w; kernel_rfl
  v9 := by intro w; kernel_rfl
end Go.Am
end
section
namespace Go.Am
open Go Go.Proofs
variable [Inhabited Mx2]
set_option maxRecDepth 20000
theorem callable_of {P : Program} {g : FuncId} {fn : Func} (hf : P.funcs[g]? = some fn) (hb : fn.body.isSome = true) (hn : (fn.name == "runtime.NumGoroutine") = false) : callable P g = true := by
  unfold callable; rw [hf]; simp only [hb, hn]; rfl
theorem dstr_of {w F s v} (h : DRel w F (.str s) v) : ∃ b : ByteArray, v = .string b ∧ b.data.toList = s := by
  cases h with
  | str b s h => exact ⟨b, rfl, h⟩
theorem dint_of {w F k n v} (h : DRel w F (.int k n) v) : v = .int k n := by cases h; rfl
theorem two_args {ds : List D} {a b : D} {w F} {vs : Array Value} (hd : ds = [a, b]) (hl : ds.length = vs.size) (hr : ∀ (i : Nat) x v, ds[i]? = some x → vs[i]? = some v → DRel w F x v) :
    ∃ x y, vs = #[x, y] ∧ DRel w F a x ∧ DRel w F b y := by
  subst hd
  obtain ⟨l⟩ := vs
  match l, hl with
  | [x, y], _ => exact ⟨x, y, rfl, hr 0 a x rfl rfl, hr 1 b y rfl rfl⟩
theorem mx_cell {w : World} {F} (hg : GlobRel w F gl0) : ∃ m, w.cell? ⟨2, 0, none⟩ = some (.int .i64 m) := by
  obtain ⟨_, _, x', h1, h2⟩ := hg (2, .int .i64 (id (α := Int) (default : Mx2))) (by simp [gl0])
  generalize id (α := Int) (default : Mx2) = z at h1
  obtain rfl := dint_of h1
  exact ⟨z, h2 0 _ (by simp [Value.cells])⟩
theorem hp_ok : OrcOk ctx 81 hpO := by
  refine ⟨callable_of Tryd.func81 (by kernel_rfl) (by kernel_rfl), fun ds d hd F w vs hg hl hr => ?_⟩
  unfold hpO at hd
  split at hd
  · rename_i s p
    obtain ⟨x, y, rfl, h1, h2⟩ := two_args rfl hl hr
    obtain ⟨a, rfl, rfl⟩ := dstr_of h1
    obtain ⟨b, rfl, rfl⟩ := dstr_of h2
    refine (Any.strings_HasPrefix lays99 a b w).mono ?_
    rintro e w' ⟨rfl, rfl⟩
    cases hd
    exact ⟨_, rfl, Go.RowKit.Below.refl _ _, .bool _⟩
  · cases hd
theorem ib_ok : OrcOk ctx 125 ibO := by
  refine ⟨callable_of Tryd.func125 (by kernel_rfl) (by kernel_rfl), fun ds d hd F w vs hg hl hr => ?_⟩
  unfold ibO at hd
  split at hd
  · rename_i s p
    obtain ⟨x, y, rfl, h1, h2⟩ := two_args rfl hl hr
    obtain ⟨a, rfl, rfl⟩ := dstr_of h1
    obtain rfl := dint_of h2
    refine (Any.stringslite_IndexByte lays217 a _ w).mono ?_
    rintro e w' ⟨rfl, rfl⟩
    cases hd
    exact ⟨_, rfl, Go.RowKit.Below.refl _ _, .int _ _⟩
  · cases hd
theorem idx_ok : OrcOk ctx 83 idxO := by
  refine ⟨callable_of Tryd.func83 (by kernel_rfl) (by kernel_rfl), fun ds d hd F w vs hg hl hr => ?_⟩
  unfold idxO at hd
  split at hd
  · rename_i s p
    split at hd
    · rename_i hs
      obtain ⟨x, y, rfl, h1, h2⟩ := two_args rfl hl hr
      obtain ⟨a, rfl, rfl⟩ := dstr_of h1
      obtain ⟨b, rfl, rfl⟩ := dstr_of h2
      obtain ⟨m, hm⟩ := mx_cell hg
      refine (Any.strings_Index lays143 a b m w (by simpa using hs) hm).mono ?_
      rintro e w' ⟨rfl, rfl⟩
      cases hd
      exact ⟨_, rfl, Go.RowKit.Below.refl _ _, .int _ _⟩
    · cases hd
  · cases hd
theorem orcs_ok : ∀ g h, ctx.orc g = some h → OrcOk ctx g h := by
  intro g h hg
  have hg' : orc0 g = some h := hg
  unfold orc0 at hg'
  split at hg'
  all_goals first | (cases hg'; first | exact hp_ok | exact ib_ok | exact idx_ok) | cases hg'
end Go.Am
end
section
namespace Go.Am
open Go

theorem laid_mem {P : Program} {w : World} {n : String} {d : DataW Unit} : ∀ {l : List (String × DataW Unit)} {ps : List MemPlace}, DataW.LaidVars P w l ps → (n, d) ∈ l →
    ∃ g t cs fuel p, P.globalNamed n = some g ∧ (P.globals[g]?).map (·.type) = some t ∧ w.var? P n = some cs ∧ DataW.trod (fun _ => ()) P w 0 (fun _ => true) false fuel t cs.toList = some (d, p)
  | [], _, _, hm => by simp at hm
  | (n', d') :: r, ps, ⟨g, t, cs, fuel, p, q, h1, h2, h3, h4, h5, _⟩, hm => by
    rcases List.mem_cons.1 hm with hm | hm
    · cases hm
      exact ⟨g, t, cs, fuel, p, h1, h2, h3, h4⟩
    · exact laid_mem h5 hm

/-- An array of numbers, read. -/
theorem trod_ints {H : Type} {enc : TypeId × Value → H} {P : Program} {w : World} {base : Nat} {sp : Nat → Bool} {held : Bool} {fuel : Nat} {t e : TypeId} {n : Nat} {k : IntKind} {cs : List Value} {ds : List (DataW H)} {p : List MemPlace}
    (ha : P.underlying t = some (.array n e)) (he : P.underlying e = some (.int k)) (hc : P.cellsOf e = 1) (h : DataW.trod enc P w base sp held fuel t cs = some (.agg ds, p)) :
    ds.length = n ∧ ∀ i, i < n → ∃ z, cs[i]? = some (.int k z) ∧ ds[i]? = some (.lit (.int k z)) := by
  cases fuel with
  | zero => simp [DataW.trod] at h
  | succ m =>
    unfold DataW.trod at h
    rw [ha] at h
    simp only at h
    split at h
    · rename_i hl
      simp only [Option.map_eq_some_iff, Prod.mk.injEq, DataW.agg.injEq] at h
      obtain ⟨xs, hx, rfl, _⟩ := h
      have h1 : xs.length = n := by simpa using mapM_some_length hx
      refine ⟨by simpa using h1, fun i hi => ?_⟩
      have h2 := mapM_some_get hx i i (by simp [hi])
      have h3 : i < xs.length := by omega
      have h4 : xs[i]? = some xs[i] := by simp [h3]
      rw [h4, hc] at h2
      obtain ⟨z, h5, h6, _⟩ := DataW.trod_int he h2
      refine ⟨z, ?_, by simp [h4, h6]⟩
      have h7 := congrArg (·[0]?) h5
      simpa [List.getElem?_take, List.getElem?_drop] using h7
    · cases h

/-- A table of numbers that the row lists: its cells. -/
theorem glob_of_laid {P : Program} {W : World} {l : List (String × DataW Unit)} {name : String} {g : Nat} {t e : TypeId} {n : Nat} {k : IntKind} {zs : List Int}
    (hl : laidMet P l W) (hm : (name, DataW.agg (zs.map fun z => .lit (.int k z))) ∈ l) (hg : P.globalNamed name = some g) (ht : (P.globals[g]?).map (·.type) = some t)
    (ha : P.underlying t = some (.array n e)) (he : P.underlying e = some (.int k)) (hc : P.cellsOf e = 1) (hn : 0 < n) :
    g < W.heap.size ∧ ∃ x', DRel W (fun _ => False) (.agg (zs.map fun z => .int k z)) x' ∧ ∀ (i : Nat) (c : Value), x'.cells[i]? = some c → W.cell? ⟨g, i, none⟩ = some c := by
  obtain ⟨ps, hv, _⟩ := hl
  obtain ⟨g', t', cs, fuel, p, h1, h2, h3, h4⟩ := laid_mem hv hm
  obtain rfl := Option.some.inj (hg.symm.trans h1)
  obtain rfl := Option.some.inj (ht.symm.trans h2)
  obtain ⟨h5, h6⟩ := trod_ints ha he hc h4
  simp at h5
  have h7 : ∀ i z, zs[i]? = some z → W.cell? ⟨g, i, none⟩ = some (.int k z) := by
    intro i z hz
    have hi : i < n := by
      have := (List.getElem?_eq_some_iff.1 hz).1
      omega
    obtain ⟨z', h8, h9⟩ := h6 i hi
    simp [hz] at h9
    subst h9
    rw [World.var?_cell hg h3 i]
    simpa using h8
  refine ⟨?_, .agg (zs.map fun z => Value.int k z).toArray, ?_, ?_⟩
  · have hz : ∃ z, zs[0]? = some z := ⟨zs[0]'(by omega), by simp [show 0 < zs.length by omega]⟩
    obtain ⟨z, hz⟩ := hz
    exact (cell?_lt (h7 0 z hz)).1
  · refine DRel.ofCells (by simp) (fun v hv => ?_) (fun i c v hc' hv => ?_)
    · simp at hv
      obtain ⟨z, _, rfl⟩ := hv
      rfl
    · simp only [List.getElem?_map, Option.map_eq_some_iff] at hc' hv
      obtain ⟨z, hz, rfl⟩ := hc'
      obtain ⟨z', hz', rfl⟩ := hv
      rw [hz] at hz'
      cases hz'
      exact .int k z
  · intro i c hi
    simp [Value.cells] at hi
    obtain ⟨z, hz, rfl⟩ := hi
    exact h7 i z hz
end Go.Am
end
section
namespace Go.Am
open Go
variable {H : Type} {enc : TypeId × Value → H}
theorem handed_of {a : Assume} {C : Checked} {os : Os} {f : FuncId} {fn : Func} {s : ChangeSpec} {conds : List PathCond} {apart fresh handsOn again : Bool} {X : World → Array Value → Prop}
    (hX : ∀ (w w' : World) (args : Array Value), w.heap = w'.heap → X w args → X w' args)
    (own : ownKnob C.prog.godebug = none) (started : os.Started) (noInit : C.prog.inits.idxOf? f = none) (hfn : C.prog.funcs[f]? = some fn)
    (witness : ∃ (w : World) (tape : Tape) (i : Input), w.os = os ∧ (w.forCall tape i).Shaped C.prog ∧ i.vars = [] ∧ Input.okWide C.prog (w.forCall tape i) .any w.heap.size f i ∧
      ((s.pre enc C.prog fn conds apart (w.forCall tape i).memory i.args ∧ X (w.forCall tape i).memory i.args) ∧ sizedMet enc C.prog fn (OpenSpec.ofChange s) apart (w.forCall tape i).memory i.args) ∧ a.holds C.prog (lone (Frame.enter C.prog f i.args .normal) [] (w.forCall tape i)))
    (contract : ∀ (W : World) (base : Nat) (args : Array Value) (ds gs : List (DataW H)) (before : List MemPlace),
      (∀ (j : Nat) t v, fn.params[j]? = some t → args[j]? = some v → Value.okWide C.prog W .any base t v) →
      DataW.Whole enc C.prog fn.params.toList s.vars apart W args.toList ds gs before → X W args → W.ShapedOpen C.prog →
      Calls C.prog f args W fun e W' => ∃ v, e = .returned v ∧ s.post enc C.prog fn apart fresh handsOn again W args v W') :
    ReturnsInHanded a C os f .any (fun w args => (s.pre enc C.prog fn conds apart w args ∧ X w args) ∧ sizedMet enc C.prog fn (OpenSpec.ofChange s) apart w args) (s.post enc C.prog fn apart fresh handsOn again) := by
  refine returnsInHanded_of_calls own started noInit witness ?_
  intro w tape i _ hsh _ hok hpre _
  obtain ⟨_, _, _, fn', hfn', _, _, _, _, hval⟩ := hok
  have e : fn' = fn := Option.some.inj (hfn'.symm.trans hfn)
  subst e
  obtain ⟨⟨⟨ds, gs, before, hw, hc⟩, hx⟩, hz⟩ := hpre
  have hw' := DataW.Whole.of_heap (w' := w.forCall tape i) (by rfl) hw
  refine (contract (w.forCall tape i) w.heap.size i.args ds gs before hval hw' (hX _ _ _ (by rfl) hx) hsh).mono fun e W' ⟨v, he, hp⟩ => ?_
  subst he
  exact ChangeSpec.post_blind hp
end Go.Am
end

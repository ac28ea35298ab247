/-
  Texts of one proof, one behind the other.
-/
import Derived.Test.YtecknaklaleloaaDoorP6
import Derived.Lib.AtoiAllCases
import Derived.ProofKit
import Derived.ChangeArms
import Derived.ChangeCalls
import Derived.Test.YtecknaklaleloaaDoorProg
import Derived.Shelf.LaysC
import Derived.KernelRfl
import Derived.Shelf.Strings.Split
import Derived.Shelf.Strings.FieldsFuncAny
import Derived.Shelf.Strconv.ParseIntPublic10
import Derived.Shelf.Strconv.Itoa4
import Derived.Shelf.Strconv.Itoa3
import Derived.LaidLaws
import Derived.SizedLaws
import Derived.Handed
import Derived.Shelf.Vars
set_option linter.all false
section
namespace Go.Am
open Go
def numF (s : List UInt8) : Option Int := match Go.Lib.parseIntB 64 s with
  | .ok n => if Go.Lib.itoa n = s then some n else none
  | _ => none
def dgB (c : UInt8) : Prop := 48 ≤ c.toNat ∧ c.toNat ≤ 57
instance (c : UInt8) : Decidable (dgB c) := inferInstanceAs (Decidable (_ ∧ _))
def valA : List UInt8 → Nat → Nat
  | [], a => a
  | c :: r, a => valA r (a * 10 + (c.toNat - 48))
theorem valA_app (c : UInt8) : ∀ (l : List UInt8) (a : Nat), valA (l ++ [c]) a = valA l a * 10 + (c.toNat - 48)
  | [], a => rfl
  | x :: l, a => valA_app c l _
theorem valA_ge : ∀ (l : List UInt8) (a : Nat), a ≤ valA l a
  | [], a => Nat.le_refl _
  | x :: l, a => Nat.le_trans (by omega) (valA_ge l (a * 10 + (x.toNat - 48)))
def canon (l : List UInt8) : Prop := l ≠ [] ∧ (∀ c ∈ l, dgB c) ∧ (l.head? = some 48 → l.length = 1)
theorem ofNat_dig {c : UInt8} (h : dgB c) : UInt8.ofNat (48 + (c.toNat - 48)) = c := by
  have := h.1
  rw [show 48 + (c.toNat - 48) = c.toNat by omega]
  simp
theorem dec_val : ∀ (n : Nat) (l : List UInt8), l.length = n → canon l → Go.Lib.decDigits (valA l 0) = l ∧ (l.head? ≠ some 48 → 1 ≤ valA l 0) := by
  intro n
  induction n with
  | zero =>
    intro l hl h
    exact absurd (List.eq_nil_of_length_eq_zero hl) h.1
  | succ n ih =>
    intro l hl h
    obtain ⟨h0, h1, h2⟩ := h
    obtain ⟨m, c, rfl⟩ : ∃ m c, l = m ++ [c] := ⟨l.dropLast, l.getLast h0, (List.dropLast_concat_getLast h0).symm⟩
    have hc : dgB c := h1 c (by simp)
    rw [valA_app]
    cases m with
    | nil =>
      have hlt : valA [] 0 * 10 + (c.toNat - 48) < 10 := by simp [valA]; have := hc.2; omega
      constructor
      · rw [Go.Lib.decDigits, dif_pos hlt]
        simp only [valA, Nat.zero_mul, Nat.zero_add, List.nil_append]
        rw [ofNat_dig hc]
      · intro hne
        simp only [List.nil_append, List.head?_cons, ne_eq, Option.some.injEq] at hne
        simp only [valA]
        have h48 : c.toNat ≠ 48 := fun e => hne (UInt8.toNat_inj.1 e)
        have := hc.1
        omega
    | cons x m =>
      have hne : (x :: m).head? ≠ some 48 := by
        intro e
        have := h2 (by simpa using e)
        simp at this
      have hm : canon (x :: m) := ⟨by simp, fun d hd => h1 d (by simp at hd ⊢; rcases hd with hd | hd <;> simp [hd]), fun e => absurd e hne⟩
      obtain ⟨i1, i2⟩ := ih (x :: m) (by simpa using hl) hm
      have i2 := i2 hne
      have hd := hc.2
      have hlt : ¬ valA (x :: m) 0 * 10 + (c.toNat - 48) < 10 := by omega
      constructor
      · rw [Go.Lib.decDigits, dif_neg hlt]
        have e1 : (valA (x :: m) 0 * 10 + (c.toNat - 48)) / 10 = valA (x :: m) 0 := by omega
        have e2 : (valA (x :: m) 0 * 10 + (c.toNat - 48)) % 10 = c.toNat - 48 := by omega
        rw [e1, e2, i1, ofNat_dig hc]
      · intro _
        omega
theorem dec_canon (u : Nat) : canon (Go.Lib.decDigits u) ∧ valA (Go.Lib.decDigits u) 0 = u ∧ (1 ≤ u → (Go.Lib.decDigits u).head? ≠ some 48) := by
  induction u using Nat.strongRecOn with
  | _ u ih =>
    by_cases h : u < 10
    · rw [Go.Lib.decDigits, dif_pos h]
      have ht : (UInt8.ofNat (48 + u)).toNat = 48 + u := by rw [UInt8.toNat_ofNat']; omega
      refine ⟨⟨by simp, by simp [dgB, ht]; omega, by simp⟩, by simp only [valA, ht]; omega, fun h1 e => ?_⟩
      simp only [List.head?_cons, Option.some.injEq] at e
      have := congrArg UInt8.toNat e
      rw [ht] at this
      have h48 : (48 : UInt8).toNat = 48 := rfl
      omega
    · rw [Go.Lib.decDigits, dif_neg h]
      obtain ⟨⟨i0, i1, i2⟩, i3, i4⟩ := ih (u / 10) (by omega)
      have ht : (UInt8.ofNat (48 + u % 10)).toNat = 48 + u % 10 := by rw [UInt8.toNat_ofNat']; omega
      have hh : (Go.Lib.decDigits (u / 10) ++ [UInt8.ofNat (48 + u % 10)]).head? = (Go.Lib.decDigits (u / 10)).head? := by
        cases hq : Go.Lib.decDigits (u / 10) with
        | nil => exact absurd hq i0
        | cons x m => rfl
      have i4 := i4 (by omega)
      refine ⟨⟨by simp, fun c hc => ?_, fun e => ?_⟩, ?_, fun _ => ?_⟩
      · rcases List.mem_append.1 hc with hc | hc
        · exact i1 c hc
        · simp at hc
          subst hc
          simp [dgB, ht]
          omega
      · rw [hh] at e
        exact absurd e i4
      · rw [valA_app, i3, ht]
        omega
      · rw [hh]
        exact i4
theorem parseU_ok : ∀ (l : List UInt8) (a v : Nat), Go.Lib.parseUintM 18446744073709551615 a l = .ok v → (∀ c ∈ l, dgB c) ∧ v = valA l a ∧ (l ≠ [] → v ≤ 18446744073709551615)
  | [], a, v, h => by
    simp only [Go.Lib.parseUintM] at h
    cases h
    exact ⟨by simp, rfl, by simp⟩
  | c :: r, a, v, h => by
    simp only [Go.Lib.parseUintM] at h
    split at h
    · rename_i hc
      split at h
      · cases h
      · split at h
        · cases h
        · rename_i h1 h2
          obtain ⟨i1, i2, i3⟩ := parseU_ok r _ v h
          refine ⟨?_, i2, fun _ => ?_⟩
          · intro x hx
            rcases List.mem_cons.1 hx with rfl | hx
            · exact hc
            · exact i1 x hx
          · cases r with
            | nil => rw [i2]; simp only [valA]; omega
            | cons y r => exact i3 (by simp)
    · cases h
theorem parseU_of : ∀ (l : List UInt8) (a : Nat), (∀ c ∈ l, dgB c) → valA l a ≤ 18446744073709551615 → Go.Lib.parseUintM 18446744073709551615 a l = .ok (valA l a)
  | [], a, _, _ => rfl
  | c :: r, a, h, hv => by
    have hc := h c (by simp)
    have ge := valA_ge r (a * 10 + (c.toNat - 48))
    have hv' : valA r (a * 10 + (c.toNat - 48)) ≤ 18446744073709551615 := hv
    have ih := parseU_of r (a * 10 + (c.toNat - 48)) (fun x hx => h x (by simp [hx])) hv'
    simp only [Go.Lib.parseUintM]
    rw [if_pos (show 48 ≤ c.toNat ∧ c.toNat ≤ 57 from hc), if_neg (by omega), if_neg (by omega), ih]
    rfl
instance (l : List UInt8) : Decidable (canon l) := inferInstanceAs (Decidable (_ ∧ _ ∧ (_ → _)))
def numR (s : List UInt8) : Option Int :=
  if s.head? = some 45 then
    (if canon s.tail ∧ s.tail.head? ≠ some 48 ∧ s.tail.length ≤ 19 ∧ valA s.tail 0 ≤ 9223372036854775808 then some (-(valA s.tail 0 : Int)) else none)
  else (if canon s ∧ s.length ≤ 19 ∧ valA s 0 < 9223372036854775808 then some (valA s 0 : Int) else none)
theorem val_low : ∀ (n : Nat) (l : List UInt8), l.length = n + 1 → canon l → l.head? ≠ some 48 → 10 ^ n ≤ valA l 0 := by
  intro n
  induction n with
  | zero =>
    intro l hl h hh
    have := (dec_val 1 l hl h).2 hh
    simpa using this
  | succ n ih =>
    intro l hl h hh
    obtain ⟨h0, h1, h2⟩ := h
    obtain ⟨m, c, rfl⟩ : ∃ m c, l = m ++ [c] := ⟨l.dropLast, l.getLast h0, (List.dropLast_concat_getLast h0).symm⟩
    have hm : m.length = n + 1 := by simpa using hl
    have hh' : m.head? ≠ some 48 := by
      cases m with
      | nil => simp at hm
      | cons x m => simpa using hh
    have := ih m hm ⟨fun e => by subst e; simp at hm, fun d hd => h1 d (by simp [hd]), fun e => absurd e hh'⟩ hh'
    rw [valA_app, Nat.pow_succ]
    omega
theorem len_low {l : List UInt8} (h : canon l) (hv : valA l 0 ≤ 9223372036854775808) : l.length ≤ 19 := by
  by_cases hh : l.head? = some 48
  · rw [h.2.2 hh]; omega
  · by_cases hl : l.length ≤ 19
    · exact hl
    · have h1 := val_low (l.length - 1) l (by omega) h hh
      have h2 : 10 ^ 19 ≤ 10 ^ (l.length - 1) := Nat.pow_le_pow_right (by decide) (by omega)
      have h3 : (10 : Nat) ^ 19 = 10000000000000000000 := by decide
      omega
theorem parseI_ok {s : List UInt8} {n : Int} (h : Go.Lib.parseIntB 64 s = .ok n) : (s.head? = some 45 ∧ ∃ u : Nat, n = -(u : Int) ∧ u ≤ 9223372036854775808) ∨ (s.head? ≠ some 45 ∧ ∃ u : Nat, n = (u : Int) ∧ u < 9223372036854775808) := by
  unfold Go.Lib.parseIntB at h
  split at h
  · cases h
  · rename_i c r
    simp only at h
    split at h
    · cases h
    · cases h
    · rename_i u hu
      split at h
      · cases h
      · split at h
        · cases h
        · rename_i h1 h2
          have he : ∀ d : UInt8, d.toNat = 45 ↔ d = 45 := fun d => ⟨fun e => UInt8.toNat_inj.1 e, fun e => by rw [e]; rfl⟩
          by_cases hc : c.toNat = 45
          · rw [if_pos hc] at h
            cases h
            refine .inl ⟨by simp [(he c).1 hc], u, rfl, ?_⟩
            have : ¬ 2 ^ (64 - 1) < u := fun hlt => h2 ⟨hc, hlt⟩
            simpa using this
          · rw [if_neg hc] at h
            cases h
            refine .inr ⟨by simp only [List.head?_cons, ne_eq, Option.some.injEq]; exact fun e => hc ((he c).2 e), u, rfl, ?_⟩
            have : ¬ 2 ^ (64 - 1) ≤ u := fun hlt => h1 ⟨hc, hlt⟩
            simpa using this
theorem parseU_B {l : List UInt8} (h : canon l) (hv : valA l 0 ≤ 18446744073709551615) : Go.Lib.parseUintB 64 l = .ok (valA l 0) := by
  unfold Go.Lib.parseUintB
  rw [if_neg h.1]
  have : (2 : Nat) ^ 64 - 1 = 18446744073709551615 := by decide
  rw [this]
  exact parseU_of l 0 h.2.1 hv
theorem itoa_neg {u : Nat} (h : 1 ≤ u) : Go.Lib.itoa (-(u : Int)) = 45 :: Go.Lib.decDigits u := by
  unfold Go.Lib.itoa
  rw [if_pos (by omega)]
  have : (-(u : Int)).natAbs = u := by omega
  rw [this]
theorem itoa_pos (u : Nat) : Go.Lib.itoa (u : Int) = Go.Lib.decDigits u := by
  unfold Go.Lib.itoa
  rw [if_neg (by omega)]
  have : (u : Int).toNat = u := by omega
  rw [this]
theorem dig_ne {l : List UInt8} (h : canon l) : l.head? ≠ some 45 ∧ l.head? ≠ some 43 := by
  obtain ⟨h0, h1, _⟩ := h
  cases l with
  | nil => exact absurd rfl h0
  | cons c l =>
    have hc := h1 c (by simp)
    simp only [List.head?_cons, ne_eq, Option.some.injEq]
    exact ⟨fun e => by subst e; revert hc; decide, fun e => by subst e; revert hc; decide⟩
theorem numF_of {s : List UInt8} {n : Int} (h : numR s = some n) : numF s = some n := by
  unfold numR at h
  unfold numF
  split at h
  · rename_i h45
    obtain ⟨r, rfl⟩ : ∃ r, s = 45 :: r := by
      cases s with
      | nil => simp at h45
      | cons c r => simp at h45; exact ⟨r, by rw [h45]⟩
    split at h
    · rename_i hc
      obtain ⟨hc, hh, _, hv⟩ := hc
      cases h
      simp only [List.tail_cons] at hc hh hv ⊢
      have hp : Go.Lib.parseIntB 64 (45 :: r) = .ok (-(valA r 0 : Int)) := by
        unfold Go.Lib.parseIntB
        simp only
        have h1 : (45 : UInt8).toNat = 45 := rfl
        rw [h1, if_pos (.inr rfl), parseU_B hc (by omega)]
        have e63 : (2 : Nat) ^ (64 - 1) = 9223372036854775808 := by decide
        rw [e63]
        simp only [not_true, false_and, if_false, true_and]
        rw [if_neg (by omega)]
        rfl
      rw [hp]
      simp only
      rw [itoa_neg ((dec_val _ r rfl hc).2 hh), (dec_val _ r rfl hc).1, if_pos rfl]
    · cases h
  · rename_i h45
    split at h
    · rename_i hc
      obtain ⟨hc, _, hv⟩ := hc
      cases h
      have hp : Go.Lib.parseIntB 64 s = .ok (valA s 0 : Int) := by
        unfold Go.Lib.parseIntB
        split
        · exact absurd rfl hc.1
        · rename_i c r _
          obtain ⟨q1, q2⟩ := dig_ne hc
          simp only [List.head?_cons, ne_eq, Option.some.injEq] at q1 q2
          have k1 : ¬ c.toNat = 45 := fun e => q1 (UInt8.toNat_inj.1 e)
          have k2 : ¬ c.toNat = 43 := fun e => q2 (UInt8.toNat_inj.1 e)
          simp only
          rw [if_neg (by rintro (e | e); exact k2 e; exact k1 e), parseU_B hc (by omega)]
          have e63 : (2 : Nat) ^ (64 - 1) = 9223372036854775808 := by decide
          rw [e63]
          simp only [k1, not_false_eq_true, true_and, false_and, if_false]
          rw [if_neg (by omega)]
      rw [hp]
      simp only
      rw [itoa_pos, (dec_val _ s rfl hc).1, if_pos rfl]
    · cases h
theorem numR_of {s : List UInt8} {n : Int} (h : numF s = some n) : numR s = some n := by
  unfold numF at h
  split at h
  · rename_i m hp
    split at h
    · rename_i hi
      cases h
      subst hi
      rcases parseI_ok hp with ⟨h45, u, rfl, hu⟩ | ⟨h45, u, rfl, hu⟩
      · have hu1 : 1 ≤ u := by
          rcases Nat.eq_zero_or_pos u with rfl | hpos
          · exfalso
            have : Go.Lib.itoa (-((0 : Nat) : Int)) = Go.Lib.decDigits 0 := itoa_pos 0
            rw [this] at h45
            exact (dig_ne (dec_canon 0).1).1 h45
          · exact hpos
        rw [itoa_neg hu1] at h45 ⊢
        obtain ⟨c1, c2, c3⟩ := dec_canon u
        unfold numR
        rw [if_pos (by simp)]
        simp only [List.tail_cons]
        simp only [c2]
        rw [if_pos ⟨c1, c3 hu1, len_low c1 (by rw [c2]; exact hu), hu⟩]
      · rw [itoa_pos]
        obtain ⟨c1, c2, c3⟩ := dec_canon u
        unfold numR
        rw [if_neg (dig_ne c1).1]
        simp only [c2]
        rw [if_pos ⟨c1, len_low c1 (by rw [c2]; omega), hu⟩]
    · cases h
  · cases h
theorem num_eq (s : List UInt8) : numF s = numR s := by
  cases h : numR s with
  | some n => exact numF_of h
  | none =>
    cases h' : numF s with
    | none => rfl
    | some n => rw [numR_of h'] at h; cases h
end Go.Am
end
section
namespace Go.Am
open Go
structure Lim where
  vel : Int
  acc : Int
  dec : Int
  lo : Int
  hi : Int
  deriving DecidableEq
structure Ax where
  l : Lim
  win : Int
  home : Int
  fast : Int
  creep : Int
  watch : Int
  count : Int
  follow : Int
  deriving DecidableEq
structure Cn where
  fuel : Int
  axes : List Ax
  deriving DecidableEq
def limC (l : Lim) : List D := [.int .i64 l.vel, .int .i64 l.acc, .int .i64 l.dec, .int .i64 l.lo, .int .i64 l.hi]
def limD (l : Lim) : D := .agg [.int .i64 l.vel, .int .i64 l.acc, .int .i64 l.dec, .int .i64 l.lo, .int .i64 l.hi]
def axD (a : Ax) : D := .agg [.int .i64 a.l.vel, .int .i64 a.l.acc, .int .i64 a.l.dec, .int .i64 a.l.lo, .int .i64 a.l.hi, .int .i64 a.win, .int .i64 a.home, .int .i64 a.fast, .int .i64 a.creep, .int .i64 a.watch, .int .i64 a.count, .int .i64 a.follow]
def cnD (c : Cn) : D := .agg [.int .i64 c.fuel, .list (c.axes.map axD)]
def limR (l : Lim) : Bool := decide (1 ≤ l.vel ∧ l.vel ≤ 1048576 ∧ 1 ≤ l.acc ∧ l.acc ≤ 1048576 ∧ 1 ≤ l.dec ∧ l.dec ≤ 1048576 ∧ -1099511627776 ≤ l.lo ∧ l.lo ≤ 1099511627776 ∧ l.lo ≤ l.hi ∧ l.hi ≤ 1099511627776)
def homeR (fast creep : Int) : Bool := if 0 < fast then decide (1 ≤ creep ∧ creep ≤ fast ∧ fast ≤ 1048576) else decide (creep ≤ -1 ∧ fast ≤ creep ∧ -1048576 ≤ fast)
def madeR (l : Lim) (win home fast creep : Int) : Bool := decide (1 ≤ win ∧ win ≤ 16) && (limR l && (decide (l.lo ≤ home ∧ home ≤ l.hi) && homeR fast creep))
def driveR (watch count : Int) : Bool := decide (1 ≤ watch ∧ watch ≤ 100) && decide (1 ≤ count ∧ count ≤ 20)
def axR (a : Ax) : Bool := madeR a.l a.win a.home a.fast a.creep && (driveR a.watch a.count && decide (1 ≤ a.follow ∧ a.follow ≤ 1099511627776))
def cnR (c : Cn) : Bool := decide (1 ≤ c.fuel ∧ c.fuel ≤ 16384) && (decide (1 ≤ c.axes.length ∧ c.axes.length ≤ 4) && c.axes.all axR)
def smP (n : Int) : Int := max (-1) (min n 1048576)
def asR (n : Int) : Int := if n < 0 ∨ 1000 < n then -1 else n
def axOf (sm : Int → Int) : List Int → Ax
  | [a, b, c, d, e, f, g, h, i, j, k, l] => ⟨⟨a, b, c, d, e⟩, sm f, g, h, i, sm j, sm k, l⟩
  | _ => ⟨⟨0, 0, 0, 0, 0⟩, 0, 0, 0, 0, 0, 0, 0⟩
def numsF : List (List UInt8) → Option (List Int)
  | [] => some []
  | w :: r => match numF w with
    | some n => match numsF r with
      | some l => some (n :: l)
      | none => none
    | none => none
def lineF (sm : Int → Int) (c : Cn) (ws : List (List UInt8)) : Cn × Int :=
  match numsF ws.tail with
  | none => (c, 5)
  | some l =>
    if ws.head? = some [102, 117, 101, 108] ∧ l.length = 1 then
      (if c.fuel ≠ 0 then (c, 11) else if ¬ (1 ≤ l.headD 0 ∧ l.headD 0 ≤ 16384) then (c, 1) else (⟨l.headD 0, c.axes⟩, 0))
    else if ws.head? = some [97, 120, 105, 115] ∧ l.length = 12 then
      (if axR (axOf sm l) = false then (c, 1) else if c.axes.length = 4 then (c, 8) else (⟨c.fuel, c.axes ++ [axOf sm l]⟩, 0))
    else (c, 5)
def cn0 : Cn := ⟨0, []⟩
def quiet (ws : List (List UInt8)) : Prop := ws = [] ∨ (ws.headD []).head? = some 35
instance (ws : List (List UInt8)) : Decidable (quiet ws) := inferInstanceAs (Decidable (_ ∨ _))
def linesF (sm : Int → Int) : List (List UInt8) → Nat → Cn → Cn × Int × Int
  | [], _, c => if c.fuel = 0 ∨ c.axes = [] then (cn0, 5, 0) else (c, 0, 0)
  | s :: r, i, c =>
    if 512 ≤ i ∨ 256 < s.length then (cn0, 13, i + 1)
    else if quiet (wordsF s) then linesF sm r (i + 1) c
    else if (lineF sm c (wordsF s)).2 = 0 then linesF sm r (i + 1) (lineF sm c (wordsF s)).1
    else (cn0, (lineF sm c (wordsF s)).2, i + 1)
def confF (sm : Int → Int) (s : List UInt8) : Cn × Int × Int := linesF sm (cutC 10 s) 0 cn0
theorem sm_ok {n m k : Int} (h1 : 1 ≤ m) (h2 : k ≤ 100) : (m ≤ smP n ∧ smP n ≤ k ↔ m ≤ asR n ∧ asR n ≤ k) ∧ (m ≤ smP n ∧ smP n ≤ k → smP n = asR n) := by
  unfold smP asR
  constructor
  · constructor
    · rintro ⟨a, b⟩; split <;> omega
    · split
      · rintro ⟨a, b⟩; omega
      · rintro ⟨a, b⟩; omega
  · rintro ⟨a, b⟩; split <;> omega
theorem axOf_eq (l : List Int) : axR (axOf smP l) = axR (axOf asR l) ∧ (axR (axOf smP l) = true → axOf smP l = axOf asR l) := by
  unfold axOf
  split
  · rename_i a b c d e f g h i j k l
    have h1 := sm_ok (n := f) (m := 1) (k := 16) (by omega) (by omega)
    have h2 := sm_ok (n := j) (m := 1) (k := 100) (by omega) (by omega)
    have h3 := sm_ok (n := k) (m := 1) (k := 20) (by omega) (by omega)
    simp only [axR, madeR, driveR]
    simp only [h1.1, h2.1, h3.1, true_and]
    intro h
    simp only [Bool.and_eq_true, decide_eq_true_eq] at h
    rw [h1.2 (h1.1.2 h.1.1), h2.2 (h2.1.2 h.2.1.1), h3.2 (h3.1.2 h.2.1.2)]
  · exact ⟨rfl, fun _ => rfl⟩
theorem lineF_eq (c : Cn) (ws : List (List UInt8)) : lineF smP c ws = lineF asR c ws := by
  unfold lineF
  split
  · rfl
  · rename_i l _
    obtain ⟨h1, h2⟩ := axOf_eq l
    rw [h1]
    by_cases hr : axR (axOf asR l) = false
    · rw [if_pos hr, if_pos hr]
    · rw [if_neg hr, if_neg hr, h2 (by rw [h1]; simpa using hr)]
theorem linesF_eq : ∀ (l : List (List UInt8)) (i : Nat) (c : Cn), linesF smP l i c = linesF asR l i c
  | [], i, c => rfl
  | s :: r, i, c => by
    unfold linesF
    rw [lineF_eq, linesF_eq r, linesF_eq r]
theorem confF_eq (s : List UInt8) : confF smP s = confF asR s := linesF_eq _ _ _
end Go.Am
end
section
namespace Go.Am
open Go
@[simp] theorem range_2 : List.range 2 = [0, 1] := rfl
@[simp] theorem range_3 : List.range 3 = [0, 1, 2] := rfl
@[simp] theorem range_4 : List.range 4 = [0, 1, 2, 3] := rfl
@[simp] theorem range_5 : List.range 5 = [0, 1, 2, 3, 4] := rfl
@[simp] theorem range_6 : List.range 6 = [0, 1, 2, 3, 4, 5] := rfl
@[simp] theorem int_beq (a b : Int) : (a == b) = decide (a = b) := by by_cases h : a = b <;> simp [h]
def I64 (n : Int) : Prop := -9223372036854775808 ≤ n ∧ n ≤ 9223372036854775807
theorem wrap_id {n : Int} (h : I64 n) : IntKind.i64.wrap n = n := IntWalk.i64_in _ (by unfold I64 at h; omega)
end Go.Am
end
section
namespace Go.Am
open Go
abbrev AnsT := Option (Out × List (Nat × Cont))
theorem hoistB (c : Prop) [Decidable c] (a b : Bool) (l : List (Nat × Cont)) : (if c then (some (Out.ret (.d (.bool a)), l) : AnsT) else some (Out.ret (.d (.bool b)), l)) = some (Out.ret (.d (.bool (if c then a else b))), l) := by split <;> rfl
theorem retB_iff (a b : Bool) (l : List (Nat × Cont)) : (some (Out.ret (.d (.bool a)), l) : AnsT) = some (Out.ret (.d (.bool b)), l) ↔ (a = true ↔ b = true) := by
  cases a <;> cases b <;> simp
theorem hoistI (c : Prop) [Decidable c] (k : IntKind) (a b : Int) (l : List (Nat × Cont)) : (if c then (some (Out.ret (.d (.int k a)), l) : AnsT) else some (Out.ret (.d (.int k b)), l)) = some (Out.ret (.d (.int k (if c then a else b))), l) := by split <;> rfl
theorem hoistT (c : Prop) [Decidable c] (a b : List AV) (l : List (Nat × Cont)) : (if c then (some (Out.ret (.tup a), l) : AnsT) else some (Out.ret (.tup b), l)) = some (Out.ret (.tup (if c then a else b)), l) := by split <;> rfl
end Go.Am
end
section
namespace Go.Am
open Go Go.Proofs
variable [Inhabited Mx2]
set_option maxRecDepth 20000
theorem place_r (n : Int) : callT ctx 129 [.d (.int .i64 n)] [] = some (.ret (.d (.bool (decide (-2199023255552 ≤ n ∧ n ≤ 2199023255552)))), []) := by
  rw [run129 (by simp)]
  simp [Tryd.f129, drwK_end]
theorem within_r (n a b : Int) : callT ctx 131 [.d (.int .i64 n), .d (.int .i64 a), .d (.int .i64 b)] [] = some (.ret (.d (.bool (decide (a ≤ n ∧ n ≤ b)))), []) := by
  rw [run131 (by simp)]
  simp [Tryd.f131, drwK_end]
theorem genRight_r (l : Lim) : callT ctx 102 [.d (limD l)] [] = some (.ret (.d (.bool (limR l))), []) := by
  rw [run102 (by simp)]
  simp [Tryd.f102, limD, within_r, drwK_end]
  simp only [hoistB, retB_iff]
  grind (splits := 40) [limR]
theorem homeRight_r (p f c : Int) (t : Bool) : callT ctx 132 [.d (.agg [.int .i64 p, .int .i64 f, .int .i64 c, .bool t])] [] = some (.ret (.d (.bool (decide (0 ≤ p ∧ p ≤ 5) && homeR f c))), []) := by
  rw [run132 (by simp)]
  simp [Tryd.f132, drwK_end]
  simp only [hoistB, retB_iff]
  grind (splits := 40) [homeR]
theorem watchRight_r (l m n : Int) : callT ctx 133 [.d (.agg [.int .i64 l, .int .i64 m, .int .i64 n])] [] = some (.ret (.d (.bool (decide (1 ≤ l ∧ l ≤ 100 ∧ 0 ≤ m ∧ m ≤ l ∧ -1 ≤ n ∧ n ≤ 255)))), []) := by
  rw [run133 (by simp)]
  simp [Tryd.f133, drwK_end]
  grind
theorem bounceRight_r (l : Int) (b : Bool) (n : Int) : callT ctx 134 [.d (.agg [.int .i64 l, .bool b, .int .i64 n])] [] = some (.ret (.d (.bool (decide (1 ≤ l ∧ l ≤ 20 ∧ 0 ≤ n ∧ n < l)))), []) := by
  rw [run134 (by simp)]
  simp [Tryd.f134, drwK_end]
  grind
theorem homeNew_r (f c : Int) : callT ctx 103 [.d (.int .i64 f), .d (.int .i64 c)] [] = some (.ret (.tup [.d (if homeR f c then .agg [.int .i64 0, .int .i64 f, .int .i64 c, .bool false] else .agg [.int .i64 0, .int .i64 0, .int .i64 0, .bool false]), .d (.int .i64 (if homeR f c then 0 else 1))]), []) := by
  rw [run103 (by simp)]
  cases h : homeR f c <;> simp [Tryd.f103, homeRight_r, h, drwK_end]
theorem watchNew_r (l : Int) : callT ctx 104 [.d (.int .i64 l)] [] = some (.ret (.tup [.d (if 1 ≤ l ∧ l ≤ 100 then .agg [.int .i64 l, .int .i64 0, .int .i64 (-1)] else .agg [.int .i64 0, .int .i64 0, .int .i64 0]), .d (.int .i64 (if 1 ≤ l ∧ l ≤ 100 then 0 else 1))]), []) := by
  rw [run104 (by simp)]
  by_cases h : 1 ≤ l ∧ l ≤ 100
  · have h0 : 0 ≤ l := by omega
    simp [Tryd.f104, watchRight_r, h, h0, drwK_end]
  · have h1 : ¬ (1 ≤ l ∧ l ≤ 100 ∧ 0 ≤ l) := by omega
    simp [Tryd.f104, watchRight_r, h, h1, drwK_end]
theorem bounceNew_r (l : Int) : callT ctx 105 [.d (.int .i64 l), .d (.bool false)] [] = some (.ret (.tup [.d (if 1 ≤ l ∧ l ≤ 20 then .agg [.int .i64 l, .bool false, .int .i64 0] else .agg [.int .i64 0, .bool false, .int .i64 0]), .d (.int .i64 (if 1 ≤ l ∧ l ≤ 20 then 0 else 1))]), []) := by
  rw [run105 (by simp)]
  by_cases h : 1 ≤ l ∧ l ≤ 20
  · have h0 : 0 < l := by omega
    simp [Tryd.f105, bounceRight_r, h, h0, drwK_end]
  · have h1 : ¬ (1 ≤ l ∧ l ≤ 20 ∧ 0 < l) := by omega
    simp [Tryd.f105, bounceRight_r, h, h1, drwK_end]
theorem rep1 : callT ctx 130 [.d (.list [.int .i64 0]), .d (.int .i64 3)] [] = some (.ret (.d (.list [.int .i64 0, .int .i64 0, .int .i64 0])), []) := callT_of 300 (by kernel_rfl)
end Go.Am
end
section
namespace Go.Am
open Go Go.Proofs
variable [Inhabited Mx2]
set_option maxRecDepth 20000
theorem rep_all : ∀ w : Nat, 1 ≤ w → w ≤ 16 → callT ctx 130 [.d (.list [.int .i64 0]), .d (.int .i64 w)] [] = some (.ret (.d (.list (List.replicate w (.int .i64 0)))), []) := by
  intro w h1 h2
  match w, h1, h2 with
  | 1, _, _ => exact callT_of 300 (by kernel_rfl)
  | 2, _, _ => exact callT_of 300 (by kernel_rfl)
  | 3, _, _ => exact callT_of 300 (by kernel_rfl)
  | 4, _, _ => exact callT_of 300 (by kernel_rfl)
  | 5, _, _ => exact callT_of 300 (by kernel_rfl)
  | 6, _, _ => exact callT_of 300 (by kernel_rfl)
  | 7, _, _ => exact callT_of 300 (by kernel_rfl)
  | 8, _, _ => exact callT_of 300 (by kernel_rfl)
  | 9, _, _ => exact callT_of 300 (by kernel_rfl)
  | 10, _, _ => exact callT_of 300 (by kernel_rfl)
  | 11, _, _ => exact callT_of 300 (by kernel_rfl)
  | 12, _, _ => exact callT_of 300 (by kernel_rfl)
  | 13, _, _ => exact callT_of 300 (by kernel_rfl)
  | 14, _, _ => exact callT_of 300 (by kernel_rfl)
  | 15, _, _ => exact callT_of 300 (by kernel_rfl)
  | 16, _, _ => exact callT_of 300 (by kernel_rfl)
  | w + 17, _, h => omega
theorem smoothNew_r (w : Int) : callT ctx 101 [.d (.int .i64 w), .d (.int .i64 0)] [] = some (.ret (.tup [.d (.agg [.list (if 1 ≤ w ∧ w ≤ 16 then List.replicate w.toNat (.int .i64 0) else [])]), .d (.int .i64 (if 1 ≤ w ∧ w ≤ 16 then 0 else 1))]), []) := by
  rw [run101 (by simp)]
  by_cases h : 1 ≤ w ∧ w ≤ 16
  · obtain ⟨n, rfl⟩ : ∃ n : Nat, w = n := ⟨w.toNat, by omega⟩
    have hr := rep_all n (by omega) (by omega)
    have h1 : ¬ ((n : Int) < 1) := by omega
    have h2 : ¬ (16 < (n : Int)) := by omega
    have h3 : 1 ≤ n := by omega
    have h4 : n ≤ 16 := by omega
    simp [Tryd.f101, place_r, hr, h1, h2, h3, h4, drwK_end]
  · by_cases h1 : w < 1
    · have h' : ¬ (1 ≤ w) := by omega
      simp [Tryd.f101, place_r, h1, h', drwK_end]
    · have h2 : 16 < w := by omega
      have h' : ¬ (w ≤ 16) := by omega
      simp [Tryd.f101, place_r, h1, h2, h', drwK_end]
def axisD (l : Lim) (win home fast creep : Int) (last : List D) : D := .agg [.int .i64 0, .int .i64 l.vel, .int .i64 l.acc, .int .i64 l.dec, .int .i64 l.lo, .int .i64 l.hi, .int .i64 win, .int .i64 home, .int .i64 fast, .int .i64 creep, .int .i64 0, .int .i64 0, .list last, .int .i64 0, .list [], .list [], .bool false, .int .i64 0, .int .i64 0, .int .i64 0, .bool false, .int .i64 100, .int .i64 0, .int .i64 0, .int .i64 0, .bool false]
def axis0 : D := .agg [.int .i64 0, .int .i64 0, .int .i64 0, .int .i64 0, .int .i64 0, .int .i64 0, .int .i64 0, .int .i64 0, .int .i64 0, .int .i64 0, .int .i64 0, .int .i64 0, .list [], .int .i64 0, .list [], .list [], .bool false, .int .i64 0, .int .i64 0, .int .i64 0, .bool false, .int .i64 0, .int .i64 0, .int .i64 0, .int .i64 0, .bool false]
def axN (l : Lim) (win home fast creep : Int) : D := if madeR l win home fast creep then axisD l win home fast creep (List.replicate win.toNat (.int .i64 0)) else axis0
theorem axisNew_r (l : Lim) (win home fast creep : Int) : callT ctx 65 [.d (limD l), .d (.int .i64 win), .d (.int .i64 home), .d (.int .i64 fast), .d (.int .i64 creep)] [] = some (.ret (.tup [.d (axN l win home fast creep), .d (.int .i64 (if madeR l win home fast creep then 0 else 1))]), []) := by
  have hg := genRight_r l
  rw [run65 (by simp)]
  by_cases hw : 1 ≤ win ∧ win ≤ 16
  · cases hl : limR l with
    | false => simp [Tryd.f65, smoothNew_r, limD, hg, hl, hw, axN, madeR, axis0, drwK_end] at hg ⊢; simp [hg]
    | true =>
      by_cases h1 : home < l.lo
      · have h1' : ¬ l.lo ≤ home := by omega
        simp [Tryd.f65, smoothNew_r, limD, hl, hw, axN, madeR, axis0, drwK_end, h1, h1'] at hg ⊢; simp [hg, h1]
      · have h1' : l.lo ≤ home := by omega
        by_cases h2 : l.hi < home
        · have h2' : ¬ home ≤ l.hi := by omega
          simp [Tryd.f65, smoothNew_r, limD, hl, hw, axN, madeR, axis0, drwK_end, h1, h1', h2, h2'] at hg ⊢; simp [hg, h1, h2]
        · have h2' : home ≤ l.hi := by omega
          cases h3 : homeR fast creep with
          | false => simp [Tryd.f65, smoothNew_r, homeNew_r, limD, hl, hw, axN, madeR, axis0, drwK_end, h1, h1', h2, h2', h3] at hg ⊢; simp [hg, h1, h2, homeNew_r, h3, drwK_end]
          | true => simp [Tryd.f65, smoothNew_r, homeNew_r, limD, hl, hw, axN, madeR, axisD, drwK_end, h1, h1', h2, h2', h3] at hg ⊢; simp [hg, h1, h2, homeNew_r, h3, drwK_end]
  · simp [Tryd.f65, smoothNew_r, limD, hw, axN, madeR, axis0, drwK_end]
def driveN (w c : Int) : D := if driveR w c then .agg [.int .i64 0, .int .i64 w, .int .i64 0, .int .i64 (-1), .int .i64 c, .bool false, .int .i64 0, .int .i64 c, .bool false, .int .i64 0, .int .i64 c, .bool false, .int .i64 0, .int .i64 0, .bool false, .int .i64 0]
  else .agg [.int .i64 0, .int .i64 0, .int .i64 0, .int .i64 0, .int .i64 0, .bool false, .int .i64 0, .int .i64 0, .bool false, .int .i64 0, .int .i64 0, .bool false, .int .i64 0, .int .i64 0, .bool false, .int .i64 0]
theorem driveNew_r (w c : Int) : callT ctx 66 [.d (.int .i64 w), .d (.int .i64 c)] [] = some (.ret (.tup [.d (driveN w c), .d (.int .i64 (if driveR w c then 0 else 1))]), []) := by
  rw [run66 (by simp)]
  by_cases hw : 1 ≤ w ∧ w ≤ 100
  · by_cases hc : 1 ≤ c ∧ c ≤ 20
    · simp [Tryd.f66, watchNew_r, bounceNew_r, driveN, driveR, hw, hc, drwK_end]
    · simp [Tryd.f66, watchNew_r, bounceNew_r, driveN, driveR, hw, hc, drwK_end]
  · simp [Tryd.f66, watchNew_r, bounceNew_r, driveN, driveR, hw, drwK_end]
theorem rightAxis_r (a : Ax) : callT ctx 44 [.d (axD a)] [] = some (.ret (.d (.bool (axR a))), []) := by
  have h1 := axisNew_r a.l a.win a.home a.fast a.creep
  have h2 := driveNew_r a.watch a.count
  rw [run44 (by simp)]
  unfold axR
  cases hm : madeR a.l a.win a.home a.fast a.creep <;> cases hd : driveR a.watch a.count <;>
    simp [hm, hd, axN, axisD, axis0, driveN, limD] at h1 h2 <;>
    simp [Tryd.f44, axD, h1, h2, drwK_end]
theorem rightFuel_r (n : Int) : callT ctx 41 [.d (.int .i64 n)] [] = some (.ret (.d (.bool (decide (1 ≤ n ∧ n ≤ 16384)))), []) := by
  rw [run41 (by simp)]
  simp [Tryd.f41, drwK_end]
theorem small_r (n : Int) : callT ctx 88 [.d (.int .i64 n)] [] = some (.ret (.d (.int .i64 (smP n))), []) := by
  rw [run88 (by simp)]
  simp [Tryd.f88, smP, drwK_end]
  grind
theorem as_r (n : Int) : callT ctx 32 [.d (.int .i64 n)] [] = some (.ret (.d (.int .i64 (asR n))), []) := by
  rw [run32 (by simp)]
  by_cases h1 : n < 0 <;> by_cases h2 : 1000 < n <;> simp [Tryd.f32, asR, h1, h2, drwK_end]
end Go.Am
end
section
namespace Go.Am
open Go Go.Proofs
variable [Inhabited Mx2]
set_option maxRecDepth 20000
@[simp] theorem up_err {ρ bs : List Nat} : up ρ bs .err = .err := rfl
@[simp] theorem vw_err {m ρ bor nv} : vw m ρ bor nv .err = .err := rfl
theorem i64_of {s : List UInt8} {n : Int} (h : Go.Lib.parseIntB 64 s = .ok n) : I64' n := by
  rcases parseI_ok h with ⟨_, u, rfl, hu⟩ | ⟨_, u, rfl, hu⟩ <;> (unfold I64'; omega)
theorem number_r (s : List UInt8) (hs : s.length ≤ 281474976710656) : callT ctx 87 [.d (.str s)] [] = some (.ret (.tup [.d (.int .i64 ((numF s).getD 0)), .d (.bool (numF s).isSome)]), []) := by
  rw [run87 (by simp)]
  unfold numF
  rcases hp : Go.Lib.parseIntB 64 s with n | _ | _
  · have hn := i64_of hp
    by_cases hi : Go.Lib.itoa n = s
    · simp [Tryd.f87, hs, piA, hp, hn, hi, drwK_end]
    · simp [Tryd.f87, hs, piA, hp, hn, hi, drwK_end]
  · simp [Tryd.f87, hs, piA, hp, drwK_end]
  · simp [Tryd.f87, hs, piA, hp, drwK_end]
theorem nums_loop (W : List (List UInt8)) (hW : W.length ≤ 1000000) (hw : ∀ w ∈ W, w.length ≤ 281474976710656) (k : Kt) (R : Ans) : ∀ (rest pre : List (List UInt8)) (acc : List Int) (v : Nat), W = pre ++ rest → acc.length = pre.length →
    (match numsF rest with
      | some l => ∀ v, k (.exit 0) ⟨28, gl0, [(4, true, .vec 300 v 0 (acc ++ l).length), (9, true, .d (.list (W.map D.str))), (10, true, .d (.int .i64 W.length)), (11, true, .d (.int .i64 W.length)), (12, true, .d (.bool false))], [⟨300, v, .vec 1 ((acc ++ l).map fun n => D.int .i64 n)⟩]⟩ = R
      | none => ∀ M, k .ret ⟨28, gl0, [(2, true, .lit (.slice none 0 0)), (3, true, .d (.bool false))], M⟩ = R) →
    denK ctx 54 (.loop (Code.at (codeOf Tryd.f54) [1, 1, 0, 1, 0, 0])) ⟨28, gl0, [(4, true, .vec 300 v 0 acc.length), (9, true, .d (.list (W.map D.str))), (10, true, .d (.int .i64 W.length)), (11, true, .d (.int .i64 pre.length))], [⟨300, v, .vec 1 (acc.map fun n => D.int .i64 n)⟩]⟩ k = R
  | [], pre, acc, v, e, ha, hx => by
    subst e
    simp [numsF] at hx
    rw [denK_loop]
    simp [Tryd.f54, hx]
  | w :: rest, pre, acc, v, e, ha, hx => by
    have hn := number_r w (hw w (by rw [e]; simp))
    have hl : W.length = pre.length + (rest.length + 1) := by rw [e]; simp
    have h1 : (pre.length : Int) < W.length := by omega
    have h1' : pre.length < W.length := by omega
    have h2 : IntKind.i64.wrap ((pre.length : Int) + 1) = pre.length + 1 := wrap_id (by unfold I64; omega)
    have h3 : acc.length + 1 ≤ 4611686018427387904 ∧ (acc.length + 1) * 8 ≤ 140737488355328 := by omega
    have hg : W[pre.length] = w := by
      have : W[pre.length]? = some w := by rw [e]; simp
      exact (List.getElem?_eq_some_iff.1 this).2
    unfold numsF at hx
    rw [denK_loop]
    cases hf : numF w with
    | none =>
      rw [hf] at hx hn
      simp at hx hn
      simp [Tryd.f54, h1, h1', hg, hn, hx]
    | some n =>
      rw [hf] at hx hn
      simp at hx hn
      have ih := nums_loop W hW hw k R rest (pre ++ [w]) (acc ++ [n]) (v + 1) (by simp [e]) (by simp [ha]) (by
        cases hr : numsF rest with
        | none => rw [hr] at hx; exact hx
        | some l => rw [hr] at hx; simpa using hx)
      simp [Tryd.f54] at ih ⊢
      simp [h1, h1', h2, h3, hg, hn, ih]
end Go.Am
end
section
namespace Go.Am
open Go Go.Proofs
variable [Inhabited Mx2]
set_option maxRecDepth 20000
theorem numbers_r (W : List (List UInt8)) (hW : W.length ≤ 1000000) (hw : ∀ w ∈ W, w.length ≤ 281474976710656) :
    callT ctx 54 [.d (.list (W.map D.str))] [] = match numsF W with
      | some l => some (.ret (.tup [.d (.list (l.map fun n => D.int .i64 n)), .d (.bool true)]), [])
      | none => some (.ret (.tup [.d (.list []), .d (.bool false)]), []) := by
  have hl := fun k R hx => nums_loop W hW hw k R W [] [] 1 rfl rfl hx
  rw [run54 (by simp)]
  cases hn : numsF W with
  | some l =>
    simp [Tryd.f54, hn] at hl ⊢
    rw [hl _ (some (.ret (.tup [.d (.list (l.map fun n => D.int .i64 n)), .d (.bool true)]), [])) (by simp)]
  | none =>
    simp [Tryd.f54, hn] at hl ⊢
    rw [hl _ (some (.ret (.tup [.d (.list []), .d (.bool false)]), [])) (by simp)]
theorem axisOf_r (l : List Int) (h : l.length = 12) : callT ctx 55 [.d (.list (l.map fun n => D.int .i64 n))] [] = some (.ret (.d (axD (axOf smP l))), []) := by
  obtain ⟨a, b, c, d, e, f, g, h, i, j, k, m, rfl⟩ : ∃ a b c d e f g h i j k m, l = [a, b, c, d, e, f, g, h, i, j, k, m] := by
    match l, h with
    | [a, b, c, d, e, f, g, h, i, j, k, m], _ => exact ⟨a, b, c, d, e, f, g, h, i, j, k, m, rfl⟩
  rw [run55 (by simp)]
  simp [Tryd.f55, small_r, axOf, axD, drwK_end]
end Go.Am
end
section
namespace Go.Am
open Go Go.Proofs
variable [Inhabited Mx2]
set_option maxRecDepth 20000
theorem numsF_len : ∀ {W : List (List UInt8)} {l : List Int}, numsF W = some l → l.length = W.length
  | [], l, h => by cases h; rfl
  | w :: W, l, h => by
    unfold numsF at h
    split at h
    · split at h
      · rename_i hl
        cases h
        simp [numsF_len hl]
      · cases h
    · cases h
def cM (c : Cn) (ver : Nat) : List (Nat × Cont) := [(0, .box [.d (.int .i64 c.fuel), .vec 1 ver 0 c.axes.length]), (ver, .vec 12 (c.axes.map axD))]
theorem line_r (c : Cn) (w : List UInt8) (ws : List (List UInt8)) (hc : c.axes.length ≤ 4) (hW : ws.length ≤ 1000) (hw : ∀ x ∈ ws, x.length ≤ 281474976710656) :
    ∃ ver, callT ctx 29 [.ptr 0 0 0, .d (.list ((w :: ws).map D.str))] [.box [.d (.int .i64 c.fuel), .vec 1 0 0 c.axes.length], .vec 12 (c.axes.map axD)] = some (.ret (.d (.int .i64 (lineF smP c (w :: ws)).2)), cM (lineF smP c (w :: ws)).1 ver) := by
  have hn := numbers_r ws (by omega) hw
  have hr := rightAxis_r
  have h0 : (1 : Int) ≤ ws.length + 1 := by omega
  rw [run29 (by simp)]
  unfold lineF
  simp only [List.tail_cons, List.head?_cons, Option.some.injEq]
  cases hns : numsF ws with
  | none =>
    rw [hns] at hn
    simp only at hn
    refine ⟨0, ?_⟩
    simp [Tryd.f29, hn, cM, h0, drwK_end]
  | some l =>
    rw [hns] at hn
    simp only at hn ⊢
    have hlen := numsF_len hns
    by_cases h1 : w = [102, 117, 101, 108] ∧ l.length = 1
    · obtain ⟨rfl, hl1⟩ := h1
      obtain ⟨n, rfl⟩ : ∃ n, l = [n] := by
        match l, hl1 with
        | [n], _ => exact ⟨n, rfl⟩
      by_cases hf : c.fuel = 0
      · by_cases hb : 1 ≤ n ∧ n ≤ 16384
        · refine ⟨0, ?_⟩
          simp [Tryd.f29, hn, cM, h0, drwK_end, hf, hb, rightFuel_r]
        · refine ⟨0, ?_⟩
          simp [Tryd.f29, hn, cM, h0, drwK_end, hf, hb, rightFuel_r]
      · refine ⟨0, ?_⟩
        simp [Tryd.f29, hn, cM, h0, drwK_end, hf]
    · rw [if_neg h1]
      by_cases h2 : w = [97, 120, 105, 115] ∧ l.length = 12
      · obtain ⟨rfl, hl1⟩ := h2
        have ha := axisOf_r l hl1
        have hra := hr (axOf smP l)
        generalize axOf smP l = a at ha hra ⊢
        have hl1' : ¬ l.length = 1 := by omega
        cases hx : axR a with
        | false =>
          rw [hx] at hra
          refine ⟨0, ?_⟩
          simp [axD] at ha hra
          simp [Tryd.f29, hn, cM, h0, drwK_end, hl1, ha, hra]
        | true =>
          rw [hx] at hra
          simp [axD] at ha hra
          by_cases h4 : c.axes.length = 4
          · refine ⟨0, ?_⟩
            simp [Tryd.f29, hn, cM, h0, drwK_end, hl1, ha, hra, h4]
          · have h4' : ¬ ((c.axes.length : Int) = 4) := by omega
            have h3 : (c.axes.length + 1) * 96 ≤ 140737488355328 ∧ c.axes.length + 1 ≤ 4611686018427387904 := by omega
            refine ⟨1, ?_⟩
            simp [Tryd.f29, hn, cM, h0, drwK_end, hl1, ha, hra, h4, h4', h3, axD]
      · refine ⟨0, ?_⟩
        rw [if_neg h2]
        have g1 : w = [102, 117, 101, 108] → ¬ ((l.length : Int) = 1) := fun e h => h1 ⟨e, by omega⟩
        have g2 : w = [97, 120, 105, 115] → ¬ ((l.length : Int) = 12) := fun e h => h2 ⟨e, by omega⟩
        by_cases e1 : w = [102, 117, 101, 108]
        · have g1 := g1 e1
          subst e1
          simp [Tryd.f29, hn, cM, h0, drwK_end, g1]
        · by_cases e2 : w = [97, 120, 105, 115]
          · have g2 := g2 e2
            subst e2
            simp [Tryd.f29, hn, cM, h0, drwK_end, g2]
          · simp [Tryd.f29, hn, cM, h0, drwK_end, e1, e2]
end Go.Am
end
section
namespace Go.Am
open Go Go.Proofs
variable [Inhabited Mx2]
set_option maxRecDepth 20000
theorem wordsA_props : ∀ (s cur : List UInt8), (∀ w ∈ wordsA s cur, w ≠ [] ∧ w.length ≤ s.length + cur.length) ∧ (wordsA s cur).length ≤ s.length + 1
  | [], cur => by
    unfold wordsA
    split
    · simp
    · rename_i h
      simp [h]
  | x :: s, cur => by
    obtain ⟨a1, a2⟩ := wordsA_props s []
    obtain ⟨b1, b2⟩ := wordsA_props s (cur ++ [x])
    unfold wordsA
    split
    · split
      · refine ⟨fun w hw => ?_, by simp; omega⟩
        obtain ⟨h1, h2⟩ := a1 w hw
        exact ⟨h1, by simp at h2 ⊢; try omega⟩
      · rename_i h
        refine ⟨fun w hw => ?_, by simp; omega⟩
        rcases List.mem_cons.1 hw with rfl | hw
        · exact ⟨h, by simp⟩
        · obtain ⟨h1, h2⟩ := a1 w hw
          exact ⟨h1, by simp at h2 ⊢; try omega⟩
    · refine ⟨fun w hw => ?_, by simp; omega⟩
      obtain ⟨h1, h2⟩ := b1 w hw
      exact ⟨h1, by simp at h2 ⊢; try omega⟩
theorem ff_r (s : List UInt8) (hs : s.length ≤ 4294967296) : callT ctx 27 [.d (.str s), .fn 28 []] [] = some (.ret (.d (.list ((wordsF s).map D.str))), []) := by
  have := fields_eq ⟨s.toArray⟩
  simp only at this
  rw [orc_run27]
  simp only [orcAns, ffO, hs, and_self, if_true]
  rw [← this, List.map_map]
  rfl
theorem split_r (s : List UInt8) (hs : s.length < 4294967281) : callT ctx 26 [.d (.str s), .d (.str [10])] [] = some (.ret (.d (.list ((cutC 10 s).map D.str))), []) := by
  rw [orc_run26]
  simp [orcAns, liftO, splitO, toDs, hs, split_eq]
def pM (c : Cn) (v : Nat) : Mem := [⟨200, 1, .box [.d (.int .i64 0), .lit (.slice none 0 0)]⟩, ⟨350, 1, .box [.d (.int .i64 c.fuel), .vec 351 v 0 c.axes.length]⟩, ⟨351, v, .vec 12 (c.axes.map axD)⟩]
theorem lineF_axes (sm : Int → Int) (c : Cn) (ws : List (List UInt8)) (h : c.axes.length ≤ 4) : (lineF sm c ws).1.axes.length ≤ 4 := by
  unfold lineF
  split
  · exact h
  · split
    · repeat' split
      all_goals exact h
    · split
      · split
        · exact h
        · split
          · exact h
          · simp; omega
      · exact h
theorem conf_loop (L : List (List UInt8)) (hL : L.length ≤ 1000000000) (k : Kt) (R : Cn × Int × Int → Ans)
    (hbad : ∀ (e line : Int) (c : Cn) (v : Nat), k .ret ⟨60, gl0, [(2, true, .ptr 200 1 0), (3, true, .d (.int .i64 e)), (4, true, .d (.int .i64 line))], pM c v⟩ = R (cn0, e, line))
    (hend : ∀ (c : Cn) (v : Nat), c.axes.length ≤ 4 → k (.exit 0) ⟨60, gl0, [(2, true, .ptr 200 1 0), (5, true, .ptr 350 1 0), (11, true, .d (.list (L.map D.str))), (12, true, .d (.int .i64 L.length)), (13, true, .d (.int .i64 L.length)), (14, true, .d (.bool false))], pM c v⟩ = R (linesF smP [] L.length c)) :
    ∀ (rest pre : List (List UInt8)) (c : Cn) (v : Nat), L = pre ++ rest → c.axes.length ≤ 4 →
    denK ctx 14 (.loop (Code.at (codeOf Tryd.f14) [1, 1, 0, 1, 0, 0])) ⟨60, gl0, [(2, true, .ptr 200 1 0), (5, true, .ptr 350 1 0), (11, true, .d (.list (L.map D.str))), (12, true, .d (.int .i64 L.length)), (13, true, .d (.int .i64 pre.length))], pM c v⟩ k = R (linesF smP rest pre.length c)
  | [], pre, c, v, e, hc => by
    obtain rfl : L = pre := by simpa using e
    have hend := hend c v hc
    rw [denK_loop]
    simp [Tryd.f14, pM] at hend ⊢
    simp [hend]
  | s :: rest, pre, c, v, e, hc => by
    have ih := fun c v hc => conf_loop L hL k R hbad hend rest (pre ++ [s]) c v (by simp [e]) hc
    have hl : L.length = pre.length + (rest.length + 1) := by rw [e]; simp
    have h1 : (pre.length : Int) < L.length := by omega
    have h1' : pre.length < L.length := by omega
    have h2 : IntKind.i64.wrap ((pre.length : Int) + 1) = pre.length + 1 := wrap_id (by unfold I64; omega)
    have hg : L[pre.length] = s := by
      have : L[pre.length]? = some s := by rw [e]; simp
      exact (List.getElem?_eq_some_iff.1 this).2
    unfold linesF
    rw [denK_loop]
    by_cases hlong : 512 ≤ pre.length ∨ 256 < s.length
    · rw [if_pos hlong]
      have hbad := hbad 13 (pre.length + 1) c v
      simp [Tryd.f14, pM] at hbad ⊢
      by_cases h3 : 512 ≤ pre.length
      · have h3' : (512 : Int) ≤ pre.length := by omega
        simp [h1, h1', h2, hg, h3, h3', hbad]
      · have h3' : ¬ (512 : Int) ≤ pre.length := by omega
        have h4 : 256 < s.length := by omega
        have h4' : (256 : Int) < s.length := by omega
        simp [h1, h1', h2, hg, h3, h3', h4, h4', hbad]
    · rw [if_neg hlong]
      have h3 : ¬ 512 ≤ pre.length := by omega
      have h3' : ¬ (512 : Int) ≤ pre.length := by omega
      have h4 : ¬ 256 < s.length := by omega
      have h4' : ¬ (256 : Int) < s.length := by omega
      have hff := ff_r s (by omega)
      obtain ⟨w1, w2⟩ := wordsA_props s []
      change (∀ w ∈ wordsF s, _) at w1
      change (wordsF s).length ≤ _ at w2
      cases hws : wordsF s with
      | nil =>
        rw [if_pos (by left; rfl)]
        have ih := ih c v hc
        rw [hws] at hff
        simp only [List.map_nil] at hff
        simp [Tryd.f14, pM] at ih ⊢
        simp [-orc_run27, h1, h1', h2, hg, h3, h3', h4, h4', hff, ih]
      | cons w ws =>
        rw [hws] at hff w1 w2
        simp only [List.map_cons] at hff
        obtain ⟨hw0, hw1⟩ := w1 w (by simp)
        have hn0 : ¬ ((ws.length : Int) + 1 = 0) := by omega
        obtain ⟨x, w', rfl⟩ : ∃ x w', w = x :: w' := by
          cases w with
          | nil => exact absurd rfl hw0
          | cons x w' => exact ⟨x, w', rfl⟩
        have hs0 : strAt (x :: w') 0 = x := rfl
        by_cases hq : x = 35
        · subst hq
          have h35 : ((35 : UInt8).toNat : Int) = 35 := rfl
          rw [if_pos (by right; rfl)]
          have ih := ih c v hc
          simp [Tryd.f14, pM] at ih ⊢
          simp [-orc_run27, h1, h1', h2, hg, h3, h3', h4, h4', hff, hn0, hs0, h35, ih]
        · rw [if_neg (by rintro (h | h); · cases h
                         · simp at h; exact hq h)]
          have hq' : ¬ ((x.toNat : Int) = 35) := fun e => hq (UInt8.toNat_inj.1 (show x.toNat = (35 : UInt8).toNat by have : (35 : UInt8).toNat = 35 := rfl; omega))
          obtain ⟨ver, hline⟩ := line_r c (x :: w') ws hc (by simp at w2; omega) (fun y hy => by have := (w1 y (by simp [hy])).2; simp at this; omega)
          have hax := lineF_axes smP c ((x :: w') :: ws) hc
          generalize lineF smP c ((x :: w') :: ws) = ce at hline hax ⊢
          obtain ⟨c', er⟩ := ce
          simp only at hline hax ⊢
          by_cases he : er = 0
          · subst he
            have ih := ih c' (v + ver) hax
            simp [Tryd.f14, pM, cM] at ih hline ⊢
            simp [-orc_run27, h1, h1', h2, hg, h3, h3', h4, h4', hff, hn0, hs0, hq', hline, ih]
          · rw [if_neg he]
            have hbad := hbad er (pre.length + 1) c' (v + ver)
            simp [Tryd.f14, pM, cM] at hbad hline ⊢
            simp [-orc_run27, h1, h1', h2, hg, h3, h3', h4, h4', hff, hn0, hs0, hq', hline, he, hbad]
theorem cutA_len (c : UInt8) : ∀ s cur : List UInt8, (cutA c s cur).length ≤ s.length + 1
  | [], cur => by simp [cutA]
  | x :: s, cur => by
    unfold cutA
    split
    · have := cutA_len c s []
      simp; omega
    · have := cutA_len c s (cur ++ [x])
      simp; omega
def cfR (r : Cn × Int × Int) : Ans := some (.ret (.tup [.d (cnD r.1), .d (.int .i64 r.2.1), .d (.int .i64 r.2.2)]), [])
theorem confParse_r (t : List UInt8) (ht : t.length ≤ 999999999) : callT ctx 14 [.d (.str t)] [] = cfR (confF smP t) := by
  have hs := split_r t (by omega)
  have hlen := cutA_len 10 t []
  have hl := fun k R hbad hend => conf_loop (cutC 10 t) (by unfold cutC; omega) k R hbad hend (cutC 10 t) [] cn0 1 rfl (by simp [cn0])
  rw [run14 (by simp)]
  unfold confF
  generalize cutC 10 t = L at hs hl ⊢
  simp [Tryd.f14, pM, cn0] at hl
  simp [-orc_run26, Tryd.f14, hs]
  rw [hl _ cfR]
  · rfl
  · intro e line c v
    simp [cfR, cn0, cnD]
  · intro c v hc
    by_cases h1 : c.fuel = 0
    · simp [linesF, h1, cfR, cn0, cnD]
    · cases hax : c.axes with
      | nil => simp [linesF, h1, hax, cfR, cn0, cnD]
      | cons a r =>
        have hne : ¬ ((r.length : Int) + 1 = 0) := by omega
        simp [linesF, h1, hax, hne, cfR, cn0, cnD]
end Go.Am
end
section
namespace Go.Am
open Go Go.Proofs
variable [Inhabited Mx2]
set_option maxRecDepth 20000
theorem val_up : ∀ (l : List UInt8), (∀ c ∈ l, dgB c) → valA l 0 < 10 ^ l.length := by
  intro l
  induction h : l.length generalizing l with
  | zero =>
    intro _
    obtain rfl := List.eq_nil_of_length_eq_zero h
    simp [valA]
  | succ n ih =>
    intro hd
    have h0 : l ≠ [] := by rintro rfl; simp at h
    obtain ⟨m, c, rfl⟩ : ∃ m c, l = m ++ [c] := ⟨l.dropLast, l.getLast h0, (List.dropLast_concat_getLast h0).symm⟩
    have := ih m (by simpa using h) (fun x hx => hd x (by simp [hx]))
    have hc := (hd c (by simp)).2
    rw [valA_app, Nat.pow_succ]
    omega
theorem w64 {y : Int} (h1 : 0 ≤ y) (h2 : y ≤ 18446744073709551615) : IntKind.u64.wrap y = y := by simp [IntKind.wrap, IntKind.bits, IntKind.signed]; omega
theorem w8 {y : Int} (h1 : 0 ≤ y) (h2 : y ≤ 255) : IntKind.u8.wrap y = y := by simp [IntKind.wrap, IntKind.bits, IntKind.signed]; omega
theorem rnum_loop (ds : List UInt8) (hl : ds.length ≤ 19) (m : Bool) (k : Kt) (R : Ans) : ∀ (rest pre : List UInt8), ds = pre ++ rest → (∀ c ∈ pre, dgB c) →
    ((if ∀ c ∈ rest, dgB c then k (.exit 0) ⟨72, gl0, [(0, true, .d (.str ds)), (4, true, .d (.bool m)), (5, true, .d (.int .u64 (valA ds 0))), (6, true, .d (.int .i64 ds.length)), (41, true, .d (.bool false))], []⟩
      else k .ret ⟨72, gl0, [(2, true, .d (.int .i64 0)), (3, true, .d (.bool false))], []⟩) = R) →
    denK ctx 31 (.loop (Code.at (codeOf Tryd.f31) [1, 1, 1, 1, 1, 0, 1, 0, 0])) ⟨72, gl0, [(0, true, .d (.str ds)), (4, true, .d (.bool m)), (5, true, .d (.int .u64 (valA pre 0))), (6, true, .d (.int .i64 pre.length))], []⟩ k = R
  | [], pre, e, hp, hx => by
    obtain rfl : ds = pre := by simpa using e
    simp at hx
    rw [denK_loop]
    simp [Tryd.f31, hx]
  | c :: rest, pre, e, hp, hx => by
    have hlen : ds.length = pre.length + (rest.length + 1) := by rw [e]; simp
    have h1 : (pre.length : Int) < ds.length := by omega
    have h1' : pre.length < ds.length := by omega
    have h2 : IntKind.i64.wrap ((pre.length : Int) + 1) = pre.length + 1 := wrap_id (by unfold I64; omega)
    have hat : strAt ds pre.length = c := by rw [e]; simp [strAt]
    rw [denK_loop]
    by_cases hc : dgB c
    · have ih := rnum_loop ds hl m k R rest (pre ++ [c]) (by simp [e]) (fun x hx => by
        rcases List.mem_append.1 hx with hx | hx
        · exact hp x hx
        · simp at hx; subst hx; exact hc)
      have ih := ih (by
        have : (∀ d ∈ c :: rest, dgB d) ↔ ∀ d ∈ rest, dgB d := by simp [hc]
        simpa only [this] using hx)
      obtain ⟨q1, q2⟩ := hc
      have g1 : ¬ ((c.toNat : Int) < 48) := by omega
      have g2 : ¬ (57 < (c.toNat : Int)) := by omega
      have hv := val_up pre hp
      have hv2 : 10 ^ pre.length ≤ 10 ^ 18 := Nat.pow_le_pow_right (by decide) (by omega)
      have e18 : (10 : Nat) ^ 18 = 1000000000000000000 := by decide
      have w1 : IntKind.u8.wrap ((c.toNat : Int) - 48) = (c.toNat : Int) - 48 := w8 (by omega) (by omega)
      have w2 : IntKind.u64.wrap ((valA pre 0 : Int) * 10) = (valA pre 0 : Int) * 10 := w64 (by omega) (by omega)
      have w3 : IntKind.u64.wrap ((c.toNat : Int) - 48) = (c.toNat : Int) - 48 := w64 (by omega) (by omega)
      have w4 : IntKind.u64.wrap ((valA pre 0 : Int) * 10 + ((c.toNat : Int) - 48)) = ((valA (pre ++ [c]) 0 : Nat) : Int) := by rw [valA_app, w64 (by omega) (by omega)]; omega
      simp [Tryd.f31] at ih ⊢
      simp [h1, h1', h2, hat, g1, g2, w1, w2, w3, w4, ih]
    · rw [if_neg (by simp [hc])] at hx
      unfold dgB at hc
      by_cases g1 : (c.toNat : Int) < 48
      · simp [Tryd.f31, h1, h1', hat, g1, hx]
      · have g2 : 57 < (c.toNat : Int) := by omega
        simp [Tryd.f31, h1, h1', hat, g1, g2, hx]
theorem canon_iff (l : List UInt8) : canon l ↔ l ≠ [] ∧ ¬ (l.head? = some 48 ∧ 1 < l.length) ∧ ∀ c ∈ l, dgB c := by
  unfold canon
  constructor
  · rintro ⟨a, b, c⟩
    exact ⟨a, fun ⟨h, h'⟩ => by have := c h; omega, b⟩
  · rintro ⟨a, b, c⟩
    refine ⟨a, c, fun h => ?_⟩
    have : ¬ 1 < l.length := fun h' => b ⟨h, h'⟩
    have : 0 < l.length := List.length_pos_iff.2 a
    omega
def numG (m : Bool) (ds : List UInt8) : Option Int :=
  if ds = [] ∨ 19 < ds.length ∨ (ds.head? = some 48 ∧ (1 < ds.length ∨ m = true)) then none
  else if ∀ c ∈ ds, dgB c then
    (if m = true then (if valA ds 0 ≤ 9223372036854775808 then some (-(valA ds 0 : Int)) else none) else if valA ds 0 < 9223372036854775808 then some (valA ds 0 : Int) else none)
  else none
theorem numR_G (s : List UInt8) : numR s = if s.head? = some 45 then numG true s.tail else numG false s := by
  unfold numR numG
  simp only [canon_iff]
  split <;> grind
theorem neg_val {n : Nat} (h : n ≤ 9223372036854775808) : IntKind.i64.wrap (-(IntKind.i64.wrap (n : Int))) = -(n : Int) := by
  by_cases hn : n = 9223372036854775808
  · subst hn; rfl
  · rw [wrap_id (n := (n : Int)) (by unfold I64; omega), wrap_id (by unfold I64; omega)]
def numX (m : Bool) (ds : List UInt8) : Int :=
  if ds = [] ∨ 19 < ds.length ∨ (ds.head? = some 48 ∧ (1 < ds.length ∨ m = true)) then 0
  else if ∀ c ∈ ds, dgB c then (if m = true then IntKind.i64.wrap (-(IntKind.i64.wrap (valA ds 0 : Int))) else IntKind.i64.wrap (valA ds 0 : Int)) else 0
theorem numX_of {m : Bool} {ds : List UInt8} {n : Int} (h : numG m ds = some n) : numX m ds = n := by
  unfold numG at h
  unfold numX
  split at h
  · cases h
  · rename_i hg
    rw [if_neg hg]
    split at h
    · rename_i hd
      rw [if_pos hd]
      split at h
      · split at h
        · rename_i h1 h2
          cases h
          rw [if_pos h1]
          exact neg_val h2
        · cases h
      · split at h
        · rename_i h1 h2
          cases h
          rw [if_neg h1]
          exact wrap_id (by unfold I64; omega)
        · cases h
    · cases h
theorem refNumber_neg (ds : List UInt8) : callT ctx 31 [.d (.str (45 :: ds))] [] = some (.ret (.tup [.d (.int .i64 (numX true ds)), .d (.bool (numG true ds).isSome)]), []) := by
  have hs0 : strAt (45 :: ds) 0 = 45 := rfl
  have h45' : ((45 : UInt8).toNat : Int) = 45 := rfl
  have hlen : (0 : Int) < ds.length + 1 := by omega
  have hle : (1 : Int) ≤ ds.length + 1 := by omega
  rw [run31 (by simp)]
  by_cases h0 : ds = []
  · subst h0
    simp [Tryd.f31, numG, numX, hs0, h45']
  · obtain ⟨c, r, hcr⟩ : ∃ c r, ds = c :: r := by
      cases ds with
      | nil => exact absurd rfl h0
      | cons c r => exact ⟨c, r, rfl⟩
    have hs1 : strAt ds 0 = c := by rw [hcr]; rfl
    have hh : ds.head? = some c := by rw [hcr]; rfl
    have hlr : 0 < ds.length := by rw [hcr]; simp
    have hlr' : (0 : Int) < ds.length := by omega
    by_cases h1 : 19 < ds.length
    · have h1' : (19 : Int) < ds.length := by omega
      have e1 : numX true ds = 0 := by unfold numX; rw [if_pos (by simp [h1])]
      have e2 : numG true ds = none := by unfold numG; rw [if_pos (by simp [h1])]
      rw [e1, e2]
      simp [Tryd.f31, hs0, h45', hlen, hle, hs1, hlr, hlr', h0, h1, h1']
    · have h1' : ¬ (19 : Int) < ds.length := by omega
      have h1n : ds.length ≤ 19 := by omega
      have h1m : (ds.length : Int) ≤ 19 := by omega
      by_cases h2 : c = 48
      · have h2' : (c.toNat : Int) = 48 := by rw [h2]; rfl
        have e1 : numX true ds = 0 := by unfold numX; rw [if_pos (by simp [hh, h2])]
        have e2 : numG true ds = none := by unfold numG; rw [if_pos (by simp [hh, h2])]
        rw [e1, e2]
        simp [Tryd.f31, hs0, h45', hlen, hle, hs1, hlr, hlr', h0, h1, h1', h1n, h1m, h2']
      · have hng : ¬ (ds = [] ∨ 19 < ds.length ∨ (ds.head? = some 48 ∧ (1 < ds.length ∨ (true = true)))) := by
          rw [hh]
          simp [h0, h1]
          exact h2
        have hlp := fun k R hx => rnum_loop ds (by omega) true k R ds [] rfl (by simp) hx
        simp [Tryd.f31, valA] at hlp
        have h2' : ¬ ((c.toNat : Int) = 48) := fun e => h2 (UInt8.toNat_inj.1 (show c.toNat = (48 : UInt8).toNat by have : (48 : UInt8).toNat = 48 := rfl; omega))
        simp [Tryd.f31, hs0, h45', hlen, hle, hs1, hlr, hlr', h0, h1, h1', h1n, h1m, h2']
        rw [hlp]
        by_cases hd : ∀ c ∈ ds, dgB c
        · by_cases hv : valA ds 0 ≤ 9223372036854775808
          · have hv' : (valA ds 0 : Int) ≤ 9223372036854775808 := by omega
            have e1 : numX true ds = IntKind.i64.wrap (-(IntKind.i64.wrap (valA ds 0 : Int))) := by unfold numX; rw [if_neg hng, if_pos hd]; rfl
            have e2 : numG true ds = some (-(valA ds 0 : Int)) := by unfold numG; rw [if_neg hng, if_pos hd]; simp [hv]
            rw [if_pos hd, e1, e2]
            simp [hv']
          · have hv' : ¬ (valA ds 0 : Int) ≤ 9223372036854775808 := by omega
            have e1 : numX true ds = IntKind.i64.wrap (-(IntKind.i64.wrap (valA ds 0 : Int))) := by unfold numX; rw [if_neg hng, if_pos hd]; rfl
            have e2 : numG true ds = none := by unfold numG; rw [if_neg hng, if_pos hd]; simp [hv]
            rw [if_pos hd, e1, e2]
            simp [hv']
        · have e1 : numX true ds = 0 := by unfold numX; rw [if_neg hng, if_neg hd]
          have e2 : numG true ds = none := by unfold numG; rw [if_neg hng, if_neg hd]
          rw [if_neg hd, e1, e2]
          simp
theorem refNumber_pos (ds : List UInt8) (h45 : ds.head? ≠ some 45) : callT ctx 31 [.d (.str ds)] [] = some (.ret (.tup [.d (.int .i64 (numX false ds)), .d (.bool (numG false ds).isSome)]), []) := by
  rw [run31 (by simp)]
  by_cases h0 : ds = []
  · subst h0
    simp [Tryd.f31, numG, numX]
  · obtain ⟨c, r, hcr⟩ : ∃ c r, ds = c :: r := by
      cases ds with
      | nil => exact absurd rfl h0
      | cons c r => exact ⟨c, r, rfl⟩
    have hs1 : strAt ds 0 = c := by rw [hcr]; rfl
    have hh : ds.head? = some c := by rw [hcr]; rfl
    have hlr : 0 < ds.length := by rw [hcr]; simp
    have hlr' : (0 : Int) < ds.length := by omega
    have g45 : ¬ ((c.toNat : Int) = 45) := fun e => h45 (by rw [hh, show c = 45 from UInt8.toNat_inj.1 (show c.toNat = (45 : UInt8).toNat by have : (45 : UInt8).toNat = 45 := rfl; omega)])
    by_cases h1 : 19 < ds.length
    · have h1' : (19 : Int) < ds.length := by omega
      have e1 : numX false ds = 0 := by unfold numX; rw [if_pos (by simp [h1])]
      have e2 : numG false ds = none := by unfold numG; rw [if_pos (by simp [h1])]
      rw [e1, e2]
      simp [Tryd.f31, hs1, hlr, hlr', h0, g45, h1, h1']
    · have h1' : ¬ (19 : Int) < ds.length := by omega
      have h1n : ds.length ≤ 19 := by omega
      have h1m : (ds.length : Int) ≤ 19 := by omega
      by_cases h2 : c = 48 ∧ 1 < ds.length
      · have h2' : (c.toNat : Int) = 48 := by rw [h2.1]; rfl
        have e1 : numX false ds = 0 := by unfold numX; rw [if_pos (by simp [hh, h2])]
        have e2 : numG false ds = none := by unfold numG; rw [if_pos (by simp [hh, h2])]
        rw [e1, e2]
        have l1 : ¬ ((ds.length : Int) ≤ 1) := by omega
        simp [Tryd.f31, hs1, hlr, hlr', h0, g45, h1, h1', h1n, h1m, h2', l1, h2.2]
      · have hng : ¬ (ds = [] ∨ 19 < ds.length ∨ (ds.head? = some 48 ∧ (1 < ds.length ∨ (false = true)))) := by
          rw [hh]
          simp [h0, h1]
          intro e; have : ¬ 1 < ds.length := fun h => h2 ⟨e, h⟩; omega
        have hlp := fun k R hx => rnum_loop ds (by omega) false k R ds [] rfl (by simp) hx
        simp [Tryd.f31, valA] at hlp
        have h2' : (c.toNat : Int) = 48 → (ds.length : Int) ≤ 1 := fun e => by
          have e' : c = 48 := UInt8.toNat_inj.1 (show c.toNat = (48 : UInt8).toNat by have : (48 : UInt8).toNat = 48 := rfl; omega)
          have : ¬ 1 < ds.length := fun h => h2 ⟨e', h⟩
          omega
        by_cases h3 : (c.toNat : Int) = 48
        all_goals (try have h4 := h2' h3)
        all_goals simp [Tryd.f31, hs1, hlr, hlr', h0, g45, h1, h1', h1n, h1m, h3]
        all_goals (try simp [h4])
        all_goals rw [hlp]
        all_goals
          by_cases hd : ∀ c ∈ ds, dgB c
          · by_cases hv : valA ds 0 < 9223372036854775808
            · have hv' : (valA ds 0 : Int) < 9223372036854775808 := by omega
              have e1 : numX false ds = IntKind.i64.wrap (valA ds 0 : Int) := by unfold numX; rw [if_neg hng, if_pos hd]; rfl
              have e2 : numG false ds = some ((valA ds 0 : Int)) := by unfold numG; rw [if_neg hng, if_pos hd]; simp [hv]
              rw [if_pos hd, e1, e2]
              simp [hv']
            · have hv' : ¬ (valA ds 0 : Int) < 9223372036854775808 := by omega
              have e1 : numX false ds = IntKind.i64.wrap (valA ds 0 : Int) := by unfold numX; rw [if_neg hng, if_pos hd]; rfl
              have e2 : numG false ds = none := by unfold numG; rw [if_neg hng, if_pos hd]; simp [hv]
              rw [if_pos hd, e1, e2]
              simp [hv']
          · have e1 : numX false ds = 0 := by unfold numX; rw [if_neg hng, if_neg hd]
            have e2 : numG false ds = none := by unfold numG; rw [if_neg hng, if_neg hd]
            rw [if_neg hd, e1, e2]
            simp
theorem refNumber_r (s : List UInt8) : ∃ x, callT ctx 31 [.d (.str s)] [] = some (.ret (.tup [.d (.int .i64 x), .d (.bool (numR s).isSome)]), []) ∧ ∀ n, numR s = some n → x = n := by
  rw [numR_G]
  by_cases h45 : s.head? = some 45
  · rw [if_pos h45]
    obtain ⟨ds, rfl⟩ : ∃ r, s = 45 :: r := by
      cases s with
      | nil => simp at h45
      | cons c r => simp at h45; exact ⟨r, by rw [h45]⟩
    exact ⟨_, refNumber_neg ds, fun n h => numX_of h⟩
  · rw [if_neg h45]
    exact ⟨_, refNumber_pos s h45, fun n h => numX_of h⟩
end Go.Am
end
section
namespace Go.Am
open Go Go.Proofs
variable [Inhabited Mx2]
set_option maxRecDepth 20000
theorem rwords_loop (s : List UInt8) (hs : s.length ≤ 1000000) (k : Kt) (R : Ans) : ∀ (r p cur : List UInt8) (out : List (List UInt8)) (v : Nat), s = p ++ (cur ++ r) → out.length ≤ p.length →
    (∀ v, k (.exit 0) ⟨35, gl0, [(0, true, .d (.str s)), (3, true, .vec 250 v 0 (out ++ wordsA r cur).length), (4, true, .d (.int .i64 (s.length + 1))), (5, true, .d (.int .i64 (s.length + 1))), (9, true, .d (.bool false))], [⟨250, v, .vec 1 ((out ++ wordsA r cur).map D.str)⟩]⟩ = R) →
    denK ctx 30 (.loop (Code.at (codeOf Tryd.f30) [1, 1, 1, 0, 1, 0, 0])) ⟨35, gl0, [(0, true, .d (.str s)), (3, true, .vec 250 v 0 out.length), (4, true, .d (.int .i64 p.length)), (5, true, .d (.int .i64 (p.length + cur.length)))], [⟨250, v, .vec 1 (out.map D.str)⟩]⟩ k = R
  | [], p, cur, out, v, e, ho, hx => by
    have hl : s.length = p.length + cur.length := by rw [e]; simp
    have h1 : (p.length : Int) + cur.length = s.length := by omega
    have h2 : IntKind.i64.wrap ((s.length : Int) + 1) = s.length + 1 := wrap_id (by unfold I64; omega)
    have h3 : ¬ ((s.length : Int) + 1 ≤ s.length) := by omega
    rw [denK_loop, h1]
    cases cur with
    | nil =>
      have hp : (p.length : Int) = s.length := by simp at hl; omega
      have hp0 : ¬ p.length < s.length := by omega
      simp [wordsA] at hx
      simp [Tryd.f30] at hx ⊢
      simp [hp, hp0, h2]
      rw [denK_loop]
      simp [h3, hx]
    | cons c cur =>
      have hp : (p.length : Int) < s.length := by simp at hl; omega
      have hp0 : p.length < s.length := by omega
      have hsl : s.drop p.length = c :: cur := by rw [e]; simp
      have hpn : p.length ≤ s.length := by omega
      have hpi : (p.length : Int) ≤ s.length := by omega
      have h5 : (out.length + 1) * 16 ≤ 140737488355328 ∧ out.length ≤ 4611686018427387903 := by omega
      simp [wordsA] at hx
      simp [Tryd.f30] at hx ⊢
      simp [hp, hp0, h2, hpn, hpi, h5, hsl]
      rw [denK_loop]
      simp [h3, hx]
  | c :: r, p, cur, out, v, e, ho, hx => by
    have hl : s.length = p.length + cur.length + (r.length + 1) := by rw [e]; simp; omega
    have h1 : (p.length : Int) + cur.length ≤ s.length := by omega
    have h1' : ¬ ((p.length : Int) + cur.length = s.length) := by omega
    have h1n : p.length + cur.length < s.length := by omega
    have h1i : (p.length : Int) + cur.length < s.length := by omega
    have h2 : IntKind.i64.wrap ((p.length : Int) + cur.length + 1) = p.length + cur.length + 1 := wrap_id (by unfold I64; omega)
    have hnn : ((p.length : Int) + cur.length).toNat = p.length + cur.length := by omega
    have hz : (0 : Int) ≤ (p.length : Int) + cur.length := by omega
    have hat : strAt s (p.length + cur.length) = c := by rw [e]; simp [strAt]
    rw [denK_loop]
    by_cases hc : c = 32
    · subst hc
      have h32 : ((32 : UInt8).toNat : Int) = 32 := rfl
      cases cur with
      | nil =>
        have ih := fun v hx => rwords_loop s hs k R r (p ++ [32]) [] out v (by simp [e]) (by simp; omega) hx
        have ih := ih v (by simpa [wordsA] using hx)
        have hlt : ¬ ((p.length : Int) < p.length) := by omega
        simp at h1 h1' h1n h1i h2 hat
        simp [Tryd.f30] at ih ⊢
        simp [h1, h1', h1n, h1i, h2, hat, ih]
      | cons d cur =>
        have hp : (p.length : Int) < p.length + (cur.length + 1) := by omega
        have hsl : (s.take (p.length + (cur.length + 1))).drop p.length = d :: cur := by
          rw [e, List.drop_take]; simp
        have h5 : (out.length + 1) * 16 ≤ 140737488355328 ∧ out.length ≤ 4611686018427387903 := by simp at hl; omega
        have ih := fun v hx => rwords_loop s hs k R r (p ++ (d :: cur) ++ [32]) [] (out ++ [d :: cur]) v (by simp [e]) (by simp; omega) hx
        have ih := fun v => ih v (by simpa [wordsA] using hx)
        have hle : (p.length : Int) ≤ p.length + (cur.length + 1) := by omega
        have hln : (p.length : Int) + (cur.length + 1) ≤ s.length := by simp at hl; omega
        have hn2 : ((p.length : Int) + (cur.length + 1)).toNat = p.length + (cur.length + 1) := by omega
        simp at h1 h1' h1n h1i h2 hnn hz hat
        simp [Tryd.f30, Int.add_assoc] at ih h2 ⊢
        simp [h1, h1', h1n, h1i, h2, hnn, hz, hat, hp, hle, hln, hn2, h5, hsl, ih, Int.add_assoc]
    · have hc' : ¬ ((c.toNat : Int) = 32) := fun e => hc (UInt8.toNat_inj.1 (show c.toNat = (32 : UInt8).toNat by have : (32 : UInt8).toNat = 32 := rfl; omega))
      have ih := fun v hx => rwords_loop s hs k R r p (cur ++ [c]) out v (by simp [e]) ho hx
      have ih := ih v (by simpa [wordsA, hc] using hx)
      have h2' : IntKind.i64.wrap ((p.length : Int) + (cur.length + 1)) = p.length + (cur.length + 1) := by rw [← Int.add_assoc]; exact h2
      simp [Tryd.f30] at ih ⊢
      simp [h1, h1', h1n, h1i, h2', hnn, hz, hat, hc', Int.add_assoc] at ih ⊢
      exact ih
theorem rwords_r (s : List UInt8) (hs : s.length ≤ 1000000) : callT ctx 30 [.d (.str s)] [] = some (.ret (.d (.list ((wordsF s).map D.str))), []) := by
  have hl := fun k R hx => rwords_loop s hs k R s [] [] [] 1 (by simp) (by simp) hx
  rw [run30 (by simp)]
  change ∀ k R, _ → _ at hl
  unfold wordsF
  simp [Tryd.f30] at hl ⊢
  rw [hl _ (some (.ret (.d (.list ((wordsA s []).map D.str))), [])) (by simp)]
theorem ref09_r (l : Lim) : callT ctx 89 [.d (limD l)] [] = some (.ret (.d (.bool (limR l))), []) := by
  rw [run89 (by simp)]
  simp [Tryd.f89, limD, drwK_end]
  try simp only [hoistB, retB_iff]
  grind (splits := 40) [limR]
theorem ref13_r (f c : Int) : callT ctx 90 [.d (.agg [.int .i64 0, .int .i64 f, .int .i64 c, .bool false])] [] = some (.ret (.d (.bool (homeR f c))), []) := by
  rw [run90 (by simp)]
  simp [Tryd.f90, drwK_end]
  try simp only [hoistB, retB_iff]
  grind (splits := 40) [homeR]
theorem made_r (l : Lim) (win home fast creep : Int) : callT ctx 56 [.d (limD l), .d (.int .i64 win), .d (.int .i64 home), .d (.int .i64 fast), .d (.int .i64 creep)] [] = some (.ret (.d (.bool (madeR l win home fast creep))), []) := by
  have h1 := ref09_r l
  have h2 := ref13_r fast creep
  rw [run56 (by simp)]
  try simp [limD] at h1
  simp [Tryd.f56, limD, h1, h2, drwK_end]
  try simp only [hoistB, retB_iff]
  grind (splits := 40) [madeR]
theorem refAxis_r (a : Ax) : callT ctx 33 [.d (axD a)] [] = some (.ret (.d (.bool (axR a))), []) := by
  have h1 := made_r a.l a.win a.home a.fast a.creep
  rw [run33 (by simp)]
  try simp [limD] at h1
  simp [Tryd.f33, axD, h1, drwK_end]
  try simp only [hoistB, retB_iff]
  grind (splits := 40) [axR, driveR]
end Go.Am
end
section
namespace Go.Am
open Go Go.Proofs
variable [Inhabited Mx2]
set_option maxRecDepth 20000
def rM (c : Cn) (v : Nat) (e4 e5 : Nat × Cont) : Mem := [⟨200, 1, .box [.d (.int .i64 0), .lit (.slice none 0 0)]⟩, ⟨350, 1, .box [.d (.int .i64 c.fuel), .vec 351 v 0 c.axes.length]⟩, ⟨351, v, .vec 12 (c.axes.map axD)⟩, ⟨650, e4.1, e4.2⟩, ⟨850, e5.1, e5.2⟩]
theorem rnums_loop (W : List (List UInt8)) (hW : W.length ≤ 1000000) (c : Cn) (v : Nat) (e5 : Nat × Cont) (A B D' : AV) (cl : Int) (k : Kt) (R : Ans) : ∀ (rest pre : List (List UInt8)) (acc : List Int) (u : Nat), W = pre ++ rest → acc.length ≤ pre.length →
    (match numsF rest with
      | some l => ∀ u, k (.exit 2) ⟨193, gl0, [(0, true, A), (2, true, .ptr 200 1 0), (5, true, .ptr 350 1 0), (6, true, B), (7, true, .d (.int .i64 cl)), (8, true, D'), (10, true, .d (.list (W.map D.str))), (11, true, .vec 650 u 0 (acc ++ l).length), (12, true, .d (.int .i64 W.length)), (64, true, .d (.bool false))], rM c v (u, .vec 1 ((acc ++ l).map fun n => D.int .i64 n)) e5⟩ = R
      | none => ∀ e4, k .ret ⟨193, gl0, [(2, true, .ptr 200 1 0), (3, true, .d (.int .i64 5)), (4, true, .d (.int .i64 cl))], rM c v e4 e5⟩ = R) →
    denK ctx 15 (.loop (Code.at (codeOf Tryd.f15) [1, 1, 1, 0, 1, 0, 0, 1, 0, 0, 1, 1, 1, 1, 1, 1, 1, 1, 0, 1, 0, 0])) ⟨193, gl0, [(0, true, A), (2, true, .ptr 200 1 0), (5, true, .ptr 350 1 0), (6, true, B), (7, true, .d (.int .i64 cl)), (8, true, D'), (10, true, .d (.list (W.map D.str))), (11, true, .vec 650 u 0 acc.length), (12, true, .d (.int .i64 pre.length))], rM c v (u, .vec 1 (acc.map fun n => D.int .i64 n)) e5⟩ k = R
  | [], pre, acc, u, e, ha, hx => by
    subst e
    simp [numsF] at hx
    rw [denK_loop]
    simp [Tryd.f15, rM] at hx ⊢
    simp [hx]
  | w :: rest, pre, acc, u, e, ha, hx => by
    obtain ⟨x, hn, hxn⟩ := refNumber_r w
    have hl : W.length = pre.length + (rest.length + 1) := by rw [e]; simp
    have h1 : (pre.length : Int) < W.length := by omega
    have h1' : pre.length < W.length := by omega
    have h2 : IntKind.i64.wrap ((pre.length : Int) + 1) = pre.length + 1 := wrap_id (by unfold I64; omega)
    have h3 : (acc.length + 1) * 8 ≤ 140737488355328 ∧ acc.length + 1 ≤ 4611686018427387904 := by omega
    have hg : W[pre.length] = w := by
      have : W[pre.length]? = some w := by rw [e]; simp
      exact (List.getElem?_eq_some_iff.1 this).2
    unfold numsF at hx
    rw [num_eq] at hx
    rw [denK_loop]
    cases hf : numR w with
    | none =>
      rw [hf] at hx hn
      simp at hx hn
      simp [Tryd.f15, rM] at hx ⊢
      have hx := hx u (.vec 1 (acc.map fun n => D.int .i64 n))
      simp [h1, h1', hg, hn, hx]
    | some n =>
      have hxn := hxn n hf
      subst hxn
      rw [hf] at hx hn
      simp at hx hn
      have ih := rnums_loop W hW c v e5 A B D' cl k R rest (pre ++ [w]) (acc ++ [x]) (u + 1) (by simp [e]) (by simp; omega) (by
        cases hr : numsF rest with
        | none => rw [hr] at hx; simpa using hx
        | some l => rw [hr] at hx; simpa using hx)
      simp [Tryd.f15, rM] at ih ⊢
      simp [h1, h1', h2, h3, hg, hn, ih]
end Go.Am
end
section
namespace Go.Am
open Go Go.Proofs
variable [Inhabited Mx2]
set_option maxRecDepth 20000
theorem lineF_fuel (sm : Int → Int) (c : Cn) (ws : List (List UInt8)) (h : 0 ≤ c.fuel) : 0 ≤ (lineF sm c ws).1.fuel := by
  unfold lineF
  split
  · exact h
  · split
    · split
      · exact h
      · split
        · exact h
        · rename_i hb
          simp only
          omega
    · split
      · repeat' split
        all_goals exact h
      · exact h
set_option maxHeartbeats 4000000 in
theorem rstep (t : List UInt8) (ht : t.length ≤ 100000) (k : Kt) (R : Cn × Int × Int → Ans) (Rn : Cn → Ans) (c : Cn) (hc : c.axes.length ≤ 4) (hcf : 0 ≤ c.fuel) (v : Nat) (e4 e5 : Nat × Cont) (at_ i j : Nat) (cur : List UInt8)
    (ha : at_ ≤ i) (hi : i ≤ t.length) (hj : j ≤ 100000) (hcur : (t.take i).drop at_ = cur) (hE : i = t.length ∨ (i < t.length ∧ strAt t i = 10))
    (hbad : ∀ (e line : Int) (c : Cn) (v : Nat) e4 e5, k .ret ⟨193, gl0, [(2, true, .ptr 200 1 0), (3, true, .d (.int .i64 e)), (4, true, .d (.int .i64 line))], rM c v e4 e5⟩ = R (cn0, e, line))
    (hnext : ∀ (c' : Cn) (v : Nat) (e4 e5 : Nat × Cont), c'.axes.length ≤ 4 → 0 ≤ c'.fuel →
      denK ctx 15 (.loop (Code.at (codeOf Tryd.f15) [1, 1, 1, 0, 1, 0, 0])) ⟨193, gl0, [(0, true, .d (.str t)), (2, true, .ptr 200 1 0), (5, true, .ptr 350 1 0), (6, true, .d (.int .i64 (i + 1))), (7, true, .d (.int .i64 (j + 1))), (8, true, .d (.int .i64 (i + 1)))], rM c' v e4 e5⟩ k = Rn c') :
    denK ctx 15 (.loop (Code.at (codeOf Tryd.f15) [1, 1, 1, 0, 1, 0, 0])) ⟨193, gl0, [(0, true, .d (.str t)), (2, true, .ptr 200 1 0), (5, true, .ptr 350 1 0), (6, true, .d (.int .i64 at_)), (7, true, .d (.int .i64 j)), (8, true, .d (.int .i64 i))], rM c v e4 e5⟩ k =
      if 512 ≤ j ∨ 256 < cur.length then R (cn0, 13, j + 1) else if quiet (wordsF cur) then Rn c else if (lineF asR c (wordsF cur)).2 = 0 then Rn (lineF asR c (wordsF cur)).1 else R (cn0, (lineF asR c (wordsF cur)).2, j + 1) := by
  have hil : (i : Int) ≤ t.length := by omega
  have h2 : IntKind.i64.wrap ((i : Int) + 1) = i + 1 := wrap_id (by unfold I64; omega)
  have h3 : IntKind.i64.wrap ((j : Int) + 1) = j + 1 := wrap_id (by unfold I64; omega)
  have hai : (at_ : Int) ≤ i := by omega
  have h10 : ((10 : UInt8).toNat : Int) = 10 := rfl
  -- how the line ends
  have hb : ∃ b : Bool, (b = true → i < t.length ∧ (i : Int) < t.length ∧ ¬ ((i : Int) = t.length)) ∧ (b = false → ¬ i < t.length ∧ ¬ (i : Int) < t.length ∧ (i : Int) = t.length) ∧ (b = true → strAt t i = 10) := by
    rcases hE with h | ⟨h, h'⟩
    · exact ⟨false, by simp, fun _ => by omega, by simp⟩
    · exact ⟨true, fun _ => by omega, by simp, fun _ => h'⟩
  obtain ⟨b, hb1, hb2, hb3⟩ := hb
  have hlen : cur.length = i - at_ := by rw [← hcur]; simp; omega
  have hcl : cur.length ≤ t.length := by omega
  rw [denK_loop]
  by_cases hlong : 512 ≤ j ∨ 256 < cur.length
  · rw [if_pos hlong]
    have hbad := hbad 13 (j + 1) c v e4 e5
    simp [Tryd.f15, rM] at hbad ⊢
    by_cases h5 : 512 ≤ j
    · have h5' : (512 : Int) < j + 1 := by omega
      cases b
      · obtain ⟨q1, q2, q3⟩ := hb2 rfl
        simp [hil, q1, q2, h2, h3, hai, hi, ha, hcur, h5', hbad]
      · obtain ⟨q1, q2, q3⟩ := hb1 rfl
        have q4 := hb3 rfl
        simp [hil, q1, q2, q4, h10, h2, h3, hai, hi, ha, hcur, h5', hbad]
    · have h5' : ¬ (512 : Int) < j + 1 := by omega
      have h6 : (256 : Int) < ((i - at_ : Nat) : Int) := by omega
      cases b
      · obtain ⟨q1, q2, q3⟩ := hb2 rfl
        simp [hil, q1, q2, h2, h3, hai, hi, ha, hcur, h5', h6, hbad]
      · obtain ⟨q1, q2, q3⟩ := hb1 rfl
        have q4 := hb3 rfl
        simp [hil, q1, q2, q4, h10, h2, h3, hai, hi, ha, hcur, h5', h6, hbad]
  · rw [if_neg hlong]
    have h5' : ¬ (512 : Int) < j + 1 := by omega
    have h6 : ¬ (256 : Int) < ((i - at_ : Nat) : Int) := by omega
    have hww := rwords_r cur (by omega)
    obtain ⟨w1, w2⟩ := wordsA_props cur []
    change (∀ w ∈ wordsF cur, _) at w1
    change (wordsF cur).length ≤ _ at w2
    cases hws : wordsF cur with
    | nil =>
      rw [if_pos (by left; rfl)]
      have hnext := hnext c v e4 e5 hc hcf
      rw [hws] at hww
      simp [Tryd.f15, rM] at hnext hww ⊢
      cases b
      · obtain ⟨q1, q2, q3⟩ := hb2 rfl
        simp [hil, q1, q2, h2, h3, hai, hi, ha, hcur, h5', h6, hww, hnext]
      · obtain ⟨q1, q2, q3⟩ := hb1 rfl
        have q4 := hb3 rfl
        simp [hil, q1, q2, q4, h10, h2, h3, hai, hi, ha, hcur, h5', h6, hww, hnext]
    | cons w ws =>
      rw [hws] at hww w1 w2
      obtain ⟨hw0, hw1⟩ := w1 w (by simp)
      have hn0 : ¬ ((ws.length : Int) + 1 = 0) := by omega
      obtain ⟨x, w', rfl⟩ : ∃ x w', w = x :: w' := by
        cases w with
        | nil => exact absurd rfl hw0
        | cons x w' => exact ⟨x, w', rfl⟩
      have hs0 : strAt (x :: w') 0 = x := rfl
      by_cases hq : x = 35
      · subst hq
        have h35 : ((35 : UInt8).toNat : Int) = 35 := rfl
        rw [if_pos (by right; rfl)]
        have hnext := hnext c v e4 e5 hc hcf
        simp [Tryd.f15, rM] at hnext hww ⊢
        cases b
        · obtain ⟨q1, q2, q3⟩ := hb2 rfl
          simp [hil, q1, q2, h2, h3, hai, hi, ha, hcur, h5', h6, hww, hn0, hs0, h35, hnext]
        · obtain ⟨q1, q2, q3⟩ := hb1 rfl
          have q4 := hb3 rfl
          simp [hil, q1, q2, q4, h10, h2, h3, hai, hi, ha, hcur, h5', h6, hww, hn0, hs0, h35, hnext]
      · rw [if_neg (by rintro (h | h); · cases h
                       · simp at h; exact hq h)]
        have hq' : ¬ ((x.toNat : Int) = 35) := fun e => hq (UInt8.toNat_inj.1 (show x.toNat = (35 : UInt8).toNat by have : (35 : UInt8).toNat = 35 := rfl; omega))
        have hl := fun A B D' cl k R u hx => rnums_loop ((x :: w') :: ws) (by simp at w2 ⊢; omega) c v e5 A B D' cl k R ws [x :: w'] [] u rfl (by simp) hx
        have hax := lineF_axes asR c ((x :: w') :: ws) hc
        have hfu := lineF_fuel asR c ((x :: w') :: ws) hcf
        unfold lineF at hax hfu ⊢
        simp only [List.tail_cons, List.head?_cons, Option.some.injEq] at hax hfu ⊢
        cases hns : numsF ws with
        | none =>
          rw [hns] at hl
          simp only [hns]
          have hbad := fun v e4 => hbad 5 (j + 1) c v e4 e5
          simp [Tryd.f15, rM] at hbad hww hl ⊢
          cases b
          · obtain ⟨q1, q2, q3⟩ := hb2 rfl
            simp [hil, q1, q2, h2, h3, hai, hi, ha, hcur, h5', h6, hww, hn0, hs0, hq']
            refine hl _ _ _ _ _ _ _ ?_
            intro e4
            simp [hbad]
          · obtain ⟨q1, q2, q3⟩ := hb1 rfl
            have q4 := hb3 rfl
            simp [hil, q1, q2, q4, h10, h2, h3, hai, hi, ha, hcur, h5', h6, hww, hn0, hs0, hq']
            refine hl _ _ _ _ _ _ _ ?_
            intro e4
            simp [hbad]
        | some l =>
          rw [hns] at hl hax hfu
          simp only [hns] at hax hfu ⊢
          by_cases hA : (x :: w') = [102, 117, 101, 108] ∧ l.length = 1
          · rw [if_pos hA] at hax hfu ⊢
            obtain ⟨hA1, hA2⟩ := hA
            obtain ⟨rfl, rfl⟩ : x = 102 ∧ w' = [117, 101, 108] := by simpa using hA1
            obtain ⟨n, rfl⟩ : ∃ n, l = [n] := by
              match l, hA2 with
              | [n], _ => exact ⟨n, rfl⟩
            by_cases hf : c.fuel = 0
            · have hf' : ¬ 0 < c.fuel := by omega
              by_cases hr : 1 ≤ n ∧ n ≤ 16384
              · have hr1 : ¬ n < 1 := by omega
                have hr2 : ¬ 16384 < n := by omega
                simp [hf, hr] at hax hfu ⊢
                have hnext := fun v e4 e5 => hnext ⟨n, c.axes⟩ v e4 e5 hc (by simp only; omega)
                simp [Tryd.f15, rM] at hnext hww hl ⊢
                cases b
                · obtain ⟨q1, q2, q3⟩ := hb2 rfl
                  simp [hil, q1, q2, h2, h3, hai, hi, ha, hcur, h5', h6, hww, hn0, hs0, hq']
                  refine hl _ _ _ _ _ _ _ ?_
                  intro u
                  simp [hf', hr1, hr2, h2, hnext]
                · obtain ⟨q1, q2, q3⟩ := hb1 rfl
                  have q4 := hb3 rfl
                  simp [hil, q1, q2, q4, h10, h2, h3, hai, hi, ha, hcur, h5', h6, hww, hn0, hs0, hq']
                  refine hl _ _ _ _ _ _ _ ?_
                  intro u
                  simp [hf', hr1, hr2, h2, hnext]
              · have hr' : n < 1 ∨ 16384 < n := by omega
                simp [hf, hr] at hax hfu ⊢
                have hbad := fun v e4 => hbad 1 (j + 1) c v e4 e5
                simp [Tryd.f15, rM] at hbad hww hl ⊢
                by_cases hr3 : n < 1
                · skip
                  cases b
                  · obtain ⟨q1, q2, q3⟩ := hb2 rfl
                    simp [hil, q1, q2, h2, h3, hai, hi, ha, hcur, h5', h6, hww, hn0, hs0, hq']
                    refine hl _ _ _ _ _ _ _ ?_
                    intro u
                    simp [hf', hr3, hbad]
                  · obtain ⟨q1, q2, q3⟩ := hb1 rfl
                    have q4 := hb3 rfl
                    simp [hil, q1, q2, q4, h10, h2, h3, hai, hi, ha, hcur, h5', h6, hww, hn0, hs0, hq']
                    refine hl _ _ _ _ _ _ _ ?_
                    intro u
                    simp [hf', hr3, hbad]
                · have hr4 : 16384 < n := by omega
                  cases b
                  · obtain ⟨q1, q2, q3⟩ := hb2 rfl
                    simp [hil, q1, q2, h2, h3, hai, hi, ha, hcur, h5', h6, hww, hn0, hs0, hq']
                    refine hl _ _ _ _ _ _ _ ?_
                    intro u
                    simp [hf', hr3, hr4, hbad]
                  · obtain ⟨q1, q2, q3⟩ := hb1 rfl
                    have q4 := hb3 rfl
                    simp [hil, q1, q2, q4, h10, h2, h3, hai, hi, ha, hcur, h5', h6, hww, hn0, hs0, hq']
                    refine hl _ _ _ _ _ _ _ ?_
                    intro u
                    simp [hf', hr3, hr4, hbad]
            · have hf' : 0 < c.fuel := by omega
              simp [hf] at hax hfu ⊢
              have hbad := fun v e4 => hbad 11 (j + 1) c v e4 e5
              simp [Tryd.f15, rM] at hbad hww hl ⊢
              cases b
              · obtain ⟨q1, q2, q3⟩ := hb2 rfl
                simp [hil, q1, q2, h2, h3, hai, hi, ha, hcur, h5', h6, hww, hn0, hs0, hq']
                refine hl _ _ _ _ _ _ _ ?_
                intro u
                simp [hf', hbad]
              · obtain ⟨q1, q2, q3⟩ := hb1 rfl
                have q4 := hb3 rfl
                simp [hil, q1, q2, q4, h10, h2, h3, hai, hi, ha, hcur, h5', h6, hww, hn0, hs0, hq']
                refine hl _ _ _ _ _ _ _ ?_
                intro u
                simp [hf', hbad]
          · rw [if_neg hA] at hax hfu ⊢
            by_cases hB : (x :: w') = [97, 120, 105, 115] ∧ l.length = 12
            · rw [if_pos hB] at hax hfu ⊢
              obtain ⟨hB1, hB2⟩ := hB
              obtain ⟨rfl, rfl⟩ : x = 97 ∧ w' = [120, 105, 115] := by simpa using hB1
              obtain ⟨y1, y2, y3, y4, y5, y6, y7, y8, y9, y10, y11, y12, rfl⟩ : ∃ y1 y2 y3 y4 y5 y6 y7 y8 y9 y10 y11 y12, l = [y1, y2, y3, y4, y5, y6, y7, y8, y9, y10, y11, y12] := by
                match l, hB2 with
                | [y1, y2, y3, y4, y5, y6, y7, y8, y9, y10, y11, y12], _ => exact ⟨y1, y2, y3, y4, y5, y6, y7, y8, y9, y10, y11, y12, rfl⟩
              have hra := refAxis_r (axOf asR [y1, y2, y3, y4, y5, y6, y7, y8, y9, y10, y11, y12])
              cases hx : axR (axOf asR [y1, y2, y3, y4, y5, y6, y7, y8, y9, y10, y11, y12]) with
              | false =>
                rw [hx] at hra
                simp [hx] at hax hfu ⊢
                simp [axOf, axD] at hra
                have hbad := hbad 1 (j + 1) c
                simp [Tryd.f15, rM] at hbad hww hl ⊢
                cases b
                · obtain ⟨q1, q2, q3⟩ := hb2 rfl
                  simp [hil, q1, q2, h2, h3, hai, hi, ha, hcur, h5', h6, hww, hn0, hs0, hq']
                  refine hl _ _ _ _ _ _ _ ?_
                  intro u
                  simp [as_r, hra, drwK_end, hbad]
                · obtain ⟨q1, q2, q3⟩ := hb1 rfl
                  have q4 := hb3 rfl
                  simp [hil, q1, q2, q4, h10, h2, h3, hai, hi, ha, hcur, h5', h6, hww, hn0, hs0, hq']
                  refine hl _ _ _ _ _ _ _ ?_
                  intro u
                  simp [as_r, hra, drwK_end, hbad]
              | true =>
                rw [hx] at hra
                simp [hx] at hax hfu ⊢
                by_cases h4 : c.axes.length = 4
                · simp [h4] at hax hfu ⊢
                  simp [axOf, axD] at hra
                  have h4' : (c.axes.length : Int) = 4 := by omega
                  have hbad := hbad 8 (j + 1) c
                  simp [Tryd.f15, rM] at hbad hww hl ⊢
                  cases b
                  · obtain ⟨q1, q2, q3⟩ := hb2 rfl
                    simp [hil, q1, q2, h2, h3, hai, hi, ha, hcur, h5', h6, hww, hn0, hs0, hq']
                    refine hl _ _ _ _ _ _ _ ?_
                    intro u
                    simp [as_r, hra, drwK_end, h4', hbad]
                  · obtain ⟨q1, q2, q3⟩ := hb1 rfl
                    have q4 := hb3 rfl
                    simp [hil, q1, q2, q4, h10, h2, h3, hai, hi, ha, hcur, h5', h6, hww, hn0, hs0, hq']
                    refine hl _ _ _ _ _ _ _ ?_
                    intro u
                    simp [as_r, hra, drwK_end, h4', hbad]
                · simp [h4] at hax hfu ⊢
                  have h4' : ¬ (c.axes.length : Int) = 4 := by omega
                  have h8 : (c.axes.length + 1) * 96 ≤ 140737488355328 ∧ c.axes.length + 1 ≤ 4611686018427387904 := by omega
                  have h8' : (c.axes.length + 1) * 96 ≤ 140737488355328 ∧ c.axes.length ≤ 4611686018427387903 := by omega
                  have hnext := fun v e4 e5 => hnext ⟨c.fuel, c.axes ++ [axOf asR [y1, y2, y3, y4, y5, y6, y7, y8, y9, y10, y11, y12]]⟩ v e4 e5 (by simp; omega) hcf
                  simp [axOf, axD] at hra
                  simp [Tryd.f15, rM, axOf, axD] at hnext hww hl ⊢
                  cases b
                  · obtain ⟨q1, q2, q3⟩ := hb2 rfl
                    simp [hil, q1, q2, h2, h3, hai, hi, ha, hcur, h5', h6, hww, hn0, hs0, hq']
                    refine hl _ _ _ _ _ _ _ ?_
                    intro u
                    simp [as_r, hra, drwK_end, h4', h8, h8', h2, hnext]
                  · obtain ⟨q1, q2, q3⟩ := hb1 rfl
                    have q4 := hb3 rfl
                    simp [hil, q1, q2, q4, h10, h2, h3, hai, hi, ha, hcur, h5', h6, hww, hn0, hs0, hq']
                    refine hl _ _ _ _ _ _ _ ?_
                    intro u
                    simp [as_r, hra, drwK_end, h4', h8, h8', h2, hnext]
            · rw [if_neg hB] at hax hfu ⊢
              have hbad := fun v e4 => hbad 5 (j + 1) c v e4 e5
              simp only [if_neg (show ¬ ((5 : Int) = 0) by decide)] at hax hfu ⊢
              have g1 : (x :: w') = [102, 117, 101, 108] → ¬ ((l.length : Int) = 1) := fun e h => hA ⟨e, by omega⟩
              have g2 : (x :: w') = [97, 120, 105, 115] → ¬ ((l.length : Int) = 12) := fun e h => hB ⟨e, by omega⟩
              simp [Tryd.f15, rM] at hbad hww hl ⊢
              by_cases e1 : (x :: w') = [102, 117, 101, 108]
              · have g1 := g1 e1
                obtain ⟨rfl, rfl⟩ : x = 102 ∧ w' = [117, 101, 108] := by simpa using e1
                cases b
                · obtain ⟨q1, q2, q3⟩ := hb2 rfl
                  simp [hil, q1, q2, h2, h3, hai, hi, ha, hcur, h5', h6, hww, hn0, hs0, hq']
                  refine hl _ _ _ _ _ _ _ ?_
                  intro u
                  simp [g1, hbad]
                · obtain ⟨q1, q2, q3⟩ := hb1 rfl
                  have q4 := hb3 rfl
                  simp [hil, q1, q2, q4, h10, h2, h3, hai, hi, ha, hcur, h5', h6, hww, hn0, hs0, hq']
                  refine hl _ _ _ _ _ _ _ ?_
                  intro u
                  simp [g1, hbad]
              · by_cases e2 : (x :: w') = [97, 120, 105, 115]
                · have g2 := g2 e2
                  obtain ⟨rfl, rfl⟩ : x = 97 ∧ w' = [120, 105, 115] := by simpa using e2
                  cases b
                  · obtain ⟨q1, q2, q3⟩ := hb2 rfl
                    simp [hil, q1, q2, h2, h3, hai, hi, ha, hcur, h5', h6, hww, hn0, hs0, hq']
                    refine hl _ _ _ _ _ _ _ ?_
                    intro u
                    simp [g2, hbad]
                  · obtain ⟨q1, q2, q3⟩ := hb1 rfl
                    have q4 := hb3 rfl
                    simp [hil, q1, q2, q4, h10, h2, h3, hai, hi, ha, hcur, h5', h6, hww, hn0, hs0, hq']
                    refine hl _ _ _ _ _ _ _ ?_
                    intro u
                    simp [g2, hbad]
                · simp only [List.cons.injEq] at e1 e2
                  cases b
                  · obtain ⟨q1, q2, q3⟩ := hb2 rfl
                    simp [hil, q1, q2, h2, h3, hai, hi, ha, hcur, h5', h6, hww, hn0, hs0, hq']
                    refine hl _ _ _ _ _ _ _ ?_
                    intro u
                    simp [e1, e2, hbad]
                  · obtain ⟨q1, q2, q3⟩ := hb1 rfl
                    have q4 := hb3 rfl
                    simp [hil, q1, q2, q4, h10, h2, h3, hai, hi, ha, hcur, h5', h6, hww, hn0, hs0, hq']
                    refine hl _ _ _ _ _ _ _ ?_
                    intro u
                    simp [e1, e2, hbad]
end Go.Am
end
section
namespace Go.Am
open Go Go.Proofs
variable [Inhabited Mx2]
set_option maxRecDepth 20000
theorem linesF_cons (sm : Int → Int) (s : List UInt8) (r : List (List UInt8)) (i : Nat) (c : Cn) : linesF sm (s :: r) i c =
    if 512 ≤ i ∨ 256 < s.length then (cn0, 13, (i : Int) + 1) else if quiet (wordsF s) then linesF sm r (i + 1) c
    else if (lineF sm c (wordsF s)).2 = 0 then linesF sm r (i + 1) (lineF sm c (wordsF s)).1 else (cn0, (lineF sm c (wordsF s)).2, (i : Int) + 1) := by rw [linesF]
theorem rparse_loop (t : List UInt8) (ht : t.length ≤ 100000) (k : Kt) (R : Cn × Int × Int → Ans)
    (hbad : ∀ (e line : Int) (c : Cn) (v : Nat) e4 e5, k .ret ⟨193, gl0, [(2, true, .ptr 200 1 0), (3, true, .d (.int .i64 e)), (4, true, .d (.int .i64 line))], rM c v e4 e5⟩ = R (cn0, e, line))
    (hend : ∀ (c : Cn) (v : Nat) e4 e5 (a n : Int), c.axes.length ≤ 4 → k (.exit 0) ⟨193, gl0, [(0, true, .d (.str t)), (2, true, .ptr 200 1 0), (5, true, .ptr 350 1 0), (6, true, .d (.int .i64 a)), (7, true, .d (.int .i64 n)), (8, true, .d (.int .i64 (t.length + 1))), (19, true, .d (.bool false))], rM c v e4 e5⟩ = R (linesF asR [] 0 c)) :
    ∀ (r pre cur : List UInt8) (j : Nat) (c : Cn) (v : Nat) (e4 e5 : Nat × Cont), t = pre ++ (cur ++ r) → j ≤ pre.length → c.axes.length ≤ 4 → 0 ≤ c.fuel →
    denK ctx 15 (.loop (Code.at (codeOf Tryd.f15) [1, 1, 1, 0, 1, 0, 0])) ⟨193, gl0, [(0, true, .d (.str t)), (2, true, .ptr 200 1 0), (5, true, .ptr 350 1 0), (6, true, .d (.int .i64 pre.length)), (7, true, .d (.int .i64 j)), (8, true, .d (.int .i64 (pre.length + cur.length : Nat)))], rM c v e4 e5⟩ k = R (linesF asR (cutA 10 r cur) j c)
  | [], pre, cur, j, c, v, e4, e5, e, hj, hc, hf => by
    have hl : t.length = pre.length + cur.length := by rw [e]; simp
    rw [rstep t ht k R (fun c' => R (linesF asR [] (j + 1) c')) c hc hf v e4 e5 pre.length (pre.length + cur.length) j cur (by omega) (by omega) (by omega) (by rw [← hl, List.take_length, e]; simp) (.inl hl.symm) hbad ?_]
    · simp only [cutA]
      rw [linesF_cons]
      repeat' split
      all_goals rfl
    · intro c' v e4 e5 hc' hf'
      have hend := hend c' v e4 e5 ((t.length : Int) + 1) (j + 1) hc'
      have h3 : ¬ ((t.length : Int) + 1 ≤ t.length) := by omega
      have hl2 : (((pre.length + cur.length : Nat) : Int)) = t.length := by omega
      rw [denK_loop]
      simp only [hl2]
      simp [Tryd.f15, rM] at hend ⊢
      simp [h3, hend, linesF]
  | x :: r, pre, cur, j, c, v, e4, e5, e, hj, hc, hf => by
    have hl : t.length = pre.length + cur.length + (r.length + 1) := by rw [e]; simp; omega
    have hat : strAt t (pre.length + cur.length) = x := by rw [e]; simp [strAt]
    have htk : (t.take (pre.length + cur.length)).drop pre.length = cur := by rw [e, List.drop_take]; simp
    by_cases hx : x = 10
    · subst hx
      rw [rstep t ht k R (fun c' => R (linesF asR (cutA 10 r []) (j + 1) c')) c hc hf v e4 e5 pre.length (pre.length + cur.length) j cur (by omega) (by omega) (by omega) htk (.inr ⟨by omega, hat⟩) hbad ?_]
      · simp only [cutA, if_true]
        rw [linesF_cons]
        repeat' split
        all_goals rfl
      · intro c' v e4 e5 hc' hf'
        have ih := rparse_loop t ht k R hbad hend r (pre ++ cur ++ [10]) [] (j + 1) c' v e4 e5 (by simp [e]) (by simp; omega) hc' hf'
        have e1 : (((pre ++ cur ++ [10]).length : Nat) : Int) = ((pre.length + cur.length : Nat) : Int) + 1 := by simp; omega
        have e2 : (((pre ++ cur ++ [10]).length + ([] : List UInt8).length : Nat) : Int) = ((pre.length + cur.length : Nat) : Int) + 1 := by simp; omega
        have e3 : ((j + 1 : Nat) : Int) = (j : Int) + 1 := by omega
        rw [e1, e2, e3] at ih
        exact ih
    · have ih := rparse_loop t ht k R hbad hend r pre (cur ++ [x]) j c v e4 e5 (by simp [e]) hj hc hf
      have hx' : ¬ ((x.toNat : Int) = 10) := fun e => hx (UInt8.toNat_inj.1 (show x.toNat = (10 : UInt8).toNat by have : (10 : UInt8).toNat = 10 := rfl; omega))
      have h1 : ((pre.length + cur.length : Nat) : Int) ≤ t.length := by omega
      have h1i : ((pre.length + cur.length : Nat) : Int) < t.length := by omega
      have h1n : pre.length + cur.length < t.length := by omega
      have h1e : pre.length + cur.length ≤ t.length := by omega
      have h1g : ¬ t.length < pre.length + cur.length := by omega
      have h2 : IntKind.i64.wrap (((pre.length + cur.length : Nat) : Int) + 1) = ((pre.length + cur.length : Nat) : Int) + 1 := wrap_id (by unfold I64; omega)
      have e2 : ((pre.length + (cur ++ [x]).length : Nat) : Int) = ((pre.length + cur.length : Nat) : Int) + 1 := by simp; omega
      rw [e2] at ih
      simp only [cutA]
      rw [if_neg hx, ← ih, denK_loop]
      generalize pre.length + cur.length = i at *
      simp [Tryd.f15, rM]
      simp [h1, h1i, h1n, h1e, h1g, h2, hat, hx']
theorem refParse_r (t : List UInt8) (ht : t.length ≤ 100000) : callT ctx 15 [.d (.str t)] [] = cfR (confF asR t) := by
  have hl := fun k R hbad hend v e4 e5 => rparse_loop t ht k R hbad hend t [] [] 0 cn0 v e4 e5 (by simp) (by simp) (by simp [cn0]) (by simp [cn0])
  rw [run15 (by simp)]
  unfold confF cutC
  simp [Tryd.f15, rM, cn0] at hl ⊢
  rw [hl _ cfR _ _ 1 0 .dead 0 .dead]
  · intro e line c v e4 u4 e5 u5
    simp [cfR, cn0, cnD]
  · intro c v e4 u4 e5 u5 a n hc
    by_cases h1 : c.fuel = 0
    · simp [linesF, h1, cfR, cn0, cnD]
    · cases hax : c.axes with
      | nil => simp [linesF, h1, hax, cfR, cn0, cnD]
      | cons a r =>
        have hne : ¬ ((r.length : Int) + 1 = 0) := by omega
        simp [linesF, h1, hax, hne, cfR, cn0, cnD]
end Go.Am
end
section
namespace Go.Am
open Go Go.Proofs
variable [Inhabited Mx2]
set_option maxRecDepth 20000
theorem axD_inj {a b : Ax} (h : axD a = axD b) : a = b := by
  obtain ⟨⟨_, _, _, _, _⟩, _, _, _, _, _, _, _⟩ := a
  obtain ⟨⟨_, _, _, _, _⟩, _, _, _, _, _, _, _⟩ := b
  simp [axD] at h
  simp [h]
set_option maxHeartbeats 2000000 in
theorem same28_loop (f1 f2 : AV) (A B : List Ax) (hA : A.length ≤ 100000) (k : Kt) (R1 R2 : Ans)
    (h1 : k .ret ⟨38, gl0, [(4, true, .d (.bool false))], [⟨200, 1, .box [f1, .d (.list (A.map axD))]⟩, ⟨250, 1, .box [f2, .d (.list (B.map axD))]⟩]⟩ = R1)
    (h2 : k (.exit 0) ⟨38, gl0, [(2, true, .ptr 200 1 0), (3, true, .ptr 250 1 0), (5, true, .d (.int .i64 A.length)), (24, true, .d (.bool false))], [⟨200, 1, .box [f1, .d (.list (A.map axD))]⟩, ⟨250, 1, .box [f2, .d (.list (B.map axD))]⟩]⟩ = R2) :
    ∀ (r1 r2 p1 p2 : List Ax), A = p1 ++ r1 → B = p2 ++ r2 → p2.length = p1.length → r2.length = r1.length →
    denK ctx 16 (.loop (Code.at (codeOf Tryd.f16) [1, 1, 0, 1, 0, 0])) ⟨38, gl0, [(2, true, .ptr 200 1 0), (3, true, .ptr 250 1 0), (5, true, .d (.int .i64 p1.length))], [⟨200, 1, .box [f1, .d (.list (A.map axD))]⟩, ⟨250, 1, .box [f2, .d (.list (B.map axD))]⟩]⟩ k = if r1 = r2 then R2 else R1
  | [], [], p1, p2, e1, e2, hp, hr => by
    obtain rfl : A = p1 := by simpa using e1
    rw [denK_loop]
    simp [Tryd.f16] at h2 ⊢
    simp [h2]
  | x :: r1, y :: r2, p1, p2, e1, e2, hp, hr => by
    have ih := same28_loop f1 f2 A B hA k R1 R2 h1 h2 r1 r2 (p1 ++ [x]) (p2 ++ [y]) (by simp [e1]) (by simp [e2]) (by simp [hp]) (by simpa using hr)
    have hlA : A.length = p1.length + (r1.length + 1) := by rw [e1]; simp
    have hlB : B.length = p2.length + (r2.length + 1) := by rw [e2]; simp
    have w1 : (p1.length : Int) < A.length := by omega
    have w1n : p1.length < A.length := by omega
    have w1b : p1.length < B.length := by omega
    have w2 : IntKind.i64.wrap ((p1.length : Int) + 1) = p1.length + 1 := wrap_id (by unfold I64; omega)
    have gA : A[p1.length] = x := by
      have : A[p1.length]? = some x := by rw [e1]; simp
      exact (List.getElem?_eq_some_iff.1 this).2
    have gB : B[p1.length] = y := by
      have : B[p1.length]? = some y := by rw [e2, ← hp]; simp
      exact (List.getElem?_eq_some_iff.1 this).2
    have r02 : List.range' 0 2 = [0, 1] := rfl
    rw [denK_loop]
    by_cases he : x = y
    · subst he
      simp [Tryd.f16] at ih ⊢
      simp [r02, w1, w1n, w1b, w2, gA, gB, ih, drwK_end, axD]
    · have hne : ¬ (axD x = axD y) := fun h => he (axD_inj h)
      simp [axD] at hne
      simp [Tryd.f16] at h1 ⊢
      simp [r02, w1, w1n, w1b, w2, gA, gB, h1, he, drwK_end, axD, hne]
      intro a1 a2 a3 a4 a5 a6 a7 a8 a9 a10 a11 a12
      exact absurd a12 (hne a1 a2 a3 a4 a5 a6 a7 a8 a9 a10 a11)
theorem same28_r (c d : Cn) (hA : c.axes.length ≤ 100000) : callT ctx 16 [.d (cnD c), .d (cnD d)] [] = some (.ret (.d (.bool (decide (c = d)))), []) := by
  rw [run16 (by simp)]
  have hcd : c = d ↔ c.fuel = d.fuel ∧ c.axes = d.axes := by cases c; cases d; simp
  by_cases hf : c.fuel = d.fuel
  · by_cases h : d.axes.length = c.axes.length
    · have hlp := fun f1 f2 k R1 R2 h1 h2 => same28_loop f1 f2 c.axes d.axes hA k R1 R2 h1 h2 c.axes d.axes [] [] rfl rfl rfl h
      simp [Tryd.f16, cnD] at hlp ⊢
      simp [hf, h]
      rw [hlp]
      by_cases ha : c.axes = d.axes <;> simp [hcd, hf, ha]
    · have h' : ¬ ((c.axes.length : Int) = d.axes.length) := by omega
      have hne : ¬ c.axes = d.axes := fun e => h (by rw [e])
      simp [Tryd.f16, cnD, hf, h', hcd, hne]
  · simp [Tryd.f16, cnD, hf, hcd]
def numsQ : List (List UInt8) → Option (List Int)
  | [] => some []
  | w :: r => match numR w with
    | some n => match numsQ r with
      | some l => some (n :: l)
      | none => none
    | none => none
theorem numsQ_eq : ∀ l, numsF l = numsQ l
  | [] => rfl
  | w :: r => by
    unfold numsF numsQ
    rw [num_eq, numsQ_eq r]
    all_goals
      cases numR w with
      | none => rfl
      | some n => cases numsQ r <;> rfl
theorem awk28 : confF smP [102, 117, 101, 108, 32, 49, 48, 48, 10, 97, 120, 105, 115, 32, 53, 32, 50, 32, 50, 32, 45, 49, 48, 48, 32, 49, 48, 48, 32, 49, 32, 48, 32, 53, 32, 49, 32, 51, 32, 50, 32, 53, 48, 10] = (⟨100, [⟨⟨5, 2, 2, -100, 100⟩, 1, 0, 5, 1, 3, 2, 50⟩]⟩, 0, 0) := by
  have h1 : cutC 10 [102, 117, 101, 108, 32, 49, 48, 48, 10, 97, 120, 105, 115, 32, 53, 32, 50, 32, 50, 32, 45, 49, 48, 48, 32, 49, 48, 48, 32, 49, 32, 48, 32, 53, 32, 49, 32, 51, 32, 50, 32, 53, 48, 10] = [[102, 117, 101, 108, 32, 49, 48, 48], [97, 120, 105, 115, 32, 53, 32, 50, 32, 50, 32, 45, 49, 48, 48, 32, 49, 48, 48, 32, 49, 32, 48, 32, 53, 32, 49, 32, 51, 32, 50, 32, 53, 48], []] := by decide
  have w1 : wordsF [102, 117, 101, 108, 32, 49, 48, 48] = [[102, 117, 101, 108], [49, 48, 48]] := by decide
  have w2 : wordsF [97, 120, 105, 115, 32, 53, 32, 50, 32, 50, 32, 45, 49, 48, 48, 32, 49, 48, 48, 32, 49, 32, 48, 32, 53, 32, 49, 32, 51, 32, 50, 32, 53, 48] = [[97, 120, 105, 115], [53], [50], [50], [45, 49, 48, 48], [49, 48, 48], [49], [48], [53], [49], [51], [50], [53, 48]] := by decide
  have w3 : wordsF [] = [] := rfl
  have n1 : numsF [[49, 48, 48]] = some [100] := by rw [numsQ_eq]; decide
  have n2 : numsF [[53], [50], [50], [45, 49, 48, 48], [49, 48, 48], [49], [48], [53], [49], [51], [50], [53, 48]] = some [5, 2, 2, -100, 100, 1, 0, 5, 1, 3, 2, 50] := by rw [numsQ_eq]; decide
  unfold confF
  rw [h1]
  simp [linesF, w1, w2, w3, quiet, lineF, n1, n2, axOf, cn0, smP, axR, madeR, limR, homeR, driveR]
  decide
theorem awake28_run : callT ctx 13 [] [] = some (.ret (.d (.bool true)), []) := by
  have h := confParse_r [102, 117, 101, 108, 32, 49, 48, 48, 10, 97, 120, 105, 115, 32, 53, 32, 50, 32, 50, 32, 45, 49, 48, 48, 32, 49, 48, 48, 32, 49, 32, 48, 32, 53, 32, 49, 32, 51, 32, 50, 32, 53, 48, 10] (by decide)
  rw [awk28] at h
  simp [cfR, cnD, axD] at h
  rw [run13 (by simp)]
  simp [Tryd.f13, h]
end Go.Am
end
section
namespace Go.Am
open Go Go.Proofs
variable [Inhabited Mx2]
set_option maxRecDepth 20000
theorem cut_facts30 (t : List UInt8) : ∃ n : Nat, (if (3000 : Int) < t.length then (3000 : Int) else t.length) = (n : Int) ∧ n ≤ t.length ∧ (n : Int) ≤ t.length ∧ (t.take n).length ≤ 3000 := by
  by_cases h : 3000 < t.length
  · exact ⟨3000, by rw [if_pos (by omega)]; rfl, by omega, by omega, by simp; omega⟩
  · exact ⟨t.length, by rw [if_neg (by omega)], by omega, by omega, by simp; omega⟩
theorem linesF_axes (sm : Int → Int) : ∀ (l : List (List UInt8)) (i : Nat) (c : Cn), c.axes.length ≤ 4 → (linesF sm l i c).1.axes.length ≤ 4
  | [], i, c, h => by
    unfold linesF
    split
    · simp [cn0]
    · exact h
  | s :: r, i, c, h => by
    unfold linesF
    split
    · simp [cn0]
    · split
      · exact linesF_axes sm r _ _ h
      · split
        · exact linesF_axes sm r _ _ (lineF_axes sm c _ h)
        · simp [cn0]
theorem confF_axes (sm : Int → Int) (t : List UInt8) : (confF sm t).1.axes.length ≤ 4 := linesF_axes sm _ _ _ (by simp [cn0])
theorem confReads_run (t : List UInt8) : callT ctx 5 [.d (.str t)] [] = some (.ret (.d (.bool true)), []) := by
  obtain ⟨n, hn1, hn2, hn3, hsl⟩ := cut_facts30 t
  obtain ⟨s, hs⟩ : ∃ s, t.take n = s := ⟨_, rfl⟩
  rw [hs] at hsl
  have haw := awake28_run
  have h1 := confParse_r s (by omega)
  have h2 := refParse_r s (by omega)
  rw [← confF_eq] at h2
  have hax := confF_axes smP s
  generalize confF smP s = r at h1 h2 hax
  obtain ⟨c, e, l⟩ := r
  have h3 := same28_r c c (by simp only at hax; omega)
  simp [cfR, cnD] at h1 h2 h3
  rw [run5 (by simp)]
  simp [Tryd.f5, haw, hn1, hn2, hn3, hs, h1, h2, h3, cnD]
end Go.Am
end
section
namespace Go.Am
open Go Go.ChangeShapes Go.WideShapes Go.RowKit
def tiles (P : Program) (ok : TypeId → Bool) : List Field → Nat → Nat → Bool
  | [], o, tot => o == tot
  | f :: r, o, tot => f.offset == o && ok f.type && tiles P ok r (o + P.cellsOf f.type) tot
def plainT (P : Program) : Nat → TypeId → Bool
  | 0, _ => false
  | n + 1, t => match P.underlying t with
    | some .bool | some (.int _) | some .string => P.cellsOf t == 1
    | some (.slice e) => P.cellsOf t == 1 && plainT P n e && decide (1 ≤ P.cellsOf e)
    | some (.struct fs) => tiles P (plainT P n) fs.toList 0 (P.cellsOf t)
    | _ => false
def typed (P : Program) : Nat → TypeId → D → Prop
  | 0, _, _ => False
  | n + 1, t, d => match P.underlying t with
    | some .bool => ∃ b, d = .bool b
    | some (.int k) => ∃ z, d = .int k z ∧ (Lit.int k z).wf = true
    | some .string => ∃ s, d = .str s ∧ s.length ≤ maxLen
    | some (.slice e) => ∃ xs, d = .list xs ∧ xs.length ≤ maxLen ∧ ∀ x ∈ xs, typed P n e x
    | some (.struct fs) => ∃ ys : List D, d = .agg (ys.flatMap D.cells) ∧ ys.length = fs.size ∧ ∀ (i : Nat) (f : Field) (y : D), fs[i]? = some f → ys[i]? = some y → typed P n f.type y
    | _ => False
def Reads (w : World) (F : Nat → Prop) (d : D) (cs : List Value) : Prop :=
  d.cells.length = cs.length ∧ (∀ u ∈ cs, cell1 u = true) ∧ ∀ (i : Nat) c u, d.cells[i]? = some c → cs[i]? = some u → DRel w F c u ∧ c.flat = true
theorem Reads.one {w F d v} (h : DRel w F d v) (hf : d.flat = true) (hc : d.cells = [d]) : Reads w F d [v] := by
  refine ⟨by rw [hc]; rfl, fun u hu => ?_, fun i c u h1 h2 => ?_⟩
  · simp at hu; subst hu; exact h.one hf
  · rw [hc] at h1
    cases i with
    | zero => simp at h1 h2; subst h1; subst h2; exact ⟨h, hf⟩
    | succ i => simp at h1
def shaped (d : D) (cs : List Value) : Value :=
  match d with
  | .agg _ => .agg cs.toArray
  | _ => cs.headD undef
theorem Reads.rel {w F d cs} (h : Reads w F d cs) : DRel w F d (shaped d cs) := by
  obtain ⟨h1, h2, h3⟩ := h
  have key : d.flat = true → d.cells = [d] → DRel w F d (cs.headD undef) := by
    intro hf hc
    rw [hc] at h1 h3
    match cs, h1 with
    | [u], _ => exact (h3 0 d u rfl rfl).1
  cases d with
  | agg ds => exact DRel.ofCells h1 h2 (fun i c v hc hv => (h3 i c v hc hv).1)
  | _ => exact key rfl rfl
theorem Reads.shaped_cells {w F d cs} (h : Reads w F d cs) : (shaped d cs).cells.toList = cs := by
  obtain ⟨h1, h2, h3⟩ := h
  have key : d.cells = [d] → (cs.headD undef).cells.toList = cs := by
    intro hc
    rw [hc] at h1
    match cs, h1, h2 with
    | [u], _, h2 => simp only [List.headD]; rw [cells_of_cell1 (h2 u (by simp))]
  cases d with
  | agg ds => simp [shaped, Value.cells]
  | _ => exact key rfl
theorem cells?_get {w : World} {base : Nat} {a : Addr} {n : Nat} {cs : List Value} (h : w.cells? base a n = some cs) : cs.length = n ∧ ∀ j, j < n → w.cell? (a.add j) = cs[j]? := by
  unfold World.cells? at h
  split at h
  · exact ⟨by simpa using mapM_some_length h, fun j hj => mapM_some_get h j j (by simp [hj])⟩
  · cases h
theorem add_add {b off n j : Nat} : (Addr.add (Addr.add ⟨b, off, none⟩ n) j) = ⟨b, off + n + j, none⟩ := by
  unfold Addr.add
  split <;> split <;> simp_all
theorem cell?_lt {w : World} {a : Addr} {c : Value} (h : w.cell? a = some c) : a.block < w.heap.size ∧ a.spot = none := by
  unfold World.cell? at h
  split at h
  · rename_i hh
    refine ⟨(Array.getElem?_eq_some_iff.1 hh).1, ?_⟩
    split at h
    · cases h
    · rename_i hs; simpa using hs
  · cases h
theorem reads_fields {P : Program} {w : World} {F : Nat → Prop} {n : Nat} {cs : List Value} {ok : TypeId → Bool} : ∀ (fs : List Field) (o : Nat), tiles P ok fs o cs.length = true →
    (∀ f ∈ fs, ok f.type = true → ∃ d, typed P n f.type d ∧ Reads w F d ((cs.drop f.offset).take (P.cellsOf f.type)) ∧ d.cells.length = P.cellsOf f.type) →
    ∃ ys : List D, ys.length = fs.length ∧ (∀ (i : Nat) (f : Field) (y : D), fs[i]? = some f → ys[i]? = some y → typed P n f.type y) ∧ o ≤ cs.length ∧ Reads w F (.agg (ys.flatMap D.cells)) (cs.drop o)
  | [], o, ht, _ => by
    simp only [tiles, beq_iff_eq] at ht
    subst ht
    exact ⟨[], rfl, fun i f y hf => by simp at hf, Nat.le_refl _, by simp [D.cells], by simp, fun i c u h1 => by simp [D.cells] at h1⟩
  | f :: r, o, ht, hf => by
    simp only [tiles, Bool.and_eq_true, beq_iff_eq] at ht
    obtain ⟨⟨rfl, hok⟩, hr⟩ := ht
    obtain ⟨ys, h1, h2, h3, h4⟩ := reads_fields r _ hr (fun f' h' => hf f' (by simp [h']))
    obtain ⟨d, hd, hR, hl⟩ := hf f (by simp) hok
    refine ⟨d :: ys, by simp [h1], fun i f' y hi hy => ?_, by omega, ?_⟩
    · cases i with
      | zero => simp at hi hy; subst hi; subst hy; exact hd
      | succ i => simp at hi hy; exact h2 i f' y hi hy
    · have hsplit : cs.drop f.offset = (cs.drop f.offset).take (P.cellsOf f.type) ++ cs.drop (f.offset + P.cellsOf f.type) := by
        rw [← List.drop_drop, List.take_append_drop]
      obtain ⟨a1, a2, a3⟩ := hR
      obtain ⟨b1, b2, b3⟩ := h4
      have hcells : (D.agg ((d :: ys).flatMap D.cells)).cells = d.cells ++ (D.agg (ys.flatMap D.cells)).cells := by simp [D.cells]
      rw [hsplit]
      unfold Reads
      rw [hcells]
      refine ⟨by simp only [List.length_append, a1, b1], fun u hu => ?_, fun i c u hc hu => ?_⟩
      · rcases List.mem_append.1 hu with hu | hu
        · exact a2 u hu
        · exact b2 u hu
      · by_cases hi : i < d.cells.length
        · rw [List.getElem?_append_left hi] at hc
          rw [List.getElem?_append_left (by omega)] at hu
          exact a3 i c u hc hu
        · rw [List.getElem?_append_right (by omega)] at hc
          rw [List.getElem?_append_right (by omega)] at hu
          rw [← a1] at hu
          exact b3 _ c u hc hu
section
variable {H : Type} {enc : TypeId × Value → H} {P : Program} {w : World} {base : Nat} {sp : Nat → Bool} {held : Bool}
theorem read_data : ∀ (n : Nat) (m : Nat) (t : TypeId) (cs : List Value) (x : DataW H × List MemPlace), plainT P n t = true → DataW.trod enc P w base sp held m t cs = some x →
    ∃ d, typed P n t d ∧ Reads w (fun _ => False) d cs ∧ d.cells.length = P.cellsOf t
  | 0, _, _, _, _, hp, _ => by cases hp
  | n + 1, m, t, cs, x, hp, hx => by
    simp only [plainT] at hp
    simp only [typed]
    cases ht : P.underlying t with
    | none => rw [ht] at hp; cases hp
    | some u =>
      rw [ht] at hp
      cases u with
      | bool =>
        obtain ⟨b, rfl, _⟩ := DataW.trod_bool ht hx
        exact ⟨.bool b, ⟨b, rfl⟩, Reads.one (.bool b) rfl rfl, by simp at hp; simp [D.cells, hp]⟩
      | int k =>
        obtain ⟨z, rfl, _, hw⟩ := DataW.trod_int ht hx
        exact ⟨.int k z, ⟨z, rfl, hw⟩, Reads.one (.int k z) rfl rfl, by simp at hp; simp [D.cells, hp]⟩
      | string =>
        obtain ⟨s, rfl, _, hw⟩ := DataW.trod_string ht hx
        exact ⟨.str s.data.toList, ⟨_, rfl, by simpa using hw⟩, Reads.one (.str s _ rfl) rfl rfl, by simp at hp; simp [D.cells, hp]⟩
      | slice e =>
        simp only [Bool.and_eq_true, beq_iff_eq, decide_eq_true_eq] at hp
        obtain ⟨⟨h1, h2⟩, h3⟩ := hp
        rcases DataW.trod_slice ht hx with ⟨rfl, _⟩ | ⟨a, len, cap, elems, rest, m', rfl, rfl, _, hb, hlc, hcm, hel, hget, _⟩
        · exact ⟨.list [], ⟨[], rfl, by simp, by simp⟩, Reads.one (.nil none 0 (fun _ => rfl)) rfl rfl, by simp [D.cells, h1]⟩
        · have hq : ∀ i, ∃ p : D × Value, i < len → typed P n e p.1 ∧ DRel w (fun _ => False) p.1 p.2 ∧ p.1.size = P.cellsOf e ∧ a.block < w.heap.size ∧ a.spot = none ∧
              ∀ j c, p.2.cells[j]? = some c → w.cell? ⟨a.block, a.off + i * P.cellsOf e + j, none⟩ = some c := by
            intro i
            by_cases hi : i < len
            · have h4 := hget i hi
              have h5 : ∃ y, elems[i]? = some y := ⟨elems[i]'(by omega), by simp [show i < elems.length by omega]⟩
              obtain ⟨y, hy⟩ := h5
              rw [hy] at h4
              simp only [Option.bind_eq_some_iff] at h4
              obtain ⟨cs', hcs, hy'⟩ := h4
              obtain ⟨d, hd, hR, hl⟩ := read_data n m' e cs' y h2 hy'
              obtain ⟨g1, g2⟩ := cells?_get hcs
              have g3 : a.block < w.heap.size ∧ a.spot = none := by
                have h0 : ∃ i0, i0 < len ∧ i0 = 0 := ⟨0, by omega, rfl⟩
                have h40 := hget 0 (by omega)
                have h50 : ∃ y, elems[0]? = some y := ⟨elems[0]'(by omega), by simp [show 0 < elems.length by omega]⟩
                obtain ⟨y0, hy0⟩ := h50
                rw [hy0] at h40
                simp only [Option.bind_eq_some_iff] at h40
                obtain ⟨cs0, hcs0, _⟩ := h40
                obtain ⟨g01, g02⟩ := cells?_get hcs0
                have h6 := g02 0 (by omega)
                have h7 : ∃ c, cs0[0]? = some c := ⟨cs0[0]'(by omega), by simp [show 0 < cs0.length by omega]⟩
                obtain ⟨c, hc⟩ := h7
                rw [hc] at h6
                have h8 := cell?_lt h6
                simpa [Addr.add] using h8
              refine ⟨⟨d, shaped d cs'⟩, fun _ => ⟨hd, hR.rel, by rw [← D.cells_length]; exact hl, g3.1, g3.2, fun j c hj => ?_⟩⟩
              have h6 := hR.shaped_cells
              have h7 : cs'[j]? = some c := by rw [← h6]; simpa using hj
              have hjl : j < P.cellsOf e := by
                have := (List.getElem?_eq_some_iff.1 h7).1
                omega
              have h8 := g2 j hjl
              obtain ⟨ab, ao, ae⟩ := a
              obtain rfl : ae = none := g3.2
              rw [add_add] at h8
              rw [h8]; exact h7
            · exact ⟨⟨.bool false, undef⟩, fun h => absurd h hi⟩
          obtain ⟨f, hf⟩ := Classical.axiomOfChoice hq
          refine ⟨.list ((List.range len).map fun i => (f i).1), ⟨_, rfl, by simp; omega, fun x hx => ?_⟩, Reads.one ?_ rfl rfl, by simp [D.cells, h1]⟩
          · simp only [List.mem_map, List.mem_range] at hx
            obtain ⟨i, hi, rfl⟩ := hx
            exact (hf i hi).1
          · by_cases hl : len = 0
            · subst hl
              exact .nil (some a) cap (fun h => by cases h)
            · have h0 := hf 0 (by omega)
              obtain ⟨ab, ao, ae⟩ := a
              obtain rfl : ae = none := h0.2.2.2.2.1
              have hlen : ((List.range len).map fun i => (f i).1).length = len := by simp
              have := DRel.list (w := w) (F := fun _ => False) ((List.range len).map fun i => (f i).1) ab ao cap (P.cellsOf e) (fun i => (f i).2) (by rw [hlen]; exact hlc) h0.2.2.2.1 (fun h => h)
                (fun d hd => by
                  simp only [List.mem_map, List.mem_range] at hd
                  obtain ⟨i, hi, rfl⟩ := hd
                  exact (hf i hi).2.2.1)
                (fun i d hd => by
                  simp only [List.getElem?_map, Option.map_eq_some_iff] at hd
                  obtain ⟨i', hi', rfl⟩ := hd
                  have := List.getElem?_eq_some_iff.1 hi'
                  obtain ⟨hi2, hi3⟩ := this
                  simp at hi2 hi3
                  subst hi3
                  exact (hf _ hi2).2.1)
                (fun i j c hi hj => by
                  rw [hlen] at hi
                  exact (hf i hi).2.2.2.2.2 j c hj)
              rw [hlen] at this
              exact this
      | struct fs =>
        obtain ⟨xs, m', rfl, _, hl, hxs, hget⟩ := DataW.trod_struct ht hx
        simp only at hp
        rw [← hl] at hp
        obtain ⟨ys, h1, h2, _, h4⟩ := reads_fields (n := n) (w := w) (F := fun _ => False) fs.toList 0 hp (fun f hf hok => by
          obtain ⟨i, hi, he⟩ := List.mem_iff_getElem.1 hf
          have h5 := hget i f (by simp at hi he; simp [hi, he])
          have h6 : ∃ y, xs[i]? = some y := ⟨xs[i]'(by simp at hi; omega), by simp [show i < xs.length by simp at hi; omega]⟩
          obtain ⟨y, hy⟩ := h6
          rw [hy] at h5
          exact read_data n m' f.type _ y hok h5)
        refine ⟨.agg (ys.flatMap D.cells), ⟨ys, rfl, by simpa using h1, fun i f y hi hy => h2 i f y (by simpa using hi) hy⟩, by simpa using h4, ?_⟩
        have := h4.1
        rw [this]; simpa using hl
      | _ => cases hp
end
end Go.Am
end
section
namespace Go.Am
open Go Go.ChangeShapes Go.WideShapes Go.RowKit
section
variable {H : Type} {enc : TypeId × Value → H} {P : Program} {w : World} {base : Nat} {sp : Nat → Bool} {held : Bool}
theorem arg_rel {n : Nat} {t : TypeId} {v : Value} {d : DataW H} {ps : List MemPlace} {b0 : Nat} (hp : plainT P n t = true) (hv : Value.okWide P w .any b0 t v) (h : DataW.Trod enc P w base sp held t v d ps) :
    ∃ x, typed P n t x ∧ DRel w (fun _ => False) x v := by
  obtain ⟨m, hm⟩ := h
  obtain ⟨x, hx, hR, _⟩ := read_data n m t _ _ hp hm
  refine ⟨x, hx, ?_⟩
  have h1 := hR.rel
  cases n with
  | zero => cases hp
  | succ n =>
    simp only [plainT] at hp
    simp only [typed] at hx
    cases ht : P.underlying t with
    | none => rw [ht] at hp; cases hp
    | some u =>
      rw [ht] at hp hx
      cases u with
      | bool => obtain ⟨b, rfl⟩ := okWide_bool ht hv; obtain ⟨y, rfl⟩ := hx; exact h1
      | int k => obtain ⟨b, rfl⟩ := okWide_int ht hv; obtain ⟨y, rfl, _⟩ := hx; exact h1
      | string => obtain ⟨b, rfl⟩ := okWide_string ht hv; obtain ⟨y, rfl, _⟩ := hx; exact h1
      | slice e => obtain ⟨a, len, cap, rfl⟩ := okWide_slice ht hv; obtain ⟨y, rfl, _⟩ := hx; exact h1
      | struct fs =>
        simp only [Value.okWide, ht] at hv
        obtain ⟨cs, rfl, _⟩ := hv
        obtain ⟨ys, rfl, _⟩ := hx
        simpa [shaped, Value.cells] using h1
      | _ => cases hp
theorem args_rel {n b0 : Nat} : ∀ {ts : List TypeId} {vs : List Value} {ds : List (DataW H)} {ps : List MemPlace}, DataW.TrodAll enc P w base sp held ts vs ds ps → (∀ t ∈ ts, plainT P n t = true) →
    (∀ (j : Nat) t v, ts[j]? = some t → vs[j]? = some v → Value.okWide P w .any b0 t v) →
    ∃ xs : List D, xs.length = vs.length ∧ xs.length = ts.length ∧ (∀ (i : Nat) t x, ts[i]? = some t → xs[i]? = some x → typed P n t x) ∧ ∀ (i : Nat) x v, xs[i]? = some x → vs[i]? = some v → DRel w (fun _ => False) x v
  | [], [], [], _, _, _, _ => ⟨[], rfl, rfl, fun i t x h => by simp at h, fun i x v h => by simp at h⟩
  | t :: ts, v :: vs, d :: ds, ps, h, hp, hv => by
    obtain ⟨p, q, h1, h2, _⟩ := h
    obtain ⟨x, hx, hr⟩ := arg_rel (hp t (by simp)) (hv 0 t v rfl rfl) h1
    obtain ⟨xs, g1, g2, g3, g4⟩ := args_rel h2 (fun t ht => hp t (by simp [ht])) (fun j t v h3 h4 => hv (j + 1) t v (by simpa using h3) (by simpa using h4))
    refine ⟨x :: xs, by simp [g1], by simp [g2], fun i t' x' h3 h4 => ?_, fun i x' v' h3 h4 => ?_⟩
    · cases i with
      | zero => simp at h3 h4; subst h3; subst h4; exact hx
      | succ i => simp at h3 h4; exact g3 i t' x' h3 h4
    · cases i with
      | zero => simp at h3 h4; subst h3; subst h4; exact hr
      | succ i => simp at h3 h4; exact g4 i x' v' h3 h4
  | [], _ :: _, _, _, h, _, _ => by cases h
  | [], [], _ :: _, _, h, _, _ => by cases h
  | _ :: _, [], _, _, h, _, _ => by cases h
  | _ :: _, _ :: _, [], _, h, _, _ => by cases h
theorem trodAll_stays (hl : laidOutB P = true) {W W' : World} (hb : Below W.heap.size W W') : ∀ {ts : List TypeId} {vs : List Value} {ds : List (DataW H)} {ps : List MemPlace}, DataW.TrodAll enc P W 0 (fun _ => true) true ts vs ds ps →
    (∀ t ∈ ts, P.readableRec t = true ∧ t < P.types.size) → (∀ x ∈ ps, x.block < W.heap.size) → DataW.TrodAll enc P W' 0 (fun b => decide (b < W.heap.size)) true ts vs ds ps
  | [], [], [], _, h, _, _ => h
  | t :: ts, v :: vs, d :: ds, ps, h, hp, hlt => by
    obtain ⟨p, q, h1, h2, rfl⟩ := h
    exact ⟨p, q, Below.trod hl (hp t (by simp)).1 (hp t (by simp)).2 h1 hb (fun x hx => hlt x (by simp [hx])), trodAll_stays hl hb h2 (fun t ht => hp t (by simp [ht])) (fun x hx => hlt x (by simp [hx])), rfl⟩
  | [], _ :: _, _, _, h, _, _ => by cases h
  | [], [], _ :: _, _, h, _, _ => by cases h
  | _ :: _, [], _, _, h, _, _ => by cases h
  | _ :: _, _ :: _, [], _, h, _, _ => by cases h
end
section
variable {P : Program} {n : Nat} {t : TypeId} {d : D}
def fieldsT (P : Program) (n : Nat) : List Field → List D → Prop
  | [], ds => ds = []
  | f :: r, ds => ∃ y ds', typed P n f.type y ∧ fieldsT P n r ds' ∧ ds = y.cells ++ ds'
theorem fieldsT_of : ∀ {fs : List Field} {ys : List D}, ys.length = fs.length → (∀ (i : Nat) (f : Field) (y : D), fs[i]? = some f → ys[i]? = some y → typed P n f.type y) → fieldsT P n fs (ys.flatMap D.cells)
  | [], [], _, _ => rfl
  | f :: fs, y :: ys, h, hf => ⟨y, ys.flatMap D.cells, hf 0 f y rfl rfl, fieldsT_of (by simpa using h) (fun i f y h1 h2 => hf (i + 1) f y (by simpa using h1) (by simpa using h2)), by simp⟩
theorem typed_int {k : IntKind} (ht : P.underlying t = some (.int k)) (h : typed P (n + 1) t d) : ∃ z, d = .int k z ∧ (Lit.int k z).wf = true := by simpa only [typed, ht] using h
theorem typed_bool (ht : P.underlying t = some .bool) (h : typed P (n + 1) t d) : ∃ b, d = .bool b := by simpa only [typed, ht] using h
theorem typed_string (ht : P.underlying t = some .string) (h : typed P (n + 1) t d) : ∃ s, d = .str s ∧ s.length ≤ maxLen := by simpa only [typed, ht] using h
theorem typed_slice {e : TypeId} (ht : P.underlying t = some (.slice e)) (h : typed P (n + 1) t d) : ∃ xs, d = .list xs ∧ xs.length ≤ maxLen ∧ ∀ x ∈ xs, typed P n e x := by simpa only [typed, ht] using h
theorem typed_struct {fs : Array Field} (ht : P.underlying t = some (.struct fs)) (h : typed P (n + 1) t d) : ∃ ds, d = .agg ds ∧ fieldsT P n fs.toList ds := by
  simp only [typed, ht] at h
  obtain ⟨ys, rfl, h1, h2⟩ := h
  exact ⟨_, rfl, fieldsT_of (by simpa using h1) (fun i f y h3 h4 => h2 i f y (by simpa using h3) h4)⟩
end
def ctxB (X : Ctx) : Bool :=
  (List.range X.P.funcs.size).all (fun g => match X.P.funcs[g]? with | some fn => fn.name != "runtime.NumGoroutine" && (match fn.body with | some c => codeDst X g fn.ntmps c | none => true) | none => true) && X.P.follows .mixedOrders && X.ov.isNone
def OrcOk (X : Ctx) (g : FuncId) (h : List AV → Option AV) : Prop := callable X.P g = true ∧ ∀ (avs : List AV) (a : AV), h avs = some a → ∀ (φ : Phi) (F : Nat → Prop) (w : World) (vs : Array Value), GlobRel w F X.gl → (∀ b, F b → b < w.heap.size) → avs.length = vs.size →
    (∀ (i : Nat) x v, avs[i]? = some x → vs[i]? = some v → AVRel φ w F x v) → Calls X.P g vs w fun e w' => ∃ v, e = .returned v ∧ Below w.heap.size w w' ∧ AVRel φ w' F a v
theorem OrcOk.lift {X : Ctx} {g : FuncId} {h : List D → Option D} (hh : callable X.P g = true ∧ ∀ (ds : List D) (d : D), h ds = some d → ∀ (F : Nat → Prop) (w : World) (vs : Array Value), GlobRel w F X.gl → (∀ b, F b → b < w.heap.size) → ds.length = vs.size →
    (∀ (i : Nat) x v, ds[i]? = some x → vs[i]? = some v → DRel w F x v) → Calls X.P g vs w fun e w' => ∃ v, e = .returned v ∧ Below w.heap.size w w' ∧ DRel w' F d v) : OrcOk X g (liftO h) := by
  refine ⟨hh.1, fun avs a ha φ F w vs hgl hFb hl hr => ?_⟩
  unfold liftO at ha
  cases hds : toDs avs with
  | none => rw [hds] at ha; cases ha
  | some ds =>
    rw [hds] at ha
    obtain ⟨d, hd, rfl⟩ := Option.map_eq_some_iff.1 ha
    have he := toDs_eq hds
    subst he
    refine (hh.2 ds d hd F w vs hgl hFb (by simpa using hl) (fun i x v hx hv => ?_)).mono ?_
    · have := hr i (.d x) v (by simp [hx]) hv
      cases this with | d _ _ h => exact h
    · rintro e w' ⟨v, rfl, hb, hv⟩
      exact ⟨v, rfl, hb, .d _ _ hv⟩
theorem CtxOk.of {X : Ctx} (h : ctxB X = true) (ho : ∀ g h, X.orc g = some h → OrcOk X g h) : CtxOk X := by
  simp only [ctxB, Bool.and_eq_true, List.all_eq_true, List.mem_range] at h
  have key : ∀ (g : FuncId) (fn : Func), X.P.funcs[g]? = some fn → fn.name ≠ "runtime.NumGoroutine" ∧ (match fn.body with | some c => codeDst X g fn.ntmps c | none => true) = true := by
    intro g fn hg
    have h1 := h.1.1 g (Array.getElem?_eq_some_iff.1 hg).1
    rw [hg] at h1
    simpa using h1
  refine ⟨by simpa using h.2, fun g fn hg => (key g fn hg).1, fun g fn c hg hb => ?_, h.1.2, ho⟩
  have := (key g fn hg).2
  rw [hb] at this
  exact this
theorem list_map_of {α : Type} {f : α → D} : ∀ {xs : List D}, (∀ x ∈ xs, ∃ r, x = f r) → ∃ rs : List α, xs = rs.map f
  | [], _ => ⟨[], rfl⟩
  | x :: xs, h => by
    obtain ⟨r, rfl⟩ := h x (by simp)
    obtain ⟨rs, rfl⟩ := list_map_of (xs := xs) (fun y hy => h y (by simp [hy]))
    exact ⟨r :: rs, rfl⟩
def fr0 : Fr := ⟨fun _ => False, []⟩
theorem law_calls {X : Ctx} (hX : CtxOk X) {f : FuncId} {b : Bool} {xs : List D} (hc : callT X f (xs.map .d) [] = some (.ret (.d (.bool b)), [])) {W : World} {args : Array Value} (hl : xs.length = args.size)
    (hr : ∀ (i : Nat) x v, xs[i]? = some x → args[i]? = some v → DRel W (fun _ => False) x v) (hg : GlobRel W (fun _ => False) X.gl) :
    Calls X.P f args W fun e W' => e = .returned (.bool b) ∧ Below W.heap.size W W' := by
  have h := (callT_ok hX f _ _ _ _ hc).2
  have hF : ∀ b, Fo fr0 (fun _ => none) (inM 0 []) b → False := by
    intro b hb
    rcases hb with hb | ⟨e, he, _⟩
    · exact hb
    · simp [inM] at he
  refine (h (fun _ => none) fr0 W args ⟨by simp [inM], fun k L hL => by simp at hL, fun e he => by simp [inM] at he, fun e he => by simp [inM] at he, fun b ⟨e, he, _⟩ => by simp [inM] at he, fun b hb => hb.elim⟩
    (hg.mono (fun _ _ _ => rfl) (Nat.le_refl _) (fun b _ hb => hF b hb)) (by simpa using hl) (fun i x v hx hv => ?_)).mono ?_
  · simp only [List.getElem?_map, Option.map_eq_some_iff] at hx
    obtain ⟨d, hd, rfl⟩ := hx
    exact .d d v ((hr i d v hd hv).mono (fun _ _ _ => rfl) (Nat.le_refl _) (fun b _ hb => hF b hb))
  · rintro e W' ⟨φ', m', out, ⟨rfl, rfl⟩, hm, hk, ho⟩
    refine ⟨?_, hk.os, hk.tape, hk.output, hk.size, fun k hk' => hk.old k hk' (fun ⟨e, he, _⟩ => by simp [inM] at he)⟩
    cases e with
    | returned v =>
      simp only [OutRel] at ho
      cases ho with
      | d x v h => cases h; rfl
    | _ => exact ho.elim
section
variable {H : Type} {enc : TypeId × Value → H}
theorem law_contract {X : Ctx} (hX : CtxOk X) {f : FuncId} {fn : Func} {s : ChangeSpec} {apart fresh handsOn : Bool} {n : Nat} {tb : TypeId}
    (hlaid : laidOutB X.P = true) (hts : (fn.params.toList.all fun t => X.P.readableRec t && decide (t < X.P.types.size) && plainT X.P n t) = true)
    (hres : fn.resultTypes = #[tb]) (htb : X.P.underlying tb = some .bool) (hvars : s.vars = [])
    (hspec : ∀ ds : List (DataW H), ds.length = fn.params.size → s.fn H ds = { results := [.lit (.bool true)], args := ds })
    {W : World} {base : Nat} {args : Array Value} {ds gs : List (DataW H)} {before : List MemPlace}
    (hval : ∀ (j : Nat) t v, fn.params[j]? = some t → args[j]? = some v → Value.okWide X.P W .any base t v)
    (hW : DataW.Whole enc X.P fn.params.toList s.vars apart W args.toList ds gs before) (hg : GlobRel W (fun _ => False) X.gl)
    (hrun : ∀ xs : List D, xs.length = fn.params.size → (∀ (i : Nat) t x, fn.params[i]? = some t → xs[i]? = some x → typed X.P n t x) → callT X f (xs.map .d) [] = some (.ret (.d (.bool true)), [])) :
    Calls X.P f args W fun e W' => ∃ v, e = .returned v ∧ s.post enc X.P fn apart fresh handsOn false W args v W' := by
  have hW' := hW
  obtain ⟨p, q, hA, hV, rfl, hfz, hnd⟩ := hW
  rw [hvars] at hV
  obtain ⟨rfl, rfl⟩ : gs = [] ∧ q = [] := by
    cases gs with
    | nil => exact ⟨rfl, hV⟩
    | cons g r => exact absurd hV (by intro h; cases h)
  simp only [List.all_eq_true, Bool.and_eq_true, decide_eq_true_eq] at hts
  obtain ⟨xs, h1, h2, h3, h4⟩ := args_rel (n := n) (b0 := base) hA (fun t ht => (hts t ht).2) (fun j t v ht hv => hval j t v (by simpa using ht) (by simpa using hv))
  have hlen := trodAll_length hA
  refine (law_calls hX (hrun xs (by simpa using h2) (fun i t x ht hx => h3 i t x (by simpa using ht) hx)) (by simpa using h1) (fun i x v hx hv => h4 i x v hx (by simpa using hv)) hg).mono ?_
  rintro e W' ⟨rfl, hb⟩
  have hlt : ∀ x ∈ p, x.block < W.heap.size := fun x hx => by simpa using hW'.lt x (by simpa using hx)
  have hs : s.fn H (ds ++ []) = { results := [.lit (.bool true)], args := ds } := by
    rw [List.append_nil]; exact hspec ds (by simpa using hlen.2)
  refine ⟨_, rfl, ds, [], p ++ [], [], p, [], hW', ?_, ?_, ?_, hb.frame _, fun h => by cases h⟩
  · rw [hs, hres]
    exact trodAll_mk1 (shut_bool htb true)
  · rw [hs]
    exact trodAll_stays hlaid hb hA (fun t ht => (hts t ht).1) hlt
  · rw [hs, hvars]
    rfl
end
end Go.Am
end
section
namespace Go.Am
open Go
set_option maxRecDepth 20000
def rhoF : Nat → Nat
  | 129 => 125
  | 138 => 86
  | 143 => 69
  | 146 => 26
  | 171 => 38
  | 173 => 39
  | 174 => 122
  | 195 => 119
  | 197 => 120
  | 205 => 180
  | 217 => 107
  | 218 => 121
  | 219 => 108
  | 221 => 53
  | 224 => 137
  | 225 => 136
  | 229 => 27
  | 243 => 61
  | 245 => 153
  | 246 => 62
  | 247 => 152
  | 260 => 151
  | 266 => 135
  | 267 => 138
  | 268 => 85
  | 279 => 166
  | 280 => 167
  | 281 => 168
  | 282 => 169
  | 283 => 97
  | 284 => 98
  | 285 => 99
  | 286 => 100
  | 287 => 165
  | 314 => 157
  | 316 => 179
  | 317 => 124
  | 318 => 126
  | 319 => 127
  | 320 => 128
  | 321 => 177
  | 322 => 178
  | 337 => 154
  | 338 => 155
  | _ => 0
def rhoT : Nat → Nat
  | 0 => 0
  | 2 => 2
  | 3 => 3
  | 4 => 4
  | 5 => 5
  | 9 => 9
  | 20 => 20
  | 21 => 21
  | 31 => 37
  | 37 => 51
  | 40 => 79
  | 46 => 196
  | 51 => 193
  | 53 => 114
  | 75 => 187
  | 80 => 100
  | 85 => 188
  | 105 => 184
  | 119 => 203
  | 127 => 260
  | 138 => 227
  | 139 => 228
  | 143 => 261
  | 145 => 263
  | 146 => 214
  | 152 => 108
  | 154 => 110
  | 167 => 229
  | 168 => 232
  | 171 => 162
  | 173 => 165
  | 175 => 230
  | 210 => 256
  | 212 => 192
  | 213 => 194
  | 232 => 235
  | 233 => 236
  | _ => 0
def rhoG : Nat → Nat
  | 1 => 1
  | 3 => 4
  | 4 => 5
  | 15 => 8
  | 16 => 9
  | 17 => 0
  | 18 => 6
  | 19 => 7
  | _ => 0
def rho : Go.Shelf.Ren := ⟨rhoF, rhoT, rhoG⟩
theorem lays146 : Go.Proofs.Lays.n146 Go.Proofs.Tryd.prog rho where
  mixed := by kernel_rfl
  f138 := by kernel_rfl
  f143 := by kernel_rfl
  f146 := by kernel_rfl
  f195 := by kernel_rfl
  f197 := by kernel_rfl
  f217 := by kernel_rfl
  f218 := by kernel_rfl
  f219 := by kernel_rfl
  f221 := by kernel_rfl
  f224 := by kernel_rfl
  f225 := by kernel_rfl
  f260 := by kernel_rfl
  f266 := by kernel_rfl
  f267 := by kernel_rfl
  f268 := by kernel_rfl
  f314 := by kernel_rfl
  t0 := by kernel_rfl
  a0 := by intro w; kernel_rfl
  z0 := by intro w; kernel_rfl
  v0 := by intro w; kernel_rfl
  t3 := by kernel_rfl
  a3 := by intro w; kernel_rfl
  z3 := by intro w; kernel_rfl
  v3 := by intro w; kernel_rfl
  t4 := by kernel_rfl
  a4 := by intro w; kernel_rfl
  z4 := by intro w; kernel_rfl
  v4 := by intro w; kernel_rfl
  t5 := by kernel_rfl
  a5 := by intro w; kernel_rfl
  z5 := by intro w; kernel_rfl
  v5 := by intro w; kernel_rfl
  t9 := by kernel_rfl
  a9 := by intro w; kernel_rfl
  z9 := by intro w; kernel_rfl
  v9 := by intro w; kernel_rfl
  t21 := by kernel_rfl
  a21 := by intro w; kernel_rfl
  z21 := by intro w; kernel_rfl
  v21 := by intro w; kernel_rfl
  t31 := by kernel_rfl
  a31 := by intro w; kernel_rfl
  z31 := by intro w; kernel_rfl
  v31 := by intro w; kernel_rfl
  t46 := by kernel_rfl
  a46 := by intro w; kernel_rfl
  z46 := by intro w; kernel_rfl
  v46 := by intro w; kernel_rfl
  t51 := by kernel_rfl
  a51 := by intro w; kernel_rfl
  z51 := by intro w; kernel_rfl
  v51 := by intro w; kernel_rfl
  t105 := by kernel_rfl
  a105 := by intro w; kernel_rfl
  z105 := by intro w; kernel_rfl
  v105 := by intro w; kernel_rfl
  t119 := by kernel_rfl
  a119 := by intro w; kernel_rfl
  z119 := by intro w; kernel_rfl
  t138 := by kernel_rfl
  a138 := by intro w; kernel_rfl
  z138 := by intro w; kernel_rfl
  v138 := by intro w; kernel_rfl
  t139 := by kernel_rfl
  a139 := by intro w; kernel_rfl
  z139 := by intro w; kernel_rfl
  v139 := by intro w; kernel_rfl
  t146 := by kernel_rfl
  a146 := by intro w; kernel_rfl
  z146 := by intro w; kernel_rfl
  v146 := by intro w; kernel_rfl
  g1 := by kernel_rfl
  g3 := by kernel_rfl
  g4 := by kernel_rfl
theorem lays229 : Go.Proofs.Lays.n229 Go.Proofs.Tryd.prog rho where
  mixed := by kernel_rfl
  f229 := by kernel_rfl
  t0 := by kernel_rfl
  a0 := by intro w; kernel_rfl
  z0 := by intro w; kernel_rfl
  v0 := by intro w; kernel_rfl
  t3 := by kernel_rfl
  a3 := by intro w; kernel_rfl
  z3 := by intro w; kernel_rfl
  v3 := by intro w; kernel_rfl
  t4 := by kernel_rfl
  a4 := by intro w; kernel_rfl
  z4 := by intro w; kernel_rfl
  v4 := by intro w; kernel_rfl
  t9 := by kernel_rfl
  a9 := by intro w; kernel_rfl
  z9 := by intro w; kernel_rfl
  v9 := by intro w; kernel_rfl
  t21 := by kernel_rfl
  a21 := by intro w; kernel_rfl
  z21 := by intro w; kernel_rfl
  v21 := by intro w; kernel_rfl
  t31 := by kernel_rfl
  a31 := by intro w; kernel_rfl
  z31 := by intro w; kernel_rfl
  v31 := by intro w; kernel_rfl
  t40 := by kernel_rfl
  a40 := by intro w; kernel_rfl
  z40 := by intro w; kernel_rfl
  v40 := by intro w; kernel_rfl
  t152 := by kernel_rfl
  a152 := by intro w; kernel_rfl
  z152 := by intro w; kernel_rfl
  v152 := by intro w; kernel_rfl
  t154 := by kernel_rfl
  a154 := by intro w; kernel_rfl
  z154 := by intro w; kernel_rfl
  v154 := by intro w; kernel_rfl
theorem laysM173 : Go.Proofs.LaysM.n173 Go.Proofs.Tryd.prog rho where
  mixed := by kernel_rfl
  f129 := by kernel_rfl
  f173 := by kernel_rfl
  f246 := by kernel_rfl
  f283 := by kernel_rfl
  f284 := by kernel_rfl
  f285 := by kernel_rfl
  f286 := by kernel_rfl
  f317 := by kernel_rfl
  f318 := by kernel_rfl
  f319 := by kernel_rfl
  f320 := by kernel_rfl
  f337 := by kernel_rfl
  f338 := by kernel_rfl
  t0 := by kernel_rfl
  a0 := by intro w; kernel_rfl
  z0 := by intro w; kernel_rfl
  v0 := by intro w; kernel_rfl
  t2 := by kernel_rfl
  a2 := by intro w; kernel_rfl
  z2 := by intro w; kernel_rfl
  v2 := by intro w; kernel_rfl
  t3 := by kernel_rfl
  a3 := by intro w; kernel_rfl
  z3 := by intro w; kernel_rfl
  v3 := by intro w; kernel_rfl
  t4 := by kernel_rfl
  a4 := by intro w; kernel_rfl
  z4 := by intro w; kernel_rfl
  v4 := by intro w; kernel_rfl
  t5 := by kernel_rfl
  a5 := by intro w; kernel_rfl
  z5 := by intro w; kernel_rfl
  v5 := by intro w; kernel_rfl
  t9 := by kernel_rfl
  a9 := by intro w; kernel_rfl
  z9 := by intro w; kernel_rfl
  v9 := by intro w; kernel_rfl
  t20 := by kernel_rfl
  a20 := by intro w; kernel_rfl
  z20 := by intro w; kernel_rfl
  v20 := by intro w; kernel_rfl
  t37 := by kernel_rfl
  a37 := by intro w; kernel_rfl
  z37 := by intro w; kernel_rfl
  v37 := by intro w; kernel_rfl
  t46 := by kernel_rfl
  a46 := by intro w; kernel_rfl
  z46 := by intro w; kernel_rfl
  v46 := by intro w; kernel_rfl
  t51 := by kernel_rfl
  a51 := by intro w; kernel_rfl
  z51 := by intro w; kernel_rfl
  v51 := by intro w; kernel_rfl
  t53 := by kernel_rfl
  a53 := by intro w; kernel_rfl
  z53 := by intro w; kernel_rfl
  v53 := by intro w; kernel_rfl
  t171 := by kernel_rfl
  a171 := by intro w; kernel_rfl
  z171 := by intro w; kernel_rfl
  v171 := by intro w; kernel_rfl
  t173 := by kernel_rfl
  a173 := by intro w; kernel_rfl
  z173 := by intro w; kernel_rfl
  v173 := by intro w; kernel_rfl
  t212 := by kernel_rfl
  a212 := by intro w; kernel_rfl
  z212 := by intro w; kernel_rfl
  v212 := by intro w; kernel_rfl
  t213 := by kernel_rfl
  a213 := by intro w; kernel_rfl
  z213 := by intro w; kernel_rfl
  t232 := by kernel_rfl
  a232 := by intro w; kernel_rfl
  z232 := by intro w; kernel_rfl
  v232 := by intro w; kernel_rfl
  t233 := by kernel_rfl
  a233 := by intro w; kernel_rfl
  z233 := by intro w; kernel_rfl
  v233 := by intro w; kernel_rfl
  g17 := by kernel_rfl
  g18 := by kernel_rfl
  g19 := by kernel_rfl
  i0 := by kernel_rfl
  i2 := by kernel_rfl
  i3 := by kernel_rfl
  i4 := by kernel_rfl
  i5 := by kernel_rfl
  i9 := by kernel_rfl
  i20 := by kernel_rfl
  i37 := by kernel_rfl
  i46 := by kernel_rfl
  i51 := by kernel_rfl
  i53 := by kernel_rfl
  i171 := by kernel_rfl
  i173 := by kernel_rfl
  i212 := by kernel_rfl
  i232 := by kernel_rfl
  i233 := by kernel_rfl
  m17 := by kernel_rfl
  m18 := by kernel_rfl
  m19 := by kernel_rfl
theorem laysC174 : Go.Proofs.LaysC.n174 Go.Proofs.Tryd.prog rho where
  mixed := by kernel_rfl
  f129 := by kernel_rfl
  f171 := by kernel_rfl
  f174 := by kernel_rfl
  f205 := by kernel_rfl
  f243 := by kernel_rfl
  f245 := by kernel_rfl
  f246 := by kernel_rfl
  f247 := by kernel_rfl
  f279 := by kernel_rfl
  f280 := by kernel_rfl
  f281 := by kernel_rfl
  f282 := by kernel_rfl
  f283 := by kernel_rfl
  f284 := by kernel_rfl
  f285 := by kernel_rfl
  f286 := by kernel_rfl
  f287 := by kernel_rfl
  f316 := by kernel_rfl
  f317 := by kernel_rfl
  f318 := by kernel_rfl
  f319 := by kernel_rfl
  f320 := by kernel_rfl
  f321 := by kernel_rfl
  f322 := by kernel_rfl
  f337 := by kernel_rfl
  f338 := by kernel_rfl
  t0 := by kernel_rfl
  a0 := by intro w; kernel_rfl
  z0 := by intro w; kernel_rfl
  v0 := by intro w; kernel_rfl
  t2 := by kernel_rfl
  a2 := by intro w; kernel_rfl
  z2 := by intro w; kernel_rfl
  v2 := by intro w; kernel_rfl
  t3 := by kernel_rfl
  a3 := by intro w; kernel_rfl
  z3 := by intro w; kernel_rfl
  v3 := by intro w; kernel_rfl
  t4 := by kernel_rfl
  a4 := by intro w; kernel_rfl
  z4 := by intro w; kernel_rfl
  v4 := by intro w; kernel_rfl
  t5 := by kernel_rfl
  a5 := by intro w; kernel_rfl
  z5 := by intro w; kernel_rfl
  v5 := by intro w; kernel_rfl
  t9 := by kernel_rfl
  a9 := by intro w; kernel_rfl
  z9 := by intro w; kernel_rfl
  v9 := by intro w; kernel_rfl
  t20 := by kernel_rfl
  a20 := by intro w; kernel_rfl
  z20 := by intro w; kernel_rfl
  v20 := by intro w; kernel_rfl
  t21 := by kernel_rfl
  a21 := by intro w; kernel_rfl
  z21 := by intro w; kernel_rfl
  v21 := by intro w; kernel_rfl
  t37 := by kernel_rfl
  a37 := by intro w; kernel_rfl
  z37 := by intro w; kernel_rfl
  v37 := by intro w; kernel_rfl
  t46 := by kernel_rfl
  a46 := by intro w; kernel_rfl
  z46 := by intro w; kernel_rfl
  v46 := by intro w; kernel_rfl
  t51 := by kernel_rfl
  a51 := by intro w; kernel_rfl
  z51 := by intro w; kernel_rfl
  v51 := by intro w; kernel_rfl
  t53 := by kernel_rfl
  a53 := by intro w; kernel_rfl
  z53 := by intro w; kernel_rfl
  v53 := by intro w; kernel_rfl
  t75 := by kernel_rfl
  a75 := by intro w; kernel_rfl
  z75 := by intro w; kernel_rfl
  v75 := by intro w; kernel_rfl
  t85 := by kernel_rfl
  a85 := by intro w; kernel_rfl
  z85 := by intro w; kernel_rfl
  v85 := by intro w; kernel_rfl
  t127 := by kernel_rfl
  a127 := by intro w; kernel_rfl
  z127 := by intro w; kernel_rfl
  v127 := by intro w; kernel_rfl
  t143 := by kernel_rfl
  a143 := by intro w; kernel_rfl
  z143 := by intro w; kernel_rfl
  v143 := by intro w; kernel_rfl
  t145 := by kernel_rfl
  a145 := by intro w; kernel_rfl
  z145 := by intro w; kernel_rfl
  v145 := by intro w; kernel_rfl
  t167 := by kernel_rfl
  a167 := by intro w; kernel_rfl
  z167 := by intro w; kernel_rfl
  v167 := by intro w; kernel_rfl
  t168 := by kernel_rfl
  a168 := by intro w; kernel_rfl
  z168 := by intro w; kernel_rfl
  v168 := by intro w; kernel_rfl
  t171 := by kernel_rfl
  a171 := by intro w; kernel_rfl
  z171 := by intro w; kernel_rfl
  v171 := by intro w; kernel_rfl
  t173 := by kernel_rfl
  a173 := by intro w; kernel_rfl
  z173 := by intro w; kernel_rfl
  v173 := by intro w; kernel_rfl
  t175 := by kernel_rfl
  a175 := by intro w; kernel_rfl
  z175 := by intro w; kernel_rfl
  v175 := by intro w; kernel_rfl
  t210 := by kernel_rfl
  a210 := by intro w; kernel_rfl
  z210 := by intro w; kernel_rfl
  v210 := by intro w; kernel_rfl
  t212 := by kernel_rfl
  a212 := by intro w; kernel_rfl
  z212 := by intro w; kernel_rfl
  v212 := by intro w; kernel_rfl
  t213 := by kernel_rfl
  a213 := by intro w; kernel_rfl
  z213 := by intro w; kernel_rfl
  t232 := by kernel_rfl
  a232 := by intro w; kernel_rfl
  z232 := by intro w; kernel_rfl
  v232 := by intro w; kernel_rfl
  t233 := by kernel_rfl
  a233 := by intro w; kernel_rfl
  z233 := by intro w; kernel_rfl
  v233 := by intro w; kernel_rfl
  g15 := by kernel_rfl
  g16 := by kernel_rfl
  g17 := by kernel_rfl
  g18 := by kernel_rfl
  g19 := by kernel_rfl
  t80 := by kernel_rfl
  a80 := by intro w; kernel_rfl
  z80 := by intro w; kernel_rfl
  v80 := by intro w; kernel_rfl
  i0 := by kernel_rfl
  i2 := by kernel_rfl
  i3 := by kernel_rfl
  i4 := by kernel_rfl
  i5 := by kernel_rfl
  i9 := by kernel_rfl
  i20 := by kernel_rfl
  i21 := by kernel_rfl
  i37 := by kernel_rfl
  i46 := by kernel_rfl
  i51 := by kernel_rfl
  i53 := by kernel_rfl
  i75 := by kernel_rfl
  i80 := by kernel_rfl
  i85 := by kernel_rfl
  i127 := by kernel_rfl
  i143 := by kernel_rfl
  i145 := by kernel_rfl
  i167 := by kernel_rfl
  i168 := by kernel_rfl
  i171 := by kernel_rfl
  i173 := by kernel_rfl
  i175 := by kernel_rfl
  i210 := by kernel_rfl
  i212 := by kernel_rfl
  i232 := by kernel_rfl
  i233 := by kernel_rfl
  m15 := by kernel_rfl
  m16 := by kernel_rfl
  m17 := by kernel_rfl
  m18 := by kernel_rfl
  m19 := by kernel_rfl
  c0 := by kernel_rfl
  c2 := by kernel_rfl
  c3 := by kernel_rfl
  c4 := by kernel_rfl
  c5 := by kernel_rfl
  c9 := by kernel_rfl
  c20 := by kernel_rfl
  c21 := by kernel_rfl
  c37 := by kernel_rfl
  c46 := by kernel_rfl
  c51 := by kernel_rfl
  c53 := by kernel_rfl
  c75 := by kernel_rfl
  c80 := by kernel_rfl
  c85 := by kernel_rfl
  c127 := by kernel_rfl
  c143 := by kernel_rfl
  c145 := by kernel_rfl
  c167 := by kernel_rfl
  c168 := by kernel_rfl
  c171 := by kernel_rfl
  c173 := by kernel_rfl
  c175 := by kernel_rfl
  c210 := by kernel_rfl
  c212 := by kernel_rfl
  c213 := by kernel_rfl
  c232 := by kernel_rfl
  c233 := by kernel_rfl
theorem laysM171 : Go.Proofs.LaysM.n171 Go.Proofs.Tryd.prog rho where
  mixed := by kernel_rfl
  f129 := by kernel_rfl
  f171 := by kernel_rfl
  f243 := by kernel_rfl
  f246 := by kernel_rfl
  f283 := by kernel_rfl
  f284 := by kernel_rfl
  f285 := by kernel_rfl
  f286 := by kernel_rfl
  f317 := by kernel_rfl
  f318 := by kernel_rfl
  f319 := by kernel_rfl
  f320 := by kernel_rfl
  f337 := by kernel_rfl
  f338 := by kernel_rfl
  t0 := by kernel_rfl
  a0 := by intro w; kernel_rfl
  z0 := by intro w; kernel_rfl
  v0 := by intro w; kernel_rfl
  t2 := by kernel_rfl
  a2 := by intro w; kernel_rfl
  z2 := by intro w; kernel_rfl
  v2 := by intro w; kernel_rfl
  t3 := by kernel_rfl
  a3 := by intro w; kernel_rfl
  z3 := by intro w; kernel_rfl
  v3 := by intro w; kernel_rfl
  t4 := by kernel_rfl
  a4 := by intro w; kernel_rfl
  z4 := by intro w; kernel_rfl
  v4 := by intro w; kernel_rfl
  t5 := by kernel_rfl
  a5 := by intro w; kernel_rfl
  z5 := by intro w; kernel_rfl
  v5 := by intro w; kernel_rfl
  t9 := by kernel_rfl
  a9 := by intro w; kernel_rfl
  z9 := by intro w; kernel_rfl
  v9 := by intro w; kernel_rfl
  t20 := by kernel_rfl
  a20 := by intro w; kernel_rfl
  z20 := by intro w; kernel_rfl
  v20 := by intro w; kernel_rfl
  t37 := by kernel_rfl
  a37 := by intro w; kernel_rfl
  z37 := by intro w; kernel_rfl
  v37 := by intro w; kernel_rfl
  t46 := by kernel_rfl
  a46 := by intro w; kernel_rfl
  z46 := by intro w; kernel_rfl
  v46 := by intro w; kernel_rfl
  t51 := by kernel_rfl
  a51 := by intro w; kernel_rfl
  z51 := by intro w; kernel_rfl
  v51 := by intro w; kernel_rfl
  t53 := by kernel_rfl
  a53 := by intro w; kernel_rfl
  z53 := by intro w; kernel_rfl
  v53 := by intro w; kernel_rfl
  t171 := by kernel_rfl
  a171 := by intro w; kernel_rfl
  z171 := by intro w; kernel_rfl
  v171 := by intro w; kernel_rfl
  t173 := by kernel_rfl
  a173 := by intro w; kernel_rfl
  z173 := by intro w; kernel_rfl
  v173 := by intro w; kernel_rfl
  t212 := by kernel_rfl
  a212 := by intro w; kernel_rfl
  z212 := by intro w; kernel_rfl
  v212 := by intro w; kernel_rfl
  t213 := by kernel_rfl
  a213 := by intro w; kernel_rfl
  z213 := by intro w; kernel_rfl
  t232 := by kernel_rfl
  a232 := by intro w; kernel_rfl
  z232 := by intro w; kernel_rfl
  v232 := by intro w; kernel_rfl
  t233 := by kernel_rfl
  a233 := by intro w; kernel_rfl
  z233 := by intro w; kernel_rfl
  v233 := by intro w; kernel_rfl
  g17 := by kernel_rfl
  g18 := by kernel_rfl
  g19 := by kernel_rfl
  i0 := by kernel_rfl
  i2 := by kernel_rfl
  i3 := by kernel_rfl
  i4 := by kernel_rfl
  i5 := by kernel_rfl
  i9 := by kernel_rfl
  i20 := by kernel_rfl
  i37 := by kernel_rfl
  i46 := by kernel_rfl
  i51 := by kernel_rfl
  i53 := by kernel_rfl
  i171 := by kernel_rfl
  i173 := by kernel_rfl
  i212 := by kernel_rfl
  i232 := by kernel_rfl
  i233 := by kernel_rfl
  m17 := by kernel_rfl
  m18 := by kernel_rfl
  m19 := by kernel_rfl
end Go.Am
end
section
namespace Go.Am
open Go Go.Proofs
variable [Inhabited Mx2]
open Go.RowKit
set_option maxRecDepth 20000
theorem callable_of {P : Program} {g : FuncId} {fn : Func} (hf : P.funcs[g]? = some fn) (hb : fn.body.isSome = true) (hn : (fn.name == "runtime.NumGoroutine") = false) : callable P g = true := by
  unfold callable; rw [hf]; simp only [hb, hn]; rfl
theorem dstr_of {w F s v} (h : DRel w F (.str s) v) : ∃ b : ByteArray, v = .string b ∧ b.data.toList = s := by
  cases h with
  | str b s h => exact ⟨b, rfl, h⟩
theorem dint_of {w F k n v} (h : DRel w F (.int k n) v) : v = .int k n := by cases h; rfl
theorem two_args {ds : List D} {a b : D} {w F} {vs : Array Value} (hd : ds = [a, b]) (hl : ds.length = vs.size) (hr : ∀ (i : Nat) x v, ds[i]? = some x → vs[i]? = some v → DRel w F x v) :
    ∃ x y, vs = #[x, y] ∧ DRel w F a x ∧ DRel w F b y := by
  subst hd
  obtain ⟨l⟩ := vs
  match l, hl with
  | [x, y], _ => exact ⟨x, y, rfl, hr 0 a x rfl rfl, hr 1 b y rfl rfl⟩
theorem one_arg {ds : List D} {a : D} {w F} {vs : Array Value} (hd : ds = [a]) (hl : ds.length = vs.size) (hr : ∀ (i : Nat) x v, ds[i]? = some x → vs[i]? = some v → DRel w F x v) :
    ∃ x, vs = #[x] ∧ DRel w F a x := by
  subst hd
  obtain ⟨l⟩ := vs
  match l, hl with
  | [x], _ => exact ⟨x, rfl, hr 0 a x rfl rfl⟩
theorem mx_cell {w : World} {F} (hg : GlobRel w F gl0) : ∃ m, w.cell? ⟨1, 0, none⟩ = some (.int .i64 m) := by
  obtain ⟨_, _, x', h1, h2⟩ := hg (1, .int .i64 (id (α := Int) (default : Mx2))) (by simp [gl0])
  generalize id (α := Int) (default : Mx2) = z at h1
  obtain rfl := dint_of h1
  exact ⟨z, h2 0 _ (by simp [Value.cells])⟩
theorem opq_cell {w : World} {F} {g : Nat} (hg : GlobRel w F gl0) (hm : (g, D.opq) ∈ gl0) : ∃ v, w.cell? ⟨g, 0, none⟩ = some v ∧ (v = .nilIface ∨ ∃ t p, v = .iface t p) := by
  obtain ⟨_, _, x', h1, h2⟩ := hg _ hm
  cases h1 with
  | opq _ h =>
    refine ⟨x', h2 0 x' ?_, h⟩
    rcases h with rfl | ⟨t, p, rfl⟩ <;> rfl
theorem tab10_eq : tab10 = Go.Lib.pow10Tab := by decide
theorem tab_is {w : World} {F} (hg : GlobRel w F gl0) : Go.Lib.TabIs Tryd.prog w "internal/strconv.uint64pow10" .u64 Go.Lib.pow10Tab := by
  obtain ⟨⟨_, h0⟩, _, x', h1, h2⟩ := hg (0, .agg (tab10.map fun z => .int .u64 z)) (by simp [gl0])
  obtain ⟨cur, e, fz, hh, hs⟩ := h0 _ rfl
  have hgn : Tryd.prog.globalNamed "internal/strconv.uint64pow10" = some 0 := by kernel_rfl
  unfold Go.Lib.TabIs World.var?
  rw [hgn]
  simp only [Option.bind_some]
  rw [hh]
  simp only [Option.some.injEq]
  cases h1 with
  | agg cs a hl hf hc =>
    rw [← tab10_eq]
    simp only [List.length_map] at hl hs
    apply Array.ext
    · simp; omega
    · intro i hi1 hi2
      have hi : i < tab10.length := by simpa using hi2
      have hx : ∃ v, a[i]? = some v := ⟨a[i]'(by omega), by simp [show i < a.size by omega]⟩
      obtain ⟨v, hv⟩ := hx
      have q1 := hc i (.int .u64 tab10[i]) v (by simp [hi]) hv
      obtain rfl := dint_of q1
      have q2 := h2 i _ (by simpa [Value.cells] using hv)
      unfold World.cell? at q2
      simp only [hh] at q2
      have q3 : cur[i]? = some (.int .u64 tab10[i]) := by simpa using q2
      have q4 := (Array.getElem?_eq_some_iff.1 q3).2
      simp only [q4]
      simp
theorem drel_strs {w : World} {F : Nat → Prop} (l : List ByteArray) (b cap : Nat) (hb : b < w.heap.size) (hF : ¬ F b) (hcap : l.length ≤ cap)
    (hc : ∀ (i : Nat) s, l[i]? = some s → w.cell? ⟨b, i, none⟩ = some (.string s)) : DRel w F (.list (l.map fun s => .str s.data.toList)) (.slice (some ⟨b, 0, none⟩) l.length cap) := by
  have := DRel.list (w := w) (F := F) (l.map fun s => .str s.data.toList) b 0 cap 1 (fun i => .string (l[i]?.getD ⟨#[]⟩)) (by simpa using hcap) hb hF (by simp [D.size]) (fun i d hd => by
    simp only [List.getElem?_map, Option.map_eq_some_iff] at hd
    obtain ⟨s, hs, rfl⟩ := hd
    rw [hs]
    exact .str s _ rfl) (fun i j c hi hj => by
    have hi : i < l.length := by simpa using hi
    cases j with
    | zero =>
      simp [Value.cells] at hj
      subst hj
      have := hc i l[i] (by simp [hi])
      simpa [hi] using this
    | succ j => simp [Value.cells] at hj)
  simpa using this
theorem split_ok : OrcOk ctx 26 (liftO splitO) := by
  refine OrcOk.lift ⟨callable_of Tryd.func26 (by kernel_rfl) (by kernel_rfl), fun ds d hd F w vs hg hFb hl hr => ?_⟩
  unfold splitO at hd
  split at hd
  · split at hd
    · rename_i hs
      obtain ⟨x, y, rfl, h1, h2⟩ := two_args rfl hl hr
      obtain ⟨a, rfl, rfl⟩ := dstr_of h1
      obtain ⟨b, rfl, rfl⟩ := dstr_of h2
      obtain ⟨m, hm⟩ := mx_cell hg
      refine (Any.strings_Split lays146 (by kernel_rfl) a b m w (by simpa using hs.1) hm (by simpa using hs.2)).mono ?_
      rintro e w' ⟨rfl, rfl⟩
      cases hd
      refine ⟨_, rfl, Below.alloc (Below.refl _ _) (Nat.le_refl _) _, ?_⟩
      have hlen := Go.Lib.splitB_all b (by simpa using hs.2) 0 _ a rfl
      have hdat := Go.Lib.splitB_data b 0 (Go.Lib.countB a b) a
      generalize hL : Go.Lib.splitB b 0 (Go.Lib.countB a b) a = L at hlen hdat ⊢
      have he : (Go.Lib.split a.data.toList b.data.toList).map D.str = L.map fun s => .str s.data.toList := by
        unfold Go.Lib.split
        rw [show Go.Lib.count a.data.toList b.data.toList = Go.Lib.countB a b from rfl, ← hdat]
        simp
      rw [he]
      rw [show Go.Lib.countB a b + 1 = L.length from hlen.symm]
      refine drel_strs L _ _ ?_ ?_ (Nat.le_refl _) ?_
      · exact (Array.getElem?_eq_some_iff.1 (heap_alloc_new w _)).1
      · intro hf
        exact absurd (hFb _ hf) (by omega)
      · intro i s hs'
        simp only [World.cell?, heap_alloc_new]
        simp [hs']
    · cases hd
  · cases hd
theorem grow_below (w : World) (k : Nat) (os : Array Obj) : Below w.heap.size w (Go.Sort.grow (w.drewN k) os) :=
  ⟨rfl, rfl, rfl, by show w.heap.size ≤ (w.heap ++ os).size; rw [Array.size_append]; omega, fun j hj => by show (w.heap ++ os)[j]? = _; exact Array.getElem?_append_left hj⟩
theorem fi_ok : OrcOk ctx 39 (liftO fiO) := by
  refine OrcOk.lift ⟨callable_of Tryd.func39 (by kernel_rfl) (by kernel_rfl), fun ds d hd F w vs hg hFb hl hr => ?_⟩
  unfold fiO at hd
  split at hd
  · split at hd
    · rename_i hs
      obtain ⟨rfl, hs1, hs2⟩ := hs
      obtain ⟨x, y, rfl, h1, h2⟩ := two_args rfl hl hr
      obtain rfl := dint_of h1
      obtain rfl := dint_of h2
      refine (Any.strconv_FormatInt_10 laysM173 _ hs1 hs2 w (tab_is hg)).mono ?_
      rintro e w' ⟨rfl, k, os, rfl⟩
      cases hd
      exact ⟨_, rfl, grow_below w k os, .str _ _ (by simp)⟩
    · cases hd
  · cases hd
theorem it_ok : OrcOk ctx 38 (liftO itO) := by
  refine OrcOk.lift ⟨callable_of Tryd.func38 (by kernel_rfl) (by kernel_rfl), fun ds d hd F w vs hg hFb hl hr => ?_⟩
  unfold itO at hd
  split at hd
  · split at hd
    · rename_i hs
      obtain ⟨x, rfl, h1⟩ := one_arg rfl hl hr
      obtain rfl := dint_of h1
      refine (Any.strconv_Itoa laysM171 _ hs.1 hs.2 w (tab_is hg)).mono ?_
      rintro e w' ⟨rfl, k, os, rfl⟩
      cases hd
      exact ⟨_, rfl, grow_below w k os, .str _ _ (by simp)⟩
    · cases hd
  · cases hd
theorem three_av {avs : List AV} {a b c : AV} {φ w F} {vs : Array Value} (hd : avs = [a, b, c]) (hl : avs.length = vs.size) (hr : ∀ (i : Nat) x v, avs[i]? = some x → vs[i]? = some v → AVRel φ w F x v) :
    ∃ x y z, vs = #[x, y, z] ∧ AVRel φ w F a x ∧ AVRel φ w F b y ∧ AVRel φ w F c z := by
  subst hd
  obtain ⟨l⟩ := vs
  match l, hl with
  | [x, y, z], _ => exact ⟨x, y, z, rfl, hr 0 a x rfl rfl, hr 1 b y rfl rfl, hr 2 c z rfl rfl⟩
theorem two_av {avs : List AV} {a b : AV} {φ w F} {vs : Array Value} (hd : avs = [a, b]) (hl : avs.length = vs.size) (hr : ∀ (i : Nat) x v, avs[i]? = some x → vs[i]? = some v → AVRel φ w F x v) :
    ∃ x y, vs = #[x, y] ∧ AVRel φ w F a x ∧ AVRel φ w F b y := by
  subst hd
  obtain ⟨l⟩ := vs
  match l, hl with
  | [x, y], _ => exact ⟨x, y, rfl, hr 0 a x rfl rfl, hr 1 b y rfl rfl⟩
theorem av_d {φ w F x v} (h : AVRel φ w F (.d x) v) : DRel w F x v := by cases h; assumption
theorem tup2 {φ w F a b x y} (h1 : AVRel φ w F a x) (h2 : AVRel φ w F b y) : AVRel φ w F (.tup [a, b]) (.tuple #[x, y]) := by
  refine .tup _ _ rfl fun i c v hc hv => ?_
  match i, hc, hv with
  | 0, hc, hv => simp at hc hv; subst hc; subst hv; exact h1
  | 1, hc, hv => simp at hc hv; subst hc; subst hv; exact h2
  | i + 2, hc, _ => simp at hc
theorem pi_ok : OrcOk ctx 122 piO := by
  refine ⟨callable_of Tryd.func122 (by kernel_rfl) (by kernel_rfl), fun avs a ha φ F w vs hg hFb hl hr => ?_⟩
  unfold piO at ha
  split at ha
  · split at ha
    · rename_i hs
      obtain ⟨rfl, rfl, hlen⟩ := hs
      obtain ⟨x, y, z, rfl, h1, h2, h3⟩ := three_av rfl hl hr
      obtain ⟨s, rfl, rfl⟩ := dstr_of (av_d h1)
      obtain rfl := dint_of (av_d h2)
      obtain rfl := dint_of (av_d h3)
      have hlen : s.size ≤ 281474976710656 := by simpa using hlen
      cases ha
      unfold piA
      rcases hp : Go.Lib.parseIntB 64 s.data.toList with n | _ | _
      · refine (Any.strconv_ParseInt_10_at64_ok laysC174 s (by omega) n hp w).mono ?_
        rintro e w' ⟨rfl, hw⟩
        refine ⟨_, rfl, ?_, tup2 (.d _ _ (.int _ _)) (.lit _ rfl)⟩
        rcases hw with rfl | ⟨t, rfl⟩
        · exact Below.refl _ _
        · exact Go.Lib.bytesWorld_below _ _ _
      · obtain ⟨ev, hv, hev⟩ := opq_cell (g := 8) hg (by simp [gl0])
        refine (Any.strconv_ParseInt_10_at64_syntax laysC174 s hlen hp ev w hv hev).mono ?_
        rintro e w' ⟨N, rfl, _, _, hb⟩
        exact ⟨_, rfl, hb, tup2 (.d _ _ (.int _ _)) (.err _ _)⟩
      · obtain ⟨ev, hv, hev⟩ := opq_cell (g := 9) hg (by simp [gl0])
        refine (Any.strconv_ParseInt_10_at64_range laysC174 s hlen hp ev w hv hev).mono ?_
        rintro e w' ⟨N, rfl, _, _, hb⟩
        exact ⟨_, rfl, hb, tup2 (.d _ _ (.int _ _)) (.err _ _)⟩
    · cases ha
  · cases ha
theorem blank_gives (w : World) : PredAt Tryd.prog 28 #[] encR (fun r => decide ((r : Int) = 32)) w := fun W r _ => by
  unfold FnGives
  go_enter Tryd.func28, Tryd.ntmps28
  go_wp2
  refine ⟨rfl, _, results_tmp (t := 2) (by rw [Tryd.results28]) _ _ _, ?_⟩
  exact ⟨rfl, 0, rfl⟩
theorem own_cell {w : World} {base : Nat} {e : TypeId} {A n cap : Nat} {xs : List Value} (h : w.ownsRow base e 1 (.slice (some ⟨A, 0, none⟩) n cap) n xs) : A < w.heap.size ∧ ∀ (i : Nat) x, xs[i]? = some x → w.cell? ⟨A, i, none⟩ = some x := by
  obtain ⟨hl, h⟩ := h
  rcases h with ⟨h, _⟩ | ⟨g, cap', cur, hv, _, hh, hn, _, hs, ht⟩
  · cases h
  · cases hv
    refine ⟨(Array.getElem?_eq_some_iff.1 hh).1, fun i x hx => ?_⟩
    rw [← ht] at hx
    rw [List.getElem?_take] at hx
    split at hx
    · simp only [World.cell?, hh]
      simpa using hx
    · cases hx
theorem ff_ok : OrcOk ctx 27 (ffO 28 32) := by
  refine ⟨callable_of Tryd.func27 (by kernel_rfl) (by kernel_rfl), fun avs a ha φ F w vs hg hFb hl hr => ?_⟩
  unfold ffO at ha
  split at ha
  · split at ha
    · rename_i hs
      obtain ⟨rfl, hlen⟩ := hs
      obtain ⟨x, y, rfl, h1, h2⟩ := two_av rfl hl hr
      obtain ⟨s, rfl, rfl⟩ := dstr_of (av_d h1)
      have hy : y = .func (.func 28) #[] #[] := by
        generalize hq : AV.fn 28 [] = q at h2
        cases h2 with
        | fn f cap a hf' hl' hc' =>
          simp only [AV.fn.injEq] at hq
          obtain ⟨rfl, rfl⟩ := hq
          have : a = #[] := by
            apply Array.eq_empty_of_size_eq_zero
            simpa using hl'.symm
          subst this
          rfl
        | bnd f cap a hl' hc' =>
          simp only [AV.fn.injEq] at hq
          have e : Nat.add f 1000000 = 28 := hq.1.symm
          simp only [Nat.add_eq] at e
          exact absurd e (Nat.ne_of_gt (Nat.lt_of_lt_of_le (by decide) (Nat.le_add_left _ _)))
        | _ => cases hq
      subst hy
      cases ha
      refine (Any.strings_FieldsFunc lays229 28 #[] (enters_of Tryd.func28 (by kernel_rfl) rfl) (fun r => decide ((r : Int) = 32)) s w (by simpa using hlen) (blank_gives w) (by kernel_rfl) (by kernel_rfl)).mono ?_
      rintro e w' ⟨A, rfl, hA, hown, hb⟩
      refine ⟨_, rfl, hb, .d _ _ ?_⟩
      obtain ⟨hAl, hc⟩ := own_cell hown
      have hss : (⟨s.data.toList.toArray⟩ : ByteArray) = s := by simp
      rw [hss]
      refine drel_strs _ A _ hAl (fun hf => absurd (hFb _ hf) (by omega)) (Nat.le_refl _) (fun i x hx => hc i _ (by simp [hx]))
    · cases ha
  · cases ha
theorem orcs_ok : ∀ g h, ctx.orc g = some h → OrcOk ctx g h := by
  intro g h hg
  have hg' : orc0 g = some h := hg
  unfold orc0 at hg'
  split at hg'
  all_goals first | (cases hg'; first | exact split_ok | exact ff_ok | exact it_ok | exact fi_ok | exact pi_ok) | cases hg'
end Go.Am
end
section
namespace Go.Am
open Go
theorem laid_mem {P : Program} {w : World} {n : String} {d : DataW Unit} : ∀ {l : List (String × DataW Unit)} {ps : List MemPlace}, DataW.LaidVars P w l ps → (n, d) ∈ l →
    ∃ g t cs fuel p, P.globalNamed n = some g ∧ (P.globals[g]?).map (·.type) = some t ∧ w.var? P n = some cs ∧ DataW.trod (fun _ => ()) P w 0 (fun _ => true) false fuel t cs.toList = some (d, p)
  | [], _, _, hm => by simp at hm
  | (n', d') :: r, ps, ⟨g, t, cs, fuel, p, q, h1, h2, h3, h4, h5, _⟩, hm => by
    rcases List.mem_cons.1 hm with hm | hm
    · cases hm
      exact ⟨g, t, cs, fuel, p, h1, h2, h3, h4⟩
    · exact laid_mem h5 hm
theorem trod_ints {H : Type} {enc : TypeId × Value → H} {P : Program} {w : World} {base : Nat} {sp : Nat → Bool} {held : Bool} {fuel : Nat} {t e : TypeId} {n : Nat} {k : IntKind} {cs : List Value} {ds : List (DataW H)} {p : List MemPlace}
    (ha : P.underlying t = some (.array n e)) (he : P.underlying e = some (.int k)) (hc : P.cellsOf e = 1) (h : DataW.trod enc P w base sp held fuel t cs = some (.agg ds, p)) :
    cs.length = P.cellsOf t ∧ ds.length = n ∧ ∀ i, i < n → ∃ z, cs[i]? = some (.int k z) ∧ ds[i]? = some (.lit (.int k z)) := by
  cases fuel with
  | zero => simp [DataW.trod] at h
  | succ m =>
    unfold DataW.trod at h
    rw [ha] at h
    simp only at h
    split at h
    · rename_i hl
      simp only [Option.map_eq_some_iff, Prod.mk.injEq, DataW.agg.injEq] at h
      obtain ⟨xs, hx, rfl, _⟩ := h
      have h1 : xs.length = n := by simpa using mapM_some_length hx
      refine ⟨hl, by simpa using h1, fun i hi => ?_⟩
      have h2 := mapM_some_get hx i i (by simp [hi])
      have h3 : i < xs.length := by omega
      have h4 : xs[i]? = some xs[i] := by simp [h3]
      rw [h4, hc] at h2
      obtain ⟨z, h5, h6, _⟩ := DataW.trod_int he h2
      refine ⟨z, ?_, by simp [h4, h6]⟩
      have h7 := congrArg (·[0]?) h5
      simpa [List.getElem?_take, List.getElem?_drop] using h7
    · cases h
theorem glob_of_laid {P : Program} {W : World} {l : List (String × DataW Unit)} {name : String} {g : Nat} {t e : TypeId} {n : Nat} {k : IntKind} {zs : List Int}
    (hl : laidMet P l W) (hm : (name, DataW.agg (zs.map fun z => .lit (.int k z))) ∈ l) (hg : P.globalNamed name = some g) (ht : (P.globals[g]?).map (·.type) = some t)
    (ha : P.underlying t = some (.array n e)) (he : P.underlying e = some (.int k)) (hc : P.cellsOf e = 1) (hn : 0 < n) (hct : P.cellsOf t = n) :
    (g < W.heap.size ∧ ∀ cs, D.agg (zs.map fun z => .int k z) = .agg cs → ∃ cur e fz, W.heap[g]? = some (.cells cur e fz) ∧ cur.size = cs.length) ∧ ∃ x', DRel W (fun _ => False) (.agg (zs.map fun z => .int k z)) x' ∧ ∀ (i : Nat) (c : Value), x'.cells[i]? = some c → W.cell? ⟨g, i, none⟩ = some c := by
  obtain ⟨ps, hv, _⟩ := hl
  obtain ⟨g', t', cs, fuel, p, h1, h2, h3, h4⟩ := laid_mem hv hm
  obtain rfl := Option.some.inj (hg.symm.trans h1)
  obtain rfl := Option.some.inj (ht.symm.trans h2)
  obtain ⟨h50, h5, h6⟩ := trod_ints ha he hc h4
  rw [hct] at h50
  simp at h5
  have h7 : ∀ i z, zs[i]? = some z → W.cell? ⟨g, i, none⟩ = some (.int k z) := by
    intro i z hz
    have hi : i < n := by
      have := (List.getElem?_eq_some_iff.1 hz).1
      omega
    obtain ⟨z', h8, h9⟩ := h6 i hi
    simp [hz] at h9
    subst h9
    rw [World.var?_cell hg h3 i]
    simpa using h8
  refine ⟨⟨?_, ?_⟩, .agg (zs.map fun z => Value.int k z).toArray, ?_, ?_⟩
  · have hz : ∃ z, zs[0]? = some z := ⟨zs[0]'(by omega), by simp [show 0 < zs.length by omega]⟩
    obtain ⟨z, hz⟩ := hz
    exact (cell?_lt (h7 0 z hz)).1
  · rintro cs' hcs'
    obtain rfl := D.agg.inj hcs'
    unfold World.var? at h3
    rw [hg] at h3
    simp only [Option.bind_some] at h3
    split at h3
    · rename_i cur e' fz hh
      cases h3
      exact ⟨_, _, _, hh, by simp at h5 h50 ⊢; omega⟩
    · cases h3
  · refine DRel.ofCells (by simp) (fun v hv => ?_) (fun i c v hc' hv => ?_)
    · simp at hv
      obtain ⟨z, _, rfl⟩ := hv
      rfl
    · simp only [List.getElem?_map, Option.map_eq_some_iff] at hc' hv
      obtain ⟨z, hz, rfl⟩ := hc'
      obtain ⟨z', hz', rfl⟩ := hv
      rw [hz] at hz'
      cases hz'
      exact .int k z
  · intro i c hi
    simp [Value.cells] at hi
    obtain ⟨z, hz, rfl⟩ := hi
    exact h7 i z hz
end Go.Am
end
section
namespace Go.Am
open Go
variable {H : Type} {enc : TypeId × Value → H}
theorem handed_of {a : Assume} {C : Checked} {os : Os} {f : FuncId} {fn : Func} {s : ChangeSpec} {conds : List PathCond} {apart fresh handsOn again : Bool} {X : World → Array Value → Prop}
    (hX : ∀ (w w' : World) (args : Array Value), w.heap = w'.heap → X w args → X w' args)
    (own : ownKnob C.prog.godebug = none) (started : os.Started) (noInit : C.prog.inits.idxOf? f = none) (hfn : C.prog.funcs[f]? = some fn)
    (witness : ∃ (w : World) (tape : Tape) (i : Input), w.os = os ∧ (w.forCall tape i).Shaped C.prog ∧ i.vars = [] ∧ Input.okWide C.prog (w.forCall tape i) .any w.heap.size f i ∧
      ((s.pre enc C.prog fn conds apart (w.forCall tape i).memory i.args ∧ X (w.forCall tape i).memory i.args) ∧ sizedMet enc C.prog fn (OpenSpec.ofChange s) apart (w.forCall tape i).memory i.args) ∧ a.holds C.prog (lone (Frame.enter C.prog f i.args .normal) [] (w.forCall tape i)))
    (contract : ∀ (W : World) (base : Nat) (args : Array Value) (ds gs : List (DataW H)) (before : List MemPlace),
      (∀ (j : Nat) t v, fn.params[j]? = some t → args[j]? = some v → Value.okWide C.prog W .any base t v) →
      DataW.Whole enc C.prog fn.params.toList s.vars apart W args.toList ds gs before → X W args → W.ShapedOpen C.prog →
      Calls C.prog f args W fun e W' => ∃ v, e = .returned v ∧ s.post enc C.prog fn apart fresh handsOn again W args v W') :
    ReturnsInHanded a C os f .any (fun w args => (s.pre enc C.prog fn conds apart w args ∧ X w args) ∧ sizedMet enc C.prog fn (OpenSpec.ofChange s) apart w args) (s.post enc C.prog fn apart fresh handsOn again) := by
  refine returnsInHanded_of_calls own started noInit witness ?_
  intro w tape i _ hsh _ hok hpre _
  obtain ⟨_, _, _, fn', hfn', _, _, _, _, hval⟩ := hok
  have e : fn' = fn := Option.some.inj (hfn'.symm.trans hfn)
  subst e
  obtain ⟨⟨⟨ds, gs, before, hw, hc⟩, hx⟩, hz⟩ := hpre
  have hw' := DataW.Whole.of_heap (w' := w.forCall tape i) (by rfl) hw
  refine (contract (w.forCall tape i) w.heap.size i.args ds gs before hval hw' (hX _ _ _ (by rfl) hx) hsh).mono fun e W' ⟨v, he, hp⟩ => ?_
  subst he
  exact ChangeSpec.post_blind hp
end Go.Am
end
section
namespace Go.Am
open Go Go.ChangeShapes Go.WideShapes Go.RowKit
theorem opq_of_laid {P : Program} {W : World} {l : List (String × DataW Unit)} {name : String} {g : Nat} {t : TypeId} {d : DataW Unit} {ms : Array (String × TypeId)}
    (hl : laidMet P l W) (hm : (name, d) ∈ l) (hg : P.globalNamed name = some g) (ht : (P.globals[g]?).map (·.type) = some t) (hu : P.underlying t = some (.interface ms)) :
    ∃ v, W.cell? ⟨g, 0, none⟩ = some v ∧ (v = .nilIface ∨ ∃ u p, v = .iface u p) := by
  obtain ⟨ps, hv, _⟩ := hl
  obtain ⟨g', t', cs, fuel, p, h1, h2, h3, h4⟩ := laid_mem hv hm
  obtain rfl := Option.some.inj (hg.symm.trans h1)
  obtain rfl := Option.some.inj (ht.symm.trans h2)
  have key : ∃ v, cs.toList = [v] ∧ (v = .nilIface ∨ ∃ u p, v = .iface u p) := by
    cases fuel with
    | zero => simp [DataW.trod] at h4
    | succ m =>
      unfold DataW.trod at h4
      rw [hu] at h4
      split at h4 <;> first | (rename_i hq; exact ⟨_, by assumption, .inl rfl⟩) | (exact ⟨_, by assumption, .inr ⟨_, _, rfl⟩⟩) | (simp_all; done)
  obtain ⟨v, hcs, hs⟩ := key
  refine ⟨v, ?_, hs⟩
  rw [World.var?_cell hg h3 0]
  have := congrArg (·[0]?) hcs
  simpa using this
end Go.Am
end

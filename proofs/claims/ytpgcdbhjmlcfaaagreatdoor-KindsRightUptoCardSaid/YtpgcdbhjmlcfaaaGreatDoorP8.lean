/-
  Texts of one proof, one behind the other.
-/
import Derived.Test.YtpgcdbhjmlcfaaaGreatDoorP7
import Derived.KernelRfl
import Derived.Test.YtpgcdbhjmlcfaaaGreatDoorProg
import Derived.Shelf.Lays
import Derived.Shelf.Strings.Search3
import Derived.Shelf.Strings.Prefix
import Derived.LaidLaws
import Derived.JoinedCond
set_option linter.all false
section
namespace Go.Am
open Go Go.Proofs
variable [Inhabited Mx2]
set_option maxRecDepth 20000
theorem numF_le (s : Tx) : (numF s).1 ≤ s.length := by
 unfold numF numG
 rcases head_cases s with ⟨_, _, _, e, hl⟩ | ⟨_, _, _, e, hl⟩ | ⟨_, _, _, e, hl⟩ | ⟨_, _, _, e, hl⟩
 all_goals
  rw [e]
  simp only
  split
  · simp
  · split
    · simp
    · rename_i x _
      simp only
      have := (List.takeWhile_prefix (fun c => decide (valB c < (headN s).1)) (l := s.drop (headN s).2)).length_le
      rw [e] at this
      simp only [List.length_drop] at this
      omega
theorem signF_le (c : UInt8) (r : Tx) : signF (c :: r) ≤ (c :: r).length := by
 unfold signF
 split
 · rename_i h
   simp only [signs2, List.any_cons, List.any_nil, Bool.or_false, Bool.or_eq_true] at h
   rcases h with h | h | h | h | h <;> exact (pre_head h).2
 · simp only
   split <;> simp
set_option maxHeartbeats 1000000 in
theorem next_run (c : UInt8) (r : Tx) (hs : (c :: r).length ≤ 100000) (line col : Int) : callT ctx 144 [.d (.str (c :: r)), .d (sgnD ⟨0, [], 0, line, col⟩)] [] =
 some (.ret (.tup [.d (sgnD ⟨(nextF (c :: r)).2.1, (c :: r).take (nextF (c :: r)).2.2.1, (nextF (c :: r)).2.2.2, line, col⟩), .d (.int .i64 (nextF (c :: r)).1)]), []) := by
 have hst : strAt (c :: r) 0 = c := rfl
 have hl := letter_run c
 have hd := digit_run c
 have hw := whileA_run (c :: r) hs
 have hnr := number_run (c :: r) hs
 have hsg := sign_run c r
 have hwle : ((c :: r).takeWhile innerB).length ≤ (c :: r).length := (List.takeWhile_prefix _).length_le
 have hnle := numF_le (c :: r)
 have hsle := signF_le c r
 have hwd := word_run ((c :: r).take ((c :: r).takeWhile innerB).length)
 unfold nextF
 generalize hn1 : ((c :: r).takeWhile innerB).length = n1 at *
 generalize hn2 : signF (c :: r) = n2 at *
 generalize hF : numF (c :: r) = F at *
 obtain ⟨n, x, e⟩ := F
 simp only at hnr hnle
 rw [run144 (by simp)]
 simp only [List.length_cons] at hwle hnle hsle
 cases h1 : letterB c with
 | true =>
  rw [h1] at hl
  cases h2 : wordB ((c :: r).take n1) with
  | true =>
   rw [h2] at hwd
   simp [Tryz.f144, drwK_end, hst, hl, hw, hwle, hwd, h1, h2]
  | false =>
   rw [h2] at hwd
   by_cases h3 : 16 < n1
   · simp [Tryz.f144, drwK_end, hst, hl, hw, hwle, hwd, h1, h2, h3]
     omega
   · simp [Tryz.f144, drwK_end, hst, hl, hw, hwle, hwd, h1, h2, h3]
     omega
 | false =>
  rw [h1] at hl
  cases h2 : digitB c with
  | true =>
   rw [h2] at hd
   by_cases h3 : e = 0
   · simp [Tryz.f144, drwK_end, hst, hl, hd, hnr, hnle, h1, h2, h3]
   · simp [Tryz.f144, drwK_end, hst, hl, hd, hnr, hnle, h1, h2, h3]
  | false =>
   rw [h2] at hd
   by_cases h3 : n2 = 0
   · simp [Tryz.f144, drwK_end, hst, hl, hd, hsg, hsle, h1, h2, h3]
   · simp [Tryz.f144, drwK_end, hst, hl, hd, hsg, hsle, h1, h2, h3]
theorem numF_pos {s : Tx} (h : (numF s).2.2 = 0) : 1 ≤ (numF s).1 := by
 unfold numF numG at h ⊢
 split
 · rename_i hc; rw [if_pos hc] at h; simp at h
 · rename_i hc
   rw [if_neg hc] at h
   split
   · rename_i hv; rw [hv] at h; simp at h
   · simp only
     simp only [not_or] at hc
     have := List.length_pos_iff.2 hc.1
     omega
theorem nextF_ok {c : UInt8} {r : Tx} (h : (nextF (c :: r)).1 = 0) : 1 ≤ (nextF (c :: r)).2.2.1 ∧ (nextF (c :: r)).2.2.1 ≤ (c :: r).length := by
 have hwle : ((c :: r).takeWhile innerB).length ≤ (c :: r).length := (List.takeWhile_prefix _).length_le
 have hnle := numF_le (c :: r)
 have hsle := signF_le c r
 have hlp : letterB c = true → 1 ≤ ((c :: r).takeWhile innerB).length := by
  intro hl
  have : innerB c = true := by unfold innerB; rw [hl]; rfl
  simp [this]
 have hnp := numF_pos (s := c :: r)
 unfold nextF at h ⊢
 simp only at h ⊢
 generalize ((c :: r).takeWhile innerB).length = n1 at *
 generalize signF (c :: r) = n2 at *
 generalize numF (c :: r) = F at *
 by_cases h1 : letterB c = true
 · simp only [if_pos h1] at h ⊢
   have := hlp h1
   split at h
   · rename_i hw; rw [if_pos hw]; exact ⟨this, hwle⟩
   · rename_i hw
     rw [if_neg hw]
     split at h
     · simp at h
     · rename_i h16; rw [if_neg h16]; exact ⟨this, hwle⟩
 · simp only [if_neg h1] at h ⊢
   by_cases h2 : digitB c = true
   · simp only [if_pos h2] at h ⊢
     split at h
     · rename_i he; rw [if_pos he]; exact ⟨hnp he, hnle⟩
     · rename_i he; exact absurd h he
   · simp only [if_neg h2] at h ⊢
     split at h
     · simp at h
     · rename_i he; rw [if_neg he]; exact ⟨by simp only; omega, hsle⟩
set_option maxHeartbeats 1000000 in
theorem lex_loop (s : Tx) (hs : s.length ≤ 16384) : ∀ (f i : Nat) (out : List Sgn) (v4 v5 v55 : Nat) (c5 c55 : Cont), i ≤ s.length → s.length - i < f → out.length ≤ i →
 denK ctx 98 (.loop (Code.at (codeOf Tryz.f98) [1, 1, 1, 1, 0, 0])) ⟨62, gl0, [(4, true, .ptr 300 1 0), (5, true, .ptr 950 1 0), (6, true, .vec 400 v4 0 out.length)],
  [⟨200, 1, .vec 5 []⟩, ⟨300, 1, .box [.d (.int .i64 0), .d (.str []), .d (.int .i64 0), .d (.int .i64 0), .d (.int .i64 0)]⟩, ⟨400, v4, .vec 5 (out.map sgnD)⟩, ⟨500, v5, c5⟩, ⟨550, v55, c55⟩, ⟨950, 1, rBox s i⟩]⟩
  (blkK 0 (finK Tryz.prog fp98 0 [.tmp 2, .tmp 3, .cell 4 104])) = some (.ret (.tup [.d (.list ((lexF s f i out).1.map sgnD)), .d (.int .i64 (lexF s f i out).2.1), .d (sgnD (lexF s f i out).2.2)]), [])
 | 0, i, out, v4, v5, v55, c5, c55, hi, hf, ho => by omega
 | f + 1, i, out, v4, v5, v55, c5, c55, hi, hf, ho => by
  have hg := gap_run s i hi (by omega) (s.length + 1) (by omega)
  have hgl := gapC_le (s.length + 1) (s.drop i)
  unfold lexF
  generalize gapC (s.length + 1) (s.drop i) = g at *
  obtain ⟨n, ok⟩ := g
  simp only [List.length_drop] at hgl
  simp only at hg ⊢
  obtain ⟨j, hj⟩ : ∃ j, j = i + n := ⟨_, rfl⟩
  have hjl : j ≤ s.length := by omega
  have hcast : ((i + n : Nat) : Int) = (i : Int) + n := by omega
  rw [← hj] at hg ⊢
  have hr := rest_run s j hjl
  generalize hp : plOf (s.take j) = p at *
  obtain ⟨l, c⟩ := p
  rw [denK_loop]
  cases ok with
  | false =>
   simp [hp] at hg
   simp [Tryz.f98, drwK_end, hg, here]
  | true =>
   simp only [Bool.true_eq_false, if_false]
   cases ht : s.drop j with
   | nil =>
    rw [ht] at hr
    simp [hp] at hg hr
    have g1 : (out.length + 1) * 48 ≤ 140737488355328 ∧ out.length ≤ 4611686018427387903 := by omega
    simp [Tryz.f98, drwK_end, hg, hr, here, g1]
   | cons a r =>
    rw [ht] at hr
    have hlen : j + (r.length + 1) = s.length := by have := congrArg List.length ht; simp at this; omega
    have hn := next_run a r (by simp; omega) l c
    have hok := nextF_ok (c := a) (r := r)
    have hne : ¬ (a :: r = []) := by simp
    simp only [if_neg hne]
    generalize nextF (a :: r) = F at *
    obtain ⟨e, kd, m, x⟩ := F
    simp only at hn hok ⊢
    simp [hp] at hg hr
    have g1 : (out.length + 1) * 48 ≤ 140737488355328 ∧ out.length ≤ 4611686018427387903 := by omega
    by_cases he : e = 0
    · subst he
      obtain ⟨hm1, hm2⟩ := hok rfl
      simp only [List.length_cons] at hm2
      have hsk := skip_run s j m (by omega) (by omega)
      have ih := fun v4 v5 v55 c5 c55 => lex_loop s hs f (j + m) (out ++ [⟨kd, (a :: r).take m, x, l, c⟩]) v4 v5 v55 c5 c55 (by omega) (by omega) (by simp; omega)
      have hmin : min m (r.length + 1) = m := by omega
      have hminI : ((min m (r.length + 1) : Nat) : Int) = m := by rw [hmin]
      simp at hn
      simp [Tryz.f98, hp] at ih hsk ⊢
      simp [drwK_end, hg, hr, hn, g1, hmin, hsk, ih]
    · simp at hn
      have heI : ¬ ((e : Int) = 0) := by omega
      simp [Tryz.f98, drwK_end, hg, hr, hn, he, heI, here]
theorem lex_run (s : Tx) : callT ctx 98 [.d (.str s)] [] = some (.ret (.tup [.d (.list ((lexP s).1.map sgnD)), .d (.int .i64 (lexP s).2.1), .d (sgnD (lexP s).2.2)]), []) := by
 rw [run98 (by simp)]
 unfold lexP
 by_cases h : 16384 < s.length
 · have hI : (16384 : Int) < s.length := by omega
   simp [Tryz.f98, drwK_end, h, hI]
 · have hI : ¬ ((16384 : Int) < s.length) := by omega
   have hl := fun v4 v5 v55 c5 c55 => lex_loop s (by omega) (s.length + 1) 0 [] v4 v5 v55 c5 c55 (by omega) (by omega) (by simp)
   rw [if_neg h]
   generalize lexF s (s.length + 1) 0 [] = L at *
   have hp : plOf [] = (1, 1) := rfl
   simp [Tryz.f98, hp] at hl
   simp [Tryz.f98, drwK_end, h, hI]
   exact hl _ _ _ _ _
end Go.Am
end
section
namespace Go.Am
open Go Go.Proofs
variable [Inhabited Mx2]
set_option maxRecDepth 100000
theorem recq_ok (x y b1 c1 c2 c3 c4 c5 : D) (rows : List D) : recT ctx 99 [.ptr 0 0 0, .ptr 1 0 0, .ptr 2 0 0, .lit .nilIface] [.box [.d x, .vec 3 0 0 rows.length, .d y], .box [.d b1], .box [.d c1, .d c2, .d c3, .d c4, .d c5], .vec 8 rows] =
 some (.ret (.tup []), [(0, .box [.d x, .vec 3 1 0 rows.length, .d y]), (0, .box [.d b1]), (0, .box [.d c1, .d c2, .d c3, .d c4, .d c5]), (1, .vec 8 rows)]) := by
 rw [run99 (by rfl) (by rfl) (by simp)]
 simp [Tryz.f99]
 erw [denRK_reg rfl]
 simp
def awTx : Tx := [80, 82, 79, 71, 82, 65, 77, 32, 112, 32, 86, 65, 82, 32, 97, 32, 58, 32, 73, 78, 84, 59, 32, 69, 78, 68, 95, 86, 65, 82, 32, 97, 32, 58, 61, 32, 49, 59] ++ [10] ++ [97, 32, 58, 61, 32, 97, 32, 43, 32, 84, 82, 85, 69, 59, 32, 69, 78, 68, 95, 80, 82, 79, 71, 82, 65, 77]
def awTk : List Sgn := [⟨2, [80, 82, 79, 71, 82, 65, 77], 0, 1, 1⟩, ⟨1, [112], 0, 1, 9⟩, ⟨2, [86, 65, 82], 0, 1, 11⟩, ⟨1, [97], 0, 1, 15⟩, ⟨4, [58], 0, 1, 17⟩, ⟨2, [73, 78, 84], 0, 1, 19⟩, ⟨4, [59], 0, 1, 22⟩, ⟨2, [69, 78, 68, 95, 86, 65, 82], 0, 1, 24⟩,
 ⟨1, [97], 0, 1, 32⟩, ⟨4, [58, 61], 0, 1, 34⟩, ⟨3, [49], 1, 1, 37⟩, ⟨4, [59], 0, 1, 38⟩, ⟨1, [97], 0, 2, 1⟩, ⟨4, [58, 61], 0, 2, 3⟩, ⟨1, [97], 0, 2, 6⟩, ⟨4, [43], 0, 2, 8⟩, ⟨2, [84, 82, 85, 69], 0, 2, 10⟩, ⟨4, [59], 0, 2, 14⟩, ⟨2, [69, 78, 68, 95, 80, 82, 79, 71, 82, 65, 77], 0, 2, 16⟩, ⟨0, [], 0, 2, 27⟩]
theorem awTx_lex : lexP awTx = (awTk, 0, ⟨0, [], 0, 0, 0⟩) := by kernel_rfl
theorem aw_prog : callT ctx 100 [.ptr 0 0 0] [.box [.d (.list (awTk.map sgnD)), .d (.int .i64 0), .d (.int .i64 0), .vec 1 0 0 0], .vec 8 []] =
 some (.ret (.agg [.d (.str pgA.name), .vec 1 1 0 1, .d (.list (pgA.body.map smD))]), [(0, .box [.d (.list (awTk.map sgnD)), .d (.int .i64 19), .d (.int .i64 0), .vec 1 1 0 1]), (1, .vec 8 (pgA.vars.map vrD))]) := callT_of 300 (by kernel_rfl)
theorem aw20_r : callT ctx 26 [] [] = some (.ret (.d (.bool true)), []) := by
 have hl := lex_run awTx
 rw [awTx_lex] at hl
 have hp := aw_prog
 have hr := fun x y b1 c1 c2 c3 c4 c5 => recq_ok x y b1 c1 c2 c3 c4 c5 (pgA.vars.map vrD)
 have hk := pgA_kinds
 have e1 : (pgA.vars.map vrD).length = 1 := rfl
 have e2 : ∃ R, pgA.vars.map vrD = R ∧ R.length = 1 := ⟨_, rfl, rfl⟩
 obtain ⟨R, hR, hRl⟩ := e2
 rw [hR] at hp hr hk
 rw [hRl] at hr
 generalize pgA.name = a at *
 generalize pgA.body.map smD = c at *
 simp only at hl
 generalize awTk.map sgnD = T at *
 have e3 : List.take 1 R = R := by rw [← hRl]; exact List.take_length
 have hP : callT ctx 64 [.d (.str awTx)] [] = some (.ret (.tup [.d (.agg [.str a, .list R, .list c]), .d (.int .i64 0), .d (.agg [.int .i64 0, .str [], .int .i64 0, .int .i64 0, .int .i64 0])]), []) := by
  rw [run64 (by simp)]
  simp at hl hr hp
  simp [Tryz.f64, hasDef, isDefer, deferOf, dfv, hl, drwK_end, hp, hr, hRl, e3]
 rw [run26 (by simp)]
 simp [awTx] at hP
 simp [Tryz.f26, hP, hk]
end Go.Am
end
section
namespace Go.Am
open Go
mutual
def litX : Ex → Bool
 | .mk _ n _ _ sub _ => decide (-9223372036854775808 ≤ n ∧ n ≤ 9223372036854775807) && litXs sub
def litXs : List Ex → Bool
 | [] => true
 | x :: r => litX x && litXs r
end
def i64B (n : Int) : Bool := decide (-9223372036854775808 ≤ n ∧ n ≤ 9223372036854775807)
mutual
def litM : Sm → Bool
 | .mk _ _ to val conds labels _ blocks _ => litX to && (litX val && (litXs conds && (labels.all (fun l => l.all i64B) && litBs blocks)))
def litMs : List Sm → Bool
 | [] => true
 | x :: r => litM x && litMs r
def litBs : List (List Sm) → Bool
 | [] => true
 | b :: r => litMs b && litBs r
end
end Go.Am
end
section
namespace Go.Am
open Go Go.Proofs
variable [Inhabited Mx2]
set_option maxRecDepth 20000
theorem typed_pos {P : Program} {n : Nat} {t : TypeId} {d : D} (h : typed P n t d) : ∃ m, n = m + 1 := by
 cases n with
 | zero => exact h.elim
 | succ m => exact ⟨m, rfl⟩
theorem tq_int {P : Program} {n : Nat} {t : TypeId} {d : D} (ht : P.underlying t = some (.int .i64)) (h : typed P n t d) : ∃ z, d = .int .i64 z ∧ i64B z = true := by
 obtain ⟨m, rfl⟩ := typed_pos h
 obtain ⟨z, rfl, hw⟩ := typed_int ht h
 refine ⟨z, rfl, ?_⟩
 have h2 : I64 z := by
  simp [Lit.wf] at hw
  unfold I64
  have e1 : IntKind.i64.min = -9223372036854775808 := by decide
  have e2 : IntKind.i64.max = 9223372036854775807 := by decide
  simp only [e1, e2] at hw
  omega
 unfold I64 at h2
 unfold i64B
 simp only [decide_eq_true_eq]
 exact h2
theorem tq_bool {P : Program} {n : Nat} {t : TypeId} {d : D} (ht : P.underlying t = some .bool) (h : typed P n t d) : ∃ b, d = .bool b := by
 obtain ⟨m, rfl⟩ := typed_pos h
 exact typed_bool ht h
theorem tq_string {P : Program} {n : Nat} {t : TypeId} {d : D} (ht : P.underlying t = some .string) (h : typed P n t d) : ∃ s, d = .str s := by
 obtain ⟨m, rfl⟩ := typed_pos h
 obtain ⟨s, rfl, _⟩ := typed_string ht h
 exact ⟨s, rfl⟩
theorem tq_slice {P : Program} {n : Nat} {t e : TypeId} {d : D} (ht : P.underlying t = some (.slice e)) (h : typed P n t d) : ∃ xs m, m < n ∧ d = .list xs ∧ ∀ x ∈ xs, typed P m e x := by
 obtain ⟨m, rfl⟩ := typed_pos h
 obtain ⟨xs, rfl, _, hx⟩ := typed_slice ht h
 exact ⟨xs, m, by omega, rfl, hx⟩
theorem tq_struct {P : Program} {n : Nat} {t : TypeId} {d : D} {fs : Array Field} (ht : P.underlying t = some (.struct fs)) (h : typed P n t d) : ∃ ds m, m < n ∧ d = .agg ds ∧ fieldsT P m fs.toList ds := by
 obtain ⟨m, rfl⟩ := typed_pos h
 obtain ⟨ds, rfl, hf⟩ := typed_struct ht h
 exact ⟨ds, m, by omega, rfl, hf⟩
theorem list_map_of2 {α : Type} {f : α → D} {Q : α → Prop} : ∀ {xs : List D}, (∀ x ∈ xs, ∃ r, x = f r ∧ Q r) → ∃ rs : List α, xs = rs.map f ∧ ∀ r ∈ rs, Q r
 | [], _ => ⟨[], rfl, fun r h => by cases h⟩
 | x :: xs, h => by
  obtain ⟨r, rfl, hr⟩ := h x (by simp)
  obtain ⟨rs, rfl, hrs⟩ := list_map_of2 (xs := xs) (fun y hy => h y (by simp [hy]))
  exact ⟨r :: rs, rfl, fun y hy => by
   rcases List.mem_cons.1 hy with rfl | hy
   · exact hr
   · exact hrs y hy⟩
theorem litXs_of : ∀ {l : List Ex}, (∀ x ∈ l, litX x = true) → litXs l = true
 | [], _ => by simp [litXs]
 | x :: r, h => by simp only [litXs, Bool.and_eq_true]; exact ⟨h x (by simp), litXs_of fun y hy => h y (by simp [hy])⟩
theorem litMs_of : ∀ {l : List Sm}, (∀ x ∈ l, litM x = true) → litMs l = true
 | [], _ => by simp [litMs]
 | x :: r, h => by simp only [litMs, Bool.and_eq_true]; exact ⟨h x (by simp), litMs_of fun y hy => h y (by simp [hy])⟩
theorem litBs_of : ∀ {l : List (List Sm)}, (∀ x ∈ l, litMs x = true) → litBs l = true
 | [], _ => by simp [litBs]
 | x :: r, h => by simp only [litBs, Bool.and_eq_true]; exact ⟨h x (by simp), litBs_of fun y hy => h y (by simp [hy])⟩
theorem ex_typed : ∀ (n : Nat) (x : D), typed Tryz.prog n 116 x → ∃ e : Ex, x = exD e ∧ litX e = true := by
 intro n
 induction n using Nat.strongRecOn with
 | ind n ih =>
 intro x h
 obtain ⟨ds, m, hm, rfl, y0, d0, h0, ⟨y1, d1, h1, ⟨y2, d2, h2, ⟨y3, d3, h3, ⟨y4, d4, h4, ⟨y5, d5, h5, rfl, rfl⟩, rfl⟩, rfl⟩, rfl⟩, rfl⟩, rfl⟩ := tq_struct Tryz.underlying116 h
 obtain ⟨op, rfl, _⟩ := tq_int Tryz.underlying3 h0
 obtain ⟨k, rfl, hk⟩ := tq_int Tryz.underlying2 h1
 obtain ⟨name, rfl⟩ := tq_string Tryz.underlying9 h2
 obtain ⟨field, rfl⟩ := tq_string Tryz.underlying9 h3
 obtain ⟨xs, q, hq, rfl, hxs⟩ := tq_slice Tryz.underlying114 h4
 obtain ⟨line, rfl, _⟩ := tq_int Tryz.underlying3 h5
 obtain ⟨l, rfl, hl⟩ := list_map_of2 (f := exD) (Q := fun e => litX e = true) (fun x hx => ih q (by omega) x (hxs x hx))
 exact ⟨.mk op k name field l line, by rw [exD_C]; simp [exC, exDs_eq, D.cells], by
  simp only [litX, Bool.and_eq_true]
  exact ⟨hk, litXs_of hl⟩⟩
theorem ints_typed {n : Nat} {x : D} (h : typed Tryz.prog n 51 x) : ∃ l : List Int, x = lbD l ∧ l.all i64B = true := by
 obtain ⟨xs, q, hq, rfl, hxs⟩ := tq_slice Tryz.underlying51 h
 obtain ⟨l, rfl, hl⟩ := list_map_of2 (f := fun n => D.int .i64 n) (Q := fun e => i64B e = true) (fun x hx => tq_int Tryz.underlying2 (hxs x hx))
 exact ⟨l, rfl, List.all_eq_true.2 hl⟩
theorem sm_typed : ∀ (n : Nat) (x : D), typed Tryz.prog n 121 x → ∃ e : Sm, x = smD e ∧ litM e = true := by
 intro n
 induction n using Nat.strongRecOn with
 | ind n ih =>
 intro x h
 obtain ⟨ds, m, hm, rfl, y0, d0, h0, ⟨y1, d1, h1, ⟨y2, d2, h2, ⟨y3, d3, h3, ⟨y4, d4, h4, ⟨y5, d5, h5, ⟨y6, d6, h6, ⟨y7, d7, h7, ⟨y8, d8, h8, rfl, rfl⟩, rfl⟩, rfl⟩, rfl⟩, rfl⟩, rfl⟩, rfl⟩, rfl⟩, rfl⟩ := tq_struct Tryz.underlying121 h
 obtain ⟨op, rfl, _⟩ := tq_int Tryz.underlying3 h0
 obtain ⟨name, rfl⟩ := tq_string Tryz.underlying9 h1
 obtain ⟨to, rfl, hto⟩ := ex_typed _ _ h2
 obtain ⟨val, rfl, hval⟩ := ex_typed _ _ h3
 obtain ⟨x4, q4, hq4, rfl, hx4⟩ := tq_slice Tryz.underlying114 h4
 obtain ⟨x5, q5, hq5, rfl, hx5⟩ := tq_slice Tryz.underlying117 h5
 obtain ⟨x6, q6, hq6, rfl, hx6⟩ := tq_slice Tryz.underlying118 h6
 obtain ⟨x7, q7, hq7, rfl, hx7⟩ := tq_slice Tryz.underlying119 h7
 obtain ⟨line, rfl, _⟩ := tq_int Tryz.underlying3 h8
 obtain ⟨conds, rfl, hconds⟩ := list_map_of2 (f := exD) (Q := fun e => litX e = true) (fun x hx => ex_typed _ _ (hx4 x hx))
 obtain ⟨labels, rfl, hlab⟩ := list_map_of2 (f := lbD) (Q := fun l => l.all i64B = true) (fun x hx => ints_typed (hx5 x hx))
 obtain ⟨fields, rfl⟩ := list_map_of (f := D.str) (fun x hx => tq_string Tryz.underlying9 (hx6 x hx))
 obtain ⟨blocks, rfl, hbl⟩ := list_map_of2 (f := fun b : List Sm => D.list (b.map smD)) (Q := fun b => litMs b = true) (fun x hx => by
  obtain ⟨xs, q, hq, rfl, hxs⟩ := tq_slice Tryz.underlying23 (hx7 x hx)
  obtain ⟨l, rfl, hl⟩ := list_map_of2 (f := smD) (Q := fun e => litM e = true) (fun x hx => ih q (by omega) x (hxs x hx))
  exact ⟨l, rfl, litMs_of hl⟩)
 refine ⟨.mk op name to val conds labels fields blocks line, ?_, ?_⟩
 · simp [smD, exDs_eq, bksD_eq, D.cells, exD_C]
 · simp only [litM, Bool.and_eq_true]
   exact ⟨hto, hval, litXs_of hconds, List.all_eq_true.2 hlab, litBs_of hbl⟩
theorem vr_typed {n : Nat} {x : D} (h : typed Tryz.prog n 49 x) : ∃ v : Vr, x = vrD v := by
 obtain ⟨ds, m, hm, rfl, y0, d0, h0, ⟨y1, d1, h1, ⟨y2, d2, h2, ⟨y3, d3, h3, ⟨y4, d4, h4, ⟨y5, d5, h5, ⟨y6, d6, h6, ⟨y7, d7, h7, rfl, rfl⟩, rfl⟩, rfl⟩, rfl⟩, rfl⟩, rfl⟩, rfl⟩, rfl⟩ := tq_struct Tryz.underlying49 h
 obtain ⟨name, rfl⟩ := tq_string Tryz.underlying9 h0
 obtain ⟨ty, rfl, _⟩ := tq_int Tryz.underlying3 h1
 obtain ⟨sec, rfl, _⟩ := tq_int Tryz.underlying3 h2
 obtain ⟨arr, rfl⟩ := tq_bool Tryz.underlying4 h3
 obtain ⟨lo, rfl, _⟩ := tq_int Tryz.underlying2 h4
 obtain ⟨hi, rfl, _⟩ := tq_int Tryz.underlying2 h5
 obtain ⟨init, rfl, _⟩ := tq_int Tryz.underlying2 h6
 obtain ⟨line, rfl, _⟩ := tq_int Tryz.underlying3 h7
 exact ⟨⟨name, ty, sec, arr, lo, hi, init, line⟩, rfl⟩
theorem pg_typed {n : Nat} {x : D} (h : typed Tryz.prog n 25 x) : ∃ p : Pg, x = .agg [.str p.name, .list (p.vars.map vrD), .list (p.body.map smD)] ∧ litMs p.body = true := by
 obtain ⟨ds, m, hm, rfl, y0, d0, h0, ⟨y1, d1, h1, ⟨y2, d2, h2, rfl, rfl⟩, rfl⟩, rfl⟩ := tq_struct Tryz.underlying25 h
 obtain ⟨name, rfl⟩ := tq_string Tryz.underlying9 h0
 obtain ⟨x1, q1, hq1, rfl, hx1⟩ := tq_slice Tryz.underlying22 h1
 obtain ⟨x2, q2, hq2, rfl, hx2⟩ := tq_slice Tryz.underlying23 h2
 obtain ⟨vars, rfl⟩ := list_map_of (f := vrD) (fun x hx => vr_typed (hx1 x hx))
 obtain ⟨body, rfl, hbody⟩ := list_map_of2 (f := smD) (Q := fun e => litM e = true) (fun x hx => sm_typed _ _ (hx2 x hx))
 exact ⟨⟨name, vars, body⟩, rfl, litMs_of hbody⟩
end Go.Am
end
section
namespace Go.Am
open Go
set_option maxRecDepth 20000
def rhoF : Nat → Nat
 | 99 => 199
 | 143 => 201
 | 206 => 245
 | 217 => 246
 | 219 => 247
 | 224 => 280
 | 225 => 279
 | 266 => 278
 | 267 => 281
 | 314 => 304
 | _ => 0
def rhoT : Nat → Nat
 | 3 => 3
 | 4 => 4
 | 5 => 5
 | 9 => 9
 | 46 => 158
 | 51 => 305
 | 146 => 340
 | _ => 0
def rhoG : Nat → Nat
 | 1 => 2
 | _ => 0
def rho : Go.Shelf.Ren := ⟨rhoF, rhoT, rhoG⟩
theorem lays143 : Go.Proofs.Lays.n143 Go.Proofs.Tryz.prog rho where
 mixed := by kernel_rfl
 f143 := by kernel_rfl
 f217 := by kernel_rfl
 f219 := by kernel_rfl
 f224 := by kernel_rfl
 f225 := by kernel_rfl
 f266 := by kernel_rfl
 f267 := by kernel_rfl
 f314 := by kernel_rfl
 t3 := by kernel_rfl
 a3 := by intro w; kernel_rfl
 z3 := by intro w; kernel_rfl
 v3 := by intro w; kernel_rfl
 t4 := by kernel_rfl
 a4 := by intro w; kernel_rfl
 z4 := by intro w; kernel_rfl
 v4 := by intro w; kernel_rfl
 t5 := by kernel_rfl
 a5 := by intro w; kernel_rfl
 z5 := by intro w; kernel_rfl
 v5 := by intro w; kernel_rfl
 t9 := by kernel_rfl
 a9 := by intro w; kernel_rfl
 z9 := by intro w; kernel_rfl
 v9 := by intro w; kernel_rfl
 t46 := by kernel_rfl
 a46 := by intro w; kernel_rfl
 z46 := by intro w; kernel_rfl
 v46 := by intro w; kernel_rfl
 t51 := by kernel_rfl
 a51 := by intro w; kernel_rfl
 z51 := by intro w; kernel_rfl
 v51 := by intro w; kernel_rfl
 t146 := by kernel_rfl
 a146 := by intro w; kernel_rfl
 z146 := by intro w; kernel_rfl
 v146 := by intro w; kernel_rfl
 g1 := by kernel_rfl
theorem lays217 : Go.Proofs.Lays.n217 Go.Proofs.Tryz.prog rho where
 mixed := by kernel_rfl
 f217 := by kernel_rfl
 f266 := by kernel_rfl
 t3 := by kernel_rfl
 a3 := by intro w; kernel_rfl
 z3 := by intro w; kernel_rfl
 v3 := by intro w; kernel_rfl
 t5 := by kernel_rfl
 a5 := by intro w; kernel_rfl
 z5 := by intro w; kernel_rfl
 v5 := by intro w; kernel_rfl
 t9 := by kernel_rfl
 a9 := by intro w; kernel_rfl
 z9 := by intro w; kernel_rfl
 v9 := by intro w; kernel_rfl
theorem lays99 : Go.Proofs.Lays.n99 Go.Proofs.Tryz.prog rho where
 mixed := by kernel_rfl
 f99 := by kernel_rfl
 f206 := by kernel_rfl
 t3 := by kernel_rfl
 a3 := by intro w; kernel_rfl
 z3 := by intro w; kernel_rfl
 v3 := by intro w; kernel_rfl
 t4 := by kernel_rfl
 a4 := by intro w; kernel_rfl
 z4 := by intro w; kernel_rfl
 v4 := by intro w; kernel_rfl
 t9 := by kernel_rfl
 a9 := by intro w; kernel_rfl
 z9 := by intro w; kernel_rfl
 v9 := by intro w; kernel_rfl
end Go.Am
end
section
namespace Go.Am
open Go Go.Proofs
variable [Inhabited Mx2]
set_option maxRecDepth 20000
theorem callable_of {P : Program} {g : FuncId} {fn : Func} (hf : P.funcs[g]? = some fn) (hb : fn.body.isSome = true) (hn : (fn.name == "runtime.NumGoroutine") = false) : callable P g = true := by
 unfold callable; rw [hf]; simp only [hb, hn]; rfl
theorem dstr_of {w F s v} (h : DRel w F (.str s) v) : ∃ b : ByteArray, v = .string b ∧ b.data.toList = s := by
 cases h with
 | str b s h => exact ⟨b, rfl, h⟩
theorem dint_of {w F k n v} (h : DRel w F (.int k n) v) : v = .int k n := by cases h; rfl
theorem two_args {ds : List D} {a b : D} {w F} {vs : Array Value} (hd : ds = [a, b]) (hl : ds.length = vs.size) (hr : ∀ (i : Nat) x v, ds[i]? = some x → vs[i]? = some v → DRel w F x v) :
 ∃ x y, vs = #[x, y] ∧ DRel w F a x ∧ DRel w F b y := by
 subst hd
 obtain ⟨l⟩ := vs
 match l, hl with
 | [x, y], _ => exact ⟨x, y, rfl, hr 0 a x rfl rfl, hr 1 b y rfl rfl⟩
theorem mx_cell {w : World} {F} (hg : GlobRel w F gl0) : ∃ m, w.cell? ⟨2, 0, none⟩ = some (.int .i64 m) := by
 obtain ⟨_, _, x', h1, h2⟩ := hg (2, .int .i64 (id (α := Int) (default : Mx2))) (by simp [gl0])
 generalize id (α := Int) (default : Mx2) = z at h1
 obtain rfl := dint_of h1
 exact ⟨z, h2 0 _ (by simp [Value.cells])⟩
theorem hp_ok : OrcOk ctx 199 (liftO hpO) := by
 refine OrcOk.lift ⟨callable_of Tryz.func199 (by kernel_rfl) (by kernel_rfl), fun ds d hd F w vs hg hFb hl hr => ?_⟩
 unfold hpO at hd
 split at hd
 · rename_i s p
   obtain ⟨x, y, rfl, h1, h2⟩ := two_args rfl hl hr
   obtain ⟨a, rfl, rfl⟩ := dstr_of h1
   obtain ⟨b, rfl, rfl⟩ := dstr_of h2
   refine (Any.strings_HasPrefix lays99 a b w).mono ?_
   rintro e w' ⟨rfl, rfl⟩
   cases hd
   exact ⟨_, rfl, Go.RowKit.Below.refl _ _, .bool _⟩
 · cases hd
theorem ib_ok : OrcOk ctx 246 (liftO ibO) := by
 refine OrcOk.lift ⟨callable_of Tryz.func246 (by kernel_rfl) (by kernel_rfl), fun ds d hd F w vs hg hFb hl hr => ?_⟩
 unfold ibO at hd
 split at hd
 · rename_i s p
   obtain ⟨x, y, rfl, h1, h2⟩ := two_args rfl hl hr
   obtain ⟨a, rfl, rfl⟩ := dstr_of h1
   obtain rfl := dint_of h2
   refine (Any.stringslite_IndexByte lays217 a _ w).mono ?_
   rintro e w' ⟨rfl, rfl⟩
   cases hd
   exact ⟨_, rfl, Go.RowKit.Below.refl _ _, .int _ _⟩
 · cases hd
theorem idx_ok : OrcOk ctx 201 (liftO idxO) := by
 refine OrcOk.lift ⟨callable_of Tryz.func201 (by kernel_rfl) (by kernel_rfl), fun ds d hd F w vs hg hFb hl hr => ?_⟩
 unfold idxO at hd
 split at hd
 · rename_i s p
   split at hd
   · rename_i hs
     obtain ⟨x, y, rfl, h1, h2⟩ := two_args rfl hl hr
     obtain ⟨a, rfl, rfl⟩ := dstr_of h1
     obtain ⟨b, rfl, rfl⟩ := dstr_of h2
     obtain ⟨m, hm⟩ := mx_cell hg
     refine (Any.strings_Index lays143 a b m w (by simpa using hs) hm).mono ?_
     rintro e w' ⟨rfl, rfl⟩
     cases hd
     exact ⟨_, rfl, Go.RowKit.Below.refl _ _, .int _ _⟩
   · cases hd
 · cases hd
theorem orcs_ok : ∀ g h, ctx.orc g = some h → OrcOk ctx g h := by
 intro g h hg
 have hg' : orc0 g = some h := hg
 unfold orc0 at hg'
 split at hg'
 all_goals first | (cases hg'; first | exact hp_ok | exact ib_ok | exact idx_ok) | cases hg'
end Go.Am
end
section
namespace Go.Am
open Go
theorem laid_mem {P : Program} {w : World} {n : String} {d : DataW Unit} : ∀ {l : List (String × DataW Unit)} {ps : List MemPlace}, DataW.LaidVars P w l ps → (n, d) ∈ l →
 ∃ g t cs fuel p, P.globalNamed n = some g ∧ (P.globals[g]?).map (·.type) = some t ∧ w.var? P n = some cs ∧ DataW.trod (fun _ => ()) P w 0 (fun _ => true) false fuel t cs.toList = some (d, p)
 | [], _, _, hm => by simp at hm
 | (n', d') :: r, ps, ⟨g, t, cs, fuel, p, q, h1, h2, h3, h4, h5, _⟩, hm => by
  rcases List.mem_cons.1 hm with hm | hm
  · cases hm
    exact ⟨g, t, cs, fuel, p, h1, h2, h3, h4⟩
  · exact laid_mem h5 hm
theorem trod_ints {H : Type} {enc : TypeId × Value → H} {P : Program} {w : World} {base : Nat} {sp : Nat → Bool} {held : Bool} {fuel : Nat} {t e : TypeId} {n : Nat} {k : IntKind} {cs : List Value} {ds : List (DataW H)} {p : List MemPlace}
 (ha : P.underlying t = some (.array n e)) (he : P.underlying e = some (.int k)) (hc : P.cellsOf e = 1) (h : DataW.trod enc P w base sp held fuel t cs = some (.agg ds, p)) :
 cs.length = P.cellsOf t ∧ ds.length = n ∧ ∀ i, i < n → ∃ z, cs[i]? = some (.int k z) ∧ ds[i]? = some (.lit (.int k z)) := by
 cases fuel with
 | zero => simp [DataW.trod] at h
 | succ m =>
  unfold DataW.trod at h
  rw [ha] at h
  simp only at h
  split at h
  · rename_i hl
    simp only [Option.map_eq_some_iff, Prod.mk.injEq, DataW.agg.injEq] at h
    obtain ⟨xs, hx, rfl, _⟩ := h
    have h1 : xs.length = n := by simpa using mapM_some_length hx
    refine ⟨hl, by simpa using h1, fun i hi => ?_⟩
    have h2 := mapM_some_get hx i i (by simp [hi])
    have h3 : i < xs.length := by omega
    have h4 : xs[i]? = some xs[i] := by simp [h3]
    rw [h4, hc] at h2
    obtain ⟨z, h5, h6, _⟩ := DataW.trod_int he h2
    refine ⟨z, ?_, by simp [h4, h6]⟩
    have h7 := congrArg (·[0]?) h5
    simpa [List.getElem?_take, List.getElem?_drop] using h7
  · cases h
theorem glob_of_laid {P : Program} {W : World} {l : List (String × DataW Unit)} {name : String} {g : Nat} {t e : TypeId} {n : Nat} {k : IntKind} {zs : List Int}
 (hl : laidMet P l W) (hm : (name, DataW.agg (zs.map fun z => .lit (.int k z))) ∈ l) (hg : P.globalNamed name = some g) (ht : (P.globals[g]?).map (·.type) = some t)
 (ha : P.underlying t = some (.array n e)) (he : P.underlying e = some (.int k)) (hc : P.cellsOf e = 1) (hn : 0 < n) (hct : P.cellsOf t = n) :
 (g < W.heap.size ∧ ∀ cs, D.agg (zs.map fun z => .int k z) = .agg cs → ∃ cur e fz, W.heap[g]? = some (.cells cur e fz) ∧ cur.size = cs.length) ∧ ∃ x', DRel W (fun _ => False) (.agg (zs.map fun z => .int k z)) x' ∧ ∀ (i : Nat) (c : Value), x'.cells[i]? = some c → W.cell? ⟨g, i, none⟩ = some c := by
 obtain ⟨ps, hv, _⟩ := hl
 obtain ⟨g', t', cs, fuel, p, h1, h2, h3, h4⟩ := laid_mem hv hm
 obtain rfl := Option.some.inj (hg.symm.trans h1)
 obtain rfl := Option.some.inj (ht.symm.trans h2)
 obtain ⟨h50, h5, h6⟩ := trod_ints ha he hc h4
 rw [hct] at h50
 simp at h5
 have h7 : ∀ i z, zs[i]? = some z → W.cell? ⟨g, i, none⟩ = some (.int k z) := by
  intro i z hz
  have hi : i < n := by
   have := (List.getElem?_eq_some_iff.1 hz).1
   omega
  obtain ⟨z', h8, h9⟩ := h6 i hi
  simp [hz] at h9
  subst h9
  rw [World.var?_cell hg h3 i]
  simpa using h8
 refine ⟨⟨?_, ?_⟩, .agg (zs.map fun z => Value.int k z).toArray, ?_, ?_⟩
 · have hz : ∃ z, zs[0]? = some z := ⟨zs[0]'(by omega), by simp [show 0 < zs.length by omega]⟩
   obtain ⟨z, hz⟩ := hz
   exact (cell?_lt (h7 0 z hz)).1
 · rintro cs' hcs'
   obtain rfl := D.agg.inj hcs'
   unfold World.var? at h3
   rw [hg] at h3
   simp only [Option.bind_some] at h3
   split at h3
   · rename_i cur e' fz hh
     cases h3
     exact ⟨_, _, _, hh, by simp at h5 h50 ⊢; omega⟩
   · cases h3
 · refine DRel.ofCells (by simp) (fun v hv => ?_) (fun i c v hc' hv => ?_)
   · simp at hv
     obtain ⟨z, _, rfl⟩ := hv
     rfl
   · simp only [List.getElem?_map, Option.map_eq_some_iff] at hc' hv
     obtain ⟨z, hz, rfl⟩ := hc'
     obtain ⟨z', hz', rfl⟩ := hv
     rw [hz] at hz'
     cases hz'
     exact .int k z
 · intro i c hi
   simp [Value.cells] at hi
   obtain ⟨z, hz, rfl⟩ := hi
   exact h7 i z hz
end Go.Am
end
section
namespace Go.Am
open Go
variable {H : Type} {enc : TypeId × Value → H}
theorem handed_ofU {a : Assume} {C : Checked} {os : Os} {f : FuncId} {fn : Func} {s : OpenSpec} {k : (H : Type) → List (DataW H) → Bool} (hk : s.cond = some k) {conds : List PathCond} {apart fresh handsOn again : Bool} {X : World → Array Value → Prop} {F : Stop.Interp}
 (hX : ∀ (w w' : World) (args : Array Value), w.heap = w'.heap → X w args → X w' args)
 (own : ownKnob C.prog.godebug = none) (started : os.Started) (noInit : C.prog.inits.idxOf? f = none) (hfn : C.prog.funcs[f]? = some fn)
 (witness : ∃ (w : World) (tape : Tape) (i : Input), w.os = os ∧ (w.forCall tape i).Shaped C.prog ∧ i.vars = [] ∧ Input.okWide C.prog (w.forCall tape i) .any w.heap.size f i ∧
  ((s.pre enc C.prog fn conds apart (w.forCall tape i).memory i.args ∧ X (w.forCall tape i).memory i.args) ∧ sizedMet enc C.prog fn s apart (w.forCall tape i).memory i.args) ∧ a.holds C.prog (lone (Frame.enter C.prog f i.args .normal) [] (w.forCall tape i)))
 (contract : ∀ (W : World) (base : Nat) (args : Array Value) (ds gs : List (DataW H)) (before : List MemPlace),
  (∀ (j : Nat) t v, fn.params[j]? = some t → args[j]? = some v → Value.okWide C.prog W .any base t v) →
  DataW.Whole enc C.prog fn.params.toList s.vars apart W args.toList ds gs before → k H (ds ++ gs) = true → X W args → W.ShapedOpen C.prog →
  Calls C.prog f args W fun e W' => ∃ v, e = .returned v ∧ (s.at F).post enc C.prog fn apart fresh handsOn again W args v W') :
 ReturnsInHanded a C os f .any (fun w args => (s.pre enc C.prog fn conds apart w args ∧ X w args) ∧ sizedMet enc C.prog fn s apart w args) ((s.at F).post enc C.prog fn apart fresh handsOn again) := by
 refine returnsInHanded_of_calls own started noInit witness ?_
 intro w tape i _ hsh _ hok hpre _
 obtain ⟨_, _, _, fn', hfn', _, _, _, _, hval⟩ := hok
 have e : fn' = fn := Option.some.inj (hfn'.symm.trans hfn)
 subst e
 obtain ⟨⟨hp, hx⟩, hz⟩ := hpre
 obtain ⟨ds, gs, before, hw, hc, hkk⟩ := (OpenSpec.pre_some hk conds apart _ _).1 hp
 have hw' := DataW.Whole.of_heap (w' := w.forCall tape i) (by rfl) hw
 refine (contract (w.forCall tape i) w.heap.size i.args ds gs before hval hw' hkk (hX _ _ _ (by rfl) hx) hsh).mono fun e W' ⟨v, he, hp⟩ => ?_
 subst he
 exact ChangeSpec.post_blind hp
theorem witness_shapedU {C : Checked} {os : Os} {f : FuncId} {fn : Func} {s : OpenSpec} {k : (H : Type) → List (DataW H) → Bool} (hk : s.cond = some k) {conds : List PathCond} {apart : Bool} {X : World → Array Value → Prop} (modest : Bool) (w0 : World) (args : Array Value) (fuel : Nat) (hos : w0.os = os)
 (hsh : (w0.forCall (fun _ _ => 0) ⟨#[], args, []⟩).Shaped C.prog)
 (hok : Input.okWideB C.prog (w0.forCall (fun _ _ => 0) ⟨#[], args, []⟩) f ⟨#[], args, []⟩ = true)
 {x : List (DataW H) × List (DataW H) × List MemPlace} (hx : DataW.whole enc C.prog (w0.forCall (fun _ _ => 0) ⟨#[], args, []⟩).memory fn.params.toList s.vars apart args.toList fuel = some x)
 (hconds : conds.all (PathCond.test C.prog ⟨fn.params.toList, x.1, s.bare.plain.varTypes C.prog, x.2.1⟩) = true) (hkk : k H (x.1 ++ x.2.1) = true)
 (hsz : s.bare.sizedB enc C.prog fn apart (w0.forCall (fun _ _ => 0) ⟨#[], args, []⟩).memory args fuel = true)
 (hX : X (w0.forCall (fun _ _ => 0) ⟨#[], args, []⟩).memory args) :
 ∃ (w : World) (tape : Tape) (i : Input), w.os = os ∧ (w.forCall tape i).Shaped C.prog ∧ i.vars = [] ∧ Input.okWide C.prog (w.forCall tape i) .any w.heap.size f i ∧
  ((s.pre enc C.prog fn conds apart (w.forCall tape i).memory i.args ∧ X (w.forCall tape i).memory i.args) ∧ sizedMet enc C.prog fn s apart (w.forCall tape i).memory i.args) ∧ ({ modest := modest } : Assume).holds C.prog (lone (Frame.enter C.prog f i.args .normal) [] (w.forCall tape i)) :=
 ⟨w0, fun _ _ => 0, ⟨#[], args, []⟩, hos, hsh, (Input.okWide_of_okWideB (base := 0) hok).1, (Input.okWide_of_okWideB hok).2,
  ⟨⟨(OpenSpec.pre_some hk conds apart _ _).2 ⟨x.1, x.2.1, x.2.2, DataW.Whole_of_whole hx, hconds, hkk⟩, hX⟩, sizedMet_of_sizedB hsz⟩, by
  simp only [Assume.holds]
  exact ⟨by simp, by simp, fun _ => Modest.zero, by simp, by simp⟩⟩
def readsB {H : Type} (enc : TypeId × Value → H) (P : Program) (s : OpenSpec) (k : (H : Type) → List (DataW H) → Bool) (conds : List PathCond) (apart : Bool) (w : World) (ts : List TypeId) (args : List Value) (fuel : Nat) : Bool :=
 match DataW.whole enc P w ts s.vars apart args fuel with
 | some x => conds.all (PathCond.test P ⟨ts, x.1, s.bare.plain.varTypes P, x.2.1⟩) && k H (x.1 ++ x.2.1)
 | none => false
theorem witness_shapedV {C : Checked} {os : Os} {f : FuncId} {fn : Func} {s : OpenSpec} {k : (H : Type) → List (DataW H) → Bool} (hk : s.cond = some k) {conds : List PathCond} {apart : Bool} {X : World → Array Value → Prop} (modest : Bool) (w0 : World) (args : Array Value) (fuel : Nat) (hos : w0.os = os)
 (hsh : (w0.forCall (fun _ _ => 0) ⟨#[], args, []⟩).Shaped C.prog)
 (hok : Input.okWideB C.prog (w0.forCall (fun _ _ => 0) ⟨#[], args, []⟩) f ⟨#[], args, []⟩ = true)
 (hx : readsB enc C.prog s k conds apart (w0.forCall (fun _ _ => 0) ⟨#[], args, []⟩).memory fn.params.toList args.toList fuel = true)
 (hsz : s.bare.sizedB enc C.prog fn apart (w0.forCall (fun _ _ => 0) ⟨#[], args, []⟩).memory args fuel = true)
 (hX : X (w0.forCall (fun _ _ => 0) ⟨#[], args, []⟩).memory args) :
 ∃ (w : World) (tape : Tape) (i : Input), w.os = os ∧ (w.forCall tape i).Shaped C.prog ∧ i.vars = [] ∧ Input.okWide C.prog (w.forCall tape i) .any w.heap.size f i ∧
  ((s.pre enc C.prog fn conds apart (w.forCall tape i).memory i.args ∧ X (w.forCall tape i).memory i.args) ∧ sizedMet enc C.prog fn s apart (w.forCall tape i).memory i.args) ∧ ({ modest := modest } : Assume).holds C.prog (lone (Frame.enter C.prog f i.args .normal) [] (w.forCall tape i)) := by
 unfold readsB at hx
 split at hx
 · rename_i x hw
   simp only [Bool.and_eq_true] at hx
   exact witness_shapedU hk modest w0 args fuel hos hsh hok hw hx.1 hx.2 hsz hX
 · cases hx
end Go.Am
end

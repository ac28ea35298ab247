/-
  scope Tell: what its call gives.
-/
import Derived.Test.YtlbbjmbfclmmdaaDoorE5
namespace Go.Am
open Go Go.Proofs
set_option maxRecDepth 20000

/-- An element by a place that may be any number. -/
def nth (l : List Int) (i : Int) : Int := l[i.toNat]?.getD 0
theorem nth_get {l : List Int} {i : Int} (h0 : 0 ≤ i) (h : i < l.length) : l[i.toNat]? = some (nth l i) := by
  have : i.toNat < l.length := by omega
  simp [nth, this]
/-- Where it has to begin: the rows ahead of the moment. -/
def cut (rows : List (List Int)) (n : Int) : List (List Int) := rows.drop (rows.length - n).toNat
def hits (s : Scope) (row : List Int) : Bool :=
  decide (s.moment < 0) && (match s.rows.getLast? with | some r => crosses s (nth r s.channel) (nth row s.channel) | none => false)
def tell (s : Scope) (row : List Int) : Scope :=
  if right s = false ∨ s.done = true ∨ (row.length : Int) ≠ s.channels ∨ s.seen = 9223372036854775807 then s
  else
    let rows1 := if hits s row = true then cut s.rows s.before else s.rows
    let mom := if hits s row = true then (rows1.length : Int) else s.moment
    let rows2 := rows1 ++ [row]
    let rows3 := if mom < 0 then cut rows2 (max s.before 1) else rows2
    { s with seen := s.seen + 1, rows := rows3, moment := mom, done := decide (0 ≤ mom) && decide ((rows3.length : Int) - mom = s.after) }

theorem right_facts {s : Scope} (h : right s = true) : (1 ≤ s.channels ∧ s.channels ≤ 16 ∧ 0 ≤ s.before ∧ s.before ≤ 500 ∧ 1 ≤ s.after ∧ s.after ≤ 500 ∧ 0 ≤ s.channel ∧ s.channel < s.channels) ∧ (∀ r ∈ s.rows, (r.length : Int) = s.channels) ∧
    ((s.rows.length : Int) ≤ s.seen) ∧ (if s.moment = -1 then (s.rows.length : Int) ≤ max s.before 1 ∧ s.done = false else 0 ≤ s.moment ∧ s.moment ≤ s.before ∧ 1 ≤ s.rows.length - s.moment ∧ s.rows.length - s.moment ≤ s.after ∧ s.done = decide (s.rows.length - s.moment = s.after)) := by
  unfold right at h
  split at h
  · cases h
  · rename_i h1
    split at h
    · cases h
    · rename_i h2
      simp only [not_or, Bool.not_eq_false, Bool.not_eq_true] at h1
      obtain ⟨h3, h4⟩ := h1
      refine ⟨?_, ?_, by omega, ?_⟩
      · unfold asked at h3
        simp at h3
        omega
      · unfold rowsBad at h4
        simpa using h4
      · split at h
        · rename_i h5
          simp only [h5, if_true]
          simpa using h
        · rename_i h5
          simp only [h5, if_false]
          simp at h
          exact ⟨h.1.1.1.1, h.1.1.1.2, by omega, by omega, h.2⟩

/-- A row that counts for nothing. -/
theorem tell_none (s : Scope) (row : List Int) (hl : shortRows s.rows) (hm : I64 s.moment) (hc : right s = false ∨ s.done = true ∨ (row.length : Int) ≠ s.channels ∨ s.seen = 9223372036854775807) :
    callT ctx 12 [.d s.enc, .d (ints row)] [] = some (.ret (.d (Scope.enc s)), []) := by
  have h0 := copied_run s hl
  have h1 := right_run s hl.1 hm
  simp at h0 h1
  rw [run12 (by simp)]
  simp [Tryd.f12, h0, h1]
  intro a b c d
  simp_all

theorem tell_a (c b a h l : Int) (u : Bool) (rows : List (List Int)) (seen mom : Int) (row : List Int) (hl : shortRows rows) (hr : row.length < 1000000) (hm : I64 mom) (hs : I64 seen)
    (h1 : right ⟨c, b, a, h, l, u, rows, seen, mom, false⟩ = true) (hc : (row.length : Int) = c) (hsn : seen ≠ 9223372036854775807) (hmom : 0 ≤ mom) :
    callT ctx 12 [.d (Scope.enc ⟨c, b, a, h, l, u, rows, seen, mom, false⟩), .d (ints row)] [] = some (.ret (.d (Scope.enc ⟨c, b, a, h, l, u, rows ++ [row], seen + 1, mom, decide ((rows.length : Int) + 1 - mom = a)⟩)), []) := by
  have h0 := copied_run ⟨c, b, a, h, l, u, rows, seen, mom, false⟩ hl
  have h2 := right_run ⟨c, b, a, h, l, u, rows, seen, mom, false⟩ hl.1 hm
  have h3 := clone_ints row hr
  simp at h0 h2 h3
  unfold I64 at hs hm
  have g1 : IntKind.i64.wrap (seen + 1) = seen + 1 := wrap_id (by unfold I64; omega)
  have g2 : ¬ (mom < 0) := by omega
  have g3 : rows.length ≤ 4611686018427387903 := by have := hl.1; omega
  have g4 : (rows.length + 1) * 24 ≤ 140737488355328 := by have := hl.1; omega
  have g5 : IntKind.i64.wrap ((rows.length : Int) + 1 - mom) = rows.length + 1 - mom := wrap_id (by have := hl.1; unfold I64; omega)
  rw [run12 (by simp)]
  simp [Tryd.f12, h0, h2, h3, h1, hc, hsn, g1, g2, g3, g4, g5]
  rw [drwK_nil (by kernel_rfl)]
  simp [h3, g1, g2, g3, g4, g5]
  rw [drwK_nil (by kernel_rfl)]
  simp [h3, g1, g2, g3, g4, g5, hmom]
  rfl

theorem tell_b (c b a h l : Int) (u : Bool) (seen : Int) (row : List Int) (hr : row.length < 1000000) (hs : I64 seen)
    (h1 : right ⟨c, b, a, h, l, u, [], seen, -1, false⟩ = true) (hc : (row.length : Int) = c) (hsn : seen ≠ 9223372036854775807) :
    callT ctx 12 [.d (Scope.enc ⟨c, b, a, h, l, u, [], seen, -1, false⟩), .d (ints row)] [] = some (.ret (.d (Scope.enc ⟨c, b, a, h, l, u, [row], seen + 1, -1, false⟩)), []) := by
  have h0 := copied_run ⟨c, b, a, h, l, u, [], seen, -1, false⟩ ⟨by simp, by simp⟩
  have h2 := right_run ⟨c, b, a, h, l, u, [], seen, -1, false⟩ (by simp) (by unfold I64; simp)
  have h3 := clone_ints row hr
  have hf := (right_facts h1).1
  simp at h0 h2 h3 hf
  unfold I64 at hs
  have g1 : IntKind.i64.wrap (seen + 1) = seen + 1 := wrap_id (by unfold I64; omega)
  have g2 : (if 0 < IntKind.i64.wrap (1 - if b < 1 then 1 else b) then IntKind.i64.wrap (1 - if b < 1 then 1 else b) else 0) = 0 := by
    rw [wrap_id (by unfold I64; split <;> omega)]
    by_cases hb : b < 1 <;> simp [hb] <;> omega
  rw [run12 (by simp)]
  simp [Tryd.f12, h0, h2, h3, h1, hc, hsn, g1]
  rw [drwK_nil (by kernel_rfl)]
  simp [h3, g1]
  rw [drwK_nil (by kernel_rfl)]
  simp [h3, g1, g2]

theorem far4 {n L : Nat} (h : n + 1 < 1000000) : (n + 1 - L + 1) * 24 ≤ 140737488355328 := by
  have : n + 1 - L + 1 ≤ 1000001 := by omega
  omega
theorem far5 {n L : Nat} (h : n + 1 < 1000000) : n + 1 ≤ 4611686018427387903 + L := by omega
theorem far6 {n L : Nat} (h : L ≤ n) : (L : Int) ≤ n := by omega
set_option maxHeartbeats 1000000 in
theorem tell_c (c b a h l : Int) (u : Bool) (ini : List (List Int)) (last : List Int) (seen : Int) (row : List Int) (hl : shortRows (ini ++ [last])) (hr : row.length < 1000000) (hs : I64 seen)
    (h1 : right ⟨c, b, a, h, l, u, ini ++ [last], seen, -1, false⟩ = true) (hc : (row.length : Int) = c) (hsn : seen ≠ 9223372036854775807) (s' : Scope)
    (hs' : s' = if crosses ⟨c, b, a, h, l, u, ini ++ [last], seen + 1, -1, false⟩ (nth last h) (nth row h) = true then ⟨c, b, a, h, l, u, (ini ++ [last]).drop ((ini.length : Int) + 1 - b).toNat ++ [row], seen + 1, ((ini.length + 1 - ((ini.length : Int) + 1 - b).toNat : Nat) : Int), decide (1 = a)⟩
      else ⟨c, b, a, h, l, u, (ini ++ [last] ++ [row]).drop ((ini.length : Int) + 2 - max b 1).toNat, seen + 1, -1, false⟩) :
    callT ctx 12 [.d (Scope.enc ⟨c, b, a, h, l, u, ini ++ [last], seen, -1, false⟩), .d (ints row)] [] = some (.ret (.d (Scope.enc s')), []) := by
  have h0 := copied_run ⟨c, b, a, h, l, u, ini ++ [last], seen, -1, false⟩ hl
  have h2 := right_run ⟨c, b, a, h, l, u, ini ++ [last], seen, -1, false⟩ hl.1 (by unfold I64; simp)
  have h3 := clone_ints row hr
  have h4 := crosses_run ⟨c, b, a, h, l, u, ini ++ [last], seen + 1, -1, false⟩ (nth last h) (nth row h)
  have hf := right_facts h1
  have hlast : (last.length : Int) = c := hf.2.1 last (by simp)
  replace hf := hf.1
  obtain ⟨hl1, hl2⟩ := hl
  simp at h0 h2 h3 h4 hf hl1
  unfold I64 at hs
  have g1 : IntKind.i64.wrap (seen + 1) = seen + 1 := wrap_id (by unfold I64; omega)
  have g2 : IntKind.i64.wrap (ini.length : Int) = ini.length := wrap_id (by unfold I64; omega)
  have g3 : last[h.toNat]? = some (nth last h) := nth_get (by omega) (by omega)
  have g4 : row[h.toNat]? = some (nth row h) := nth_get (by omega) (by omega)
  have g5 : h.toNat < last.length := by omega
  have g6 : h.toNat < row.length := by omega
  have g7 : 0 ≤ h := by omega
  have g8 : 0 < (ini.length : Int) + 1 := by omega
  have e1 : (if 0 < IntKind.i64.wrap ((ini.length : Int) + 1 - b) then IntKind.i64.wrap ((ini.length : Int) + 1 - b) else 0) = (((ini.length : Int) + 1 - b).toNat : Int) := by
    rw [wrap_id (by unfold I64; omega)]
    split <;> omega
  have e2 : (if 0 < IntKind.i64.wrap ((ini.length : Int) + 1 + 1 - if b < 1 then 1 else b) then IntKind.i64.wrap ((ini.length : Int) + 1 + 1 - if b < 1 then 1 else b) else 0) = (((ini.length : Int) + 2 - max b 1).toNat : Int) := by
    rw [wrap_id (by unfold I64; split <;> omega)]
    by_cases hb : b < 1 <;> simp only [hb, if_true, if_false] <;> split <;> omega
  simp [nth, g5, g6] at h4 hs'
  have l1 : ((ini.length : Int) + 1 - b).toNat ≤ ini.length + 1 := by omega
  have l2 : ((ini.length : Int) + 2 - max b 1).toNat ≤ ini.length + 2 := by omega
  generalize ((ini.length : Int) + 1 - b).toNat = L1 at e1 l1 hs'
  generalize ((ini.length : Int) + 2 - max b 1).toNat = L2 at e2 l2 hs'
  have m1 : (ini.length + 1 + 1) * 24 ≤ 140737488355328 := by omega
  have m2 : ini.length ≤ 4611686018427387902 := by omega
  have m3 : L1 + (ini.length + 1 - L1) = ini.length + 1 := by omega
  have m4 : (ini.length + 1 - L1 + 1) * 24 ≤ 140737488355328 := far4 (by omega)
  have m5 : ini.length + 1 ≤ 4611686018427387903 + L1 := far5 (by omega)
  have m6 : (L1 : Int) ≤ ini.length + 1 := by exact far6 l1
  have m7 : (L2 : Int) ≤ ini.length + 1 + 1 := by exact far6 (n := ini.length + 1 + 1) l2
  have m8 : L2 + (ini.length + 1 + 1 - L2) = ini.length + 1 + 1 := by omega
  have m9 : L2 ≤ ini.length + 1 + 1 := by omega
  have m10 : ((ini.length : Int) + 1 + 1).toNat = ini.length + 2 := by omega
  have m11 : L2 + (ini.length + 2 - L2) = ini.length + 2 := by omega
  have m12 : ¬ (((ini.length + 1 - L1 : Nat) : Int) < 0) := by omega
  rw [run12 (by simp)]
  simp [Tryd.f12, h0, h2, h3, h1, hc, hsn, g1, g2, g5, g6, g7, g8, h4]
  rw [drwK_nil (by kernel_rfl)]
  generalize hcr : crosses _ _ _ = cr at hs' ⊢
  cases cr
  · simp at hs'
    subst hs'
    simp [h3, g1, e1, e2, m1, m2]
    rw [drwK_nil (by kernel_rfl)]
    simp [h3, g1, e1, e2, m1, m2, m7, m8, m9, m10, m11]
  · simp at hs'
    subst hs'
    simp [h3, g1, e1, e2, m3, m4, m5, m6, l1, m12]
    rw [drwK_nil (by kernel_rfl)]
    simp [h3, g1, e1, e2, m3, m4, m5, m6, l1, m12]
    have m13 : IntKind.i64.wrap (((ini.length + 1 - L1 : Nat) : Int) + 1 - ((ini.length + 1 - L1 : Nat) : Int)) = 1 := by rw [show (((ini.length + 1 - L1 : Nat) : Int) + 1 - ((ini.length + 1 - L1 : Nat) : Int)) = 1 by omega]; rfl
    rw [m13]; rfl

theorem tell_run (s : Scope) (row : List Int) (hl : shortRows s.rows) (hr : row.length < 1000000) (hm : I64 s.moment) (hs : I64 s.seen) :
    callT ctx 12 [.d s.enc, .d (ints row)] [] = some (.ret (.d (tell s row).enc), []) := by
  by_cases hc : right s = false ∨ s.done = true ∨ (row.length : Int) ≠ s.channels ∨ s.seen = 9223372036854775807
  · rw [tell_none s row hl hm hc]
    unfold tell
    rw [if_pos hc]
  · unfold tell
    rw [if_neg hc]
    simp only [not_or, Bool.not_eq_false, Bool.not_eq_true, ne_eq, Decidable.not_not] at hc
    obtain ⟨c1, c2, c3, c4⟩ := hc
    obtain ⟨c, b, a, h, l, u, rows, seen, mom, done⟩ := s
    simp only at c2 c3 c4 hm hs hl
    subst c2
    have hf := right_facts c1
    by_cases hmom : 0 ≤ mom
    · have g : ¬ (mom < 0) := by omega
      rw [tell_a c b a h l u rows seen mom row hl hr hm hs c1 c3 c4 hmom]
      simp [hits, g, hmom]
    · have hmm : mom = -1 := by
        have := hf.2.2.2
        simp only at this
        split at this
        · assumption
        · omega
      subst hmm
      rcases List.eq_nil_or_concat rows with rfl | ⟨ini, last, rfl⟩
      · rw [tell_b c b a h l u seen row hr hs c1 c3 c4]
        have : (1 - max b 1).toNat = 0 := by omega
        simp [hits, cut, this]
      · rw [List.concat_eq_append] at *
        rw [tell_c c b a h l u ini last seen row hl hr hs c1 c3 c4 _ rfl]
        congr 5
        have hx : hits ⟨c, b, a, h, l, u, ini ++ [last], seen, -1, false⟩ row = crosses ⟨c, b, a, h, l, u, ini ++ [last], seen + 1, -1, false⟩ (nth last h) (nth row h) := by
          simp [hits, crosses]
        rw [hx]
        cases crosses ⟨c, b, a, h, l, u, ini ++ [last], seen + 1, -1, false⟩ (nth last h) (nth row h)
        · simp [cut]
        · simp [cut]
          have h2 : ¬ (((ini.length + 1 - ((ini.length : Int) + 1 - b).toNat : Nat) : Int) < 0) := by omega
          simp [h2]
          generalize ((ini.length + 1 - ((ini.length : Int) + 1 - b).toNat : Nat) : Int) = z
          rw [show z + 1 - z = 1 by omega]
end Go.Am

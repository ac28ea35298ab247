/-
  The abstract machine, part 2: memory and states.
-/
import Derived.Test.YtlbbjmbfclmmdaaDoorAm1
namespace Go.Am
open Go

inductive Cont where
  | dead
  | box (cs : List AV)
  | vec (sz : Nat) (rows : List D)

structure Ent where
  key : Nat
  ver : Nat
  cont : Cont

abbrev Mem := List Ent

def Mem.get : Mem → Nat → Option Ent
  | [], _ => none
  | e :: r, k => if e.key = k then some e else Mem.get r k
def Mem.set : Mem → Ent → Mem
  | [], _ => []
  | e :: r, x => if e.key = x.key then x :: r else e :: Mem.set r x

theorem Mem.get_mem {m : Mem} {k e} (h : Mem.get m k = some e) : e ∈ m ∧ e.key = k := by
  induction m with
  | nil => simp [Mem.get] at h
  | cons x r ih =>
    simp only [Mem.get] at h
    split at h
    · simp_all
    · have := ih h; simp_all
theorem Mem.get_of_mem {m : Mem} {e} (hn : (m.map (·.key)).Nodup) (h : e ∈ m) : Mem.get m e.key = some e := by
  induction m with
  | nil => simp at h
  | cons x r ih =>
    simp only [List.map_cons, List.nodup_cons] at hn
    simp only [Mem.get]
    rcases List.mem_cons.1 h with rfl | h
    · simp
    · have : x.key ≠ e.key := fun he => hn.1 (by rw [he]; exact List.mem_map_of_mem h)
      simp [this, ih hn.2 h]
theorem Mem.set_keys (m : Mem) (x : Ent) : (Mem.set m x).map (·.key) = m.map (·.key) := by
  induction m with
  | nil => rfl
  | cons e r ih =>
    simp only [Mem.set]
    split
    · simp_all
    · simp [ih]
theorem Mem.mem_set {m : Mem} {x e : Ent} (hn : (m.map (·.key)).Nodup) : e ∈ Mem.set m x ↔ (e = x ∧ x.key ∈ m.map (·.key)) ∨ (e ∈ m ∧ e.key ≠ x.key) := by
  induction m with
  | nil => simp [Mem.set]
  | cons y r ih =>
    simp only [List.map_cons, List.nodup_cons] at hn
    simp only [Mem.set]
    split
    · rename_i hy
      constructor
      · intro h
        rcases List.mem_cons.1 h with rfl | h
        · left; simp [hy]
        · right; refine ⟨by simp [h], fun he => hn.1 ?_⟩
          rw [hy, ← he]; exact List.mem_map_of_mem h
      · rintro (⟨rfl, _⟩ | ⟨h, hne⟩)
        · simp
        · rcases List.mem_cons.1 h with rfl | h
          · exact absurd hy hne
          · simp [h]
    · rename_i hy
      simp only [List.mem_cons, ih hn.2, List.map_cons]
      constructor
      · rintro (rfl | ⟨rfl, h⟩ | ⟨h, hne⟩)
        · right; exact ⟨.inl rfl, hy⟩
        · left; exact ⟨rfl, .inr h⟩
        · right; exact ⟨.inr h, hne⟩
      · rintro (⟨rfl, h⟩ | ⟨h, hne⟩)
        · rcases h with h | h
          · exact absurd h.symm hy
          · right; left; exact ⟨rfl, h⟩
        · rcases h with rfl | h
          · left; rfl
          · right; right; exact ⟨h, hne⟩
theorem Mem.get_set_same {m : Mem} {x : Ent} (h : x.key ∈ m.map (·.key)) : Mem.get (Mem.set m x) x.key = some x := by
  induction m with
  | nil => simp at h
  | cons y r ih =>
    simp only [Mem.set]
    split
    · simp [Mem.get]
    · rename_i hy
      simp only [Mem.get, hy, if_false]
      exact ih (by simp only [List.map_cons, List.mem_cons] at h; rcases h with h | h; exact absurd h.symm hy; exact h)
theorem Mem.get_set_ne {m : Mem} {x : Ent} {k : Nat} (h : x.key ≠ k) : Mem.get (Mem.set m x) k = Mem.get m k := by
  induction m with
  | nil => rfl
  | cons y r ih =>
    simp only [Mem.set]
    split
    · rename_i hy
      have : y.key ≠ k := by rw [hy]; exact h
      simp [Mem.get, h, this]
    · simp only [Mem.get, ih]

def Cont.owns (L : Loc) : Cont → Prop
  | .dead => False
  | .box _ => True
  | .vec _ _ => 0 < L.cap

def Own (φ : Phi) (m : Mem) (b : Nat) : Prop := ∃ e ∈ m, ∃ L, φ e.key = some L ∧ e.cont.owns L ∧ L.blk = b
/-- The blocks that no pure datum may lie in. -/
def Fo (G : Nat → Prop) (φ : Phi) (m : Mem) (b : Nat) : Prop := G b ∨ Own φ m b

def ContRel (φ : Phi) (w : World) (F : Nat → Prop) (L : Loc) : Cont → Prop
  | .dead => True
  | .box cs => ∃ (arr : Array Value) (elem : TypeId), w.heap[L.blk]? = some (.cells arr elem (0, 0)) ∧ arr.size = cs.length ∧ (∀ v ∈ arr, cell1 v = true) ∧
      ∀ (i : Nat) (c : AV) (v : Value), cs[i]? = some c → arr[i]? = some v → AVRel φ w F c v
  | .vec sz rows => L.sz = sz ∧ rows.length ≤ L.cap ∧ (∀ d ∈ rows, d.size = L.sz) ∧ (0 < L.cap → ∃ (arr : Array Value) (elem : TypeId), w.heap[L.blk]? = some (.cells arr elem (0, 0)) ∧
      arr.size = L.base + L.cap * L.sz ∧ (∀ v ∈ arr, cell1 v = true) ∧
      ∀ (i : Nat) (d : D), rows[i]? = some d → ∃ v, DRel w F d v ∧ ∀ (j : Nat) (c : Value), v.cells[j]? = some c → arr[L.base + i * L.sz + j]? = some c)

def EntRel (φ : Phi) (w : World) (F : Nat → Prop) (e : Ent) : Prop := ∃ L, φ e.key = some L ∧ L.ver = e.ver ∧ ContRel φ w F L e.cont

theorem ContRel.lt {φ w F L c} (h : ContRel φ w F L c) (ho : c.owns L) : L.blk < w.heap.size := by
  have key : ∀ {x}, w.heap[L.blk]? = some x → L.blk < w.heap.size := fun hx => (Array.getElem?_eq_some_iff.1 hx).1
  cases c with
  | dead => exact ho.elim
  | box cs => obtain ⟨arr, elem, h, _⟩ := h; exact key h
  | vec sz rows => obtain ⟨_, _, _, h⟩ := h; obtain ⟨arr, elem, h, _⟩ := h ho; exact key h

theorem ContRel.mono {φ φ' : Phi} {w w' : World} {F F' : Nat → Prop} {L c} (h : ContRel φ w F L c) (hφ : φ.le φ')
    (hk : ∀ b, b < w.heap.size → ¬ F b → w'.heap[b]? = w.heap[b]?) (hs : w.heap.size ≤ w'.heap.size) (hF : ∀ b, b < w.heap.size → F' b → F b)
    (hown : c.owns L → w'.heap[L.blk]? = w.heap[L.blk]?) : ContRel φ' w' F' L c := by
  cases c with
  | dead => trivial
  | box cs =>
    obtain ⟨arr, elem, h1, h2, h3, h4⟩ := h
    exact ⟨arr, elem, by rw [hown trivial]; exact h1, h2, h3, fun i c v hc hv => (h4 i c v hc hv).mono hφ hk hs hF⟩
  | vec sz rows =>
    obtain ⟨hs', h0, hz, h⟩ := h
    refine ⟨hs', h0, hz, fun hc => ?_⟩
    obtain ⟨arr, elem, h1, h2, h3, h4⟩ := h hc
    exact ⟨arr, elem, by rw [hown hc]; exact h1, h2, h3, fun i d hd => let ⟨v, hv, hj⟩ := h4 i d hd; ⟨v, hv.mono hk hs hF, hj⟩⟩

structure MemRel (φ : Phi) (G : Nat → Prop) (m : Mem) (w : World) : Prop where
  nodup : (m.map (·.key)).Nodup
  dom : ∀ k L, φ k = some L → k ∈ m.map (·.key)
  ents : ∀ e ∈ m, EntRel φ w (Fo G φ m) e
  apart : ∀ e ∈ m, ∀ e' ∈ m, ∀ L L', φ e.key = some L → φ e'.key = some L' → e.cont.owns L → e'.cont.owns L' → L.blk = L'.blk → e.key = e'.key
  notG : ∀ b, Own φ m b → ¬ G b
  bound : ∀ b, G b → b < w.heap.size

theorem MemRel.own_lt {φ G m w} (h : MemRel φ G m w) {b} (hb : Own φ m b) : b < w.heap.size := by
  obtain ⟨e, he, L, hL, ho, rfl⟩ := hb
  obtain ⟨L', hL', _, hc⟩ := h.ents e he
  rw [hL] at hL'; cases hL'
  exact hc.lt ho

structure Keeps (φ : Phi) (m : Mem) (w : World) (φ' : Phi) (m' : Mem) (w' : World) : Prop where
  le : φ.le φ'
  old : ∀ b, b < w.heap.size → ¬ Own φ m b → w'.heap[b]? = w.heap[b]?
  own : ∀ b, b < w.heap.size → Own φ' m' b → Own φ m b
  size : w.heap.size ≤ w'.heap.size
  os : w'.os = w.os
  tape : w'.tape = w.tape
  output : w'.output = w.output

theorem Keeps.refl (φ m w) : Keeps φ m w φ m w := ⟨Phi.le_refl _, fun _ _ _ => rfl, fun _ _ h => h, Nat.le_refl _, rfl, rfl, rfl⟩
theorem Keeps.trans {φ m w φ1 m1 w1 φ2 m2 w2} (h : Keeps φ m w φ1 m1 w1) (k : Keeps φ1 m1 w1 φ2 m2 w2) : Keeps φ m w φ2 m2 w2 where
  le := Phi.le_trans h.le k.le
  old := fun b hb hn => by
    rw [k.old b (Nat.lt_of_lt_of_le hb h.size) (fun h1 => hn (h.own b hb h1)), h.old b hb hn]
  own := fun b hb hn => h.own b hb (k.own b (Nat.lt_of_lt_of_le hb h.size) hn)
  size := Nat.le_trans h.size k.size
  os := k.os.trans h.os
  tape := k.tape.trans h.tape
  output := k.output.trans h.output

/-- What holds of abstract values before holds behind. -/
theorem Keeps.av {φ m w φ' m' w' G} (h : Keeps φ m w φ' m' w') {x v} (hx : AVRel φ w (Fo G φ m) x v) : AVRel φ' w' (Fo G φ' m') x v :=
  hx.mono h.le (fun b hb hn => h.old b hb (fun ho => hn (.inr ho))) h.size (fun b hb => Or.imp id (h.own b hb))

/-- One entry is turned: its key gets a place L', the world turns at most at its old block and in new ones. -/
theorem MemRel.upd {φ G m w w'} (h : MemRel φ G m w) {e e' : Ent} (he : e ∈ m) {L L' : Loc} (hL : φ e.key = some L) (hkey : e'.key = e.key)
    (hver : L.ver ≤ L'.ver) (hsame : L'.ver = L.ver → L' = L)
    (hv : L'.ver = e'.ver)
    (hold : ∀ b, b < w.heap.size → ¬ (e.cont.owns L ∧ b = L.blk) → w'.heap[b]? = w.heap[b]?) (hs : w.heap.size ≤ w'.heap.size)
    (hblk : e'.cont.owns L' → (e.cont.owns L ∧ L'.blk = L.blk) ∨ w.heap.size ≤ L'.blk)
    (hos : w'.os = w.os) (htape : w'.tape = w.tape) (hout : w'.output = w.output)
    (hc : ∀ φ' : Phi, φ' = (fun k => if k = e.key then some L' else φ k) → φ.le φ' → ContRel φ' w' (Fo G φ' (Mem.set m e')) L' e'.cont) :
    ∃ φ', MemRel φ' G (Mem.set m e') w' ∧ Keeps φ m w φ' (Mem.set m e') w' ∧ φ' e.key = some L' ∧ ∀ k, k ≠ e.key → φ' k = φ k := by
  have hle : φ.le (fun k => if k = e.key then some L' else φ k) := by
    intro k L0 h0
    by_cases hk : k = e.key
    · subst hk
      rw [hL] at h0; cases h0
      exact ⟨L', by simp, hver, hsame⟩
    · exact ⟨L0, by simp [hk, h0], Nat.le_refl _, fun _ => rfl⟩
  have hinm : e'.key ∈ m.map (·.key) := by rw [hkey]; exact List.mem_map_of_mem he
  have hother : ∀ x ∈ m, x.key ≠ e.key → ∀ Lx, φ x.key = some Lx → x.cont.owns Lx → e.cont.owns L → Lx.blk ≠ L.blk :=
    fun x hx hne Lx hLx hox hoe heq => hne (h.apart x hx e he Lx L hLx hL hox hoe heq)
  have hownle : ∀ b, b < w.heap.size → Own (fun k => if k = e.key then some L' else φ k) (Mem.set m e') b → Own φ m b := by
    rintro b hb ⟨x, hx, Lx, hLx, hox, rfl⟩
    rcases (Mem.mem_set h.nodup).1 hx with ⟨rfl, _⟩ | ⟨hxm, hne⟩
    · simp [hkey] at hLx; subst hLx
      rcases hblk hox with ⟨hoe, heq⟩ | hge
      · exact ⟨e, he, L, hL, hoe, heq.symm⟩
      · omega
    · rw [hkey] at hne
      simp [hne] at hLx
      exact ⟨x, hxm, Lx, hLx, hox, rfl⟩
  have hkeep : ∀ b, b < w.heap.size → ¬ Own φ m b → w'.heap[b]? = w.heap[b]? := fun b hb hn =>
    hold b hb fun ⟨ho, heq⟩ => hn ⟨e, he, L, hL, ho, heq.symm⟩
  refine ⟨_, ⟨by rw [Mem.set_keys]; exact h.nodup, ?_, ?_, ?_, ?_, ?_⟩, ⟨hle, hkeep, hownle, hs, hos, htape, hout⟩, by simp, fun k hk => by simp [hk]⟩
  · intro k L0 h0
    rw [Mem.set_keys]
    by_cases hk : k = e.key
    · subst hk; exact List.mem_map_of_mem he
    · simp [hk] at h0; exact h.dom k L0 h0
  · intro x hx
    rcases (Mem.mem_set h.nodup).1 hx with ⟨rfl, _⟩ | ⟨hxm, hne⟩
    · exact ⟨L', by simp [hkey], hv, hc _ rfl hle⟩
    · rw [hkey] at hne
      obtain ⟨Lx, hLx, hvx, hcx⟩ := h.ents x hxm
      refine ⟨Lx, by simp [hne, hLx], hvx, hcx.mono hle (fun b hb hn => hkeep b hb (fun ho => hn (.inr ho))) hs (fun b hb => Or.imp id (hownle b hb)) (fun hox => ?_)⟩
      exact hold _ (hcx.lt hox) (fun ⟨hoe, heq⟩ => hother x hxm hne Lx hLx hox hoe heq)
  · intro x hx y hy Lx Ly hLx hLy hox hoy heq
    rcases (Mem.mem_set h.nodup).1 hx with ⟨rfl, _⟩ | ⟨hxm, hnex⟩ <;> rcases (Mem.mem_set h.nodup).1 hy with ⟨rfl, _⟩ | ⟨hym, hney⟩
    · rfl
    · rw [hkey] at hney
      simp [hkey] at hLx; subst hLx
      simp [hney] at hLy
      obtain ⟨Ly', hLy', _, hcy⟩ := h.ents y hym
      rw [hLy] at hLy'; cases hLy'
      rcases hblk hox with ⟨hoe, heq'⟩ | hge
      · exact absurd (by rw [← heq, heq']) (hother y hym hney Ly hLy hoy hoe)
      · have := hcy.lt hoy; omega
    · rw [hkey] at hnex
      simp [hkey] at hLy; subst hLy
      simp [hnex] at hLx
      obtain ⟨Lx', hLx', _, hcx⟩ := h.ents x hxm
      rw [hLx] at hLx'; cases hLx'
      rcases hblk hoy with ⟨hoe, heq'⟩ | hge
      · exact absurd (by rw [heq, heq']) (hother x hxm hnex Lx hLx hox hoe)
      · have := hcx.lt hox; omega
    · rw [hkey] at hnex hney
      simp [hnex] at hLx; simp [hney] at hLy
      exact h.apart x hxm y hym Lx Ly hLx hLy hox hoy heq
  · intro b hb hG
    exact h.notG b (hownle b (h.bound b hG) hb) hG
  · intro b hG; exact Nat.lt_of_lt_of_le (h.bound b hG) hs

/-- The world turns outside of what is owned alone by new blocks: nothing turns. -/
theorem MemRel.grow {φ G m w w'} (h : MemRel φ G m w) (hold : ∀ b, b < w.heap.size → w'.heap[b]? = w.heap[b]?) (hs : w.heap.size ≤ w'.heap.size) : MemRel φ G m w' where
  nodup := h.nodup
  dom := h.dom
  ents := fun e he => by
    obtain ⟨L, hL, hv, hc⟩ := h.ents e he
    exact ⟨L, hL, hv, hc.mono (Phi.le_refl _) (fun b hb _ => hold b hb) hs (fun _ _ h => h) (fun ho => hold _ (hc.lt ho))⟩
  apart := h.apart
  notG := h.notG
  bound := fun b hG => Nat.lt_of_lt_of_le (h.bound b hG) hs

theorem Keeps.grow {φ m w w'} (hold : ∀ b, b < w.heap.size → w'.heap[b]? = w.heap[b]?) (hs : w.heap.size ≤ w'.heap.size) (hos : w'.os = w.os) (ht : w'.tape = w.tape) (ho : w'.output = w.output) : Keeps φ m w φ m w' :=
  ⟨Phi.le_refl _, fun b hb _ => hold b hb, fun _ _ h => h, hs, hos, ht, ho⟩

/- States. -/
abbrev Env := List (Nat × Bool × AV)
def Env.lk : Env → Nat → Option (Bool × AV)
  | [], _ => none
  | (t, x) :: r, u => if t = u then some x else Env.lk r u

structure St where
  n : Nat
  gl : List (Nat × D)
  env : Env
  mem : Mem

/-- Package-level variables whose data are known. -/
def GlobRel (w : World) (F : Nat → Prop) (gl : List (Nat × D)) : Prop :=
  ∀ x ∈ gl, x.1 < w.heap.size ∧ ¬ F x.1 ∧ ∃ x', DRel w F x.2 x' ∧ ∀ (i : Nat) (c : Value), x'.cells[i]? = some c → w.cell? ⟨x.1, i, none⟩ = some c

theorem GlobRel.mono {w w' : World} {F F' : Nat → Prop} {gl} (h : GlobRel w F gl) (hk : ∀ b, b < w.heap.size → ¬ F b → w'.heap[b]? = w.heap[b]?) (hs : w.heap.size ≤ w'.heap.size)
    (hF : ∀ b, b < w.heap.size → F' b → F b) : GlobRel w' F' gl := fun x hx => by
  obtain ⟨h1, h2, x', h3, h4⟩ := h x hx
  exact ⟨by omega, fun hf => h2 (hF _ h1 hf), x', h3.mono hk hs hF, fun i c hc => by rw [cell?_congr (hk _ h1 h2)]; exact h4 i c hc⟩

theorem Keeps.glob {φ m w φ' m' w' G gl} (h : Keeps φ m w φ' m' w') (hx : GlobRel w (Fo G φ m) gl) : GlobRel w' (Fo G φ' m') gl :=
  hx.mono (fun b hb hn => h.old b hb (fun ho => hn (.inr ho))) h.size (fun b hb => Or.imp id (h.own b hb))

structure Rel (φ : Phi) (G : Nat → Prop) (S : St) (a : Act) (w : World) : Prop where
  size : a.tmps.size = S.n
  defers : a.defers = []
  env : ∀ t x, Env.lk S.env t = some (true, x) → AVRel φ w (Fo G φ S.mem) x (a.tmps.getD t undef)
  mem : MemRel φ G S.mem w
  glob : GlobRel w (Fo G φ S.mem) S.gl

def St.put (S : St) (d : Option Nat) (g : Bool) (x : AV) : St :=
  match d with
  | some d => { S with env := (d, g, x) :: S.env }
  | none => S

theorem Rel.put {φ G S a w} (h : Rel φ G S a w) (d : Option Nat) (hd : ∀ t, d = some t → t < S.n) (g : Bool) (x : AV) (v : Value)
    (hx : g = true → AVRel φ w (Fo G φ S.mem) x v) : Rel φ G (S.put d g x) (a.put d v) w := by
  cases d with
  | none => exact h
  | some d =>
    have hd := hd d rfl
    refine ⟨by simp [Act.put, St.put, h.size], by simp [Act.put, h.defers], ?_, h.mem, h.glob⟩
    intro t y hy
    simp only [St.put, Env.lk] at hy
    by_cases ht : d = t
    · subst ht
      simp only [if_true, Option.some.injEq, Prod.mk.injEq] at hy
      obtain ⟨rfl, rfl⟩ := hy
      have : d < a.tmps.size := by rw [h.size]; exact hd
      have e : (a.put (some d) v).tmps.getD d undef = v := by simp [Act.put, this]
      rw [e]; exact hx rfl
    · simp only [ht, if_false] at hy
      have e : (a.put (some d) v).tmps.getD t undef = a.tmps.getD t undef := by simp [Act.put, ht]
      rw [e]; exact h.env t y hy

/-- The state behind a turn of memory. -/
theorem Rel.turn {φ G S a w φ' m' w'} (h : Rel φ G S a w) (hm : MemRel φ' G m' w') (hk : Keeps φ S.mem w φ' m' w') : Rel φ' G { S with mem := m' } a w' :=
  ⟨h.size, h.defers, fun t x hx => hk.av (h.env t x hx), hm, hk.glob h.glob⟩
end Go.Am

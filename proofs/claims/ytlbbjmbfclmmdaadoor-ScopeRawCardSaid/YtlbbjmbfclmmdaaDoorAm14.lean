/-
  The abstract machine, part 14: one step, rows of operations, code.
-/
import Derived.Test.YtlbbjmbfclmmdaaDoorAm13
namespace Go.Am
open Go

def okAll (S : St) : List Operand → Bool
  | [] => true
  | x :: r => (S.opd x).1 && okAll S r
theorem okAll_mem {S : St} : ∀ {l : List Operand}, okAll S l = true → ∀ x ∈ l, (S.opd x).1 = true
  | [], _, x, hx => by simp at hx
  | y :: r, h, x, hx => by
    simp only [okAll, Bool.and_eq_true] at h
    rcases List.mem_cons.1 hx with rfl | hx
    · exact h.1
    · exact okAll_mem h.2 x hx

/-- What an operation reads, for the guards. -/
def opOk (S : St) (o : Oper) : Bool :=
  match o.op with
  | .pick _ _ _ => true
  | op => okAll S op.operands.toList

/-- A value that is handed on: nothing becomes an empty vector, where its place is known. -/
def moveR (P : Program) (m : Mem) (k0 : Nat) (t : TypeId) (x : AV) : Res :=
  match x with
  | .lit (.slice none 0 0) => match Mem.get m k0 with
    | some ⟨_, v, _⟩ => match tk P t with
      | .slice e => match tsz P e with
        | some sz => .upd true (.vec k0 (v + 1) 0 0) ⟨k0, v + 1, .vec sz []⟩
        | none => .val true x
      | _ => .val true x
    | none => .val true x
  | x => .val true x

theorem moveR_ok (P : Program) (S : St) (o : Oper) (x : Operand) (ho : o.op = .move x ∨ o.op = .assign x) (hx : (S.opd x).1 = true) : ResOk P S o (moveR P S.mem (keyOf o) o.type (S.opd x).2) := by
  have plain : ResOk P S o (.val true (S.opd x).2) := by
    have := move_ok P S o x ho hx
    simpa using this
  unfold moveR
  split
  · rename_i hxv
    split
    · rename_i key v cont hg
      split
      · split
        · rename_i sz hs
          intro _ φ G a w hr
          obtain ⟨hm, hk, L, hL, hver, hcr⟩ := hr.mem.get hg
          simp only at hk hver
          subst hk
          have hv := hr.opd x hx
          rw [hxv] at hv
          generalize hev : a.eval x = u at hv
          cases hv
          obtain ⟨φ', hm', hk', hφk, hφo⟩ := hr.mem.upd (e' := ⟨keyOf o, v + 1, .vec sz []⟩) hm hL rfl (L' := ⟨v + 1, 0, sz, 0, 0⟩) (by simp only; omega) (fun hh => by simp only at hh; omega) rfl
            (w' := w) (fun _ _ _ => rfl) (Nat.le_refl _) (fun ho => absurd ho (by simp [Cont.owns])) rfl rfl rfl (fun φ' hφ' hle' =>
              ⟨rfl, by simp, by simp, fun hc => by simp at hc⟩)
          refine ⟨.slice none 0 0, w, φ', .inl ?_, ?_, hm', hk', hφo⟩
          · rcases ho with ho | ho <;> simp [execOp, ho, hev]
          · exact .vec _ (v + 1) 0 _ _ _ hφk (Nat.le_refl _) (fun _ => ⟨_, _, rfl, by simp, fun h => by omega⟩) rfl
        · exact plain
      · exact plain
    · exact plain
  · exact plain

def isNilV : Value → Bool
  | .slice none 0 0 => true
  | .pointer none => true
  | .nilIface => true
  | _ => false
def binOpR (P : Program) (S : St) (op : BinOp) (t : TypeId) (x y : Operand) : Res :=
  match y with
  | .const v => match isNilV v, op with
    | true, .eql => nilR P S.mem false t (S.opd x).2 v
    | true, .neq => nilR P S.mem true t (S.opd x).2 v
    | _, _ => binR P op t (S.opd x).2 (S.opd (.const v)).2
  | y => binR P op t (S.opd x).2 (S.opd y).2
theorem binOpR_ok (P : Program) (S : St) (o : Oper) (bop : BinOp) (t t' : TypeId) (x y : Operand) (ho : o.op = .binOp bop t x y t') (hx : (S.opd x).1 = true) (hy : (S.opd y).1 = true) : ResOk P S o (binOpR P S bop t x y) := by
  unfold binOpR
  split
  · split
    · exact nilR_ok P S o false t t' x _ (by simpa using ho) hx
    · exact nilR_ok P S o true t t' x _ (by simpa using ho) hx
    · exact binR_ok P S o _ t t' x _ ho hx hy
  · exact binR_ok P S o bop t t' x y ho hx hy

def builtinR (P : Program) (S : St) (o : Oper) (b : Builtin) (args : List Operand) (ts : List TypeId) : Res :=
  match b, args, ts with
  | .len, [x], [t] => lenRm P S.mem t (S.opd x).2
  | .append, [s, x], [t, u] => appR P S.mem (keyOf o) t u (S.opd s).2 (S.opd x).2
  | .copy, [s, x], [t, _] => copyR P S.mem t (S.opd s).2 (S.opd x).2
  | .max, args, _ => maxR true (args.map fun x => (S.opd x).2)
  | .min, args, _ => maxR false (args.map fun x => (S.opd x).2)
  | _, _, _ => .no

def stepv (P : Program) (S : St) (o : Oper) : Res :=
  match o.op with
  | .move x => moveR P S.mem (keyOf o) o.type (S.opd x).2
  | .assign x => moveR P S.mem (keyOf o) o.type (S.opd x).2
  | .pick c a b => pickR (S.opd c) (S.opd a) (S.opd b)
  | .alloc t => match tzero P t with
    | some zs => boxR S.mem (keyOf o) true zs
    | none => .no
  | .box _ x => boxR S.mem (keyOf o) (S.opd x).2.solid (S.opd x).2.cells
  | .load t x => loadR P S.mem t (S.opd x).2
  | .store t p x => storeR P S.mem t (S.opd p).2 (S.opd x).2
  | .fieldAddr s x f => fieldRm P S.mem s f (S.opd x).2
  | .indexAddr t x i => indexR P S.mem t (S.opd x).2 (S.opd i).2
  | .index t x i => indexVR P t (S.opd x).2 (S.opd i).2
  | .slice t x lo hi none => sliceR P S.mem t (S.opd x).2 (lo.map fun y => (S.opd y).2) (hi.map fun y => (S.opd y).2)
  | .binOp op t x y _ => binOpR P S op t x y
  | .unOp op _ x => unR op (S.opd x).2
  | .convert s d x => convR P S.mem (keyOf o) s d (S.opd x).2
  | .makeInterface t x => makeIfaceR P t (S.opd x).2
  | .makeFunc f first cap => makeFuncR f first (cap.toList.map fun x => (S.opd x).2)
  | .makeSlice t l c => makeR P S.mem (keyOf o) t (S.opd l).2 (S.opd c).2
  | .build t ps => buildR P t (ps.toList.map fun x => (x.1, (S.opd x.2).2))
  | .buildSlice t len ps => buildSliceR P S.mem (keyOf o) t len (ps.toList.map fun x => (x.1, (S.opd x.2).2))
  | .extract x i => extractR i (S.opd x).2
  | .call { callee := .builtin b, args, argTypes } => builtinR P S o b args.toList argTypes.toList
  | _ => .no

theorem stepv_ok (P : Program) (S : St) (o : Oper) (h : opOk S o = true) : ResOk P S o (stepv P S o) := by
  unfold opOk at h
  unfold stepv
  have one : ∀ {l : List Operand}, okAll S l = true → ∀ x ∈ l, (S.opd x).1 = true := okAll_mem
  split
  · rename_i x ho; simp only [ho] at h; exact moveR_ok P S o x (.inl ho) (one h x (by simp [Op.operands]))
  · rename_i x ho; simp only [ho] at h; exact moveR_ok P S o x (.inr ho) (one h x (by simp [Op.operands]))
  · rename_i c a b ho; exact pick_ok P S o c a b ho
  · rename_i t ho
    split
    · rename_i zs hz; exact alloc_ok P S o t ho zs hz
    · trivial
  · rename_i t x ho; simp only [ho] at h; exact box_ok P S o t x ho (one h x (by simp [Op.operands]))
  · rename_i t x ho; simp only [ho] at h; exact (load_ok P S o t x ho (one h x (by simp [Op.operands]))).res
  · rename_i t p x ho; simp only [ho] at h; exact store_ok P S o t p x ho (one h p (by simp [Op.operands])) (one h x (by simp [Op.operands]))
  · rename_i s x f ho; simp only [ho] at h; exact field_ok P S o s x f ho (one h x (by simp [Op.operands]))
  · rename_i t x i ho; simp only [ho] at h; exact index_ok P S o t x i ho (one h x (by simp [Op.operands])) (one h i (by simp [Op.operands]))
  · rename_i t x i ho; simp only [ho] at h; exact indexV_ok P S o t x i ho (one h x (by simp [Op.operands])) (one h i (by simp [Op.operands]))
  · rename_i t x lo hi ho; simp only [ho] at h
    exact slice_ok P S o t x lo hi ho (one h x (by simp [Op.operands])) (fun y hy => one h y (by simp [Op.operands, hy])) (fun y hy => one h y (by simp [Op.operands, hy]))
  · rename_i op t x y t' ho; simp only [ho] at h; exact binOpR_ok P S o op t t' x y ho (one h x (by simp [Op.operands])) (one h y (by simp [Op.operands]))
  · rename_i op t x ho; simp only [ho] at h; exact un_ok P S o op t x ho (one h x (by simp [Op.operands]))
  · rename_i s d x ho; simp only [ho] at h; exact conv_ok P S o s d x ho (one h x (by simp [Op.operands]))
  · rename_i t x ho; simp only [ho] at h; exact makeIface_ok P S o t x ho (one h x (by simp [Op.operands]))
  · rename_i f first cap ho; simp only [ho] at h; exact makeFunc_ok P S o f first cap ho (fun x hx => one h x (by simp [Op.operands]; right; simpa using hx))
  · rename_i t l c ho; simp only [ho] at h; exact make_ok P S o t l c ho (one h l (by simp [Op.operands])) (one h c (by simp [Op.operands]))
  · rename_i t ps ho; simp only [ho] at h; exact build_ok P S o t ps ho (fun x hx => one h x.2 (by simp only [Op.operands, List.toList_toArray, List.mem_map]; exact ⟨x, hx, rfl⟩))
  · rename_i t len ps ho; simp only [ho] at h; exact buildSlice_ok P S o t len ps ho (fun x hx => one h x.2 (by simp only [Op.operands, List.toList_toArray, List.mem_map]; exact ⟨x, hx, rfl⟩))
  · rename_i x i ho; simp only [ho] at h; exact extract_ok P S o x i ho (one h x (by simp [Op.operands]))
  · rename_i b args ts ho
    simp only [ho] at h
    have ha : ∀ x ∈ args.toList, (S.opd x).1 = true := fun x hx => one h x (by simp [Op.operands, Call.operands]; simpa using hx)
    have hargs : ∀ {l : List Operand}, args.toList = l → args = l.toArray := fun h => by rw [← h]
    have hts : ∀ {l : List TypeId}, ts.toList = l → ts = l.toArray := fun h => by rw [← h]
    unfold builtinR
    split
    · rename_i x t h1 h2; rw [hargs h1, hts h2] at ho; exact len_ok P S o x t ho (ha x (by simp [h1]))
    · rename_i s x t u h1 h2; rw [hargs h1, hts h2] at ho; exact app_ok P S o s x t u ho (ha s (by simp [h1])) (ha x (by simp [h1]))
    · rename_i s x t u h1 h2; rw [hargs h1, hts h2] at ho; exact copy_ok P S o s x t u ho (ha s (by simp [h1])) (ha x (by simp [h1]))
    · exact max_ok P S o true args ts (by simpa using ho) ha
    · exact max_ok P S o false args ts (by simpa using ho) ha
    · trivial
  · trivial

/- Exits. -/
inductive XE where
  | normal
  | exit (id : Nat)
  | ret
  | panic (t : TypeId) (x : D)

def Post (n : Nat) (φ : Phi) (G : Nat → Prop) (m : Mem) (w : World) (Q : XE → St → Prop) : Exit → Act → World → Prop
  | .normal, a', w' => ∃ φ' S', S'.n = n ∧ Q .normal S' ∧ Rel φ' G S' a' w' ∧ Keeps φ m w φ' S'.mem w'
  | .exit id, a', w' => ∃ φ' S', S'.n = n ∧ Q (.exit id) S' ∧ Rel φ' G S' a' w' ∧ Keeps φ m w φ' S'.mem w'
  | .ret, a', w' => ∃ φ' S', S'.n = n ∧ Q .ret S' ∧ Rel φ' G S' a' w' ∧ Keeps φ m w φ' S'.mem w'
  | .panic chain, a', w' => ∃ φ' S' t x v, chain = [{ v := .iface t v, recovered := false }] ∧ DRel w' (Fo G φ' S'.mem) x v ∧ S'.n = n ∧ Q (.panic t x) S' ∧ Rel φ' G S' a' w' ∧ Keeps φ m w φ' S'.mem w'
  | _, _, _ => False

theorem Post.weaken {n φ G m w Q φ1 m1 w1 e a' w'} (hk : Keeps φ m w φ1 m1 w1) (h : Post n φ1 G m1 w1 Q e a' w') : Post n φ G m w Q e a' w' := by
  cases e with
  | normal => obtain ⟨φ', S', h0, h1, h2, h3⟩ := h; exact ⟨φ', S', h0, h1, h2, hk.trans h3⟩
  | exit id => obtain ⟨φ', S', h0, h1, h2, h3⟩ := h; exact ⟨φ', S', h0, h1, h2, hk.trans h3⟩
  | ret => obtain ⟨φ', S', h0, h1, h2, h3⟩ := h; exact ⟨φ', S', h0, h1, h2, hk.trans h3⟩
  | panic chain => obtain ⟨φ', S', t, x, v, hc, hd, h0, h1, h2, h3⟩ := h; exact ⟨φ', S', t, x, v, hc, hd, h0, h1, h2, hk.trans h3⟩
  | _ => exact h.elim

theorem Post.mono {n φ G m w Q Q' e a' w'} (hq : ∀ e S, Q e S → Q' e S) (h : Post n φ G m w Q e a' w') : Post n φ G m w Q' e a' w' := by
  cases e with
  | normal => obtain ⟨φ', S', h0, h1, h2⟩ := h; exact ⟨φ', S', h0, hq _ _ h1, h2⟩
  | exit id => obtain ⟨φ', S', h0, h1, h2⟩ := h; exact ⟨φ', S', h0, hq _ _ h1, h2⟩
  | ret => obtain ⟨φ', S', h0, h1, h2⟩ := h; exact ⟨φ', S', h0, hq _ _ h1, h2⟩
  | panic chain => obtain ⟨φ', S', t, x, v, hc, hd, h0, h1, h2⟩ := h; exact ⟨φ', S', t, x, v, hc, hd, h0, hq _ _ h1, h2⟩
  | _ => exact h.elim

/-- From the state S the code ends as Q says. -/
def Tri (P : Program) (c : Code) (S : St) (Q : XE → St → Prop) : Prop :=
  ∀ φ G a w, Rel φ G S a w → c.wp P (Post S.n φ G S.mem w Q) a w

def grd (all : List Oper) (S : St) (j : Nat) : Option (Bool × AV) :=
  match all[j]? with
  | some o => match o.dst with
    | some t => Env.lk S.env t
    | none => none
  | none => none

/-- Every operation writes a slot that there is. -/
def dstsOk (n : Nat) (ops : List Oper) : Bool := ops.all fun o => match o.dst with | some t => decide (t < n) | none => true

theorem put_n (S : St) (d g x) : (S.put d g x).n = S.n := by cases d <;> rfl
theorem put_mem (S : St) (d g x) : (S.put d g x).mem = S.mem := by cases d <;> rfl

theorem Ran.step {P : Program} {o : Oper} {a : Act} {w w' : World} {v : Value} {next R} (h : Ran P o a w v w') (hn : next (a.put o.dst v) w') : o.wp P a w next R := by
  unfold Oper.wp
  rcases h with h | ⟨h, rfl⟩ <;> rw [h] <;> exact hn

theorem Rel.grow {φ G S a w w'} (h : Rel φ G S a w) (hold : ∀ b, b < w.heap.size → w'.heap[b]? = w.heap[b]?) (hs : w.heap.size ≤ w'.heap.size) : Rel φ G S a w' :=
  ⟨h.size, h.defers, fun t x hx => (h.env t x hx).mono (Phi.le_refl _) (fun b hb _ => hold b hb) hs (fun _ _ h => h), h.mem.grow hold hs, h.glob.mono (fun b hb _ => hold b hb) hs (fun _ _ h => h)⟩

theorem val_step {P : Program} {S : St} {o : Oper} {c : Bool} {x : AV} {gb : Bool} (hr : ResOk P S o (.val c x)) (hc : c = true) {φ G a w} (h : Rel φ G S a w) (hd : ∀ t, o.dst = some t → t < S.n) {next : Act → World → Prop} {R}
    (hn : ∀ a' w', Rel φ G (S.put o.dst gb x) a' w' → Keeps φ S.mem w φ S.mem w' → next a' w') : o.wp P a w next R := by
  obtain ⟨v, w', hran, hav, hold, hs, hos, ht, hout⟩ := hr hc φ G a w h
  exact hran.step (hn _ _ ((h.grow hold hs).put o.dst hd gb x v (fun _ => hav)) (Keeps.grow hold hs hos ht hout))
theorem upd_step {P : Program} {S : St} {o : Oper} {c : Bool} {x : AV} {e : Ent} (hr : ResOk P S o (.upd c x e)) (hc : c = true) {φ G a w} (h : Rel φ G S a w) (hd : ∀ t, o.dst = some t → t < S.n) {next : Act → World → Prop} {R}
    (hn : ∀ φ' a' w', Rel φ' G (({ S with mem := Mem.set S.mem e } : St).put o.dst true x) a' w' → Keeps φ S.mem w φ' (Mem.set S.mem e) w' → next a' w') : o.wp P a w next R := by
  obtain ⟨v, w', φ', hran, hav, hm, hk, _⟩ := hr hc φ G a w h
  exact hran.step (hn φ' _ _ ((h.turn hm hk).put o.dst hd true x v (fun _ => hav)) hk)

theorem grd_yield {all : List Oper} {S : St} {j : Nat} {b : Bool} {φ G a w} (h : Rel φ G S a w) (hg : grd all S j = some (true, .d (.bool b))) : yielded all.toArray a.tmps j = some b := by
  unfold grd at hg
  split at hg
  · rename_i o ho
    split at hg
    · rename_i t ht
      have := bool_of (h.env t _ hg)
      unfold yielded
      simp only [List.getElem?_toArray, ho, Option.bind_some, ht]
      rw [Array.getD_eq_getD_getElem?] at this
      cases hq : a.tmps[t]? with
      | none => simp [hq, undef] at this
      | some v => simp [hq] at this; simp [this]
    · cases hg
  · cases hg

/- Rules. -/
section
variable {P : Program} {S : St} {Q : XE → St → Prop}

theorem Tri.mono {c : Code} {Q' : XE → St → Prop} (h : Tri P c S Q) (hq : ∀ e S, Q e S → Q' e S) : Tri P c S Q' :=
  fun φ G a w hr => wp_mono (h φ G a w hr) fun _ _ _ hp => hp.mono hq

/-- Only what is kept. -/
def St.prune (S : St) (keep : List Nat) : St := { S with env := keep.filterMap fun t => (Env.lk S.env t).map fun x => (t, x) }

theorem lk_filterMap (env : Env) : ∀ (keep : List Nat) (t : Nat) (x : Bool × AV), Env.lk (keep.filterMap fun t => (Env.lk env t).map fun x => (t, x)) t = some x → Env.lk env t = some x
  | [], t, x, h => by simp [Env.lk] at h
  | k :: r, t, x, h => by
    simp only [List.filterMap_cons] at h
    cases hk : Env.lk env k with
    | none => simp [hk] at h; exact lk_filterMap env r t x h
    | some y =>
      simp only [hk, Option.map_some, Env.lk] at h
      by_cases hkt : k = t
      · subst hkt; simp at h; subst h; exact hk
      · simp [hkt] at h; exact lk_filterMap env r t x h

theorem Rel.prune {φ G a w} (h : Rel φ G S a w) (keep : List Nat) : Rel φ G (S.prune keep) a w :=
  ⟨h.size, h.defers, fun t x hx => h.env t x (lk_filterMap _ _ _ _ hx), h.mem, h.glob⟩

theorem tri_seq {x y : Code} (h : Tri P x S fun e S' => match e with | .normal => Tri P y S' Q | e => Q e S') : Tri P (.seq x y) S Q := by
  intro φ G a w hr
  refine wp_seq (wp_mono (h φ G a w hr) fun e a' w' hp => ?_)
  cases e with
  | normal =>
    obtain ⟨φ', S', hn, h1, h2, h3⟩ := hp
    exact wp_mono (h1 φ' G a' w' h2) fun e a2 w2 hp2 => by rw [hn] at hp2; exact hp2.weaken h3
  | _ => exact hp

theorem tri_cond {c : Operand} {x y : Code} {b : Bool} (hc : S.opd c = (true, .d (.bool b))) (ht : b = true → Tri P x S Q) (hf : b = false → Tri P y S Q) : Tri P (.cond c x y) S Q := by
  intro φ G a w hr
  have hv := hr.opd c (by rw [hc])
  rw [hc] at hv
  have e := bool_of hv
  cases b
  · exact wp_cond_false e (hf rfl φ G a w hr)
  · exact wp_cond_true e (ht rfl φ G a w hr)

theorem tri_skip (h : Q .normal S) : Tri P .skip S Q := fun φ _ _ _ hr => wp_skip ⟨φ, S, rfl, h, hr, Keeps.refl ..⟩
theorem tri_ret (h : Q .ret S) : Tri P .ret S Q := fun φ _ _ _ hr => wp_ret ⟨φ, S, rfl, h, hr, Keeps.refl ..⟩
theorem tri_exit {id : Nat} (h : Q (.exit id) S) : Tri P (.exit id) S Q := fun φ _ _ _ hr => wp_exit ⟨φ, S, rfl, h, hr, Keeps.refl ..⟩
theorem tri_block {id : Nat} {c : Code} (h : Tri P c S fun e S' => match e with | .exit id' => if id' = id then Q .normal S' else Q (.exit id') S' | e => Q e S') : Tri P (.block id c) S Q := by
  intro φ G a w hr
  refine wp_block (wp_mono (h φ G a w hr) fun e a' w' hp => ?_)
  cases e with
  | exit id' =>
    obtain ⟨φ', S', hn, h1, h2, h3⟩ := hp
    simp only [Exit.inBlock]
    by_cases hid : id' = id
    · simp only [hid, if_true] at h1 ⊢
      exact ⟨φ', S', hn, h1, h2, h3⟩
    · simp only [hid, if_false] at h1 ⊢
      exact ⟨φ', S', hn, h1, h2, h3⟩
  | _ => exact hp

/-- A loop: what holds of the state at every round's head, with a measure. -/
theorem tri_loop {c : Code} {α : Type} (I : α → St) (J : α → Prop) (μ : α → Nat) (x0 : α) (hS : S = I x0) (h0 : J x0)
    (round : ∀ x, J x → Tri P c (I x) fun e S' => match e with | .normal => ∃ x', S' = I x' ∧ J x' ∧ μ x' < μ x | e => Q e S') : Tri P (.loop c) S Q := by
  intro φ G a w hr
  subst hS
  intro b k cs
  have key : ∀ n x φ1 a1 w1, μ x = n → J x → (I x).n = (I x0).n → Rel φ1 G (I x) a1 w1 → Keeps φ (I x0).mem w φ1 (I x).mem w1 →
      ∃ e a' w', Post (I x0).n φ G (I x0).mem w Q e a' w' ∧ Arrives P (lone (b.at a1 (.code c :: .inLoop c :: k)) cs w1) b k cs e a' w' := by
    intro n
    induction n using Nat.strongRecOn with
    | _ n ih =>
      intro x φ1 a1 w1 hn hJ hnn hr1 hk1
      obtain ⟨e, a2, w2, hp, harr⟩ := round x hJ φ1 G a1 w1 hr1 b (.inLoop c :: k) cs
      cases e with
      | normal =>
        obtain ⟨φ2, S2, hn2, ⟨x', rfl, hJ', hlt⟩, hr2, hk2⟩ := hp
        obtain ⟨e3, a3, w3, hp3, harr3⟩ := ih (μ x') (by omega) x' φ2 a2 w2 rfl hJ' (hn2.trans hnn) hr2 (hk1.trans hk2)
        exact ⟨e3, a3, w3, hp3, .of_steps (Steps.trans harr (.one step_inLoop)) harr3⟩
      | exit id => exact ⟨.exit id, a2, w2, by rw [hnn] at hp; exact Post.weaken (e := .exit id) hk1 hp, .pass (x := .inLoop c) rfl (fun _ _ => .inl (by simp)) harr⟩
      | goto l => exact hp.elim
      | ret => exact ⟨.ret, a2, w2, by rw [hnn] at hp; exact Post.weaken (e := .ret) hk1 hp, .pass (x := .inLoop c) rfl (fun _ _ => .inl (by simp)) harr⟩
      | panic ch => exact ⟨.panic ch, a2, w2, by rw [hnn] at hp; exact Post.weaken (e := .panic ch) hk1 hp, .pass (x := .inLoop c) rfl (fun _ _ => .inl (by simp)) harr⟩
      | outgrown => exact hp.elim
  obtain ⟨e, a', w', hq, harr⟩ := key _ x0 φ a w rfl h0 rfl hr (Keeps.refl ..)
  exact ⟨e, a', w', hq, .of_steps (.one step_loop) harr⟩
end
end Go.Am

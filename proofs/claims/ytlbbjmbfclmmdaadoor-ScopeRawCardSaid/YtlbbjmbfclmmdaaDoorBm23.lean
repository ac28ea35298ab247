/-
  The abstract machine, part 23: what the evaluator says of code holds.
-/
import Derived.Test.YtlbbjmbfclmmdaaDoorBm22
namespace Go.Am
open Go

/-- What is known of an end. -/
abbrev Is (e : XE) (S' : St) : XE → St → Prop := fun e' S'' => e' = e ∧ S'' = S'

/-- One operation is carried out. -/
def OpD (P : Program) (S : St) (o : Oper) (e : XE) (S' : St) : Prop :=
  S'.n = S.n ∧ S'.gl = S.gl ∧ (e = .normal ∨ ∃ t x, e = .panic t x) ∧ ∀ φ G a w, Rel φ G S a w → ∀ (next : Act → World → Prop) (R : Exit → Act → World → Prop),
    (e = .normal → ∀ φ' a' w', Rel φ' G S' a' w' → Keeps φ S.mem w φ' S'.mem w' → next a' w') →
    (∀ t x, e = .panic t x → ∀ φ' a' w' v, Rel φ' G S' a' w' → Keeps φ S.mem w φ' S'.mem w' → DRel w' (Fo G φ' S'.mem) x v → R (.panic [{ v := .iface t v, recovered := false }]) a' w') → o.wp P a w next R

theorem put_gl (S : St) (d g x) : (S.put d g x).gl = S.gl := by cases d <;> rfl

section
variable {X : Ctx} {cl : CallFn} {S S' : St} {o : Oper} {e : XE}

theorem opD_val {c : Bool} {x : AV} {gb : Bool} (hs : stepv X.P S o = .val c x) (hok : (opOk S o && c) = true) (hd : ∀ t, o.dst = some t → t < S.n) : OpD X.P S o .normal (S.put o.dst gb x) := by
  simp only [Bool.and_eq_true] at hok
  have := stepv_ok X.P S o hok.1
  rw [hs] at this
  refine ⟨put_n .., put_gl .., .inl rfl, fun φ G a w hr next R hn _ => ?_⟩
  exact val_step this hok.2 hr hd (fun a' w' hr' hk' => hn rfl φ a' w' hr' (by rw [put_mem]; exact hk'))
theorem opD_upd {c : Bool} {x : AV} {ent : Ent} (hs : stepv X.P S o = .upd c x ent) (hok : (opOk S o && c) = true) (hd : ∀ t, o.dst = some t → t < S.n) : OpD X.P S o .normal (({ S with mem := Mem.set S.mem ent } : St).put o.dst true x) := by
  simp only [Bool.and_eq_true] at hok
  have := stepv_ok X.P S o hok.1
  rw [hs] at this
  refine ⟨put_n .., put_gl .., .inl rfl, fun φ G a w hr next R hn _ => ?_⟩
  exact upd_step this hok.2 hr hd (fun φ' a' w' hr' hk' => hn rfl φ' a' w' hr' (by rw [put_mem]; exact hk'))

theorem callVal_some {args : List Operand} {fv : Bool × AV} {res : CRes} (h : callVal X cl S o args fv = some res) : ∃ g caps, fv = (true, .fn g caps) ∧ okAll S args = true ∧ callOp cl S.mem (keyOf o) g (argVals S args ++ caps) (X.fp g).mut_ = some res := by
  unfold callVal at h
  split at h
  · rename_i g caps
    split at h
    · rename_i hok; exact ⟨g, caps, rfl, hok, h⟩
    · cases h
  · cases h

theorem opD_call (hcl : ClOk X cl) {fv : Operand} {args : Array Operand} {tys : Array TypeId} (ho : o.op = .call { callee := .value fv, args, argTypes := tys }) (hgl : S.gl = X.gl) (hd : ∀ t, o.dst = some t → t < S.n)
    (h : putC S o.dst (callVal X cl S o args.toList (S.opd fv)) = some (e, S')) : OpD X.P S o e S' := by
  cases hcv : callVal X cl S o args.toList (S.opd fv) with
  | none => rw [hcv] at h; cases h
  | some res =>
    rw [hcv] at h
    obtain ⟨g, caps, hfv, hok, hcall⟩ := callVal_some hcv
    obtain ⟨out, es, ks⟩ := res
    cases out with
    | ret x =>
      simp only [putC, Option.some.injEq, Prod.mk.injEq] at h
      obtain ⟨rfl, rfl⟩ := h
      refine ⟨put_n .., put_gl .., .inl rfl, fun φ G a w hr next R hn _ => ?_⟩
      refine callOp_ok hcl ho hfv hok hcall hgl hr (fun x' hx φ' w' v hr' hk' hv => ?_) (fun t x' hx => by cases hx)
      cases hx
      exact hn rfl φ' _ w' (hr'.put o.dst hd true x v (fun _ => hv)) (by rw [put_mem]; exact hk')
    | panic t x =>
      simp only [putC, Option.some.injEq, Prod.mk.injEq] at h
      obtain ⟨rfl, rfl⟩ := h
      refine ⟨rfl, rfl, .inr ⟨t, x, rfl⟩, fun φ G a w hr next R _ hp => ?_⟩
      refine callOp_ok hcl ho hfv hok hcall hgl hr (fun x' hx => by cases hx) (fun t' x' hx φ' w' v hr' hk' hv => ?_)
      cases hx
      exact hp t x rfl φ' a w' v hr' hk' hv

theorem opD_panic {x : Operand} (ho : o.op = .panic x) (h : panicVal S (S.opd x) = some (e, S')) : OpD X.P S o e S' := by
  cases hx : S.opd x with
  | mk g y =>
    rw [hx] at h
    unfold panicVal at h
    split at h
    · rename_i t d heq
      cases heq
      simp only [Option.some.injEq, Prod.mk.injEq] at h
      obtain ⟨rfl, rfl⟩ := h
      refine ⟨rfl, rfl, .inr ⟨t, d, rfl⟩, fun φ G a w hr next R _ hp => ?_⟩
      have hv := hr.opd x (by rw [hx])
      rw [hx] at hv
      generalize hev : a.eval x = u at hv
      cases hv with
      | ifc _ _ v hd =>
        have hrun : (execOp a.eval o).run X.P w = .halt (.panic (.iface t v)) w := by
          simp [execOp, ho, hev, Instr.panic]
        unfold Oper.wp
        rw [hrun]
        exact hp t d rfl φ a w v hr (Keeps.refl ..) hd
    · cases h

theorem stepOp_ok (hcl : ClOk X cl) (hgl : S.gl = X.gl) (hd : ∀ t, o.dst = some t → t < S.n) (h : stepOp X cl S o (stepv X.P S o) = some (e, S')) : OpD X.P S o e S' := by
  generalize hs : stepv X.P S o = r at h
  cases r with
  | val c x =>
    simp only [stepOp] at h
    split at h
    · rename_i hok; cases h; exact opD_val hs hok hd
    · cases h
  | upd c x ent =>
    simp only [stepOp] at h
    split at h
    · rename_i hok; cases h; exact opD_upd hs hok hd
    · cases h
  | no =>
    simp only [stepOp, specOp] at h
    split at h
    · rename_i fv args tys ho; exact opD_call hcl ho hgl hd h
    · rename_i x ho; exact opD_panic ho h
    · cases h

/-- An operation of a region, its guard regarded. -/
def GopD (P : Program) (all : List Oper) (S : St) (o : Oper) (e : XE) (S' : St) : Prop :=
  S'.n = S.n ∧ S'.gl = S.gl ∧ (e = .normal ∨ ∃ t x, e = .panic t x) ∧ ∀ φ G a w, Rel φ G S a w → ∀ (next : Act → World → Prop) (R : Exit → Act → World → Prop),
    (e = .normal → ∀ φ' a' w', Rel φ' G S' a' w' → Keeps φ S.mem w φ' S'.mem w' → next a' w') →
    (∀ t x, e = .panic t x → ∀ φ' a' w' v, Rel φ' G S' a' w' → Keeps φ S.mem w φ' S'.mem w' → DRel w' (Fo G φ' S'.mem) x v → R (.panic [{ v := .iface t v, recovered := false }]) a' w') →
    if Region.wanted o (yielded all.toArray a.tmps) then o.wp P a w next R else next (a.put o.dst undef) w

theorem gop_yes {all : List Oper} (h : OpD X.P S o e S') (hw : ∀ φ G a w, Rel φ G S a w → Region.wanted o (yielded all.toArray a.tmps) = true) : GopD X.P all S o e S' := by
  obtain ⟨h1, h2, h3, h4⟩ := h
  refine ⟨h1, h2, h3, fun φ G a w hr next R hn hp => ?_⟩
  rw [if_pos (hw φ G a w hr)]
  exact h4 φ G a w hr next R hn hp
theorem gop_no {all : List Oper} {gb : Bool} {x : AV} (hx : gb = true → x = .junk) (hd : ∀ t, o.dst = some t → t < S.n) (hw : ∀ φ G a w, Rel φ G S a w → Region.wanted o (yielded all.toArray a.tmps) = false) : GopD X.P all S o .normal (S.put o.dst gb x) := by
  refine ⟨put_n .., put_gl .., .inl rfl, fun φ G a w hr next R hn _ => ?_⟩
  rw [if_neg (by rw [hw φ G a w hr]; simp)]
  exact hn rfl φ _ w (hr.put o.dst hd gb x undef (fun hg => by rw [hx hg]; exact .junk _)) (by rw [put_mem]; exact Keeps.refl ..)

theorem wanted_of {all : List Oper} {j : Nat} {want t : Bool} (hg : o.guard = some (j, want)) (hgr : grd all S j = some (true, .d (.bool t))) {φ G a w} (hr : Rel φ G S a w) : Region.wanted o (yielded all.toArray a.tmps) = (t == want) := by
  have hy := grd_yield hr hgr
  simp only [Region.wanted, hg, hy]
  cases t <;> cases want <;> rfl

theorem cz_n (S : St) (d b) : (S.cz d b).n = S.n := put_n ..
theorem cz_gl (S : St) (d b) : (S.cz d b).gl = S.gl := put_gl ..
theorem cz_mem (S : St) (d b) : (S.cz d b).mem = S.mem := put_mem ..
theorem cz_lk {all : List Oper} {S : St} {j : Nat} {t b : Bool} (hgr : grd all S j = some (true, .d (.bool t))) (hb : t = b) (u : Nat) : Env.lk (S.cz (dstAt all j) b).env u = Env.lk S.env u := by
  subst hb
  unfold grd at hgr
  unfold St.cz dstAt
  split at hgr
  · rename_i oj hj
    split at hgr
    · rename_i d hd
      simp only [hj, hd, St.put, Env.lk]
      split
      · rename_i hu; subst hu; exact hgr.symm
      · rfl
    · cases hgr
  · cases hgr
theorem cz_rel {all : List Oper} {S : St} {j : Nat} {t b : Bool} (hgr : grd all S j = some (true, .d (.bool t))) (hb : t = b) {φ G a w} (hr : Rel φ G S a w) : Rel φ G (S.cz (dstAt all j) b) a w :=
  Rel.eqv hr ⟨(cz_n ..).symm, (cz_gl ..).symm, (cz_mem ..).symm, fun u => (cz_lk hgr hb u).symm⟩

theorem gstep_ok {all : List Oper} (hcl : ClOk X cl) (hgl : S.gl = X.gl) (hd : ∀ t, o.dst = some t → t < S.n) {md : Bool} (h : gstep X cl md all S o = some (e, S')) : GopD X.P all S o e S' := by
  unfold gstep at h
  split at h
  · rename_i hg
    exact gop_yes (stepOp_ok hcl hgl hd h) (fun _ _ _ _ _ => by simp [Region.wanted, hg])
  · rename_i j want hg
    split at h
    · rename_i t hgr
      have hw : ∀ φ G a w, Rel φ G S a w → Region.wanted o (yielded all.toArray a.tmps) = (t == want) := fun φ G a w hr => wanted_of hg hgr hr
      have other : ∀ {r : Res}, stepv X.P S o = r → (if (t == want) = true then stepOp X cl S o r else some (.normal, S.put o.dst true .junk)) = some (e, S') → GopD X.P all S o e S' := by
        intro r hs h
        split at h
        · rename_i hb
          exact gop_yes (stepOp_ok hcl hgl hd (by rw [hs]; exact h)) (fun φ G a w hr => by rw [hw φ G a w hr]; exact hb)
        · rename_i hb
          cases h
          exact gop_no (fun _ => rfl) hd (fun φ G a w hr => by rw [hw φ G a w hr]; simpa using hb)
      cases md with
      | true =>
        simp only at h
        have hcz : ∀ b, t = b → ∀ φ G a w, Rel φ G S a w → Rel φ G (S.cz (dstAt all j) b) a w := fun b hb φ G a w hr => cz_rel hgr hb hr
        split at h
        · rename_i hb
          have hb' : t = want := by simpa using hb
          have := stepOp_ok (S := S.cz (dstAt all j) want) hcl (by rw [cz_gl]; exact hgl) (fun t ht => by rw [cz_n]; exact hd t ht) h
          obtain ⟨h1, h2, h3, h4⟩ := this
          refine gop_yes ⟨by rw [h1, cz_n], by rw [h2, cz_gl], h3, fun φ G a w hr next R hn hp => ?_⟩ (fun φ G a w hr => by rw [hw φ G a w hr]; exact hb)
          have h5 := h4 φ G a w (hcz want hb' φ G a w hr) next R
          rw [cz_mem] at h5
          exact h5 hn hp
        · rename_i hb
          have hb' : t = !want := by cases t <;> cases want <;> simp_all
          cases h
          refine ⟨by rw [put_n, cz_n], by rw [put_gl, cz_gl], .inl rfl, fun φ G a w hr next R hn _ => ?_⟩
          rw [if_neg (by rw [hw φ G a w hr]; simpa using hb)]
          exact hn rfl φ _ w ((hcz _ hb' φ G a w hr).put o.dst (fun t ht => by rw [cz_n]; exact hd t ht) true .junk undef (fun _ => .junk _)) (by rw [put_mem, cz_mem]; exact Keeps.refl ..)
      | false =>
      simp only at h
      unfold guardOp at h
      split at h
      · rename_i c x hs
        split at h
        · rename_i hc
          cases h
          cases hb : (t == want)
          · exact gop_no (by simp) hd (fun φ G a w hr => by rw [hw φ G a w hr]; exact hb)
          · exact gop_yes (opD_val hs (hc hb) hd) (fun φ G a w hr => by rw [hw φ G a w hr]; exact hb)
        · cases h
      · rename_i r hr
        exact other rfl h
    · cases h

theorem andThen_some {r : Option (XE × St)} {k : St → Option (XE × St)} {y : XE × St} (h : andThen r k = some y) : (∃ S1, r = some (.normal, S1) ∧ k S1 = some y) ∨ (r = some y ∧ y.1 ≠ .normal) := by
  unfold andThen at h
  split at h
  · rename_i S1; exact .inl ⟨S1, rfl, h⟩
  · rename_i hr
    refine .inr ⟨h, fun he => ?_⟩
    obtain ⟨e, S1⟩ := y
    simp only at he
    subst he
    exact hr S1 h

theorem Keeps.post {n : Nat} {φ φ' : Phi} {G : Nat → Prop} {m : Mem} {w w' : World} {e : XE} {S' : St} {a' : Act} (hn : S'.n = n) (hr : Rel φ' G S' a' w') (hk : Keeps φ m w φ' S'.mem w') (he : e = .normal) : Post n φ G m w (Is e S') .normal a' w' :=
  ⟨φ', S', hn, ⟨he.symm, rfl⟩, hr, hk⟩

theorem runOps_ok {md : Bool} {all : List Oper} (hcl : ClOk X cl) : ∀ (ops : List Oper) (S : St) (e : XE) (S' : St), runOps X cl md all ops S = some (e, S') → S.gl = X.gl → dstsOk S.n ops = true →
    S'.n = S.n ∧ S'.gl = S.gl ∧ ∀ φ G a w, Rel φ G S a w → ∀ Q : Exit → Act → World → Prop, (∀ e' a' w', Post S.n φ G S.mem w (Is e S') e' a' w' → Q e' a' w') → wpList X.P all.toArray Q ops a w
  | [], S, e, S', h, hgl, hd => by
    simp only [runOps, Option.some.injEq, Prod.mk.injEq] at h
    obtain ⟨rfl, rfl⟩ := h
    exact ⟨rfl, rfl, fun φ G a w hr Q hQ => hQ _ _ _ (Keeps.post rfl hr (Keeps.refl ..) rfl)⟩
  | o :: rest, S, e, S', h, hgl, hd => by
    simp only [dstsOk, List.all_cons, Bool.and_eq_true] at hd
    obtain ⟨hd0, hd⟩ := hd
    have hdo : ∀ t, o.dst = some t → t < S.n := fun t ht => by rw [ht] at hd0; simpa using hd0
    simp only [runOps] at h
    rcases andThen_some h with ⟨S1, h1, h2⟩ | ⟨h1, h2⟩
    · obtain ⟨hn1, hg1, _, hop⟩ := gstep_ok hcl hgl hdo h1
      obtain ⟨hn2, hg2, hrest⟩ := runOps_ok hcl rest S1 e S' h2 (hg1.trans hgl) (by rw [hn1]; exact hd)
      refine ⟨hn2.trans hn1, hg2.trans hg1, fun φ G a w hr Q hQ => ?_⟩
      have := hop φ G a w hr (wpList X.P all.toArray Q rest) Q
        (fun _ φ' a' w' hr' hk' => hrest φ' G a' w' hr' Q (fun e' a2 w2 hp => hQ e' a2 w2 (by rw [← hn1]; exact hp.weaken hk'))) (fun t x he => by cases he)
      unfold wpList
      split
      · rename_i hw; rw [if_pos hw] at this; exact .inl this
      · rename_i hw; rw [if_neg hw] at this; exact this
    · obtain ⟨hn1, hg1, hee, hop⟩ := gstep_ok hcl hgl hdo h1
      refine ⟨hn1, hg1, fun φ G a w hr Q hQ => ?_⟩
      have := hop φ G a w hr (wpList X.P all.toArray Q rest) Q
        (fun he => absurd he h2) (fun t x he φ' a' w' v hr' hk' hv => hQ _ _ _ ⟨φ', S', t, x, v, rfl, hv, hn1, ⟨he.symm, rfl⟩, hr', hk'⟩)
      unfold wpList
      split
      · rename_i hw; rw [if_pos hw] at this; exact .inl this
      · rename_i hw; rw [if_neg hw] at this; exact this

/- Regions that draw their order. -/
theorem agree_opd {all : List Oper} {ks : List Nat} {S' S : St} (h : Agree all o ks S' S) {x : Operand} (hx : x ∈ o.op.operands.toList) : S'.opd x = S.opd x := by
  cases x with
  | tmp t =>
    simp only [St.opd]
    rw [h.env t (by simp only [looks, List.mem_append, List.mem_filterMap]; exact .inl ⟨.tmp t, hx, rfl⟩)]
  | global g => simp only [St.opd, h.gl]
  | _ => rfl
theorem agree_grd {all : List Oper} {ks : List Nat} {S' S : St} (h : Agree all o ks S' S) {j want} (hg : o.guard = some (j, want)) : Am.grd all S' j = Am.grd all S j := by
  unfold Am.grd
  split
  · rename_i oj hj
    split
    · rename_i t ht
      exact h.env t (by simp only [looks, List.mem_append, hg, lkDst, hj, ht]; exact .inr (by simp))
    · rfl
  · rfl
theorem okAll_loc {S' S : St} : ∀ {l : List Operand}, (∀ x ∈ l, S'.opd x = S.opd x) → okAll S' l = okAll S l
  | [], _ => rfl
  | x :: r, h => by simp only [okAll, h x (by simp), okAll_loc (l := r) (fun y hy => h y (List.mem_cons_of_mem _ hy))]
theorem argVals_loc {S' S : St} : ∀ {l : List Operand}, (∀ x ∈ l, S'.opd x = S.opd x) → argVals S' l = argVals S l
  | [], _ => rfl
  | x :: r, h => by simp only [argVals, h x (by simp), argVals_loc (l := r) (fun y hy => h y (List.mem_cons_of_mem _ hy))]
theorem opOk_loc {S' S : St} (h : ∀ x ∈ o.op.operands.toList, S'.opd x = S.opd x) : opOk S' o = opOk S o := by
  unfold opOk
  split
  · rfl
  · exact okAll_loc h

theorem stepL_val {all : List Oper} {c : Bool} {x : AV} {gb : Bool} (hd : ∀ t, o.dst = some t → t < S.n) (hs : stepv X.P S o = .val c x) (hok : (opOk S o && c) = true)
    (hw : ∀ S', Agree all o (touch S o) S' S → ∀ φ G a w, Rel φ G S' a w → Region.wanted o (yielded all.toArray a.tmps) = true) : StepL X.P all S o ⟨touch S o, [], gb, x⟩ := by
  intro S' ha φ G a w hr next R hn
  rw [if_pos (hw S' ha φ G a w hr)]
  have hx : ∀ x ∈ o.op.operands.toList, S'.opd x = S.opd x := fun x hx => agree_opd ha hx
  have hs' : stepv X.P S' o = .val c x := by rw [stepv_loc hx ha.mem]; exact hs
  obtain ⟨_, _, _, h4⟩ := opD_val (gb := gb) hs' (by rw [opOk_loc hx]; exact hok) (fun t ht => by rw [ha.n]; exact hd t ht)
  exact h4 φ G a w hr next R (fun _ φ' a' w' hr' hk' => hn φ' a' w' hr' hk') (fun t x he => by cases he)
theorem stepL_upd {all : List Oper} {c : Bool} {x : AV} {ent : Ent} (hd : ∀ t, o.dst = some t → t < S.n) (hs : stepv X.P S o = .upd c x ent) (hok : (opOk S o && c) = true)
    (hw : ∀ S', Agree all o (touch S o) S' S → ∀ φ G a w, Rel φ G S' a w → Region.wanted o (yielded all.toArray a.tmps) = true) : StepL X.P all S o ⟨touch S o, [ent], true, x⟩ := by
  intro S' ha φ G a w hr next R hn
  rw [if_pos (hw S' ha φ G a w hr)]
  have hx : ∀ x ∈ o.op.operands.toList, S'.opd x = S.opd x := fun x hx => agree_opd ha hx
  have hs' : stepv X.P S' o = .upd c x ent := by rw [stepv_loc hx ha.mem]; exact hs
  obtain ⟨_, _, _, h4⟩ := opD_upd hs' (by rw [opOk_loc hx]; exact hok) (fun t ht => by rw [ha.n]; exact hd t ht)
  exact h4 φ G a w hr next R (fun _ φ' a' w' hr' hk' => hn φ' a' w' hr' hk') (fun t x he => by cases he)
theorem stepL_skip {all : List Oper} {ks : List Nat} {gb : Bool} {x : AV} (hd : ∀ t, o.dst = some t → t < S.n) (hx : gb = true → x = .junk)
    (hw : ∀ S', Agree all o ks S' S → ∀ φ G a w, Rel φ G S' a w → Region.wanted o (yielded all.toArray a.tmps) = false) : StepL X.P all S o ⟨ks, [], gb, x⟩ := by
  intro S' ha φ G a w hr next R hn
  rw [if_neg (by rw [hw S' ha φ G a w hr]; simp)]
  exact hn φ _ w (hr.put o.dst (fun t ht => by rw [ha.n]; exact hd t ht) gb x undef (fun hg => by rw [hx hg]; exact .junk _)) (by simp only [Stp.app, put_mem]; exact Keeps.refl ..)
theorem stepL_call {all : List Oper} (hcl : ClOk X cl) (hgl : S.gl = X.gl) (hd : ∀ t, o.dst = some t → t < S.n) {fv : Operand} {args : Array Operand} {tys : Array TypeId} (ho : o.op = .call { callee := .value fv, args, argTypes := tys })
    {x : AV} {es : List Ent} {ks : List Nat} (h : callVal X cl S o args.toList (S.opd fv) = some ⟨.ret x, es, ks⟩)
    (hw : ∀ S', Agree all o ks S' S → ∀ φ G a w, Rel φ G S' a w → Region.wanted o (yielded all.toArray a.tmps) = true) : StepL X.P all S o ⟨ks, es, true, x⟩ := by
  intro S' ha φ G a w hr next R hn
  rw [if_pos (hw S' ha φ G a w hr)]
  have hx : ∀ x ∈ o.op.operands.toList, S'.opd x = S.opd x := fun x hx => agree_opd ha hx
  have hxa : ∀ x ∈ args.toList, S'.opd x = S.opd x := fun x hxm => hx x (by simp [ho, Op.operands, Call.operands]; exact .inr (by simpa using hxm))
  obtain ⟨g, caps, hfv, hok, hcall⟩ := callVal_some h
  have hfv' : S'.opd fv = (true, .fn g caps) := by rw [hx fv (by simp [ho, Op.operands, Call.operands])]; exact hfv
  have hcall' : callOp cl S'.mem (keyOf o) g (argVals S' args.toList ++ caps) (X.fp g).mut_ = some ⟨.ret x, es, ks⟩ := by
    rw [argVals_loc hxa]
    exact callOp_loc ha.keys hcall (fun k hk => ha.mem k hk)
  refine callOp_ok hcl ho hfv' (by rw [okAll_loc hxa]; exact hok) hcall' (ha.gl.trans hgl) hr (fun x' hx' φ' w' v hr' hk' hv => ?_) (fun t x' hx' => by cases hx')
  cases hx'
  exact hn φ' _ w' (hr'.put o.dst (fun t ht => by show t < S'.n; rw [ha.n]; exact hd t ht) true x v (fun _ => hv)) (by simp only [Stp.app, put_mem]; exact hk')

theorem dstep_ok {all : List Oper} {S1 : St} {p : Stp} (hcl : ClOk X cl) (hgl : S.gl = X.gl) (hd : ∀ t, o.dst = some t → t < S.n) {r : Res} (hs : stepv X.P S o = r) (h : dstep X cl S o r = some (S1, p))
    (hw : ∀ (ks : List Nat) S', Agree all o ks S' S → ∀ φ G a w, Rel φ G S' a w → Region.wanted o (yielded all.toArray a.tmps) = true) : S1 = p.app o S ∧ (∀ e ∈ p.es, e.key ∈ p.ks) ∧ StepL X.P all S o p := by
  cases r with
  | val c x =>
    simp only [dstep] at h
    split at h
    · rename_i hok; cases h; exact ⟨rfl, by simp, stepL_val hd hs hok (hw _)⟩
    · cases h
  | upd c x ent =>
    simp only [dstep] at h
    split at h
    · rename_i hok
      cases h
      simp only [Bool.and_eq_true, List.contains_eq_mem, decide_eq_true_eq] at hok
      exact ⟨rfl, by simpa using hok.2, stepL_upd hd hs (by simpa using hok.1) (hw _)⟩
    · cases h
  | no =>
    simp only [dstep, dspec] at h
    split at h
    · rename_i fv args tys ho
      cases hcv : callVal X cl S o args.toList (S.opd fv) with
      | none => rw [hcv] at h; cases h
      | some res =>
        rw [hcv] at h
        obtain ⟨out, es, ks⟩ := res
        cases out with
        | panic => cases h
        | ret x =>
          cases h
          refine ⟨rfl, ?_, stepL_call hcl hgl hd ho hcv (hw _)⟩
          obtain ⟨g, caps, hfv, hok, hcall⟩ := callVal_some hcv
          unfold callOp callOp2 callOp3 callBack at hcall
          split at hcall
          · rename_i out l2 _
            split at hcall
            · rename_i hc
              simp only [Bool.and_eq_true, decide_eq_true_eq] at hc
              simp only [Option.some.injEq, CRes.mk.injEq] at hcall
              obtain ⟨_, rfl, rfl⟩ := hcall
              intro e he
              obtain ⟨j, v, c, hj, rfl⟩ := backL_mem.1 he
              have hjl := (List.getElem?_eq_some_iff.1 hj).1
              simp only [Nat.zero_add]
              generalize collect S.mem 64 (argKeys (X.fp g).mut_ 0 (argVals S args.toList ++ caps)) [] = ρ at hc hjl ⊢
              have hlt : j < (ρ ++ List.range' (keyOf o + 1) (l2.length - ρ.length)).length := by simp; omega
              have hm := List.getElem_mem hlt
              have e2 : (ρ ++ List.range' (keyOf o + 1) (l2.length - ρ.length)).getD j 0 = (ρ ++ List.range' (keyOf o + 1) (l2.length - ρ.length))[j] := by
                rw [List.getD_eq_getElem?_getD, List.getElem?_eq_getElem hlt]; rfl
              rw [e2]
              rcases List.mem_append.1 hm with h1 | h1
              · exact List.mem_append_left _ (List.mem_append_left _ h1)
              · exact List.mem_append_right _ h1
            · cases hcall
          · cases hcall
    · cases h
theorem Eqv.refl (S : St) : Eqv S S := ⟨rfl, rfl, rfl, fun _ => rfl⟩
theorem Eqv.symm {S S' : St} (h : Eqv S S') : Eqv S' S := ⟨h.n.symm, h.gl.symm, h.mem.symm, fun t => (h.env t).symm⟩
theorem Eqv.trans {S S' S'' : St} (h : Eqv S S') (k : Eqv S' S'') : Eqv S S'' := ⟨h.n.trans k.n, h.gl.trans k.gl, h.mem.trans k.mem, fun t => (h.env t).trans (k.env t)⟩
theorem Eqv.app {S S' : St} (h : Eqv S S') (p : Stp) (o : Oper) : Eqv (p.app o S) (p.app o S') :=
  ⟨by rw [app_n, app_n, h.n], by rw [app_gl, app_gl, h.gl], by simp only [Stp.app, put_mem, h.mem], fun t => by rw [app_lk, app_lk, h.env]⟩
theorem Agree.eqv {all : List Oper} {ks : List Nat} {S' S S0 : St} (h : Agree all o ks S' S) (he : Eqv S S0) : Agree all o ks S' S0 :=
  ⟨h.n.trans he.n, h.gl.trans he.gl, by rw [h.keys, he.mem], fun t ht => (h.env t ht).trans (he.env t), fun k hk => by rw [h.mem k hk, he.mem]⟩
theorem StepL.eqv {P : Program} {all : List Oper} {S S0 : St} {p : Stp} (h : StepL P all S o p) (he : Eqv S S0) : StepL P all S0 o p := fun S' ha => h S' (ha.eqv he.symm)
theorem cert_eqv {P : Program} {all ops : List Oper} {S S1 : St} {ps : List Stp} (h : Cert P all ops S ps S1) : ∀ {S0 : St}, Eqv S S0 → ∃ S2, Cert P all ops S0 ps S2 ∧ Eqv S1 S2 := by
  induction h with
  | nil S => exact fun he => ⟨_, .nil _, he⟩
  | cons o rest S p ps S1 hk h hr ih =>
    intro S0 he
    obtain ⟨S2, h2, h3⟩ := ih (he.app p o)
    exact ⟨S2, .cons o rest S0 p ps S2 hk (h.eqv he) h2, h3⟩
theorem cz_eqv {all : List Oper} {S : St} {j : Nat} {t b : Bool} (hgr : grd all S j = some (true, .d (.bool t))) (hb : t = b) : Eqv (S.cz (dstAt all j) b) S :=
  ⟨cz_n .., cz_gl .., cz_mem .., fun u => cz_lk hgr hb u⟩

theorem dgstep_ok {md : Bool} {all : List Oper} {S1 : St} {p : Stp} (hcl : ClOk X cl) (hgl : S.gl = X.gl) (hd : ∀ t, o.dst = some t → t < S.n) (h : dgstep X cl md all S o = some (S1, p)) : Eqv S1 (p.app o S) ∧ (∀ e ∈ p.es, e.key ∈ p.ks) ∧ StepL X.P all S o p := by
  have yes : ∀ {r : Res}, stepv X.P S o = r → dstep X cl S o r = some (S1, p) → (∀ (ks : List Nat) S', Agree all o ks S' S → ∀ φ G a w, Rel φ G S' a w → Region.wanted o (yielded all.toArray a.tmps) = true) → Eqv S1 (p.app o S) ∧ (∀ e ∈ p.es, e.key ∈ p.ks) ∧ StepL X.P all S o p := by
    intro r hs h hw
    obtain ⟨h1, h2, h3⟩ := dstep_ok hcl hgl hd hs h hw
    exact ⟨by rw [h1]; exact Eqv.refl _, h2, h3⟩
  unfold dgstep at h
  split at h
  · rename_i hg
    exact yes rfl h (fun _ _ _ _ _ _ _ _ => by simp [Region.wanted, hg])
  · rename_i j want hg
    split at h
    · rename_i t hgr
      have hw : ∀ (ks : List Nat) S', Agree all o ks S' S → ∀ φ G a w, Rel φ G S' a w → Region.wanted o (yielded all.toArray a.tmps) = (t == want) :=
        fun ks S' ha φ G a w hr => wanted_of hg (by rw [agree_grd ha hg]; exact hgr) hr
      have other : ∀ {r : Res}, stepv X.P S o = r → (if (t == want) = true then dstep X cl S o r else some (S.put o.dst true .junk, ⟨[], [], true, .junk⟩)) = some (S1, p) → Eqv S1 (p.app o S) ∧ (∀ e ∈ p.es, e.key ∈ p.ks) ∧ StepL X.P all S o p := by
        intro r hs h
        split at h
        · rename_i hb
          exact yes hs h (fun ks S' ha φ G a w hr => by rw [hw ks S' ha φ G a w hr]; exact hb)
        · rename_i hb
          cases h
          exact ⟨Eqv.refl _, by simp, stepL_skip hd (fun _ => rfl) (fun S' ha φ G a w hr => by rw [hw _ S' ha φ G a w hr]; simpa using hb)⟩
      cases md with
      | true =>
        simp only at h
        split at h
        · rename_i hb
          have hb' : t = want := by simpa using hb
          have he := cz_eqv hgr hb'
          obtain ⟨h1, h2, h3⟩ := dstep_ok (S := S.cz (dstAt all j) want) hcl (by rw [cz_gl]; exact hgl) (fun t ht => by rw [cz_n]; exact hd t ht) rfl h
            (fun ks S' ha φ G a w hr => by rw [hw ks S' (ha.eqv he) φ G a w hr]; exact hb)
          exact ⟨by rw [h1]; exact he.app p o, h2, h3.eqv he⟩
        · rename_i hb
          have hb' : t = !want := by cases t <;> cases want <;> simp_all
          cases h
          have he := cz_eqv hgr hb'
          exact ⟨he.app ⟨[], [], true, .junk⟩ o, by simp, stepL_skip hd (fun _ => rfl) (fun S' ha φ G a w hr => by rw [hw _ S' ha φ G a w hr]; simpa using hb)⟩
      | false =>
      simp only at h
      unfold dguard at h
      split at h
      · rename_i c x hs
        split at h
        · rename_i hc
          cases h
          refine ⟨Eqv.refl _, by simp, ?_⟩
          cases hb : (t == want)
          · exact stepL_skip hd (by simp) (fun S' ha φ G a w hr => by rw [hw _ S' ha φ G a w hr]; exact hb)
          · exact stepL_val hd hs (hc hb) (fun S' ha φ G a w hr => by rw [hw _ S' ha φ G a w hr]; exact hb)
        · cases h
      · exact other rfl h
    · cases h

theorem drwOps_cert {md : Bool} {all : List Oper} (hcl : ClOk X cl) : ∀ (ops : List Oper) (S : St) (acc : List Stp) (e : XE) (S1 : St), drwOps X cl md all ops S acc = some (e, S1) → S.gl = X.gl → dstsOk S.n ops = true →
    e = .normal ∧ ∃ ps S2, Cert X.P all ops S ps S2 ∧ Eqv S1 S2 ∧ ordOk all (acc.reverse ++ ps) = true
  | [], S, acc, e, S1, h, hgl, hd => by
    simp only [drwOps] at h
    split at h
    · rename_i hord
      cases h
      exact ⟨rfl, [], S, .nil S, Eqv.refl _, by simpa using hord⟩
    · cases h
  | o :: rest, S, acc, e, S1, h, hgl, hd => by
    simp only [dstsOk, List.all_cons, Bool.and_eq_true] at hd
    obtain ⟨hd0, hd⟩ := hd
    have hdo : ∀ t, o.dst = some t → t < S.n := fun t ht => by rw [ht] at hd0; simpa using hd0
    simp only [drwOps] at h
    cases hg : dgstep X cl md all S o with
    | none => rw [hg] at h; cases h
    | some q =>
      obtain ⟨S2, p⟩ := q
      rw [hg] at h
      simp only [dThen] at h
      obtain ⟨heq, hks, hst⟩ := dgstep_ok hcl hgl hdo hg
      obtain ⟨he, ps, S3, hc, he3, hord⟩ := drwOps_cert hcl rest S2 (p :: acc) e S1 h (by rw [heq.gl, app_gl]; exact hgl) (by rw [heq.n, app_n]; exact hd)
      obtain ⟨S4, hc4, he4⟩ := cert_eqv hc heq
      exact ⟨he, p :: ps, S4, .cons o rest S p ps S4 hks hst hc4, he3.trans he4, by simpa using hord⟩
end
end Go.Am

/-
  The abstract machine, part 24: what the evaluator says of functions holds.
-/
import Derived.Test.YtlbbjmbfclmmdaaDoorBm23
namespace Go.Am
open Go

/- Turns. -/
theorem turn_adopt (S : St) (kb j k sz : Nat) : Turn S (S.adopt kb j k sz) := by
  unfold St.adopt
  split
  · rename_i key vb cs key2 v cont hgb hg
    split
    · rename_i hj
      split
      · exact Turn.refl S
      · rename_i hne
        refine ⟨rfl, rfl, fun φ G a w hr => ?_⟩
        obtain ⟨hm, hk, L, hL, hver, hcr⟩ := hr.mem.get hg
        simp only at hk hver
        subst hk
        obtain ⟨φ1, hm1, hk1, hφ1, hφo⟩ := hr.mem.upd (e' := ⟨key2, v + 1, .vec sz []⟩) hm hL rfl (L' := ⟨v + 1, 0, sz, 0, 0⟩) (by simp only; omega) (fun hh => by simp only at hh; omega) rfl
          (w' := w) (fun _ _ _ => rfl) (Nat.le_refl _) (fun ho => absurd ho (by simp [Cont.owns])) rfl rfl rfl (fun φ' hφ' hle' => ⟨rfl, by simp, by simp, fun hc => by simp at hc⟩)
        have hgb1 : Mem.get (Mem.set S.mem ⟨key2, v + 1, .vec sz []⟩) kb = some ⟨key, vb, .box cs⟩ := by
          rw [Mem.get_set_ne (by simpa using fun h => hne h.symm)]; exact hgb
        obtain ⟨hmb, hkb, Lb, hLb, hverb, hcrb⟩ := hm1.get hgb1
        simp only at hkb hverb
        subst hkb
        obtain ⟨φ2, hm2, hk2, hφ2, hφo2⟩ := hm1.upd (e' := ⟨key, vb, .box (cs.set j (.vec key2 (v + 1) 0 0))⟩) hmb hLb rfl (L' := Lb) (Nat.le_refl _) (fun _ => rfl) hverb
          (w' := w) (fun _ _ _ => rfl) (Nat.le_refl _) (fun ho => .inl ⟨trivial, rfl⟩) rfl rfl rfl (fun φ' hφ' hle' => by
            obtain ⟨arr, elem, g1, g2, g3, g4⟩ := hcrb
            have hFF : ∀ b, Fo G φ' (Mem.set (Mem.set S.mem ⟨key2, v + 1, .vec sz []⟩) ⟨key, vb, .box (cs.set j (.vec key2 (v + 1) 0 0))⟩) b → Fo G φ1 (Mem.set S.mem ⟨key2, v + 1, .vec sz []⟩) b := by
              rintro b (h | ⟨x, hx, Lx, hLx, hox, rfl⟩)
              · exact .inl h
              · right
                rcases (Mem.mem_set hm1.nodup).1 hx with ⟨rfl, _⟩ | ⟨hxm, hxk⟩
                · simp only [hφ', if_true] at hLx; cases hLx
                  exact ⟨_, hmb, Lb, hLb, trivial, rfl⟩
                · simp only [hφ', hxk, if_false] at hLx
                  exact ⟨x, hxm, Lx, hLx, hox, rfl⟩
            refine ⟨arr, elem, g1, by simp [g2], g3, fun i c u hc hu => ?_⟩
            rw [List.getElem?_set] at hc
            split at hc
            · rename_i hij
              subst hij
              split at hc
              · cases hc
                have := g4 j _ u hj hu
                cases this
                refine .vec key2 (v + 1) 0 0 _ ⟨v + 1, 0, sz, 0, 0⟩ ?_ (Nat.le_refl _) (fun _ => ⟨_, _, rfl, by simp, fun h => by omega⟩) rfl
                rw [hφ']
                simp only
                rw [if_neg (fun h => hne h.symm)]
                exact hφ1
              · cases hc
            · exact (g4 i c u hc hu).mono hle' (fun _ _ _ => rfl) (Nat.le_refl _) (fun b _ => hFF b))
        have hkk := hk1.trans hk2
        exact ⟨φ2, hr.turn hm2 hkk, hkk⟩
    · exact Turn.refl S
  · exact Turn.refl S

theorem turn_gh (S : St) (g : Gh) : Turn S (g.go S) := by
  cases g with
  | trim k => exact turn_trim1 S k
  | freeze k => exact turn_freeze S k
  | adopt kb j k sz => exact turn_adopt S kb j k sz
theorem turn_ghs : ∀ (l : List Gh) (S : St), Turn S (ghs S l)
  | [], S => Turn.refl S
  | g :: r, S => (turn_gh S g).trans (turn_ghs r _)
theorem turn_leave (X : Ctx) (f : FuncId) (id : Nat) (S : St) : Turn S (S.leave X f id) := (turn_prune S _).trans (turn_ghs _ _)

/- Code. -/
def codeDst (n : Nat) : Code → Bool
  | .region _ ops _ => dstsOk n ops.toList
  | .seq a b => codeDst n a && codeDst n b
  | .cond _ a b => codeDst n a && codeDst n b
  | .block _ c => codeDst n c
  | .loop c => codeDst n c
  | _ => true

structure CtxOk (X : Ctx) : Prop where
  names : ∀ (g : FuncId) (fn : Func), X.P.funcs[g]? = some fn → fn.name ≠ "runtime.NumGoroutine"
  dsts : ∀ (g : FuncId) (fn : Func) (c : Code), X.P.funcs[g]? = some fn → fn.body = some c → codeDst fn.ntmps c = true
  mixed : X.P.follows .mixedOrders = true

theorem Post.is {n : Nat} {φ : Phi} {G : Nat → Prop} {m : Mem} {w : World} {e : XE} {S' : St} {e' : Exit} {a' : Act} {w' : World} (h : Post n φ G m w (Is e S') e' a' w') :
    ∃ φ', S'.n = n ∧ Rel φ' G S' a' w' ∧ Keeps φ m w φ' S'.mem w' ∧ (match e' with
      | .normal => e = .normal
      | .exit id => e = .exit id
      | .ret => e = .ret
      | .panic chain => ∃ t x v, e = .panic t x ∧ chain = [{ v := .iface t v, recovered := false }] ∧ DRel w' (Fo G φ' S'.mem) x v
      | _ => False) := by
  cases e' with
  | normal => obtain ⟨φ', S2, hn, ⟨h1, rfl⟩, h2, h3⟩ := h; exact ⟨φ', hn, h2, h3, h1.symm⟩
  | exit id => obtain ⟨φ', S2, hn, ⟨h1, rfl⟩, h2, h3⟩ := h; exact ⟨φ', hn, h2, h3, h1.symm⟩
  | ret => obtain ⟨φ', S2, hn, ⟨h1, rfl⟩, h2, h3⟩ := h; exact ⟨φ', hn, h2, h3, h1.symm⟩
  | panic chain => obtain ⟨φ', S2, t, x, v, hc, hd, hn, ⟨h1, rfl⟩, h2, h3⟩ := h; exact ⟨φ', hn, h2, h3, t, x, v, h1.symm, hc, hd⟩
  | _ => exact h.elim

section
variable {X : Ctx} {cl : CallFn} {f : FuncId} {n : Nat}

theorem leave_ok {P : Program} {S : St} {e : XE} {c : Code} {k : St → St} (hk : ∀ S, Turn S (k S)) {r : Option (XE × St)} {S' : St} (h : mapN k r = some (e, S'))
    (hr : ∀ e1 S1, r = some (e1, S1) → S1.n = S.n ∧ S1.gl = S.gl ∧ Tri P c S (Is e1 S1)) : S'.n = S.n ∧ S'.gl = S.gl ∧ Tri P c S (Is e S') := by
  unfold mapN at h
  split at h
  · rename_i S1 
    cases h
    obtain ⟨h1, h2, h3⟩ := hr _ _ rfl
    obtain ⟨t1, t2, t3⟩ := hk S1
    refine ⟨t1.trans h1, t2.trans h2, fun φ G a w hrel => wp_mono (h3 φ G a w hrel) fun e' a' w' hp => ?_⟩
    obtain ⟨φ', hn, hr', hk', he⟩ := hp.is
    cases e' with
    | normal =>
      obtain ⟨φ2, hr2, hk2⟩ := t3 φ' G a' w' hr'
      exact ⟨φ2, k S1, t1.trans hn, ⟨rfl, rfl⟩, hr2, hk'.trans hk2⟩
    | exit id => cases he
    | ret => cases he
    | panic chain => obtain ⟨t, x, v, h4, _⟩ := he; cases h4
    | _ => exact he.elim
  · exact hr _ _ h

theorem den_ok (hX : CtxOk X) (hcl : ClOk X cl) : ∀ (c : Code) (S : St) (e : XE) (S' : St), den X f cl n c S = some (e, S') → S.gl = X.gl → codeDst S.n c = true →
    S'.n = S.n ∧ S'.gl = S.gl ∧ Tri X.P c S (Is e S') := by
  intro c
  induction c with
  | skip =>
    intro S e S' h hgl hd
    simp only [den, Option.some.injEq, Prod.mk.injEq] at h
    obtain ⟨rfl, rfl⟩ := h
    exact ⟨rfl, rfl, tri_skip ⟨rfl, rfl⟩⟩
  | region id ops draw =>
    intro S e S' h hgl hd
    simp only [den] at h
    cases draw with
    | false =>
      refine leave_ok (turn_leave X f id) h (fun e1 S1 h1 => ?_)
      obtain ⟨h2, h3, h4⟩ := runOps_ok hcl ops.toList S e1 S1 h1 hgl hd
      exact ⟨h2, h3, fun φ G a w hr => wp_region_lit (h4 φ G a w hr _ (fun _ _ _ h => h))⟩
    | true =>
      refine leave_ok (turn_leave X f id) h (fun e1 S1 h1 => ?_)
      obtain ⟨rfl, ps, S2, hc, heq, hord⟩ := drwOps_cert hcl ops.toList S [] e1 S1 h1 hgl hd
      obtain ⟨hn1, hg1⟩ := cert_n hc
      refine ⟨heq.n.trans hn1, heq.gl.trans hg1, fun φ G a w hr => ?_⟩
      exact region_draw (ops := ops.toList) hX.mixed hc (by simpa using hord) hr (fun φ' a' w' hr' hk' => ⟨φ', S1, heq.n.trans hn1, ⟨rfl, rfl⟩, hr'.eqv heq.symm, by rw [heq.mem]; exact hk'⟩)
  | seq a b iha ihb =>
    intro S e S' h hgl hd
    simp only [codeDst, Bool.and_eq_true] at hd
    simp only [den] at h
    rcases andThen_some h with ⟨S1, h1, h2⟩ | ⟨h1, h2⟩
    · obtain ⟨hn1, hg1, ht1⟩ := iha S _ S1 h1 hgl hd.1
      obtain ⟨hn2, hg2, ht2⟩ := ihb S1 e S' h2 (hg1.trans hgl) (by rw [hn1]; exact hd.2)
      refine ⟨hn2.trans hn1, hg2.trans hg1, tri_seq (ht1.mono fun e1 S2 hq => ?_)⟩
      obtain ⟨rfl, rfl⟩ := hq
      exact ht2
    · obtain ⟨hn1, hg1, ht1⟩ := iha S _ S' h1 hgl hd.1
      refine ⟨hn1, hg1, tri_seq (ht1.mono fun e1 S2 hq => ?_)⟩
      obtain ⟨rfl, rfl⟩ := hq
      cases e1 with
      | normal => exact absurd rfl h2
      | _ => exact ⟨rfl, rfl⟩
  | cond c a b iha ihb =>
    intro S e S' h hgl hd
    simp only [codeDst, Bool.and_eq_true] at hd
    simp only [den] at h
    cases hc : S.opd c with
    | mk g y =>
      rw [hc] at h
      unfold condB at h
      split at h
      · rename_i t heq
        cases heq
        cases t with
        | true =>
          obtain ⟨h1, h2, h3⟩ := iha S e S' (by simpa using h) hgl hd.1
          exact ⟨h1, h2, tri_cond hc (fun _ => h3) (fun hf => by cases hf)⟩
        | false =>
          obtain ⟨h1, h2, h3⟩ := ihb S e S' (by simpa using h) hgl hd.2
          exact ⟨h1, h2, tri_cond hc (fun hf => by cases hf) (fun _ => h3)⟩
      · cases h
  | block id c ih =>
    intro S e S' h hgl hd
    simp only [den] at h
    unfold inBlk at h
    split at h
    · rename_i id' S1 h1
      obtain ⟨hn, hg, ht⟩ := ih S _ S1 h1 hgl hd
      split at h
      · rename_i hid
        cases h
        refine ⟨hn, hg, tri_block (ht.mono fun e1 S2 hq => ?_)⟩
        obtain ⟨rfl, rfl⟩ := hq
        simp only [hid, if_true]
        exact ⟨rfl, rfl⟩
      · rename_i hid
        cases h
        refine ⟨hn, hg, tri_block (ht.mono fun e1 S2 hq => ?_)⟩
        obtain ⟨rfl, rfl⟩ := hq
        simp only [hid, if_false]
        exact ⟨rfl, rfl⟩
    · rename_i hne
      obtain ⟨hn, hg, ht⟩ := ih S _ S' h hgl hd
      refine ⟨hn, hg, tri_block (ht.mono fun e1 S2 hq => ?_)⟩
      obtain ⟨rfl, rfl⟩ := hq
      cases e1 with
      | exit id' => exact absurd h (hne id' S2)
      | _ => exact ⟨rfl, rfl⟩
  | loop c ih =>
    intro S e S' h hgl hd
    simp only [den] at h
    simp only [codeDst] at hd
    have hin : ∀ (k : Nat) (S1 : St), iter (den X f cl n c) k S1 = some (e, S') → S1.gl = X.gl → codeDst S1.n c = true → S'.n = S1.n ∧ S'.gl = S1.gl := by
      intro k
      induction k with
      | zero => intro S1 h1; cases h1
      | succ k ihk =>
        intro S1 h1 hg1 hd1
        simp only [iter] at h1
        rcases andThen_some h1 with ⟨S2, h2, h3⟩ | ⟨h2, h3⟩
        · obtain ⟨a1, a2, _⟩ := ih S1 _ S2 h2 hg1 hd1
          obtain ⟨b1, b2⟩ := ihk S2 h3 (a2.trans hg1) (by rw [a1]; exact hd1)
          exact ⟨b1.trans a1, b2.trans a2⟩
        · obtain ⟨a1, a2, _⟩ := ih S1 _ S' h2 hg1 hd1
          exact ⟨a1, a2⟩
    obtain ⟨hn, hg⟩ := hin n S h hgl hd
    refine ⟨hn, hg, ?_⟩
    refine tri_loop (α := Nat × St) (fun x => x.2) (fun x => iter (den X f cl n c) x.1 x.2 = some (e, S') ∧ x.2.gl = X.gl ∧ codeDst x.2.n c = true) (fun x => x.1) (n, S) rfl ⟨h, hgl, hd⟩ ?_
    rintro ⟨k, S1⟩ ⟨h1, hg1, hd1⟩
    simp only at h1 hg1 hd1 ⊢
    cases k with
    | zero => cases h1
    | succ k =>
      simp only [iter] at h1
      rcases andThen_some h1 with ⟨S2, h2, h3⟩ | ⟨h2, h3⟩
      · obtain ⟨a1, a2, ht⟩ := ih S1 _ S2 h2 hg1 hd1
        refine ht.mono fun e1 S3 hq => ?_
        obtain ⟨rfl, rfl⟩ := hq
        exact ⟨(k, S3), rfl, ⟨h3, a2.trans hg1, by rw [a1]; exact hd1⟩, Nat.lt_succ_self k⟩
      · obtain ⟨a1, a2, ht⟩ := ih S1 _ S' h2 hg1 hd1
        refine ht.mono fun e1 S3 hq => ?_
        obtain ⟨rfl, rfl⟩ := hq
        cases e1 with
        | normal => exact absurd rfl h3
        | _ => exact ⟨rfl, rfl⟩
  | exit id =>
    intro S e S' h hgl hd
    simp only [den, Option.some.injEq, Prod.mk.injEq] at h
    obtain ⟨rfl, rfl⟩ := h
    exact ⟨rfl, rfl, tri_exit ⟨rfl, rfl⟩⟩
  | ret =>
    intro S e S' h hgl hd
    simp only [den, Option.some.injEq, Prod.mk.injEq] at h
    obtain ⟨rfl, rfl⟩ := h
    exact ⟨rfl, rfl, tri_ret ⟨rfl, rfl⟩⟩
  | rangeFunc _ _ _ _ => intro S e S' h; simp [den] at h
  | scope _ _ => intro S e S' h; simp [den] at h
  | label _ => intro S e S' h; simp [den] at h
  | goto _ => intro S e S' h; simp [den] at h
  | refuse _ => intro S e S' h; simp [den] at h

theorem inM_keys : ∀ (cs : List Cont) (i : Nat), (inM i cs).map (·.key) = List.range' i cs.length
  | [], i => rfl
  | c :: r, i => by simp [inM, inM_keys r, List.range'_succ]
theorem inM_ver : ∀ (cs : List Cont) (i : Nat) (e : Ent), e ∈ inM i cs → e.ver = 0
  | [], i, e, he => by simp [inM] at he
  | c :: r, i, e, he => by
    simp only [inM, List.mem_cons] at he
    rcases he with rfl | he
    · rfl
    · exact inM_ver r (i + 1) e he

theorem runFn_ok (hX : CtxOk X) (hcl : ClOk X cl) {fn : Func} {c : Code} {args : List AV} {cs : List Cont} {out : Out} {l : List (Nat × Cont)} (hf : X.P.funcs[f]? = some fn) (hb : fn.body = some c)
    (h : runFn X f cl n fn c args cs = some (out, l)) : Ev X.P X.gl f args (inM 0 cs) fun o m => o = out ∧ m = mkM 0 l := by
  unfold runFn at h
  split at h
  · rename_i hc
    simp only [Bool.and_eq_true, decide_eq_true_eq, List.all_eq_true] at hc
    obtain ⟨⟨⟨hal, hcs⟩, hs1⟩, hs2⟩ := hc
    intro φ G w vs hm hglob hla hav
    have hkeys : ∀ k, k ∈ (inM 0 cs).map (·.key) ↔ k < cs.length := fun k => by rw [inM_keys]; simp
    have hdis : ∀ k ∈ (X.fp f).sites, k ∉ (inM 0 cs).map (·.key) := by
      intro k hk hkm
      have h1 := hs1 k hk
      have h2 := (hkeys k).1 hkm
      omega
    have hdom : ∀ k L, φ k = some L → k < cs.length ∧ L.ver = 0 := fun k L hL => by
      have hk := hm.dom k L hL
      obtain ⟨e, he, rfl⟩ := List.mem_map.1 hk
      obtain ⟨L', hL', hver, _⟩ := hm.ents e he
      rw [hL] at hL'; cases hL'
      exact ⟨(hkeys _).1 hk, by rw [hver]; exact inM_ver cs 0 e he⟩
    have hm0 := hm.add hs2 hdis
    have hkeep0 : Keeps φ (inM 0 cs) w (φ.add (X.fp f).sites) (inM 0 cs ++ (X.fp f).sites.map dead) w := ⟨le_add hm hdis, fun _ _ _ => rfl, fun b _ ho => (own_add hdis b).1 ho, Nat.le_refl _, rfl, rfl, rfl⟩
    refine calls_of_wp hf hb ?_
    obtain ⟨S0, hS0⟩ : ∃ S0, S0 = entry fn.ntmps X.gl args cs (X.fp f).sites := ⟨_, rfl⟩
    have hr : Rel (φ.add (X.fp f).sites) G S0 { tmps := vs ++ Array.replicate (fn.ntmps - vs.size) undef, defers := [] } w := by
      rw [hS0]
      refine ⟨by simp [entry]; omega, rfl, fun t x hx => ?_, hm0, ?_⟩
      · obtain ⟨j, rfl, hj⟩ := lk_entry 0 args t _ hx
        have hjl : j < vs.size := by rw [← hla]; exact (List.getElem?_eq_some_iff.1 hj).1
        have e : (vs ++ Array.replicate (fn.ntmps - vs.size) undef).getD (0 + j) undef = vs[j] := by
          simp only [Nat.zero_add, Array.getD_eq_getD_getElem?]
          rw [Array.getElem?_append_left hjl]
          simp [hjl]
        rw [e]
        exact hkeep0.av (hav j x _ hj (by simp [hjl]))
      · exact hkeep0.glob hglob
    rw [← hS0] at h
    cases hden : den X f cl n c S0 with
    | none => rw [hden] at h; cases h
    | some q =>
      obtain ⟨e, S'⟩ := q
      rw [hden] at h
      obtain ⟨hn', hg', ht⟩ := den_ok hX hcl c S0 e S' hden (by rw [hS0]; rfl) (by rw [hS0]; exact hX.dsts f fn c hf hb)
      refine wp_mono (ht _ G _ w hr) fun e' a' w' hp => ?_
      obtain ⟨φ', _, hr', hk', he⟩ := hp.is
      have hk0 : Keeps φ (inM 0 cs) w φ' S'.mem w' := by
        have : S0.mem = inM 0 cs ++ (X.fp f).sites.map dead := by rw [hS0]; rfl
        rw [this] at hk'
        exact hkeep0.trans hk'
      have retd : finish X.P (X.fp f) cs.length fn.results.toList S' = some (out, l) →
          a'.defers = [] ∧ ∃ v, (results fn a'.tmps).run X.P w' = .ok v w' ∧ ∃ φ'' m' out', (out' = out ∧ m' = mkM 0 l) ∧ MemRel φ'' G m' w' ∧ Keeps φ (inM 0 cs) w φ'' m' w' ∧ OutRel φ'' w' (Fo G φ'' m') out' (.returned v) := by
        intro hfin
        unfold finish at hfin
        split at hfin
        · rename_i cc xs hxs
          split at hfin
          · rename_i hcc
            obtain ⟨vl, h1, h2, h3⟩ := resAll_run hr' fn.results.toList cc xs hxs hcc
            obtain ⟨φ2, ys, rfl, g1, g2, g3, g4, _⟩ := finVals_ok hfin hr'.mem hr'.glob h2 h3 hk0 hdom
            have hres : (results fn a'.tmps).run X.P w' = .ok (if h : vl.toArray.size = 1 then vl.toArray[0] else .tuple vl.toArray) w' := by
              have e : results fn a'.tmps = (do let vs ← fn.results.mapM (resSem a'.tmps); pure (if h : vs.size = 1 then vs[0] else .tuple vs)) := by
                unfold results
                congr 1
              rw [e, Array.mapM_eq_mapM_toList]
              simp only [Sem.run_bind, Sem.run_map, h1, Result.andThen_ok, Sem.run_pure]
            refine ⟨hr'.defers, _, hres, φ2, _, _, ⟨rfl, rfl⟩, g1, g2, ?_⟩
            show AVRel φ2 w' _ (oneOf ys) _
            by_cases hone : vl.length = 1
            · obtain ⟨v, rfl⟩ : ∃ v, vl = [v] := by
                cases vl with
                | nil => simp at hone
                | cons v r => exact ⟨v, by cases r with | nil => rfl | cons _ _ => simp at hone⟩
              obtain ⟨y, rfl⟩ : ∃ y, ys = [y] := by
                cases ys with
                | nil => simp at g3
                | cons v r => exact ⟨v, by cases r with | nil => rfl | cons _ _ => simp at g3⟩
              simpa [oneOf] using g4 0 y v (by simp) (by simp)
            · have e : oneOf ys = .tup ys := by
                cases ys with
                | nil => rfl
                | cons y r => cases r with | nil => simp at g3; omega | cons _ _ => rfl
              rw [e, dif_neg (by simpa using hone)]
              exact .tup ys vl.toArray (by simpa using g3) (fun i y v h h' => g4 i y v h (by simpa using h'))
          · cases hfin
        · cases hfin
      cases e' with
      | normal => cases he; exact retd h
      | ret => cases he; exact retd h
      | exit id => cases he; cases h
      | panic chain =>
        obtain ⟨t, x, v, rfl, rfl, hd⟩ := he
        have h' : finVals (X.fp f) cs.length S' [] (fun _ => .panic t x) = some (out, l) := h
        obtain ⟨φ2, ys, rfl, g1, g2, _, _, g5⟩ := finVals_ok (vs := []) h' hr'.mem hr'.glob rfl (by simp) hk0 hdom
        exact ⟨hr'.defers, φ2, _, _, ⟨rfl, rfl⟩, g1, g2, v, rfl, hd.mono (fun _ _ _ => rfl) (Nat.le_refl _) (fun b _ => g5 b)⟩
      | _ => exact he.elim
  · cases h

theorem Ev.split {P : Program} {gl f r m K} (h1 : Ev P gl f (.lit (.slice none 0 0) :: r) m K) (h2 : Ev P gl f (.nn :: r) m K) : Ev P gl f (.d (.list []) :: r) m K := by
  intro φ G w vs hm hg hl ha
  have go : ∀ y, (∀ v, vs[0]? = some v → AVRel φ w (Fo G φ m) y v) → ∀ (i : Nat) x v, (y :: r)[i]? = some x → vs[i]? = some v → AVRel φ w (Fo G φ m) x v := by
    intro y hy i x v hx hv
    cases i with
    | zero => simp at hx; subst hx; exact hy v hv
    | succ i => exact ha (i + 1) x v (by simpa using hx) hv
  have hsz : 0 < vs.size := by rw [← hl]; simp
  have h0 := ha 0 (.d (.list [])) vs[0] (by simp) (by simp [hsz])
  generalize hv0 : vs[0] = v0 at h0
  have hget : vs[0]? = some v0 := by rw [← hv0]; simp [hsz]
  cases h0 with
  | d _ _ hd =>
    cases hd with
    | nil a cap hn =>
      cases a with
      | none =>
        have := hn rfl
        subst this
        exact h1 φ G w vs hm hg (by simpa using hl) (go _ (fun v hv => by rw [hget] at hv; cases hv; exact .lit _ rfl))
      | some a => exact h2 φ G w vs hm hg (by simpa using hl) (go _ (fun v hv => by rw [hget] at hv; cases hv; exact .nn a cap))
    | list _ b off cap sz vs' => exact h2 φ G w vs hm hg (by simpa using hl) (go _ (fun v hv => by rw [hget] at hv; cases hv; exact .nn _ cap))

theorem emptyVec_some {r : Option (Out × List (Nat × Cont))} {sz : Nat} (h : emptyVec r = some sz) : r = some (.ret (.vec 0 0 0 0), [(0, .vec sz [])]) := by
  unfold emptyVec at h
  split at h
  · cases h; rfl
  · cases h

theorem callN_ok (hX : CtxOk X) : ∀ n, ClOk X (callN X n)
  | 0 => fun g args cs out l h => by cases h
  | n + 1 => fun g args cs out l h => by
    have ih := callN_ok hX n
    simp only [callN] at h
    split at h
    · rename_i fn hf
      split at h
      · rename_i c hb
        have hcall : callable X.P g = true := by
          unfold callable
          rw [hf]
          simp [hb, hX.names g fn hf]
        refine ⟨hcall, ?_⟩
        unfold runSplit at h
        split at h
        · split at h
          · rename_i r
            unfold splitRun at h
            split at h
            · rename_i a b ha hb2
              split at h
              · rename_i hab
                subst hab
                have e1 := emptyVec_some ha
                have e2 := emptyVec_some hb2
                rw [e1] at h
                cases h
                exact Ev.split (runFn_ok hX ih hf hb e1) (runFn_ok hX ih hf hb e2)
              · cases h
            · cases h
          · exact runFn_ok hX ih hf hb h
        · exact runFn_ok hX ih hf hb h
      · cases h
    · cases h
end
end Go.Am

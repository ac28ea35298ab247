/-
  The abstract machine, part 22: what the evaluator says of calls holds.
-/
import Derived.Test.YtlbbjmbfclmmdaaDoorBm21
namespace Go.Am
open Go

def ClOk (X : Ctx) (cl : CallFn) : Prop := ∀ g args cs out l, cl g args cs = some (out, l) →
  callable X.P g = true ∧ Ev X.P X.gl g args (inM 0 cs) fun o m => o = out ∧ m = mkM 0 l

theorem run_callFunc {P : Program} {g : FuncId} {vs : Array Value} {w : World} (h : callable P g = true) : (callFunc g vs).run P w = .ok (.enter g vs) w := by
  unfold callable at h
  split at h
  · rename_i fn hf
    simp only [Bool.and_eq_true, Bool.not_eq_true'] at h
    have h1 : fn.body.isNone = false := by
      have := h.1
      cases hb : fn.body <;> simp_all
    have h2 : fn.name ≠ "runtime.NumGoroutine" := by simpa using h.2
    have h3 : fn.body ≠ none := by intro hb; simp [hb] at h1
    simp [callFunc, hf, h2, h3]
  · cases h

/- Where a call looks. -/
theorem get_none {m : Mem} {k : Nat} : Mem.get m k = none ↔ k ∉ m.map (·.key) := by
  induction m with
  | nil => simp [Mem.get]
  | cons e r ih =>
    simp only [Mem.get, List.map_cons, List.mem_cons, not_or]
    split
    · rename_i h; simp [h]
    · rename_i h; rw [ih]; constructor
      · exact fun hh => ⟨fun he => h he.symm, hh⟩
      · exact fun hh => hh.2
theorem isNone_keys {m m' : Mem} (hk : m'.map (·.key) = m.map (·.key)) (k : Nat) : (Mem.get m' k).isNone = (Mem.get m k).isNone := by
  have := get_none (m := m) (k := k)
  have h2 := get_none (m := m') (k := k)
  rw [hk, ← this] at h2
  cases h : Mem.get m k <;> cases h' : Mem.get m' k <;> simp_all

theorem collect_sub (m : Mem) : ∀ (n : Nat) (todo acc : List Nat), ∀ k ∈ acc, k ∈ collect m n todo acc
  | 0, todo, acc, k, h => h
  | n + 1, [], acc, k, h => h
  | n + 1, t :: todo, acc, k, h => by
    simp only [collect]
    split
    · exact collect_sub m n todo acc k h
    · exact collect_sub m n _ _ k (List.mem_append_left _ h)
theorem collect_loc {m m' : Mem} (hk : m'.map (·.key) = m.map (·.key)) : ∀ (n : Nat) (todo acc : List Nat), (∀ k ∈ collect m n todo acc, Mem.get m' k = Mem.get m k) → collect m' n todo acc = collect m n todo acc
  | 0, todo, acc, _ => rfl
  | n + 1, [], acc, _ => rfl
  | n + 1, t :: todo, acc, h => by
    simp only [collect, isNone_keys hk t] at h ⊢
    split
    · rename_i hc
      rw [hc] at h
      exact collect_loc hk n todo acc h
    · rename_i hc
      rw [hc] at h
      have e : Mem.get m' t = Mem.get m t := h t (collect_sub m n _ _ t (by simp))
      rw [e]
      exact collect_loc hk n _ _ h

mutual
theorem vw_loc {m m' : Mem} {ρ : List Nat} {bor : Nat → Bool} {nv : Nat → Nat → Nat} (hk : m'.map (·.key) = m.map (·.key)) (h : ∀ k, (k ∈ ρ ∨ bor k = true) → Mem.get m' k = Mem.get m k) : ∀ y : AV, vw m' ρ bor nv y = vw m ρ bor nv y
  | .ptr k ver off => by
    by_cases hkρ : k ∈ ρ
    · simp only [vw, h k (.inl hkρ)]
    · have h0 : ∀ m0 : Mem, vw m0 ρ bor nv (.ptr k ver off) = .junk := by
        intro m0
        simp only [vw, findK_none (ρ := ρ) (k := k) (j := 0) |>.2 hkρ]
        cases Mem.get m0 k <;> rfl
      rw [h0, h0]
  | .vec k ver off len => by
    by_cases hkρ : k ∈ ρ ∨ bor k = true
    · simp only [vw, h k hkρ]
    · simp only [not_or] at hkρ
      have h0 : ∀ m0 : Mem, vw m0 ρ bor nv (.vec k ver off len) = .junk := by
        intro m0
        simp only [vw, findK_none (ρ := ρ) (k := k) (j := 0) |>.2 hkρ.1, hkρ.2]
        cases Mem.get m0 k with
        | none => rfl
        | some e =>
          obtain ⟨_, _, c⟩ := e
          cases c <;> simp
      rw [h0, h0]
  | .eptr k ver i j => by
    by_cases hkρ : k ∈ ρ
    · simp only [vw, h k (.inl hkρ)]
    · have h0 : ∀ m0 : Mem, vw m0 ρ bor nv (.eptr k ver i j) = .junk := by
        intro m0
        simp only [vw, findK_none (ρ := ρ) (k := k) (j := 0) |>.2 hkρ]
        cases Mem.get m0 k <;> rfl
      rw [h0, h0]
  | .agg cs => by simp only [vw, vws_loc hk h cs]
  | .fn f cap => by simp only [vw, vws_loc hk h cap]
  | .tup vs => by simp only [vw, vws_loc hk h vs]
  | .junk => rfl
  | .d x => rfl
  | .rptr x j => rfl
  | .ifc t x => rfl
  | .lit v => rfl
  | .nn => rfl
theorem vws_loc {m m' : Mem} {ρ : List Nat} {bor : Nat → Bool} {nv : Nat → Nat → Nat} (hk : m'.map (·.key) = m.map (·.key)) (h : ∀ k, (k ∈ ρ ∨ bor k = true) → Mem.get m' k = Mem.get m k) : ∀ l : List AV, vws m' ρ bor nv l = vws m ρ bor nv l
  | [] => rfl
  | x :: r => by simp only [vws, vw_loc hk h x, vws_loc hk h r]
end
theorem selL_loc {m m' : Mem} {ρ : List Nat} {bor : Nat → Bool} {nv : Nat → Nat → Nat} (hk : m'.map (·.key) = m.map (·.key)) (h : ∀ k, (k ∈ ρ ∨ bor k = true) → Mem.get m' k = Mem.get m k) :
    ∀ (l : List Nat) (i : Nat), (∀ k ∈ l, k ∈ ρ) → selL m' ρ bor nv i l = selL m ρ bor nv i l
  | [], i, _ => rfl
  | k :: r, i, hl => by
    simp only [selL, h k (.inl (hl k (by simp))), selL_loc hk h r (i + 1) (fun x hx => hl x (by simp [hx]))]
    congr 1
    cases Mem.get m k with
    | none => rfl
    | some e =>
      simp only [selE, Prod.mk.injEq, true_and]
      cases e.cont with
      | box cs => simp only [selC, vws_loc hk h cs]
      | _ => rfl
theorem vwArgs_loc {m m' : Mem} {ρ B : List Nat} (hk : m'.map (·.key) = m.map (·.key)) (h : ∀ k, (k ∈ ρ ∨ B.contains k = true) → Mem.get m' k = Mem.get m k) : ∀ l : List AV, vwArgs m' ρ B l = vwArgs m ρ B l
  | [] => rfl
  | x :: r => by simp only [vwArgs, vw_loc (nv := nv0) hk h x, vwArgs_loc hk h r]
theorem base_loc {m m' : Mem} (d : Nat) : ∀ (l : List Nat), (∀ k ∈ l, Mem.get m' k = Mem.get m k) → base m' d l = base m d l
  | [], _ => rfl
  | k :: r, h => by simp only [base, h k (by simp), base_loc d r (fun x hx => h x (by simp [hx]))]
theorem frOk_loc {m m' : Mem} (ρ : List Nat) (hk : m'.map (·.key) = m.map (·.key)) : ∀ (l : List Nat), frOk m' ρ l = frOk m ρ l
  | [] => rfl
  | k :: r => by
    have : (Mem.get m' k).isSome = (Mem.get m k).isSome := by
      have := isNone_keys hk k
      cases h : Mem.get m k <;> cases h' : Mem.get m' k <;> simp_all
    simp only [frOk, this, frOk_loc ρ hk r]

theorem callOp_loc {cl : CallFn} {m m' : Mem} {k0 : Nat} {g : FuncId} {ys : List AV} {mt : List Nat} {res : CRes} (hk : m'.map (·.key) = m.map (·.key)) (h : callOp cl m k0 g ys mt = some res) (hs : ∀ k ∈ res.ks, Mem.get m' k = Mem.get m k) :
    callOp cl m' k0 g ys mt = some res := by
  unfold callOp callOp2 callOp3 at h ⊢
  obtain ⟨ρ, hρ⟩ : ∃ ρ, ρ = collect m 64 (argKeys mt 0 ys) [] := ⟨_, rfl⟩
  rw [← hρ] at h
  obtain ⟨B, hB⟩ : ∃ B, B = (argBor mt 0 ys).filter fun k => !ρ.contains k := ⟨_, rfl⟩
  rw [← hB] at h
  have hks : ∀ k, k ∈ ρ ∨ B.contains k = true → Mem.get m' k = Mem.get m k := by
    intro k hk2
    refine hs k ?_
    unfold callBack at h
    split at h
    · split at h
      · cases h
        simp only [List.mem_append]
        rcases hk2 with h1 | h1
        · exact .inl (.inl h1)
        · exact .inl (.inr (by simpa using h1))
      · cases h
    · cases h
  have e1 : collect m' 64 (argKeys mt 0 ys) [] = ρ := by
    rw [hρ]; exact collect_loc hk 64 _ _ (fun k hk2 => hks k (.inl (hρ ▸ hk2)))
  rw [e1, ← hB, vwArgs_loc hk hks, selL_loc hk hks ρ 0 (fun _ h => h), isNone_keys hk]
  unfold callBack at h ⊢
  split
  · rename_i out l2 hcl
    rw [hcl] at h
    simp only at h
    rw [frOk_loc ρ hk]
    split
    · rename_i hc
      rw [if_pos hc] at h
      cases h
      have e2 : ∀ d, base m' d ρ = base m d ρ := fun d => base_loc d ρ (fun k hk2 => hks k (.inl hk2))
      have e3 : ∀ d, base m' d (List.range' (k0 + 1) (l2.length - ρ.length)) = base m d (List.range' (k0 + 1) (l2.length - ρ.length)) := fun d => base_loc d _ (fun k hk2 => hs k (by simp only [List.mem_append]; exact .inr hk2))
      rw [e2, e3]
    · rename_i hc
      rw [if_neg hc] at h; cases h
  · rename_i hcl
    rw [hcl] at h; cases h

theorem argVals_get (S : St) : ∀ (l : List Operand) (i : Nat), (argVals S l)[i]? = (l[i]?).map fun x => (S.opd x).2
  | [], i => by simp [argVals]
  | x :: r, i => by cases i with | zero => simp [argVals] | succ i => simp [argVals, argVals_get S r i]
theorem argVals_length (S : St) : ∀ (l : List Operand), (argVals S l).length = l.length
  | [] => rfl
  | x :: r => by simp [argVals, argVals_length S r]
theorem vwArgs_get (m ρ B) : ∀ (l : List AV) (i : Nat), (vwArgs m ρ B l)[i]? = (l[i]?).map fun y => (vw m ρ (fun k => B.contains k) nv0 y).norm
  | [], i => by simp [vwArgs]
  | x :: r, i => by cases i with | zero => simp [vwArgs] | succ i => simp [vwArgs, vwArgs_get m ρ B r i]
theorem vwArgs_length (m ρ B) : ∀ (l : List AV), (vwArgs m ρ B l).length = l.length
  | [] => rfl
  | x :: r => by simp [vwArgs, vwArgs_length m ρ B r]
theorem inM_conts (m ρ bor) : ∀ (l : List Nat) (i j : Nat), inM i (conts (selL m ρ bor nv0 j l)) = mkM i (selL m ρ bor nv0 j l)
  | [], i, j => rfl
  | k :: r, i, j => by
    have : selE m ρ bor nv0 j (Mem.get m k) = (0, (selE m ρ bor nv0 j (Mem.get m k)).2) := by
      cases Mem.get m k <;> rfl
    simp only [selL]
    rw [this]
    simp only [conts, inM, mkM, inM_conts m ρ bor r (i + 1) (j + 1)]
theorem frOk_all {m : Mem} {ρ : List Nat} : ∀ {l : List Nat}, frOk m ρ l = true → ∀ k ∈ l, (Mem.get m k).isSome = true ∧ k ∉ ρ
  | [], _, k, hk => by simp at hk
  | x :: r, h, k, hk => by
    simp only [frOk, Bool.and_eq_true, Bool.not_eq_true', List.contains_eq_mem, decide_eq_false_iff_not] at h
    rcases List.mem_cons.1 hk with rfl | hk
    · exact h.1
    · exact frOk_all h.2 k hk
theorem plainL_all : ∀ {l : List (Nat × Cont)}, plainL l = true → ∀ e ∈ l, plainC e.2 = true
  | [], _, e, he => by simp at he
  | (v, c) :: r, h, e, he => by
    simp only [plainL, Bool.and_eq_true] at h
    rcases List.mem_cons.1 he with rfl | he
    · exact h.1
    · exact plainL_all h.2 e he

theorem mkM_get : ∀ (l : List (Nat × Cont)) (i k : Nat), i ≤ k → k < i + l.length → (Mem.get (mkM i l) k).isSome = true
  | [], i, k, h1, h2 => by simp at h2; omega
  | (v, c) :: r, i, k, h1, h2 => by
    simp only [mkM, Mem.get]
    split
    · rfl
    · rename_i hne
      exact mkM_get r (i + 1) k (by have hne2 : i ≠ k := hne; omega) (by simp at h2; omega)

theorem Ev.frz {P : Program} {gl f args} {cs : List Cont} {out : Out} {l2 : List (Nat × Cont)} (h : Ev P gl f args (inM 0 cs) fun o m => o = out ∧ m = mkM 0 l2) (hl : cs.length ≤ l2.length) :
    Ev P gl f args (inM 0 cs) fun o m => o = frzO cs.length l2 out ∧ m = mkM 0 (selL (mkM 0 l2) (List.range cs.length) (fun _ => true) (fun _ v => v) 0 (List.range cs.length)) := by
  intro φ G w vs hm hg hla ha
  refine (h φ G w vs hm hg hla ha).mono ?_
  rintro e w' ⟨φ', m', out', ⟨rfl, rfl⟩, hm', hk', hout⟩
  obtain ⟨s1, s2, s3⟩ := sel_mem (G1 := G) (ρ := List.range cs.length) (bor := fun _ => true) (nv := fun _ v => v) hm' List.nodup_range (fun k hk => mkM_get l2 0 k (Nat.zero_le _) (by simp at hk; omega)) (fun b h => .inl h) (fun b h => hm'.notG b h.own)
    (fun k e L hg _ _ hL ho => hm'.notG _ ⟨e, (Mem.get_mem hg).1, L, by rw [(Mem.get_mem hg).2]; exact hL, ho, rfl⟩)
  refine ⟨_, _, _, ⟨rfl, rfl⟩, s1, ⟨?_, hk'.old, ?_, hk'.size, hk'.os, hk'.tape, hk'.output⟩, ?_⟩
  · intro k L hL
    have hk : k < cs.length := by
      have := hm.dom k L hL
      rw [inM_mk, mkM_keys] at this
      simpa using this
    obtain ⟨L', h1, h2, h3⟩ := hk'.le k L hL
    exact ⟨L', by simp [Phi.sel, hk, h1], h2, h3⟩
  · intro b hb ho
    exact hk'.own b hb ((sel_own (φ := φ') (nv := fun _ v => v) (bor := fun _ => true) (fun k hk => mkM_get l2 0 k (Nat.zero_le _) (by simp at hk; omega)) b).1 ho).own
  · cases out' with
    | ret x =>
      cases e with
      | returned v => exact (s2 x v hout).norm
      | _ => exact hout.elim
    | panic t x =>
      cases e with
      | panicked chain =>
        obtain ⟨v, hc, hx⟩ := hout
        exact ⟨v, hc, hx.mono (fun _ _ _ => rfl) (Nat.le_refl _) (fun b _ => s3 b)⟩
      | _ => exact hout.elim

theorem conts_length : ∀ (l : List (Nat × Cont)), (conts l).length = l.length
  | [] => rfl
  | (_, _) :: r => by simp [conts, conts_length r]

theorem frzR_some {n0 : Nat} {b : Bool} {r : Option (Out × List (Nat × Cont))} {out : Out} {l : List (Nat × Cont)} (h : frzR n0 b r = some (out, l)) : ∃ out0 l0, r = some (out0, l0) ∧
    ((out = out0 ∧ l = l0) ∨ (n0 < l0.length ∧ out = frzO n0 l0 out0 ∧ l = selL (mkM 0 l0) (List.range n0) (fun _ => true) (fun _ v => v) 0 (List.range n0))) := by
  cases r with
  | none => cases h
  | some p =>
    obtain ⟨o0, l0⟩ := p
    refine ⟨o0, l0, rfl, ?_⟩
    simp only [frzR] at h
    split at h
    · rename_i hc
      simp only [Bool.and_eq_true, decide_eq_true_eq] at hc
      simp only [Option.some.injEq, Prod.mk.injEq] at h
      exact .inr ⟨hc.2, h.1.symm, h.2.symm⟩
    · simp only [Option.some.injEq, Prod.mk.injEq] at h
      exact .inl ⟨h.1.symm, h.2.symm⟩

theorem callOp_ok {X : Ctx} {cl : CallFn} (hcl : ClOk X cl) {S : St} {o : Oper} {fv : Operand} {args : Array Operand} {tys : Array TypeId} {g : FuncId} {caps : List AV} {k0 : Nat} {mt : List Nat} {res : CRes}
    (ho : o.op = .call { callee := .value fv, args, argTypes := tys }) (hfv : S.opd fv = (true, .fn g caps)) (hok : okAll S args.toList = true)
    (h : callOp cl S.mem k0 g (argVals S args.toList ++ caps) mt = some res) (hgl : S.gl = X.gl) {φ G a w} (hr : Rel φ G S a w) {next : Act → World → Prop} {R : Exit → Act → World → Prop}
    (hret : ∀ x, res.out = .ret x → ∀ φ' w' v, Rel φ' G { S with mem := putAll S.mem res.es } a w' → Keeps φ S.mem w φ' (putAll S.mem res.es) w' → AVRel φ' w' (Fo G φ' (putAll S.mem res.es)) x v → next (a.put o.dst v) w')
    (hpan : ∀ t x, res.out = .panic t x → ∀ φ' w' v, Rel φ' G { S with mem := putAll S.mem res.es } a w' → Keeps φ S.mem w φ' (putAll S.mem res.es) w' → DRel w' (Fo G φ' (putAll S.mem res.es)) x v → R (.panic [{ v := .iface t v, recovered := false }]) a w') : o.wp X.P a w next R := by
  unfold callOp callOp2 callOp3 at h
  obtain ⟨ρ, hρ⟩ : ∃ ρ, ρ = collect S.mem 64 (argKeys mt 0 (argVals S args.toList ++ caps)) [] := ⟨_, rfl⟩
  have hcol := collect_ok S.mem 64 (argKeys mt 0 (argVals S args.toList ++ caps)) [] List.nodup_nil (by simp)
  rw [← hρ] at h hcol
  generalize (argBor mt 0 (argVals S args.toList ++ caps)).filter (fun k => !ρ.contains k) = B at h
  clear hρ
  obtain ⟨hn, hall⟩ := hcol
  unfold callBack at h
  split at h
  · rename_i out l2 hcall
    split at h
    · rename_i hc
      cases h
      have hcall2 : callable X.P g = true ∧ Ev X.P X.gl g (vwArgs S.mem ρ B (argVals S args.toList ++ caps)) (inM 0 (conts (selL S.mem ρ (fun k => B.contains k) nv0 0 ρ))) fun o m => o = out ∧ m = mkM 0 l2 := by
        obtain ⟨out0, l0, h0, h1⟩ := frzR_some hcall
        obtain ⟨hc0, hev0⟩ := hcl _ _ _ _ _ h0
        refine ⟨hc0, ?_⟩
        rcases h1 with ⟨rfl, rfl⟩ | ⟨hlt, rfl, rfl⟩
        · exact hev0
        · have hcl2 : (conts (selL S.mem ρ (fun k => B.contains k) nv0 0 ρ)).length = ρ.length := by rw [conts_length, selL_length]
          have := hev0.frz (by rw [hcl2]; omega)
          rw [hcl2] at this
          exact this
      obtain ⟨hcallable, hev⟩ := hcall2
      simp only [Bool.and_eq_true, Bool.or_eq_true, decide_eq_true_eq] at hc
      obtain ⟨⟨hlen, hfr⟩, hpl⟩ := hc
      rw [inM_conts] at hev
      obtain ⟨v1, v2, v3⟩ := call_view (B := B) hr.mem hn hall
      have hfe := hr.opd fv (by rw [hfv])
      rw [hfv] at hfe
      generalize hfq : a.eval fv = fval at hfe
      cases hfe with
      | fn _ _ ca hlc hcr =>
        have hrun : (execOp a.eval o).run X.P w = .ok (.enter g (args.map a.eval ++ ca)) w := by
          simp [execOp, ho, resolve, hfq, Deferred.ofValue, invoke, run_callFunc hcallable]
        unfold Oper.wp
        rw [hrun]
        have hlenA : (vwArgs S.mem ρ B (argVals S args.toList ++ caps)).length = (args.map a.eval ++ ca).size := by
          rw [vwArgs_length, List.length_append, argVals_length]
          simp [hlc]
        have hav : ∀ (i : Nat) x v, (vwArgs S.mem ρ B (argVals S args.toList ++ caps))[i]? = some x → (args.map a.eval ++ ca)[i]? = some v → AVRel (φ.sel ρ nv0) w (Fo (GCall φ G S.mem ρ B) (φ.sel ρ nv0) (mkM 0 (selL S.mem ρ (fun k => B.contains k) nv0 0 ρ))) x v := by
          intro i x v hx hv
          rw [vwArgs_get] at hx
          obtain ⟨y, hy, rfl⟩ := Option.map_eq_some_iff.1 hx
          refine (v2 y v ?_).norm
          by_cases hi : i < args.size
          · rw [List.getElem?_append_left (by rw [argVals_length]; simpa using hi), argVals_get] at hy
            rw [Array.getElem?_append_left (by simpa using hi)] at hv
            simp only [Array.getElem?_map, Option.map_eq_some_iff] at hv
            obtain ⟨z, hz, rfl⟩ := hv
            obtain ⟨z', hz', rfl⟩ := Option.map_eq_some_iff.1 hy
            rw [Array.getElem?_toList, hz] at hz'
            cases hz'
            exact hr.opd z (okAll_mem hok z (by simpa using Array.mem_of_getElem? hz))
          · rw [List.getElem?_append_right (by rw [argVals_length]; simpa using hi), argVals_length] at hy
            rw [Array.getElem?_append_right (by simpa using hi)] at hv
            simp only [Array.size_map, Array.length_toList] at hy hv
            exact hcr _ _ v hy hv
        have hglob : GlobRel w (Fo (GCall φ G S.mem ρ B) (φ.sel ρ nv0) (mkM 0 (selL S.mem ρ (fun k => B.contains k) nv0 0 ρ))) X.gl := by
          rw [← hgl]
          exact hr.glob.mono (fun _ _ _ => rfl) (Nat.le_refl _) (fun b _ => v3 b)
        refine (hev (φ.sel ρ nv0) (GCall φ G S.mem ρ B) w _ v1 hglob hlenA hav).mono ?_
        rintro e w' ⟨φ2, m2, out', ⟨rfl, rfl⟩, hm2, hk2, hout⟩
        have hBpl : B = [] ∨ (plainO out' = true ∧ plainL l2 = true) := hpl.imp (by simp) id
        obtain ⟨φ', hm', hk', hup⟩ := call_back (B := B) hr.mem hn hall (fr := List.range' (k0 + 1) (l2.length - ρ.length)) List.nodup_range' (frOk_all hfr) hm2 hk2 (by simp; omega) (hBpl.imp id fun hp => plainL_all hp.2)
        have hr' := hr.turn hm' hk'
        cases out' with
        | ret x =>
          cases e with
          | returned v => exact hret _ rfl φ' w' v hr' hk' (hup x v (hBpl.imp id fun hp => hp.1) hout)
          | _ => exact hout.elim
        | panic t x =>
          cases e with
          | panicked chain =>
            obtain ⟨v, rfl, hx⟩ := hout
            have := hup (.d x) v (hBpl.imp id fun hp => hp.1) (.d _ _ hx)
            cases this with
            | d _ _ hd => exact hpan t x rfl φ' w' v hr' hk' hd
          | _ => exact hout.elim
    · cases h
  · cases h
end Go.Am

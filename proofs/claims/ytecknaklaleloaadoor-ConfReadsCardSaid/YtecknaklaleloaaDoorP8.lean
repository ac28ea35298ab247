/-
  The tied card of ConfReads is proved: the law returns true for every input and leaves its arguments as they were. Conditions: those of the row itself (the listed package variables start as the program lays them).
-/
import Derived.Test.YtecknaklaleloaaDoorP7
import Derived.Test.YtecknaklaleloaaDoorRows
import Derived.Test.YtecknaklaleloaaDoorCards
import Derived.Test.YtecknaklaleloaaDoorTie
import Derived.JoinedOf
import Derived.LaidMore
import Derived.LaidHandle
import Derived.SevenTiedAt
import Derived.Lay
set_option linter.all false
namespace Go.Proofs.YtecknaklaleloaaDoor
open Go Go.Am
set_option maxRecDepth 100000
theorem Tryd.own : ownKnob Tryd.prog.godebug = none := by kernel_rfl
theorem Tryd.laidOut : laidOutB Tryd.prog = true := by kernel_rfl
theorem ctx_ok [Inhabited Mx2] : CtxOk ctx := CtxOk.of (by kernel_rfl) orcs_ok
theorem door_met (os : Os) (args : Array Value) : laidMetH Tryd.prog Rows.confReadsRow.laid ((World.laidAll Tryd.prog os Rows.confReadsRow.laid).forCall (fun _ _ => 0) ⟨#[], args, []⟩).memory := by
  rw [MakeChecks.laidMetH_plain _ _ _ (by kernel_rfl)]; exact laidMet_laidAll _ (by kernel_rfl) (by kernel_rfl)
theorem space_in : ("internal/strconv.uint64pow10", DataW.agg (tab10.map fun z => .lit (.int .u64 z))) ∈ (Rows.confReadsRow.laid : List (String × DataW Unit)) := by
  have h : (Rows.confReadsRow.laid : List (String × DataW Unit))[2]? = some ("internal/strconv.uint64pow10", DataW.agg (tab10.map fun z => .lit (.int .u64 z))) := by kernel_rfl
  exact List.mem_of_getElem? h
theorem mx_of {W : World} (h : W.ShapedOpen Tryd.prog) : ∃ m, W.cell? ⟨1, 0, none⟩ = some (.int .i64 m) :=
  cell_of_shapedOpen_int (t := 3) (zero := #[.int .i64 0]) h (of_decide_eq_true (by kernel_rfl)) (by kernel_rfl) rfl (by kernel_rfl) (by kernel_rfl) (by kernel_rfl)
theorem op1_in : ∃ d, ("strconv.ErrSyntax", d) ∈ (Rows.confReadsRow.laid : List (String × DataW Unit)) := by
  have h : ((Rows.confReadsRow.laid : List (String × DataW Unit))[5]?).map (·.1) = some "strconv.ErrSyntax" := by kernel_rfl
  obtain ⟨⟨n, d⟩, h1, h2⟩ := Option.map_eq_some_iff.1 h
  simp only at h2
  subst h2
  exact ⟨d, List.mem_of_getElem? h1⟩
theorem op2_in : ∃ d, ("strconv.ErrRange", d) ∈ (Rows.confReadsRow.laid : List (String × DataW Unit)) := by
  have h : ((Rows.confReadsRow.laid : List (String × DataW Unit))[4]?).map (·.1) = some "strconv.ErrRange" := by kernel_rfl
  obtain ⟨⟨n, d⟩, h1, h2⟩ := Option.map_eq_some_iff.1 h
  simp only at h2
  subst h2
  exact ⟨d, List.mem_of_getElem? h1⟩
theorem opq_glob {W : World} {g : Nat} (h : ∃ v, W.cell? ⟨g, 0, none⟩ = some v ∧ (v = .nilIface ∨ ∃ u p, v = .iface u p)) : (g < W.heap.size ∧ ∀ cs, D.opq = .agg cs → ∃ cur e fz, W.heap[g]? = some (.cells cur e fz) ∧ cur.size = cs.length) ∧ ¬ False ∧ ∃ x', DRel W (fun _ => False) D.opq x' ∧ ∀ (i : Nat) (c : Value), x'.cells[i]? = some c → W.cell? ⟨g, i, none⟩ = some c := by
  obtain ⟨v, hv, hs⟩ := h
  refine ⟨⟨(cell?_lt hv).1, fun _ h => by cases h⟩, id, v, .opq v hs, fun i c hi => ?_⟩
  have h1 : v.cells = #[v] := by rcases hs with rfl | ⟨u, p, rfl⟩ <;> rfl
  rw [h1] at hi
  match i, hi with
  | 0, hi => simp at hi; subst hi; exact hv
  | i + 1, hi => simp at hi
theorem glob_ok {W : World} (hL : laidMetH Tryd.prog Rows.confReadsRow.laid W) (m : Int) (hm : W.cell? ⟨1, 0, none⟩ = some (.int .i64 m)) : GlobRel W (fun _ => False) (@ctx ⟨m⟩).gl := by
  rw [MakeChecks.laidMetH_plain _ _ _ (by kernel_rfl)] at hL
  intro x hx
  have hx' : x ∈ [((0 : Nat), D.agg (tab10.map fun z => .int .u64 z)), (1, .int .i64 m), (8, .opq), (9, .opq)] := hx
  simp only [List.mem_cons, List.not_mem_nil, or_false] at hx'
  rcases hx' with rfl | rfl | rfl | rfl
  · obtain ⟨a, b⟩ := glob_of_laid (name := "internal/strconv.uint64pow10") (n := 20) (e := 114) (t := 192) (g := 0) (k := .u64) (zs := tab10) hL space_in (by kernel_rfl) (by kernel_rfl) (by kernel_rfl) (by kernel_rfl) (by kernel_rfl) (by decide) (by kernel_rfl)
    exact ⟨a, id, b⟩
  · refine ⟨⟨(cell?_lt hm).1, fun _ h => by cases h⟩, id, .int .i64 m, .int _ _, fun i c hi => ?_⟩
    match i, hi with
    | 0, hi => simp [Value.cells] at hi; subst hi; exact hm
    | i + 1, hi => simp [Value.cells] at hi
  · obtain ⟨d, hd⟩ := op1_in
    exact opq_glob (opq_of_laid hL hd (by kernel_rfl) (by kernel_rfl) Tryd.underlying187)
  · obtain ⟨d, hd⟩ := op2_in
    exact opq_glob (opq_of_laid hL hd (by kernel_rfl) (by kernel_rfl) Tryd.underlying187)
theorem confReads_lifted (os : Os) (started : os.Started) (H : Type) (enc : TypeId × Value → H) :
    ReturnsInHanded {} Tryd.checked os 5 .any (fun w args => (Rows.confReadsSpec.pre enc Tryd.prog Tryd.f5 [] false w args ∧ laidMetH Tryd.prog Rows.confReadsRow.laid w) ∧ sizedMet enc Tryd.prog Tryd.f5 (OpenSpec.ofChange Rows.confReadsSpec) false w args)
      (Rows.confReadsSpec.post enc Tryd.prog Tryd.f5 false true false false) := by
  refine handed_of (C := Tryd.checked) (X := fun w _ => laidMetH Tryd.prog Rows.confReadsRow.laid w) (fun _ _ _ hh h => h.of_heap hh) Tryd.own started (by kernel_rfl) Tryd.func5
    (ChangeSpec.witness_shaped (enc := enc) (C := Tryd.checked) (os := os) (X := fun w _ => laidMetH Tryd.prog Rows.confReadsRow.laid w) false (World.laidAll Tryd.prog os Rows.confReadsRow.laid)
      #[.string .empty] 8 (World.laidAll_os _ _ _) (World.shaped_of_ZipB (by kernel_rfl) (by kernel_rfl)) (by kernel_rfl) (by kernel_rfl) (by kernel_rfl) (door_met os _)) ?_
  intro W base args ds gs before hval hW hL hsh
  obtain ⟨m, hm⟩ := mx_of hsh
  letI : Inhabited Mx2 := ⟨m⟩
  refine law_contract (X := ctx) ctx_ok (n := 5) (tb := 4) Tryd.laidOut (by kernel_rfl) (by kernel_rfl) Tryd.underlying4 rfl ?_ hval hW (glob_ok hL m hm) ?_
  · intro ds hds
    match ds, hds with
    | [d1], _ => rfl
  · intro xs hxs hty
    match xs, hxs with
    | [x1], _ =>
      obtain ⟨s, rfl, _⟩ := typed_string Tryd.underlying9 (hty 0 9 x1 (by kernel_rfl) rfl)
      exact confReads_run s
theorem confReads_holds : Rows.ConfReadsSaid :=
  OpenClaim.holds_of_wide 5 Tryd.f5 rfl rfl rfl rfl rfl rfl rfl ⟨rfl, rfl, rfl, rfl, rfl⟩ rfl rfl rfl rfl rfl (by kernel_rfl) Tryd.func5 (by kernel_rfl)
    (of_decide_eq_true (by kernel_rfl)) (by unfold Func.isWrapper; first | (rw [if_pos (by decide +kernel)]; kernel_rfl) | (rw [if_neg (by decide +kernel)]; exact ⟨rfl, rfl⟩))
    (fun os started H enc _ => confReads_lifted os started H enc)
theorem confReads_card_holds : Rows.ConfReadsCardSaid :=
  Claim7.holds_tied_plain_at .later [] [.data, .data, .data, .data, .sentinel, .sentinel, .pinned] true Rows.confReadsCard.stood.harness true
    confReads_holds (fun _ h => by cases h) (by kernel_rfl) (fun _ h => by cases h) confReads_row_tie rfl ⟨rfl, rfl⟩ (by kernel_rfl) rfl
    (fun f fn hf hfn => by
      obtain rfl : f = 5 := Option.some.inj ((show Tryd.prog.funcNamed "servitor/servitorlaw28.ConfReads" = some 5 by kernel_rfl).symm.trans hf) |>.symm
      obtain rfl : fn = Tryd.f5 := (Option.some.inj (Tryd.func5.symm.trans hfn)).symm
      exact ⟨by kernel_rfl, fun j t ht => by
        rw [Tryd.params5] at ht
        match j, ht with
        | 0, ht => (obtain rfl : t = 9 := by simpa using ht.symm); exact (show Tryd.prog.wantsStandIn 9 = false by kernel_rfl)
        | j + 1, ht => simp at ht⟩)
    (by kernel_rfl)
#print axioms confReads_card_holds
end Go.Proofs.YtecknaklaleloaaDoor

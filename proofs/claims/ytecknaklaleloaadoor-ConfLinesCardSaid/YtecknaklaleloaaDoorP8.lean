/-
  The tied card of ConfLines is proved: the law returns true for every input and leaves its arguments as they were. Conditions: those of the row itself (the listed package variables start as the program lays them).
-/
import Derived.Test.YtecknaklaleloaaDoorP7
import Derived.Test.YtecknaklaleloaaDoorRows
import Derived.Test.YtecknaklaleloaaDoorCards
import Derived.Test.YtecknaklaleloaaDoorTie
import Derived.JoinedOf
import Derived.LaidMore
import Derived.LaidHandle
import Derived.SevenTiedAt
import Derived.Lay
set_option linter.all false
namespace Go.Proofs.YtecknaklaleloaaDoor
open Go Go.Am
set_option maxRecDepth 100000
theorem Tryd.own : ownKnob Tryd.prog.godebug = none := by kernel_rfl
theorem Tryd.laidOut : laidOutB Tryd.prog = true := by kernel_rfl
theorem ctx_ok [Inhabited Mx2] : CtxOk ctx := CtxOk.of (by kernel_rfl) orcs_ok
theorem door_met (os : Os) (args : Array Value) : laidMetH Tryd.prog Rows.confLinesRow.laid ((World.laidAll Tryd.prog os Rows.confLinesRow.laid).forCall (fun _ _ => 0) ⟨#[], args, []⟩).memory := by
  rw [MakeChecks.laidMetH_plain _ _ _ (by kernel_rfl)]; exact laidMet_laidAll _ (by kernel_rfl) (by kernel_rfl)
theorem space_in : ("internal/strconv.uint64pow10", DataW.agg (tab10.map fun z => .lit (.int .u64 z))) ∈ (Rows.confLinesRow.laid : List (String × DataW Unit)) := by
  have h : (Rows.confLinesRow.laid : List (String × DataW Unit))[2]? = some ("internal/strconv.uint64pow10", DataW.agg (tab10.map fun z => .lit (.int .u64 z))) := by kernel_rfl
  exact List.mem_of_getElem? h
theorem mx_of {W : World} (h : W.ShapedOpen Tryd.prog) : ∃ m, W.cell? ⟨1, 0, none⟩ = some (.int .i64 m) :=
  cell_of_shapedOpen_int (t := 3) (zero := #[.int .i64 0]) h (of_decide_eq_true (by kernel_rfl)) (by kernel_rfl) rfl (by kernel_rfl) (by kernel_rfl) (by kernel_rfl)
theorem op1_in : ∃ d, ("strconv.ErrSyntax", d) ∈ (Rows.confLinesRow.laid : List (String × DataW Unit)) := by
  have h : ((Rows.confLinesRow.laid : List (String × DataW Unit))[5]?).map (·.1) = some "strconv.ErrSyntax" := by kernel_rfl
  obtain ⟨⟨n, d⟩, h1, h2⟩ := Option.map_eq_some_iff.1 h
  simp only at h2
  subst h2
  exact ⟨d, List.mem_of_getElem? h1⟩
theorem op2_in : ∃ d, ("strconv.ErrRange", d) ∈ (Rows.confLinesRow.laid : List (String × DataW Unit)) := by
  have h : ((Rows.confLinesRow.laid : List (String × DataW Unit))[4]?).map (·.1) = some "strconv.ErrRange" := by kernel_rfl
  obtain ⟨⟨n, d⟩, h1, h2⟩ := Option.map_eq_some_iff.1 h
  simp only at h2
  subst h2
  exact ⟨d, List.mem_of_getElem? h1⟩
theorem opq_glob {W : World} {g : Nat} (h : ∃ v, W.cell? ⟨g, 0, none⟩ = some v ∧ (v = .nilIface ∨ ∃ u p, v = .iface u p)) : (g < W.heap.size ∧ ∀ cs, D.opq = .agg cs → ∃ cur e fz, W.heap[g]? = some (.cells cur e fz) ∧ cur.size = cs.length) ∧ ¬ False ∧ ∃ x', DRel W (fun _ => False) D.opq x' ∧ ∀ (i : Nat) (c : Value), x'.cells[i]? = some c → W.cell? ⟨g, i, none⟩ = some c := by
  obtain ⟨v, hv, hs⟩ := h
  refine ⟨⟨(cell?_lt hv).1, fun _ h => by cases h⟩, id, v, .opq v hs, fun i c hi => ?_⟩
  have h1 : v.cells = #[v] := by rcases hs with rfl | ⟨u, p, rfl⟩ <;> rfl
  rw [h1] at hi
  match i, hi with
  | 0, hi => simp at hi; subst hi; exact hv
  | i + 1, hi => simp at hi
theorem glob_ok {W : World} (hL : laidMetH Tryd.prog Rows.confLinesRow.laid W) (m : Int) (hm : W.cell? ⟨1, 0, none⟩ = some (.int .i64 m)) : GlobRel W (fun _ => False) (@ctx ⟨m⟩).gl := by
  rw [MakeChecks.laidMetH_plain _ _ _ (by kernel_rfl)] at hL
  intro x hx
  have hx' : x ∈ [((0 : Nat), D.agg (tab10.map fun z => .int .u64 z)), (1, .int .i64 m), (8, .opq), (9, .opq)] := hx
  simp only [List.mem_cons, List.not_mem_nil, or_false] at hx'
  rcases hx' with rfl | rfl | rfl | rfl
  · obtain ⟨a, b⟩ := glob_of_laid (name := "internal/strconv.uint64pow10") (n := 20) (e := 114) (t := 192) (g := 0) (k := .u64) (zs := tab10) hL space_in (by kernel_rfl) (by kernel_rfl) (by kernel_rfl) (by kernel_rfl) (by kernel_rfl) (by decide) (by kernel_rfl)
    exact ⟨a, id, b⟩
  · refine ⟨⟨(cell?_lt hm).1, fun _ h => by cases h⟩, id, .int .i64 m, .int _ _, fun i c hi => ?_⟩
    match i, hi with
    | 0, hi => simp [Value.cells] at hi; subst hi; exact hm
    | i + 1, hi => simp [Value.cells] at hi
  · obtain ⟨d, hd⟩ := op1_in
    exact opq_glob (opq_of_laid hL hd (by kernel_rfl) (by kernel_rfl) Tryd.underlying187)
  · obtain ⟨d, hd⟩ := op2_in
    exact opq_glob (opq_of_laid hL hd (by kernel_rfl) (by kernel_rfl) Tryd.underlying187)
theorem confLines_lifted (os : Os) (started : os.Started) (H : Type) (enc : TypeId × Value → H) :
    ReturnsInHanded {} Tryd.checked os 6 .any (fun w args => (Rows.confLinesSpec.pre enc Tryd.prog Tryd.f6 [] false w args ∧ laidMetH Tryd.prog Rows.confLinesRow.laid w) ∧ sizedMet enc Tryd.prog Tryd.f6 (OpenSpec.ofChange Rows.confLinesSpec) false w args)
      (Rows.confLinesSpec.post enc Tryd.prog Tryd.f6 false true false false) := by
  refine handed_of (C := Tryd.checked) (X := fun w _ => laidMetH Tryd.prog Rows.confLinesRow.laid w) (fun _ _ _ hh h => h.of_heap hh) Tryd.own started (by kernel_rfl) Tryd.func6
    (ChangeSpec.witness_shaped (enc := enc) (C := Tryd.checked) (os := os) (X := fun w _ => laidMetH Tryd.prog Rows.confLinesRow.laid w) false (World.laidAll Tryd.prog os Rows.confLinesRow.laid)
      #[.string .empty, .slice none 0 0] 8 (World.laidAll_os _ _ _) (World.shaped_of_ZipB (by kernel_rfl) (by kernel_rfl)) (by kernel_rfl) (by kernel_rfl) (by kernel_rfl) (door_met os _)) ?_
  intro W base args ds gs before hval hW hL hsh
  obtain ⟨m, hm⟩ := mx_of hsh
  letI : Inhabited Mx2 := ⟨m⟩
  refine law_contract (X := ctx) ctx_ok (n := 5) (tb := 4) Tryd.laidOut (by kernel_rfl) (by kernel_rfl) Tryd.underlying4 rfl ?_ hval hW (glob_ok hL m hm) ?_
  · intro ds hds
    match ds, hds with
    | [d1, d2], _ => rfl
  · intro xs hxs hty
    match xs, hxs with
    | [x1, x2], _ =>
      obtain ⟨s, rfl, _⟩ := typed_string Tryd.underlying9 (hty 0 9 x1 (by kernel_rfl) rfl)
      obtain ⟨xs, rfl, _, hxs⟩ := typed_slice Tryd.underlying51 (hty 1 51 x2 (by kernel_rfl) rfl)
      obtain ⟨M, rfl⟩ := list_map_of (f := fun z : Int => D.int .u8 z) (fun x hx => (typed_int Tryd.underlying5 (hxs x hx)).imp fun _ h => h.1)
      exact confLines_run s M
theorem confLines_holds : Rows.ConfLinesSaid :=
  OpenClaim.holds_of_wide 6 Tryd.f6 rfl rfl rfl rfl rfl rfl rfl ⟨rfl, rfl, rfl, rfl, rfl⟩ rfl rfl rfl rfl rfl (by kernel_rfl) Tryd.func6 (by kernel_rfl)
    (of_decide_eq_true (by kernel_rfl)) (by unfold Func.isWrapper; first | (rw [if_pos (by decide +kernel)]; kernel_rfl) | (rw [if_neg (by decide +kernel)]; exact ⟨rfl, rfl⟩))
    (fun os started H enc _ => confLines_lifted os started H enc)
theorem confLines_card_holds : Rows.ConfLinesCardSaid :=
  Claim7.holds_tied_plain_at .later [] [.data, .data, .data, .data, .sentinel, .sentinel, .pinned] true Rows.confLinesCard.stood.harness true
    confLines_holds (fun _ h => by cases h) (by kernel_rfl) (fun _ h => by cases h) confLines_row_tie rfl ⟨rfl, rfl⟩ (by kernel_rfl) rfl
    (fun f fn hf hfn => by
      obtain rfl : f = 6 := Option.some.inj ((show Tryd.prog.funcNamed "servitor/servitorlaw28.ConfLines" = some 6 by kernel_rfl).symm.trans hf) |>.symm
      obtain rfl : fn = Tryd.f6 := (Option.some.inj (Tryd.func6.symm.trans hfn)).symm
      exact ⟨by kernel_rfl, fun j t ht => by
        rw [Tryd.params6] at ht
        match j, ht with
        | 0, ht => (obtain rfl : t = 9 := by simpa using ht.symm); exact (show Tryd.prog.wantsStandIn 9 = false by kernel_rfl)
        | 1, ht => (obtain rfl : t = 51 := by simpa using ht.symm); exact (show Tryd.prog.wantsStandIn 51 = false by kernel_rfl)
        | j + 2, ht => simp at ht⟩)
    (by kernel_rfl)
#print axioms confLines_card_holds
end Go.Proofs.YtecknaklaleloaaDoor

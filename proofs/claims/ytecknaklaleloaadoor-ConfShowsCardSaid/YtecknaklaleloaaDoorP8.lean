/-
  The tied card of ConfShows is proved: the law returns true for every input and leaves its argument as it was. Conditions: those of the row itself (the listed package variables start as the program lays them).
-/
import Derived.Test.YtecknaklaleloaaDoorP7
import Derived.Test.YtecknaklaleloaaDoorRows
import Derived.Test.YtecknaklaleloaaDoorCards
import Derived.Test.YtecknaklaleloaaDoorTie
import Derived.JoinedOf
import Derived.LaidMore
import Derived.LaidHandle
import Derived.SevenTiedAt
import Derived.Lay
set_option linter.all false
namespace Go.Proofs.YtecknaklaleloaaDoor
open Go Go.Am
set_option maxRecDepth 100000
theorem Tryd.own : ownKnob Tryd.prog.godebug = none := by kernel_rfl
theorem Tryd.laidOut : laidOutB Tryd.prog = true := by kernel_rfl
theorem ctx_ok [Inhabited Mx2] : CtxOk ctx := CtxOk.of (by kernel_rfl) orcs_ok
theorem door_met (os : Os) (args : Array Value) : laidMetH Tryd.prog Rows.confShowsRow.laid ((World.laidAll Tryd.prog os Rows.confShowsRow.laid).forCall (fun _ _ => 0) ⟨#[], args, []⟩).memory := by
  rw [MakeChecks.laidMetH_plain _ _ _ (by kernel_rfl)]; exact laidMet_laidAll _ (by kernel_rfl) (by kernel_rfl)
theorem limq_typed {n : Nat} {x : D} (hx : typed Tryd.prog (n + 2) 74 x) : ∃ l : Lim, x = limD l := by
  obtain ⟨ds, rfl, y0, d0, h0, ⟨y1, d1, h1, ⟨y2, d2, h2, ⟨y3, d3, h3, ⟨y4, d4, h4, rfl, rfl⟩, rfl⟩, rfl⟩, rfl⟩, rfl⟩ := typed_struct Tryd.underlying74 hx
  obtain ⟨a, rfl, _⟩ := typed_int Tryd.underlying2 h0
  obtain ⟨b, rfl, _⟩ := typed_int Tryd.underlying2 h1
  obtain ⟨c, rfl, _⟩ := typed_int Tryd.underlying2 h2
  obtain ⟨d, rfl, _⟩ := typed_int Tryd.underlying2 h3
  obtain ⟨e, rfl, _⟩ := typed_int Tryd.underlying2 h4
  exact ⟨⟨a, b, c, d, e⟩, rfl⟩
theorem axq_typed {n : Nat} {x : D} (hx : typed Tryd.prog (n + 3) 76 x) : ∃ a : Ax, x = axD a := by
  obtain ⟨ds, rfl, y0, d0, h0, ⟨y1, d1, h1, ⟨y2, d2, h2, ⟨y3, d3, h3, ⟨y4, d4, h4, ⟨y5, d5, h5, ⟨y6, d6, h6, ⟨y7, d7, h7, rfl, rfl⟩, rfl⟩, rfl⟩, rfl⟩, rfl⟩, rfl⟩, rfl⟩, rfl⟩ := typed_struct Tryd.underlying76 hx
  obtain ⟨l, rfl⟩ := limq_typed h0
  obtain ⟨a, rfl, _⟩ := typed_int Tryd.underlying3 h1
  obtain ⟨b, rfl, _⟩ := typed_int Tryd.underlying2 h2
  obtain ⟨c, rfl, _⟩ := typed_int Tryd.underlying2 h3
  obtain ⟨d, rfl, _⟩ := typed_int Tryd.underlying2 h4
  obtain ⟨e, rfl, _⟩ := typed_int Tryd.underlying3 h5
  obtain ⟨f, rfl, _⟩ := typed_int Tryd.underlying3 h6
  obtain ⟨g, rfl, _⟩ := typed_int Tryd.underlying2 h7
  exact ⟨⟨l, a, b, c, d, e, f, g⟩, rfl⟩
theorem cnq_typed {x : D} (hx : typed Tryd.prog 5 44 x) : ∃ c : Cn, x = cnD c := by
  obtain ⟨ds, rfl, y0, d0, h0, ⟨y1, d1, h1, rfl, rfl⟩, rfl⟩ := typed_struct Tryd.underlying44 hx
  obtain ⟨v, rfl, _⟩ := typed_int Tryd.underlying3 h0
  obtain ⟨xs, rfl, _, hxs⟩ := typed_slice Tryd.underlying42 h1
  obtain ⟨l, rfl⟩ := list_map_of (f := axD) (fun x hx => axq_typed (hxs x hx))
  exact ⟨⟨v, l⟩, rfl⟩
theorem space_in : ("internal/strconv.uint64pow10", DataW.agg (tab10.map fun z => .lit (.int .u64 z))) ∈ (Rows.confShowsRow.laid : List (String × DataW Unit)) := by
  have h : (Rows.confShowsRow.laid : List (String × DataW Unit))[2]? = some ("internal/strconv.uint64pow10", DataW.agg (tab10.map fun z => .lit (.int .u64 z))) := by kernel_rfl
  exact List.mem_of_getElem? h
theorem mx_of {W : World} (h : W.ShapedOpen Tryd.prog) : ∃ m, W.cell? ⟨1, 0, none⟩ = some (.int .i64 m) :=
  cell_of_shapedOpen_int (t := 3) (zero := #[.int .i64 0]) h (of_decide_eq_true (by kernel_rfl)) (by kernel_rfl) rfl (by kernel_rfl) (by kernel_rfl) (by kernel_rfl)
theorem op1_in : ∃ d, ("strconv.ErrSyntax", d) ∈ (Rows.confShowsRow.laid : List (String × DataW Unit)) := by
  have h : ((Rows.confShowsRow.laid : List (String × DataW Unit))[5]?).map (·.1) = some "strconv.ErrSyntax" := by kernel_rfl
  obtain ⟨⟨n, d⟩, h1, h2⟩ := Option.map_eq_some_iff.1 h
  simp only at h2
  subst h2
  exact ⟨d, List.mem_of_getElem? h1⟩
theorem op2_in : ∃ d, ("strconv.ErrRange", d) ∈ (Rows.confShowsRow.laid : List (String × DataW Unit)) := by
  have h : ((Rows.confShowsRow.laid : List (String × DataW Unit))[4]?).map (·.1) = some "strconv.ErrRange" := by kernel_rfl
  obtain ⟨⟨n, d⟩, h1, h2⟩ := Option.map_eq_some_iff.1 h
  simp only at h2
  subst h2
  exact ⟨d, List.mem_of_getElem? h1⟩
theorem opq_glob {W : World} {g : Nat} (h : ∃ v, W.cell? ⟨g, 0, none⟩ = some v ∧ (v = .nilIface ∨ ∃ u p, v = .iface u p)) : (g < W.heap.size ∧ ∀ cs, D.opq = .agg cs → ∃ cur e fz, W.heap[g]? = some (.cells cur e fz) ∧ cur.size = cs.length) ∧ ¬ False ∧ ∃ x', DRel W (fun _ => False) D.opq x' ∧ ∀ (i : Nat) (c : Value), x'.cells[i]? = some c → W.cell? ⟨g, i, none⟩ = some c := by
  obtain ⟨v, hv, hs⟩ := h
  refine ⟨⟨(cell?_lt hv).1, fun _ h => by cases h⟩, id, v, .opq v hs, fun i c hi => ?_⟩
  have h1 : v.cells = #[v] := by rcases hs with rfl | ⟨u, p, rfl⟩ <;> rfl
  rw [h1] at hi
  match i, hi with
  | 0, hi => simp at hi; subst hi; exact hv
  | i + 1, hi => simp at hi
theorem glob_ok {W : World} (hL : laidMetH Tryd.prog Rows.confShowsRow.laid W) (m : Int) (hm : W.cell? ⟨1, 0, none⟩ = some (.int .i64 m)) : GlobRel W (fun _ => False) (@ctx ⟨m⟩).gl := by
  rw [MakeChecks.laidMetH_plain _ _ _ (by kernel_rfl)] at hL
  intro x hx
  have hx' : x ∈ [((0 : Nat), D.agg (tab10.map fun z => .int .u64 z)), (1, .int .i64 m), (8, .opq), (9, .opq)] := hx
  simp only [List.mem_cons, List.not_mem_nil, or_false] at hx'
  rcases hx' with rfl | rfl | rfl | rfl
  · obtain ⟨a, b⟩ := glob_of_laid (name := "internal/strconv.uint64pow10") (n := 20) (e := 114) (t := 192) (g := 0) (k := .u64) (zs := tab10) hL space_in (by kernel_rfl) (by kernel_rfl) (by kernel_rfl) (by kernel_rfl) (by kernel_rfl) (by decide) (by kernel_rfl)
    exact ⟨a, id, b⟩
  · refine ⟨⟨(cell?_lt hm).1, fun _ h => by cases h⟩, id, .int .i64 m, .int _ _, fun i c hi => ?_⟩
    match i, hi with
    | 0, hi => simp [Value.cells] at hi; subst hi; exact hm
    | i + 1, hi => simp [Value.cells] at hi
  · obtain ⟨d, hd⟩ := op1_in
    exact opq_glob (opq_of_laid hL hd (by kernel_rfl) (by kernel_rfl) Tryd.underlying187)
  · obtain ⟨d, hd⟩ := op2_in
    exact opq_glob (opq_of_laid hL hd (by kernel_rfl) (by kernel_rfl) Tryd.underlying187)
theorem confShows_lifted (os : Os) (started : os.Started) (H : Type) (enc : TypeId × Value → H) :
    ReturnsInHanded {} Tryd.checked os 9 .any (fun w args => (Rows.confShowsSpec.pre enc Tryd.prog Tryd.f9 [] false w args ∧ laidMetH Tryd.prog Rows.confShowsRow.laid w) ∧ sizedMet enc Tryd.prog Tryd.f9 (OpenSpec.ofChange Rows.confShowsSpec) false w args)
      (Rows.confShowsSpec.post enc Tryd.prog Tryd.f9 false true false false) := by
  refine handed_of (C := Tryd.checked) (X := fun w _ => laidMetH Tryd.prog Rows.confShowsRow.laid w) (fun _ _ _ hh h => h.of_heap hh) Tryd.own started (by kernel_rfl) Tryd.func9
    (ChangeSpec.witness_shaped (enc := enc) (C := Tryd.checked) (os := os) (X := fun w _ => laidMetH Tryd.prog Rows.confShowsRow.laid w) false (World.laidAll Tryd.prog os Rows.confShowsRow.laid)
      #[.agg #[.int .i64 0, .slice none 0 0]] 8 (World.laidAll_os _ _ _) (World.shaped_of_ZipB (by kernel_rfl) (by kernel_rfl)) (by kernel_rfl) (by kernel_rfl) (by kernel_rfl) (door_met os _)) ?_
  intro W base args ds gs before hval hW hL hsh
  obtain ⟨m, hm⟩ := mx_of hsh
  letI : Inhabited Mx2 := ⟨m⟩
  refine law_contract (X := ctx) ctx_ok (n := 5) (tb := 4) Tryd.laidOut (by kernel_rfl) (by kernel_rfl) Tryd.underlying4 rfl ?_ hval hW (glob_ok hL m hm) ?_
  · intro ds hds
    match ds, hds with
    | [d1], _ => rfl
  · intro xs hxs hty
    match xs, hxs with
    | [x1], _ =>
      obtain ⟨c, rfl⟩ := cnq_typed (hty 0 44 x1 (by kernel_rfl) rfl)
      exact confShows_run c
theorem confShows_holds : Rows.ConfShowsSaid :=
  OpenClaim.holds_of_wide 9 Tryd.f9 rfl rfl rfl rfl rfl rfl rfl ⟨rfl, rfl, rfl, rfl, rfl⟩ rfl rfl rfl rfl rfl (by kernel_rfl) Tryd.func9 (by kernel_rfl)
    (of_decide_eq_true (by kernel_rfl)) (by unfold Func.isWrapper; first | (rw [if_pos (by decide +kernel)]; kernel_rfl) | (rw [if_neg (by decide +kernel)]; exact ⟨rfl, rfl⟩))
    (fun os started H enc _ => confShows_lifted os started H enc)
theorem confShows_card_holds : Rows.ConfShowsCardSaid :=
  Claim7.holds_tied_plain_at .later [] [.data, .data, .data, .data, .sentinel, .sentinel, .pinned] true Rows.confShowsCard.stood.harness true
    confShows_holds (fun _ h => by cases h) (by kernel_rfl) (fun _ h => by cases h) confShows_row_tie rfl ⟨rfl, rfl⟩ (by kernel_rfl) rfl
    (fun f fn hf hfn => by
      obtain rfl : f = 9 := Option.some.inj ((show Tryd.prog.funcNamed "servitor/servitorlaw28.ConfShows" = some 9 by kernel_rfl).symm.trans hf) |>.symm
      obtain rfl : fn = Tryd.f9 := (Option.some.inj (Tryd.func9.symm.trans hfn)).symm
      exact ⟨by kernel_rfl, fun j t ht => by
        rw [Tryd.params9] at ht
        match j, ht with
        | 0, ht => (obtain rfl : t = 44 := by simpa using ht.symm); exact (show Tryd.prog.wantsStandIn 44 = false by kernel_rfl)
        | j + 1, ht => simp at ht⟩)
    (by kernel_rfl)
#print axioms confShows_card_holds
end Go.Proofs.YtecknaklaleloaaDoor

/-
  The tied card of ImageSpoilt is proved: the law returns true for every input and leaves its arguments as they were. Conditions: those of the row itself (the listed package variables start as the program lays them).
-/
import Derived.Test.YtgcpbkbmnkjlkaaDoorP7
import Derived.Test.YtgcpbkbmnkjlkaaDoorRows
import Derived.Test.YtgcpbkbmnkjlkaaDoorCards
import Derived.Test.YtgcpbkbmnkjlkaaDoorTie
import Derived.JoinedOf
import Derived.LaidMore
import Derived.LaidHandle
import Derived.SevenTiedAt
set_option linter.all false
namespace Go.Proofs.YtgcpbkbmnkjlkaaDoor
open Go Go.Am
set_option maxRecDepth 100000

theorem Tryd.own : ownKnob Tryd.prog.godebug = none := by kernel_rfl
theorem Tryd.laidOut : laidOutB Tryd.prog = true := by kernel_rfl
theorem ctx_ok [Inhabited Mx2] : CtxOk ctx := CtxOk.of (by kernel_rfl) orcs_ok
theorem door_met (os : Os) (args : Array Value) : laidMetH Tryd.prog Rows.imageSpoiltRow.laid ((World.doorLaid Tryd.prog 33 os).forCall (fun _ _ => 0) ⟨#[], args, []⟩).memory :=
  laidMetH_of_parts3 (fuel := 8) (laidMet_of_run' 8 (by kernel_rfl) (by kernel_rfl)) (by kernel_rfl) (by kernel_rfl)
theorem wf_of {z : Int} {t : TypeId} (h : (Lit.int .i64 z).wf = true) : WfI z := by
  simp [Lit.wf, IntKind.max, IntKind.min, IntKind.bits, IntKind.signed] at h
  unfold WfI
  omega
theorem insw_typed {n : Nat} {x : D} (hx : typed Tryd.prog (n + 2) 28 x) : ∃ i : Ins, x = insD i ∧ WfIns i := by
  obtain ⟨ds, rfl, y0, d0, h0, ⟨y1, d1, h1, ⟨y2, d2, h2, ⟨y3, d3, h3, ⟨y4, d4, h4, rfl, rfl⟩, rfl⟩, rfl⟩, rfl⟩, rfl⟩ := typed_struct Tryd.underlying28 hx
  obtain ⟨o, rfl, _⟩ := typed_int Tryd.underlying3 h0
  obtain ⟨a, rfl, ha⟩ := typed_int Tryd.underlying3 h1
  obtain ⟨b, rfl, hb⟩ := typed_int Tryd.underlying3 h2
  obtain ⟨n, rfl, hn⟩ := typed_int Tryd.underlying2 h3
  obtain ⟨m, rfl, hm⟩ := typed_int Tryd.underlying2 h4
  exact ⟨⟨o, a, b, n, m⟩, rfl, wf_of (t := 3) ha, wf_of (t := 3) hb, wf_of (t := 2) hn, wf_of (t := 2) hm⟩
theorem codew_typed {x : D} (hx : typed Tryd.prog 5 24 x) : ∃ ins vars cells, x = codeD ins vars cells ∧ ∀ i ∈ ins, WfIns i := by
  obtain ⟨ds, rfl, y0, d0, h0, ⟨y1, d1, h1, ⟨y2, d2, h2, rfl, rfl⟩, rfl⟩, rfl⟩ := typed_struct Tryd.underlying24 hx
  obtain ⟨xs, rfl, _, hxs⟩ := typed_slice Tryd.underlying22 h0
  obtain ⟨v, rfl, _⟩ := typed_int Tryd.underlying3 h1
  obtain ⟨c, rfl, _⟩ := typed_int Tryd.underlying3 h2
  obtain ⟨ins, rfl⟩ := list_map_of (f := insD) (fun x hx => (insw_typed (hxs x hx)).imp fun _ h => h.1)
  refine ⟨ins, v, c, rfl, fun i hi => ?_⟩
  obtain ⟨j, e, hj⟩ := insw_typed (hxs (insD i) (List.mem_map_of_mem hi))
  simp only [insD, D.agg.injEq, List.cons.injEq, D.int.injEq, true_and, and_true] at e
  obtain ⟨e0, e1, e2, e3, e4⟩ := e
  have : i = j := by cases i; cases j; simp_all
  rw [this]; exact hj
theorem byte_typed {x : D} (hx : typed Tryd.prog 5 5 x) : ∃ c : UInt8, x = .int .u8 c.toNat := by
  obtain ⟨z, rfl, hz⟩ := typed_int Tryd.underlying5 hx
  simp [Lit.wf, IntKind.max, IntKind.min, IntKind.bits, IntKind.signed] at hz
  refine ⟨UInt8.ofNat z.toNat, ?_⟩
  have : (UInt8.ofNat z.toNat).toNat = z.toNat := by simp; omega
  rw [this]
  congr 1
  omega
theorem space_in : ("strings.asciiSpace", DataW.agg (tab0.map fun z => .lit (.int .u8 z))) ∈ (Rows.imageSpoiltRow.laid : List (String × DataW Unit)) := by
  have h : (Rows.imageSpoiltRow.laid : List (String × DataW Unit)) = [("unicode.White_Space", Rows.laid_unicode_White_Space), ("strings.asciiSpace", DataW.agg (tab0.map fun z => .lit (.int .u8 z)))] := by kernel_rfl
  rw [h]
  exact List.mem_cons_of_mem _ (List.mem_singleton.2 rfl)
theorem mx_of {W : World} (h : W.ShapedOpen Tryd.prog) : ∃ m, W.cell? ⟨2, 0, none⟩ = some (.int .i64 m) :=
  cell_of_shapedOpen_int (t := 3) (zero := #[.int .i64 0]) h (of_decide_eq_true (by kernel_rfl)) (by kernel_rfl) rfl (by kernel_rfl) (by kernel_rfl) (by kernel_rfl)
theorem glob_ok {W : World} (hL : laidMetH Tryd.prog Rows.imageSpoiltRow.laid W) (m : Int) (hm : W.cell? ⟨2, 0, none⟩ = some (.int .i64 m)) : GlobRel W (fun _ => False) (@ctx ⟨m⟩).gl := by
  rw [MakeChecks.laidMetH_plain _ _ _ (by kernel_rfl)] at hL
  intro x hx
  have hx' : x ∈ [((0 : Nat), D.agg (tab0.map fun z => .int .u8 z)), (2, .int .i64 m)] := hx
  simp only [List.mem_cons, List.not_mem_nil, or_false] at hx'
  rcases hx' with rfl | rfl
  · obtain ⟨a, b⟩ := glob_of_laid (name := "strings.asciiSpace") (n := 256) (e := 5) (t := 137) (g := 0) (k := .u8) (zs := tab0) hL space_in (by kernel_rfl) (by kernel_rfl) (by kernel_rfl) (by kernel_rfl) (by kernel_rfl) (by decide)
    exact ⟨a, id, b⟩
  · refine ⟨(cell?_lt hm).1, id, .int .i64 m, .int _ _, fun i c hi => ?_⟩
    match i, hi with
    | 0, hi => simp [Value.cells] at hi; subst hi; exact hm
    | i + 1, hi => simp [Value.cells] at hi

theorem imageSpoilt_lifted (os : Os) (started : os.Started) (H : Type) (enc : TypeId × Value → H) :
    ReturnsInHanded {} Tryd.checked os 12 .any (fun w args => (Rows.imageSpoiltSpec.pre enc Tryd.prog Tryd.f12 [] false w args ∧ laidMetH Tryd.prog Rows.imageSpoiltRow.laid w) ∧ sizedMet enc Tryd.prog Tryd.f12 (OpenSpec.ofChange Rows.imageSpoiltSpec) false w args)
      (Rows.imageSpoiltSpec.post enc Tryd.prog Tryd.f12 false true false false) := by
  refine handed_of (C := Tryd.checked) (X := fun w _ => laidMetH Tryd.prog Rows.imageSpoiltRow.laid w) (fun _ _ _ hh h => h.of_heap hh) Tryd.own started (by kernel_rfl) Tryd.func12
    (ChangeSpec.witness_shaped (enc := enc) (C := Tryd.checked) (os := os) (X := fun w _ => laidMetH Tryd.prog Rows.imageSpoiltRow.laid w) false (World.doorLaid Tryd.prog 33 os)
      #[.agg #[.slice none 0 0, .int .i64 0, .int .i64 0], .int .i64 0, .int .u8 0, .int .u8 0] 8 rfl (World.shaped_of_RefB (by kernel_rfl) (by kernel_rfl)) (by kernel_rfl) (by kernel_rfl) (by kernel_rfl) (door_met os _)) ?_
  intro W base args ds gs before hval hW hL hsh
  obtain ⟨m, hm⟩ := mx_of hsh
  letI : Inhabited Mx2 := ⟨m⟩
  refine law_contract (X := ctx) ctx_ok (n := 5) (tb := 4) Tryd.laidOut (by kernel_rfl) (by kernel_rfl) Tryd.underlying4 rfl ?_ hval hW (glob_ok hL m hm) ?_
  · intro ds hds
    match ds, hds with
    | [d1, d2, d3, d4], _ => rfl
  · intro xs hxs hty
    match xs, hxs with
    | [x1, x2, x3, x4], _ =>
      obtain ⟨ci, vc, cc, rfl, hw⟩ := codew_typed (hty 0 24 x1 (by kernel_rfl) rfl)
      obtain ⟨at_, rfl, _⟩ := typed_int Tryd.underlying3 (hty 1 3 x2 (by kernel_rfl) rfl)
      obtain ⟨x, rfl⟩ := byte_typed (hty 2 5 x3 (by kernel_rfl) rfl)
      obtain ⟨y, rfl⟩ := byte_typed (hty 3 5 x4 (by kernel_rfl) rfl)
      exact imageSpoilt_run ci vc cc at_ x y

theorem imageSpoilt_holds : Rows.ImageSpoiltSaid :=
  OpenClaim.holds_of_wide 12 Tryd.f12 rfl rfl rfl rfl rfl rfl rfl ⟨rfl, rfl, rfl, rfl, rfl⟩ rfl rfl rfl rfl rfl (by kernel_rfl) Tryd.func12 (by kernel_rfl)
    (of_decide_eq_true (by kernel_rfl)) (by unfold Func.isWrapper; first | (rw [if_pos (by decide +kernel)]; kernel_rfl) | (rw [if_neg (by decide +kernel)]; exact ⟨rfl, rfl⟩))
    (fun os started H enc _ => imageSpoilt_lifted os started H enc)

theorem imageSpoilt_card_holds : Rows.ImageSpoiltCardSaid :=
  Claim7.holds_tied_plain_at .later [] [.listed, .data] true Rows.imageSpoiltCard.stood.harness false
    imageSpoilt_holds (fun _ h => by cases h) (by kernel_rfl) (fun _ h => by cases h) imageSpoilt_row_tie rfl ⟨rfl, rfl⟩ (by kernel_rfl) rfl
    (fun f fn hf hfn => by
      obtain rfl : f = 12 := Option.some.inj ((show Tryd.prog.funcNamed "servitor/servitorlaw31.ImageSpoilt" = some 12 by kernel_rfl).symm.trans hf) |>.symm
      obtain rfl : fn = Tryd.f12 := (Option.some.inj (Tryd.func12.symm.trans hfn)).symm
      exact ⟨by kernel_rfl, fun j t ht => by
        rw [Tryd.params12] at ht
        match j, ht with
        | 0, ht => (obtain rfl : t = 24 := by simpa using ht.symm); exact (show Tryd.prog.wantsStandIn 24 = false by kernel_rfl)
        | 1, ht => (obtain rfl : t = 3 := by simpa using ht.symm); exact (show Tryd.prog.wantsStandIn 3 = false by kernel_rfl)
        | 2, ht => (obtain rfl : t = 5 := by simpa using ht.symm); exact (show Tryd.prog.wantsStandIn 5 = false by kernel_rfl)
        | 3, ht => (obtain rfl : t = 5 := by simpa using ht.symm); exact (show Tryd.prog.wantsStandIn 5 = false by kernel_rfl)
        | j + 4, ht => simp at ht⟩)
    (by kernel_rfl)
#print axioms imageSpoilt_card_holds
end Go.Proofs.YtgcpbkbmnkjlkaaDoor

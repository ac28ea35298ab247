/-
  The tied card of PeepSame is proved: the law returns true for every input and leaves its arguments as they were. Conditions: those of the row itself (the listed package variables start as the program lays them).
-/
import Derived.Test.YtmlboljlgaaebaaGreatDoorP9
import Derived.Test.YtmlboljlgaaebaaGreatDoorRows
import Derived.Test.YtmlboljlgaaebaaGreatDoorCards
import Derived.Test.YtmlboljlgaaebaaGreatDoorTie
import Derived.JoinedOf
import Derived.LaidMore
import Derived.LaidHandle
import Derived.SevenTiedAt
set_option linter.all false
namespace Go.Proofs.YtmlboljlgaaebaaGreatDoor
open Go Go.Am
set_option maxRecDepth 100000

theorem Tryz.own : ownKnob Tryz.prog.godebug = none := by kernel_rfl
theorem Tryz.laidOut : laidOutB Tryz.prog = true := by kernel_rfl
theorem ctx_ok : CtxOk ctx := CtxOk.of (by kernel_rfl) orcs_ok
theorem door_met (os : Os) (args : Array Value) : laidMetH Tryz.prog Rows.peepSameRow.laid ((World.doorLaid Tryz.prog 33 os).forCall (fun _ _ => 0) ⟨#[], args, []⟩).memory :=
  laidMetH_of_parts3 (fuel := 8) (laidMet_of_run' 8 (by kernel_rfl) (by kernel_rfl)) (by kernel_rfl) (by kernel_rfl)
theorem i64_of_wf {z : Int} (h : (Lit.int .i64 z).wf = true) : I64 z := by
  simp only [Lit.wf, Bool.and_eq_true, decide_eq_true_eq] at h
  have h1 : IntKind.min .i64 = -9223372036854775808 := by rfl
  have h2 : IntKind.max .i64 = 9223372036854775807 := by rfl
  unfold I64
  omega
theorem list_map_p {α : Type} {f : α → D} {p : α → Prop} : ∀ {xs : List D}, (∀ x ∈ xs, ∃ r, x = f r ∧ p r) → ∃ rs : List α, xs = rs.map f ∧ ∀ r ∈ rs, p r
  | [], _ => ⟨[], rfl, by simp⟩
  | x :: xs, h => by
    obtain ⟨r, rfl, hp⟩ := h x (by simp)
    obtain ⟨rs, rfl, hps⟩ := list_map_p (xs := xs) (fun y hy => h y (by simp [hy]))
    exact ⟨r :: rs, rfl, by simpa using ⟨hp, hps⟩⟩
theorem insq_typed {n : Nat} {x : D} (hx : typed Tryz.prog (n + 2) 38 x) : ∃ i : Ins, x = insD i ∧ I64 i.n := by
  obtain ⟨ds, rfl, y0, d0, h0, ⟨y1, d1, h1, ⟨y2, d2, h2, ⟨y3, d3, h3, ⟨y4, d4, h4, rfl, rfl⟩, rfl⟩, rfl⟩, rfl⟩, rfl⟩ := typed_struct Tryz.underlying38 hx
  obtain ⟨o, rfl, _⟩ := typed_int Tryz.underlying3 h0
  obtain ⟨a, rfl, ha⟩ := typed_int Tryz.underlying3 h1
  obtain ⟨b, rfl, hb⟩ := typed_int Tryz.underlying3 h2
  obtain ⟨n, rfl, hn⟩ := typed_int Tryz.underlying2 h3
  obtain ⟨m, rfl, hm⟩ := typed_int Tryz.underlying2 h4
  exact ⟨⟨o, a, b, n, m⟩, rfl, i64_of_wf hn⟩
theorem codeq_typed {x : D} (hx : typed Tryz.prog 5 24 x) : ∃ ins vars cells, x = codeD ins vars cells ∧ InsOk ins := by
  obtain ⟨ds, rfl, y0, d0, h0, ⟨y1, d1, h1, ⟨y2, d2, h2, rfl, rfl⟩, rfl⟩, rfl⟩ := typed_struct Tryz.underlying24 hx
  obtain ⟨xs, rfl, _, hxs⟩ := typed_slice Tryz.underlying22 h0
  obtain ⟨v, rfl, _⟩ := typed_int Tryz.underlying3 h1
  obtain ⟨c, rfl, _⟩ := typed_int Tryz.underlying3 h2
  obtain ⟨ins, rfl, hi⟩ := list_map_p (f := insD) (p := fun i => I64 i.n) (fun x hx => insq_typed (hxs x hx))
  exact ⟨ins, v, c, rfl, hi⟩
theorem nums_typed {x : D} (hx : typed Tryz.prog 5 25 x) : ∃ C : List Int, x = .list (C.map jD) ∧ ∀ n ∈ C, I64 n := by
  obtain ⟨xs, rfl, _, hxs⟩ := typed_slice Tryz.underlying25 hx
  obtain ⟨C, rfl, hC⟩ := list_map_p (f := jD) (p := I64) (xs := xs) (fun x hx => by
    obtain ⟨n, rfl, hn⟩ := typed_int Tryz.underlying2 (hxs x hx)
    exact ⟨n, rfl, i64_of_wf hn⟩)
  exact ⟨C, rfl, hC⟩
theorem space_in : ("strings.asciiSpace", DataW.agg (tab0.map fun z => .lit (.int .u8 z))) ∈ (Rows.peepSameRow.laid : List (String × DataW Unit)) := by
  have h : (Rows.peepSameRow.laid : List (String × DataW Unit)) = [("unicode.White_Space", Rows.laid_unicode_White_Space), ("strings.asciiSpace", DataW.agg (tab0.map fun z => .lit (.int .u8 z)))] := by kernel_rfl
  rw [h]
  exact List.mem_cons_of_mem _ (List.mem_singleton.2 rfl)
theorem glob_ok {W : World} (hL : laidMetH Tryz.prog Rows.peepSameRow.laid W) : GlobRel W (fun _ => False) ctx.gl := by
  rw [MakeChecks.laidMetH_plain _ _ _ (by kernel_rfl)] at hL
  intro x hx
  have hx' : x ∈ [((0 : Nat), D.agg (tab0.map fun z => .int .u8 z))] := hx
  simp only [List.mem_cons, List.not_mem_nil, or_false] at hx'
  subst hx'
  obtain ⟨a, b⟩ := glob_of_laid (name := "strings.asciiSpace") (n := 256) (e := 5) (t := 126) (g := 0) (k := .u8) (zs := tab0) hL space_in (by kernel_rfl) (by kernel_rfl) (by kernel_rfl) (by kernel_rfl) (by kernel_rfl) (by decide)
  exact ⟨a, id, b⟩

theorem peepSame_lifted (os : Os) (started : os.Started) (H : Type) (enc : TypeId × Value → H) :
    ReturnsInHanded {} Tryz.checked os 3 .any (fun w args => (Rows.peepSameSpec.pre enc Tryz.prog Tryz.f3 [] false w args ∧ laidMetH Tryz.prog Rows.peepSameRow.laid w) ∧ sizedMet enc Tryz.prog Tryz.f3 (OpenSpec.ofChange Rows.peepSameSpec) false w args)
      (Rows.peepSameSpec.post enc Tryz.prog Tryz.f3 false true false false) := by
  refine handed_of (C := Tryz.checked) (X := fun w _ => laidMetH Tryz.prog Rows.peepSameRow.laid w) (fun _ _ _ hh h => h.of_heap hh) Tryz.own started (by kernel_rfl) Tryz.func3
    (ChangeSpec.witness_shaped (enc := enc) (C := Tryz.checked) (os := os) (X := fun w _ => laidMetH Tryz.prog Rows.peepSameRow.laid w) false (World.doorLaid Tryz.prog 33 os)
      #[.agg #[.slice none 0 0, .int .i64 0, .int .i64 0], .slice none 0 0, .int .i64 0] 8 rfl (World.shaped_of_RefB (by kernel_rfl) (by kernel_rfl)) (by kernel_rfl) (by kernel_rfl) (by kernel_rfl) (door_met os _)) ?_
  intro W base args ds gs before hval hW hL hsh
  refine law_contract (X := ctx) ctx_ok (n := 5) (tb := 4) Tryz.laidOut (by kernel_rfl) (by kernel_rfl) Tryz.underlying4 rfl ?_ hval hW (glob_ok hL) ?_
  · intro ds hds
    match ds, hds with
    | [d1, d2, d3], _ => rfl
  · intro xs hxs hty
    match xs, hxs with
    | [x1, x2, x3], _ =>
      obtain ⟨ci, vc, cc, rfl, hci⟩ := codeq_typed (hty 0 24 x1 (by kernel_rfl) rfl)
      obtain ⟨C, rfl, hC⟩ := nums_typed (hty 1 25 x2 (by kernel_rfl) rfl)
      obtain ⟨fu, rfl, _⟩ := typed_int Tryz.underlying3 (hty 2 3 x3 (by kernel_rfl) rfl)
      exact peepSame_run ci vc cc C fu hci hC

theorem peepSame_holds : Rows.PeepSameSaid :=
  OpenClaim.holds_of_wide 3 Tryz.f3 rfl rfl rfl rfl rfl rfl rfl ⟨rfl, rfl, rfl, rfl, rfl⟩ rfl rfl rfl rfl rfl (by kernel_rfl) Tryz.func3 (by kernel_rfl)
    (of_decide_eq_true (by kernel_rfl)) (by unfold Func.isWrapper; first | (rw [if_pos (by decide +kernel)]; kernel_rfl) | (rw [if_neg (by decide +kernel)]; exact ⟨rfl, rfl⟩))
    (fun os started H enc _ => peepSame_lifted os started H enc)

theorem peepSame_card_holds : Rows.PeepSameCardSaid :=
  Claim7.holds_tied_plain_at .later [] [.listed, .data] true Rows.peepSameCard.stood.harness false
    peepSame_holds (fun _ h => by cases h) (by kernel_rfl) (fun _ h => by cases h) peepSame_row_tie rfl ⟨rfl, rfl⟩ (by kernel_rfl) rfl
    (fun f fn hf hfn => by
      obtain rfl : f = 3 := Option.some.inj ((show Tryz.prog.funcNamed "servitor/servitorlaw32.PeepSame" = some 3 by kernel_rfl).symm.trans hf) |>.symm
      obtain rfl : fn = Tryz.f3 := (Option.some.inj (Tryz.func3.symm.trans hfn)).symm
      exact ⟨by kernel_rfl, fun j t ht => by
        rw [Tryz.params3] at ht
        match j, ht with
        | 0, ht => (obtain rfl : t = 24 := by simpa using ht.symm); exact (show Tryz.prog.wantsStandIn 24 = false by kernel_rfl)
        | 1, ht => (obtain rfl : t = 25 := by simpa using ht.symm); exact (show Tryz.prog.wantsStandIn 25 = false by kernel_rfl)
        | 2, ht => (obtain rfl : t = 3 := by simpa using ht.symm); exact (show Tryz.prog.wantsStandIn 3 = false by kernel_rfl)
        | j + 3, ht => simp at ht⟩)
    (by kernel_rfl)
#print axioms peepSame_card_holds
end Go.Proofs.YtmlboljlgaaebaaGreatDoor

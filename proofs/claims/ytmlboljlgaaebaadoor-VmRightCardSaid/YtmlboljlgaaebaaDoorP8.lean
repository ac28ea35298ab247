/-
  The tied card of VmRight is proved: the law returns true for every input and leaves its arguments as they were. Conditions: those of the row itself (the listed package variables start as the program lays them).
-/
import Derived.Test.YtmlboljlgaaebaaDoorP7
import Derived.Test.YtmlboljlgaaebaaDoorRows
import Derived.Test.YtmlboljlgaaebaaDoorCards
import Derived.Test.YtmlboljlgaaebaaDoorTie
import Derived.JoinedOf
import Derived.LaidMore
import Derived.LaidHandle
import Derived.SevenTiedAt
set_option linter.all false
namespace Go.Proofs.YtmlboljlgaaebaaDoor
open Go Go.Am
set_option maxRecDepth 100000

theorem Tryd.own : ownKnob Tryd.prog.godebug = none := by kernel_rfl
theorem Tryd.laidOut : laidOutB Tryd.prog = true := by kernel_rfl
theorem ctx_ok : CtxOk ctx := CtxOk.of (by kernel_rfl) orcs_ok
theorem door_met (os : Os) (args : Array Value) : laidMetH Tryd.prog Rows.vmRightRow.laid ((World.doorLaid Tryd.prog 33 os).forCall (fun _ _ => 0) ⟨#[], args, []⟩).memory :=
  laidMetH_of_parts3 (fuel := 8) (laidMet_of_run' 8 (by kernel_rfl) (by kernel_rfl)) (by kernel_rfl) (by kernel_rfl)
theorem i64_of_wf {z : Int} (h : (Lit.int .i64 z).wf = true) : I64 z := by
  simp only [Lit.wf, Bool.and_eq_true, decide_eq_true_eq] at h
  have h1 : IntKind.min .i64 = -9223372036854775808 := by rfl
  have h2 : IntKind.max .i64 = 9223372036854775807 := by rfl
  unfold I64
  omega
theorem list_map_p {α : Type} {f : α → D} {p : α → Prop} : ∀ {xs : List D}, (∀ x ∈ xs, ∃ r, x = f r ∧ p r) → ∃ rs : List α, xs = rs.map f ∧ ∀ r ∈ rs, p r
  | [], _ => ⟨[], rfl, by simp⟩
  | x :: xs, h => by
    obtain ⟨r, rfl, hp⟩ := h x (by simp)
    obtain ⟨rs, rfl, hps⟩ := list_map_p (xs := xs) (fun y hy => h y (by simp [hy]))
    exact ⟨r :: rs, rfl, by simpa using ⟨hp, hps⟩⟩
theorem insq_typed {n : Nat} {x : D} (hx : typed Tryd.prog (n + 2) 31 x) : ∃ i : Ins, x = insD i ∧ I64 i.n := by
  obtain ⟨ds, rfl, y0, d0, h0, ⟨y1, d1, h1, ⟨y2, d2, h2, ⟨y3, d3, h3, ⟨y4, d4, h4, rfl, rfl⟩, rfl⟩, rfl⟩, rfl⟩, rfl⟩ := typed_struct Tryd.underlying31 hx
  obtain ⟨o, rfl, _⟩ := typed_int Tryd.underlying3 h0
  obtain ⟨a, rfl, ha⟩ := typed_int Tryd.underlying3 h1
  obtain ⟨b, rfl, hb⟩ := typed_int Tryd.underlying3 h2
  obtain ⟨n, rfl, hn⟩ := typed_int Tryd.underlying2 h3
  obtain ⟨m, rfl, hm⟩ := typed_int Tryd.underlying2 h4
  exact ⟨⟨o, a, b, n, m⟩, rfl, i64_of_wf hn⟩
theorem codeq_typed {x : D} (hx : typed Tryd.prog 5 24 x) : ∃ ins vars cells, x = codeD ins vars cells ∧ InsOk ins := by
  obtain ⟨ds, rfl, y0, d0, h0, ⟨y1, d1, h1, ⟨y2, d2, h2, rfl, rfl⟩, rfl⟩, rfl⟩ := typed_struct Tryd.underlying24 hx
  obtain ⟨xs, rfl, _, hxs⟩ := typed_slice Tryd.underlying22 h0
  obtain ⟨v, rfl, _⟩ := typed_int Tryd.underlying3 h1
  obtain ⟨c, rfl, _⟩ := typed_int Tryd.underlying3 h2
  obtain ⟨ins, rfl, hi⟩ := list_map_p (f := insD) (p := fun i => I64 i.n) (fun x hx => insq_typed (hxs x hx))
  exact ⟨ins, v, c, rfl, hi⟩
theorem nums_typed {x : D} (hx : typed Tryd.prog 5 34 x) : ∃ C : List Int, x = .list (C.map jD) ∧ ∀ n ∈ C, I64 n := by
  obtain ⟨xs, rfl, _, hxs⟩ := typed_slice Tryd.underlying34 hx
  obtain ⟨C, rfl, hC⟩ := list_map_p (f := jD) (p := I64) (xs := xs) (fun x hx => by
    obtain ⟨n, rfl, hn⟩ := typed_int Tryd.underlying2 (hxs x hx)
    exact ⟨n, rfl, i64_of_wf hn⟩)
  exact ⟨C, rfl, hC⟩
theorem space_in : ("strings.asciiSpace", DataW.agg (tab0.map fun z => .lit (.int .u8 z))) ∈ (Rows.vmRightRow.laid : List (String × DataW Unit)) := by
  have h : (Rows.vmRightRow.laid : List (String × DataW Unit)) = [("unicode.White_Space", Rows.laid_unicode_White_Space), ("strings.asciiSpace", DataW.agg (tab0.map fun z => .lit (.int .u8 z)))] := by kernel_rfl
  rw [h]
  exact List.mem_cons_of_mem _ (List.mem_singleton.2 rfl)
theorem glob_ok {W : World} (hL : laidMetH Tryd.prog Rows.vmRightRow.laid W) : GlobRel W (fun _ => False) ctx.gl := by
  rw [MakeChecks.laidMetH_plain _ _ _ (by kernel_rfl)] at hL
  intro x hx
  have hx' : x ∈ [((0 : Nat), D.agg (tab0.map fun z => .int .u8 z))] := hx
  simp only [List.mem_cons, List.not_mem_nil, or_false] at hx'
  subst hx'
  obtain ⟨a, b⟩ := glob_of_laid (name := "strings.asciiSpace") (n := 256) (e := 5) (t := 127) (g := 0) (k := .u8) (zs := tab0) hL space_in (by kernel_rfl) (by kernel_rfl) (by kernel_rfl) (by kernel_rfl) (by kernel_rfl) (by decide)
  exact ⟨a, id, b⟩

theorem vmRight_lifted (os : Os) (started : os.Started) (H : Type) (enc : TypeId × Value → H) :
    ReturnsInHanded {} Tryd.checked os 4 .any (fun w args => (Rows.vmRightSpec.pre enc Tryd.prog Tryd.f4 [] false w args ∧ laidMetH Tryd.prog Rows.vmRightRow.laid w) ∧ sizedMet enc Tryd.prog Tryd.f4 (OpenSpec.ofChange Rows.vmRightSpec) false w args)
      (Rows.vmRightSpec.post enc Tryd.prog Tryd.f4 false true false false) := by
  refine handed_of (C := Tryd.checked) (X := fun w _ => laidMetH Tryd.prog Rows.vmRightRow.laid w) (fun _ _ _ hh h => h.of_heap hh) Tryd.own started (by kernel_rfl) Tryd.func4
    (ChangeSpec.witness_shaped (enc := enc) (C := Tryd.checked) (os := os) (X := fun w _ => laidMetH Tryd.prog Rows.vmRightRow.laid w) false (World.doorLaid Tryd.prog 33 os)
      #[.agg #[.slice none 0 0, .int .i64 0, .int .i64 0], .slice none 0 0, .int .i64 0] 8 rfl (World.shaped_of_RefB (by kernel_rfl) (by kernel_rfl)) (by kernel_rfl) (by kernel_rfl) (by kernel_rfl) (door_met os _)) ?_
  intro W base args ds gs before hval hW hL hsh
  refine law_contract (X := ctx) ctx_ok (n := 5) (tb := 4) Tryd.laidOut (by kernel_rfl) (by kernel_rfl) Tryd.underlying4 rfl ?_ hval hW (glob_ok hL) ?_
  · intro ds hds
    match ds, hds with
    | [d1, d2, d3], _ => rfl
  · intro xs hxs hty
    match xs, hxs with
    | [x1, x2, x3], _ =>
      obtain ⟨ci, vc, cc, rfl, hci⟩ := codeq_typed (hty 0 24 x1 (by kernel_rfl) rfl)
      obtain ⟨C, rfl, hC⟩ := nums_typed (hty 1 34 x2 (by kernel_rfl) rfl)
      obtain ⟨fu, rfl, _⟩ := typed_int Tryd.underlying3 (hty 2 3 x3 (by kernel_rfl) rfl)
      exact vmRight_run ci vc cc C fu hci hC

theorem vmRight_holds : Rows.VmRightSaid :=
  OpenClaim.holds_of_wide 4 Tryd.f4 rfl rfl rfl rfl rfl rfl rfl ⟨rfl, rfl, rfl, rfl, rfl⟩ rfl rfl rfl rfl rfl (by kernel_rfl) Tryd.func4 (by kernel_rfl)
    (of_decide_eq_true (by kernel_rfl)) (by unfold Func.isWrapper; first | (rw [if_pos (by decide +kernel)]; kernel_rfl) | (rw [if_neg (by decide +kernel)]; exact ⟨rfl, rfl⟩))
    (fun os started H enc _ => vmRight_lifted os started H enc)

theorem vmRight_card_holds : Rows.VmRightCardSaid :=
  Claim7.holds_tied_plain_at .later [] [.listed, .data] true Rows.vmRightCard.stood.harness false
    vmRight_holds (fun _ h => by cases h) (by kernel_rfl) (fun _ h => by cases h) vmRight_row_tie rfl ⟨rfl, rfl⟩ (by kernel_rfl) rfl
    (fun f fn hf hfn => by
      obtain rfl : f = 4 := Option.some.inj ((show Tryd.prog.funcNamed "servitor/servitorlaw26.VmRight" = some 4 by kernel_rfl).symm.trans hf) |>.symm
      obtain rfl : fn = Tryd.f4 := (Option.some.inj (Tryd.func4.symm.trans hfn)).symm
      exact ⟨by kernel_rfl, fun j t ht => by
        rw [Tryd.params4] at ht
        match j, ht with
        | 0, ht => (obtain rfl : t = 24 := by simpa using ht.symm); exact (show Tryd.prog.wantsStandIn 24 = false by kernel_rfl)
        | 1, ht => (obtain rfl : t = 34 := by simpa using ht.symm); exact (show Tryd.prog.wantsStandIn 34 = false by kernel_rfl)
        | 2, ht => (obtain rfl : t = 3 := by simpa using ht.symm); exact (show Tryd.prog.wantsStandIn 3 = false by kernel_rfl)
        | j + 3, ht => simp at ht⟩)
    (by kernel_rfl)
#print axioms vmRight_card_holds
end Go.Proofs.YtmlboljlgaaebaaDoor

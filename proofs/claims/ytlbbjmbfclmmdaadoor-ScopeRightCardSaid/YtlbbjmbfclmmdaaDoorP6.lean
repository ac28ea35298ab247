/-
  The law ScopeRight holds: from the walk to the row.
-/
import Derived.Test.YtlbbjmbfclmmdaaDoorP5
import Derived.Test.YtlbbjmbfclmmdaaDoorRows
import Derived.Test.YtlbbjmbfclmmdaaDoorCards
import Derived.Test.YtlbbjmbfclmmdaaDoorTie
import Derived.JoinedOf
import Derived.LaidMore
import Derived.LaidHandle
import Derived.SevenTiedAt
set_option linter.all false
namespace Go.Proofs.YtlbbjmbfclmmdaaDoor
open Go Go.Am
set_option maxRecDepth 100000

theorem Tryd.own : ownKnob Tryd.prog.godebug = none := by kernel_rfl
theorem Tryd.laidOut : laidOutB Tryd.prog = true := by kernel_rfl
theorem ctx_ok : CtxOk ctx := CtxOk.of (by kernel_rfl)
theorem door_met (os : Os) (args : Array Value) : laidMetH Tryd.prog Rows.scopeRightRow.laid ((World.doorLaid Tryd.prog 24 os).forCall (fun _ _ => 0) ⟨#[], args, []⟩).memory :=
  laidMetH_of_parts3 (fuel := 8) (laidMet_of_run' 8 (by kernel_rfl) (by kernel_rfl)) (by kernel_rfl) (by kernel_rfl)

theorem i64_of_wf {z : Int} (h : (Lit.int .i64 z).wf = true) : I64 z := by
  simp only [Lit.wf, Bool.and_eq_true, decide_eq_true_eq] at h
  have h1 : IntKind.min .i64 = -9223372036854775808 := by rfl
  have h2 : IntKind.max .i64 = 9223372036854775807 := by rfl
  unfold I64
  omega
theorem rows_typed {y : D} (hy : typed Tryd.prog 4 24 y) : ∃ rows : List (List Int), y = .list (rows.map ints) ∧ ∀ r ∈ rows, ∀ n ∈ r, I64 n := by
  obtain ⟨xs, rfl, _, hxs⟩ := typed_slice Tryd.underlying24 hy
  have key : ∀ x ∈ xs, ∃ r : {r : List Int // ∀ n ∈ r, I64 n}, x = ints r.1 := by
    intro x hx
    obtain ⟨zs, rfl, _, hzs⟩ := typed_slice Tryd.underlying36 (hxs x hx)
    obtain ⟨ns, rfl⟩ := list_map_of (f := fun n : {n : Int // I64 n} => D.int .i64 n.1) (xs := zs) (fun z hz => by
      obtain ⟨n, rfl, hn⟩ := typed_int Tryd.underlying2 (hzs z hz)
      exact ⟨⟨n, i64_of_wf hn⟩, rfl⟩)
    exact ⟨⟨ns.map (·.1), by simp; intro n hn _; exact hn⟩, by simp⟩
  obtain ⟨rs, rfl⟩ := list_map_of (f := fun r : {r : List Int // ∀ n ∈ r, I64 n} => ints r.1) (xs := xs) key
  refine ⟨rs.map (·.1), by simp, ?_⟩
  intro r hr
  simp only [List.mem_map] at hr
  obtain ⟨q, _, rfl⟩ := hr
  exact q.2
theorem ask_typed {x : D} (hx : typed Tryd.prog 4 23 x) : ∃ c b a h l u, x = .agg [.int .i64 c, .int .i64 b, .int .i64 a, .int .i64 h, .int .i64 l, .bool u] := by
  obtain ⟨ds, rfl, y0, d0, h0, ⟨y1, d1, h1, ⟨y2, d2, h2, ⟨y3, d3, h3, ⟨y4, d4, h4, ⟨y5, d5, h5, rfl, rfl⟩, rfl⟩, rfl⟩, rfl⟩, rfl⟩, rfl⟩ := typed_struct Tryd.underlying23 hx
  obtain ⟨c, rfl, _⟩ := typed_int Tryd.underlying3 h0
  obtain ⟨b, rfl, _⟩ := typed_int Tryd.underlying3 h1
  obtain ⟨a, rfl, _⟩ := typed_int Tryd.underlying3 h2
  obtain ⟨h, rfl, _⟩ := typed_int Tryd.underlying3 h3
  obtain ⟨l, rfl, _⟩ := typed_int Tryd.underlying2 h4
  obtain ⟨u, rfl⟩ := typed_bool Tryd.underlying4 h5
  exact ⟨c, b, a, h, l, u, rfl⟩
theorem laid_eq : (Rows.scopeRightRow.laid : List (String × DataW Unit)) = [("math/bits.deBruijn32tab", .agg (tab1.map fun z => .lit (.int .u8 z))), ("math/bits.deBruijn64tab", .agg (tab2.map fun z => .lit (.int .u8 z))), ("internal/strconv.uint64pow10", .agg (tab0.map fun z => .lit (.int .u64 z)))] := by kernel_rfl
theorem glob_ok {W : World} (hL : laidMetH Tryd.prog Rows.scopeRightRow.laid W) : GlobRel W (fun _ => False) ctx.gl := by
  rw [MakeChecks.laidMetH_plain _ _ _ (by kernel_rfl), laid_eq] at hL
  intro x hx
  have hx' : x ∈ [((1 : Nat), D.agg (tab1.map fun z => .int .u8 z)), (2, .agg (tab2.map fun z => .int .u8 z)), (0, .agg (tab0.map fun z => .int .u64 z))] := hx
  simp only [List.mem_cons, List.not_mem_nil, or_false] at hx'
  rcases hx' with rfl | rfl | rfl
  · obtain ⟨a, b⟩ := glob_of_laid (name := "math/bits.deBruijn32tab") (n := 32) (e := 5) (t := 69) (g := 1) (k := .u8) (zs := tab1) hL (by simp) (by kernel_rfl) (by kernel_rfl) (by kernel_rfl) (by kernel_rfl) (by kernel_rfl) (by decide)
    exact ⟨a, id, b⟩
  · obtain ⟨a, b⟩ := glob_of_laid (name := "math/bits.deBruijn64tab") (n := 64) (e := 5) (t := 70) (g := 2) (k := .u8) (zs := tab2) hL (by simp) (by kernel_rfl) (by kernel_rfl) (by kernel_rfl) (by kernel_rfl) (by kernel_rfl) (by decide)
    exact ⟨a, id, b⟩
  · obtain ⟨a, b⟩ := glob_of_laid (name := "internal/strconv.uint64pow10") (n := 20) (e := 52) (t := 62) (g := 0) (k := .u64) (zs := tab0) hL (by simp) (by kernel_rfl) (by kernel_rfl) (by kernel_rfl) (by kernel_rfl) (by kernel_rfl) (by decide)
    exact ⟨a, id, b⟩

theorem scopeRight_lifted (os : Os) (started : os.Started) (H : Type) (enc : TypeId × Value → H) :
    ReturnsInHanded {} Tryd.checked os 3 .any (fun w args => (Rows.scopeRightSpec.pre enc Tryd.prog Tryd.f3 [] false w args ∧ laidMetH Tryd.prog Rows.scopeRightRow.laid w) ∧ sizedMet enc Tryd.prog Tryd.f3 (OpenSpec.ofChange Rows.scopeRightSpec) false w args)
      (Rows.scopeRightSpec.post enc Tryd.prog Tryd.f3 false true false false) := by
  refine returnsInHanded_of_change_and (C := Tryd.checked) (X := fun w _ => laidMetH Tryd.prog Rows.scopeRightRow.laid w) (fun _ _ _ hh h => h.of_heap hh) Tryd.own started (by kernel_rfl) Tryd.func3
    (ChangeSpec.witness_shaped (enc := enc) (C := Tryd.checked) (os := os) (X := fun w _ => laidMetH Tryd.prog Rows.scopeRightRow.laid w) false (World.doorLaid Tryd.prog 24 os)
      #[.agg #[.int .i64 0, .int .i64 0, .int .i64 0, .int .i64 0, .int .i64 0, .bool false], .slice none 0 0] 8 rfl (World.shaped_of_RefB (by kernel_rfl) (by kernel_rfl)) (by kernel_rfl) (by kernel_rfl) (by kernel_rfl) (door_met os _)) ?_
  intro W base args ds gs before hval hW _ _ hL _
  refine law_contract (X := ctx) ctx_ok (n := 4) (tb := 4) Tryd.laidOut (by kernel_rfl) (by kernel_rfl) Tryd.underlying4 rfl ?_ hval hW (glob_ok hL) ?_
  · intro ds hds
    match ds, hds with
    | [d1, d2], _ => rfl
  · intro xs hxs hty
    match xs, hxs with
    | [x, y], _ =>
      obtain ⟨c, b, a, h, l, u, rfl⟩ := ask_typed (hty 0 23 x (by kernel_rfl) rfl)
      obtain ⟨rows, rfl, hI⟩ := rows_typed (hty 1 24 y (by kernel_rfl) rfl)
      exact scopeRight_run c b a h l u rows hI

theorem scopeRight_holds : Rows.ScopeRightSaid :=
  OpenClaim.holds_of_wide 3 Tryd.f3 rfl rfl rfl rfl rfl rfl rfl ⟨rfl, rfl, rfl, rfl, rfl⟩ rfl rfl rfl rfl rfl (by kernel_rfl) Tryd.func3 (by kernel_rfl)
    (of_decide_eq_true (by kernel_rfl)) (by unfold Func.isWrapper; first | (rw [if_pos (by decide +kernel)]; kernel_rfl) | (rw [if_neg (by decide +kernel)]; exact ⟨rfl, rfl⟩))
    (fun os started H enc _ => scopeRight_lifted os started H enc)

theorem scopeRight_card_holds : Rows.ScopeRightCardSaid :=
  Claim7.holds_tied_plain_at .later [] [.data, .data, .data] true Rows.scopeRightCard.stood.harness false
    scopeRight_holds (fun _ h => by cases h) (by kernel_rfl) (fun _ h => by cases h) scopeRight_row_tie rfl ⟨rfl, rfl⟩ (by kernel_rfl) rfl
    (fun f fn hf hfn => by
      obtain rfl : f = 3 := Option.some.inj ((show Tryd.prog.funcNamed "servitor/servitorlaw35.ScopeRight" = some 3 by kernel_rfl).symm.trans hf) |>.symm
      obtain rfl : fn = Tryd.f3 := (Option.some.inj (Tryd.func3.symm.trans hfn)).symm
      exact ⟨by kernel_rfl, fun j t ht => by
        rw [Tryd.params3] at ht
        have h3 : t = 23 ∨ t = 24 := by
          match j, ht with
          | 0, ht => exact .inl (by simpa using ht.symm)
          | 1, ht => exact .inr (by simpa using ht.symm)
          | j + 2, ht => simp at ht
        rcases h3 with rfl | rfl
        · exact (show Tryd.prog.wantsStandIn 23 = false by kernel_rfl)
        · exact (show Tryd.prog.wantsStandIn 24 = false by kernel_rfl)⟩)
    (by kernel_rfl)
#print axioms scopeRight_card_holds
end Go.Proofs.YtlbbjmbfclmmdaaDoor

/-
  The row of ScopeFirst holds.
-/
import Derived.Test.YtlbbjmbfclmmdaaDoorE8
import Derived.Test.YtlbbjmbfclmmdaaDoorBm29
import Derived.Test.YtlbbjmbfclmmdaaDoorRows
import Derived.Test.YtlbbjmbfclmmdaaDoorCards
import Derived.Test.YtlbbjmbfclmmdaaDoorTie
import Derived.JoinedOf
import Derived.LaidMore
import Derived.LaidHandle
import Derived.SevenTiedAt
namespace Go.Proofs.YtlbbjmbfclmmdaaDoor
open Go Go.Am
set_option maxRecDepth 100000

theorem Tryd.own : ownKnob Tryd.prog.godebug = none := by kernel_rfl
theorem Tryd.laidOut : laidOutB Tryd.prog = true := by kernel_rfl
theorem ctx_ok : CtxOk ctx := CtxOk.of (by kernel_rfl)
theorem door_met (os : Os) (args : Array Value) : laidMetH Tryd.prog Rows.scopeFirstRow.laid ((World.doorLaid Tryd.prog 24 os).forCall (fun _ _ => 0) ⟨#[], args, []⟩).memory :=
  laidMetH_of_parts3 (fuel := 8) (laidMet_of_run' 8 (by kernel_rfl) (by kernel_rfl)) (by kernel_rfl) (by kernel_rfl)

theorem rows_typed {y : D} (hy : typed Tryd.prog 4 24 y) : ∃ rows : List (List Int), y = .list (rows.map ints) := by
  obtain ⟨xs, rfl, _, hxs⟩ := typed_slice Tryd.underlying24 hy
  obtain ⟨rs, rfl⟩ := list_map_of (f := ints) (xs := xs) (fun x hx => by
    obtain ⟨zs, rfl, _, hzs⟩ := typed_slice Tryd.underlying36 (hxs x hx)
    obtain ⟨ns, rfl⟩ := list_map_of (f := fun n => D.int .i64 n) (xs := zs) (fun z hz => by
      obtain ⟨n, rfl, _⟩ := typed_int Tryd.underlying2 (hzs z hz)
      exact ⟨n, rfl⟩)
    exact ⟨ns, rfl⟩)
  exact ⟨rs, rfl⟩
theorem ask_typed {x : D} (hx : typed Tryd.prog 4 23 x) : ∃ c b a h l u, x = .agg [.int .i64 c, .int .i64 b, .int .i64 a, .int .i64 h, .int .i64 l, .bool u] := by
  obtain ⟨ds, rfl, y0, d0, h0, ⟨y1, d1, h1, ⟨y2, d2, h2, ⟨y3, d3, h3, ⟨y4, d4, h4, ⟨y5, d5, h5, rfl, rfl⟩, rfl⟩, rfl⟩, rfl⟩, rfl⟩, rfl⟩ := typed_struct Tryd.underlying23 hx
  obtain ⟨c, rfl, _⟩ := typed_int Tryd.underlying3 h0
  obtain ⟨b, rfl, _⟩ := typed_int Tryd.underlying3 h1
  obtain ⟨a, rfl, _⟩ := typed_int Tryd.underlying3 h2
  obtain ⟨h, rfl, _⟩ := typed_int Tryd.underlying3 h3
  obtain ⟨l, rfl, _⟩ := typed_int Tryd.underlying2 h4
  obtain ⟨u, rfl⟩ := typed_bool Tryd.underlying4 h5
  exact ⟨c, b, a, h, l, u, rfl⟩

theorem scopeFirst_lifted (os : Os) (started : os.Started) (H : Type) (enc : TypeId × Value → H) :
    ReturnsInHanded {} Tryd.checked os 4 .any (fun w args => (Rows.scopeFirstSpec.pre enc Tryd.prog Tryd.f4 [] false w args ∧ laidMetH Tryd.prog Rows.scopeFirstRow.laid w) ∧ sizedMet enc Tryd.prog Tryd.f4 (OpenSpec.ofChange Rows.scopeFirstSpec) false w args)
      (Rows.scopeFirstSpec.post enc Tryd.prog Tryd.f4 false true false false) := by
  refine returnsInHanded_of_change_and (C := Tryd.checked) (X := fun w _ => laidMetH Tryd.prog Rows.scopeFirstRow.laid w) (fun _ _ _ hh h => h.of_heap hh) Tryd.own started (by kernel_rfl) Tryd.func4
    (ChangeSpec.witness_shaped (enc := enc) (C := Tryd.checked) (os := os) (X := fun w _ => laidMetH Tryd.prog Rows.scopeFirstRow.laid w) false (World.doorLaid Tryd.prog 24 os)
      #[.agg #[.int .i64 0, .int .i64 0, .int .i64 0, .int .i64 0, .int .i64 0, .bool false], .slice none 0 0] 8 rfl (World.shaped_of_RefB (by kernel_rfl) (by kernel_rfl)) (by kernel_rfl) (by kernel_rfl) (by kernel_rfl) (door_met os _)) ?_
  intro W base args ds gs before hval hW _ _ hL _
  refine law_contract (X := ctx) ctx_ok (n := 4) (tb := 4) Tryd.laidOut (by kernel_rfl) (by kernel_rfl) Tryd.underlying4 rfl ?_ hval hW (fun x hx => by cases hx) ?_
  · intro ds hds
    match ds, hds with
    | [d1, d2], _ => rfl
  · intro xs hxs hty
    match xs, hxs with
    | [x, y], _ =>
      obtain ⟨c, b, a, h, l, u, rfl⟩ := ask_typed (hty 0 23 x (by kernel_rfl) rfl)
      obtain ⟨rows, rfl⟩ := rows_typed (hty 1 24 y (by kernel_rfl) rfl)
      exact first_run c b a h l u rows

theorem scopeFirst_holds : Rows.ScopeFirstSaid :=
  OpenClaim.holds_of_wide 4 Tryd.f4 rfl rfl rfl rfl rfl rfl rfl ⟨rfl, rfl, rfl, rfl, rfl⟩ rfl rfl rfl rfl rfl (by kernel_rfl) Tryd.func4 (by kernel_rfl)
    (of_decide_eq_true (by kernel_rfl)) (by unfold Func.isWrapper; first | (rw [if_pos (by decide +kernel)]; kernel_rfl) | (rw [if_neg (by decide +kernel)]; exact ⟨rfl, rfl⟩))
    (fun os started H enc _ => scopeFirst_lifted os started H enc)
end Go.Proofs.YtlbbjmbfclmmdaaDoor

/-
  The tied card of ScopeRaw is proved: the law returns true for every input and leaves its arguments as they were. Conditions: those of the row itself (the listed package variables start as the program lays them).
-/
import Derived.Test.YtlbbjmbfclmmdaaDoorE9
import Derived.Test.YtlbbjmbfclmmdaaDoorE13
namespace Go.Proofs.YtlbbjmbfclmmdaaDoor
open Go Go.Am
set_option maxRecDepth 100000

theorem i64_of_wf {z : Int} (h : (Lit.int .i64 z).wf = true) : I64 z := by
  simp only [Lit.wf, Bool.and_eq_true, decide_eq_true_eq] at h
  have h1 : IntKind.min .i64 = -9223372036854775808 := by rfl
  have h2 : IntKind.max .i64 = 9223372036854775807 := by rfl
  unfold I64
  omega
theorem ints_typed {n : Nat} {y : D} (hy : typed Tryd.prog (n + 2) 36 y) : ∃ r : List Int, y = ints r := by
  obtain ⟨zs, rfl, _, hzs⟩ := typed_slice Tryd.underlying36 hy
  obtain ⟨ns, rfl⟩ := list_map_of (f := fun n => D.int .i64 n) (xs := zs) (fun z hz => by
    obtain ⟨n, rfl, _⟩ := typed_int Tryd.underlying2 (hzs z hz)
    exact ⟨n, rfl⟩)
  exact ⟨ns, rfl⟩
theorem scope_typed {x : D} (hx : typed Tryd.prog 5 28 x) : ∃ s : Scope, x = s.enc ∧ I64 s.moment ∧ I64 s.seen := by
  obtain ⟨ds, rfl, y0, d0, h0, ⟨y1, d1, h1, ⟨y2, d2, h2, ⟨y3, d3, h3, ⟨y4, d4, h4, ⟨y5, d5, h5, ⟨y6, d6, h6, ⟨y7, d7, h7, ⟨y8, d8, h8, ⟨y9, d9, h9, rfl, rfl⟩, rfl⟩, rfl⟩, rfl⟩, rfl⟩, rfl⟩, rfl⟩, rfl⟩, rfl⟩, rfl⟩ := typed_struct Tryd.underlying28 hx
  obtain ⟨c, rfl, _⟩ := typed_int Tryd.underlying3 h0
  obtain ⟨b, rfl, _⟩ := typed_int Tryd.underlying3 h1
  obtain ⟨a, rfl, _⟩ := typed_int Tryd.underlying3 h2
  obtain ⟨h, rfl, _⟩ := typed_int Tryd.underlying3 h3
  obtain ⟨l, rfl, _⟩ := typed_int Tryd.underlying2 h4
  obtain ⟨u, rfl⟩ := typed_bool Tryd.underlying4 h5
  obtain ⟨rows, rfl⟩ := rows_typed h6
  obtain ⟨seen, rfl, w1⟩ := typed_int Tryd.underlying3 h7
  obtain ⟨mom, rfl, w2⟩ := typed_int Tryd.underlying3 h8
  obtain ⟨dn, rfl⟩ := typed_bool Tryd.underlying4 h9
  exact ⟨⟨c, b, a, h, l, u, rows, seen, mom, dn⟩, rfl, i64_of_wf w2, i64_of_wf w1⟩

theorem scopeRaw_lifted (os : Os) (started : os.Started) (H : Type) (enc : TypeId × Value → H) :
    ReturnsInHanded {} Tryd.checked os 5 .any (fun w args => (Rows.scopeRawSpec.pre enc Tryd.prog Tryd.f5 [] false w args ∧ laidMetH Tryd.prog Rows.scopeRawRow.laid w) ∧ sizedMet enc Tryd.prog Tryd.f5 (OpenSpec.ofChange Rows.scopeRawSpec) false w args)
      (Rows.scopeRawSpec.post enc Tryd.prog Tryd.f5 false true false false) := by
  refine returnsInHanded_of_change_and (C := Tryd.checked) (X := fun w _ => laidMetH Tryd.prog Rows.scopeRawRow.laid w) (fun _ _ _ hh h => h.of_heap hh) Tryd.own started (by kernel_rfl) Tryd.func5
    (ChangeSpec.witness_shaped (enc := enc) (C := Tryd.checked) (os := os) (X := fun w _ => laidMetH Tryd.prog Rows.scopeRawRow.laid w) false (World.doorLaid Tryd.prog 24 os)
      #[.agg #[.int .i64 0, .int .i64 0, .int .i64 0, .int .i64 0, .int .i64 0, .bool false, .slice none 0 0, .int .i64 0, .int .i64 0, .bool false], .slice none 0 0] 8 rfl (World.shaped_of_RefB (by kernel_rfl) (by kernel_rfl)) (by kernel_rfl) (by kernel_rfl) (by kernel_rfl) (door_met os _)) ?_
  intro W base args ds gs before hval hW _ _ hL _
  refine law_contract (X := ctx) ctx_ok (n := 5) (tb := 4) Tryd.laidOut (by kernel_rfl) (by kernel_rfl) Tryd.underlying4 rfl ?_ hval hW (fun x hx => by cases hx) ?_
  · intro ds hds
    match ds, hds with
    | [d1, d2], _ => rfl
  · intro xs hxs hty
    match xs, hxs with
    | [x, y], _ =>
      obtain ⟨s, rfl, w1, w2⟩ := scope_typed (hty 0 28 x (by kernel_rfl) rfl)
      obtain ⟨row, rfl⟩ := ints_typed (hty 1 36 y (by kernel_rfl) rfl)
      exact raw_run s row w1 w2

theorem scopeRaw_holds : Rows.ScopeRawSaid :=
  OpenClaim.holds_of_wide 5 Tryd.f5 rfl rfl rfl rfl rfl rfl rfl ⟨rfl, rfl, rfl, rfl, rfl⟩ rfl rfl rfl rfl rfl (by kernel_rfl) Tryd.func5 (by kernel_rfl)
    (of_decide_eq_true (by kernel_rfl)) (by unfold Func.isWrapper; first | (rw [if_pos (by decide +kernel)]; kernel_rfl) | (rw [if_neg (by decide +kernel)]; exact ⟨rfl, rfl⟩))
    (fun os started H enc _ => scopeRaw_lifted os started H enc)

theorem scopeRaw_card_holds : Rows.ScopeRawCardSaid :=
  Claim7.holds_tied_plain_at .later [] [.data, .data, .data] true Rows.scopeRawCard.stood.harness false
    scopeRaw_holds (fun _ h => by cases h) (by kernel_rfl) (fun _ h => by cases h) scopeRaw_row_tie rfl ⟨rfl, rfl⟩ (by kernel_rfl) rfl
    (fun f fn hf hfn => by
      obtain rfl : f = 5 := Option.some.inj ((show Tryd.prog.funcNamed "servitor/servitorlaw35.ScopeRaw" = some 5 by kernel_rfl).symm.trans hf) |>.symm
      obtain rfl : fn = Tryd.f5 := (Option.some.inj (Tryd.func5.symm.trans hfn)).symm
      exact ⟨by kernel_rfl, fun j t ht => by
        rw [Tryd.params5] at ht
        have h3 : t = 28 ∨ t = 36 := by
          match j, ht with
          | 0, ht => exact .inl (by simpa using ht.symm)
          | 1, ht => exact .inr (by simpa using ht.symm)
          | j + 2, ht => simp at ht
        rcases h3 with rfl | rfl
        · exact (show Tryd.prog.wantsStandIn 28 = false by kernel_rfl)
        · exact (show Tryd.prog.wantsStandIn 36 = false by kernel_rfl)⟩)
    (by kernel_rfl)
#print axioms scopeRaw_card_holds
end Go.Proofs.YtlbbjmbfclmmdaaDoor

/-
  The tied card of ScopeFirst is proved: the law returns true for every input and leaves its arguments as they were. Conditions: those of the row itself (the listed package variables start as the program lays them).
-/
import Derived.Test.YtlbbjmbfclmmdaaDoorE9
namespace Go.Proofs.YtlbbjmbfclmmdaaDoor
open Go
set_option maxRecDepth 100000

theorem scopeFirst_card_holds : Rows.ScopeFirstCardSaid :=
  Claim7.holds_tied_plain_at .later [] [.data, .data, .data] true Rows.scopeFirstCard.stood.harness false
    scopeFirst_holds (fun _ h => by cases h) (by kernel_rfl) (fun _ h => by cases h) scopeFirst_row_tie rfl ⟨rfl, rfl⟩ (by kernel_rfl) rfl
    (fun f fn hf hfn => by
      obtain rfl : f = 4 := Option.some.inj ((show Tryd.prog.funcNamed "servitor/servitorlaw35.ScopeFirst" = some 4 by kernel_rfl).symm.trans hf) |>.symm
      obtain rfl : fn = Tryd.f4 := (Option.some.inj (Tryd.func4.symm.trans hfn)).symm
      exact ⟨by kernel_rfl, fun j t ht => by
        rw [Tryd.params4] at ht
        have h3 : t = 23 ∨ t = 24 := by
          match j, ht with
          | 0, ht => exact .inl (by simpa using ht.symm)
          | 1, ht => exact .inr (by simpa using ht.symm)
          | j + 2, ht => simp at ht
        rcases h3 with rfl | rfl
        · exact (show Tryd.prog.wantsStandIn 23 = false by kernel_rfl)
        · exact (show Tryd.prog.wantsStandIn 24 = false by kernel_rfl)⟩)
    (by kernel_rfl)
#print axioms scopeFirst_card_holds
end Go.Proofs.YtlbbjmbfclmmdaaDoor

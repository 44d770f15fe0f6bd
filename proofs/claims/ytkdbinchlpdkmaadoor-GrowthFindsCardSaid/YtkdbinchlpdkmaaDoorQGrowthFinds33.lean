/- The tied card: If growth is accepted for the roots that two different leaves at one place lead to, two inputs of one hash are told; what is told is that. -/
import Derived.Test.YtkdbinchlpdkmaaDoorQGrowthFinds32
import Derived.Test.YtkdbinchlpdkmaaDoorCards
import Derived.Test.YtkdbinchlpdkmaaDoorTie
import Derived.SevenTiedAt
namespace Go.Proofs.YtkdbinchlpdkmaaDoor
open Go
theorem growthFinds_card_holds : Rows.GrowthFindsCardSaid :=
  Claim7.holds_tied_plain_at .later [] [.data] true (true, "cbf1fdc224609e51096df043c4d3caea910968d34378560670aa3bf31dc1e9b6") false
    growthFinds.over (fun _ h => by cases h) (by kernel_rfl) (fun _ h => by cases h) growthFinds_row_tie rfl ⟨rfl, rfl⟩ (by kernel_rfl) rfl
    (fun f fn hf hfn => by
      obtain rfl : f = 9 := Option.some.inj ((show Tryd.prog.funcNamed "indenture/indenturelaw30.GrowthFinds" = some 9 by kernel_rfl).symm.trans hf) |>.symm
      obtain rfl : fn = Tryd.f9 := (Option.some.inj (Tryd.func9.symm.trans hfn)).symm
      exact ⟨by kernel_rfl, fun j t ht => by
        rw [Tryd.params9] at ht
        have hw : ∀ t ∈ [56, 79, 27], Tryd.prog.wantsStandIn t = false := by decide +kernel
        exact hw t (by simpa using Array.mem_of_getElem? ht)⟩)
    (by kernel_rfl)
#print axioms growthFinds_card_holds
end Go.Proofs.YtkdbinchlpdkmaaDoor

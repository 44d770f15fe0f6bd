/- The tied card: What any path says, and any proof of growth, is what the document says. -/
import Derived.Test.YtkdbinchlpdkmaaDoorQGro33
import Derived.Test.YtkdbinchlpdkmaaDoorCards
import Derived.Test.YtkdbinchlpdkmaaDoorTie
import Derived.SevenTiedAt
namespace Go.Proofs.YtkdbinchlpdkmaaDoor
open Go
theorem growthPaths_card_holds : Rows.GrowthPathsCardSaid :=
  Claim7.holds_tied_plain_at .later [] [.data] true (true, "cbf1fdc224609e51096df043c4d3caea910968d34378560670aa3bf31dc1e9b6") false
    growthPaths.over (fun _ h => by cases h) (by kernel_rfl) (fun _ h => by cases h) growthPaths_row_tie rfl ⟨rfl, rfl⟩ (by kernel_rfl) rfl
    (fun f fn hf hfn => by
      obtain rfl : f = 4 := Option.some.inj ((show Tryd.prog.funcNamed "indenture/indenturelaw30.GrowthPaths" = some 4 by kernel_rfl).symm.trans hf) |>.symm
      obtain rfl : fn = Tryd.f4 := (Option.some.inj (Tryd.func4.symm.trans hfn)).symm
      exact ⟨by kernel_rfl, fun j t ht => by
        rw [Tryd.params4] at ht
        have hw : ∀ t ∈ [56, 58, 30], Tryd.prog.wantsStandIn t = false := by decide +kernel
        exact hw t (by simpa using Array.mem_of_getElem? ht)⟩)
    (by kernel_rfl)
#print axioms growthPaths_card_holds
end Go.Proofs.YtkdbinchlpdkmaaDoor

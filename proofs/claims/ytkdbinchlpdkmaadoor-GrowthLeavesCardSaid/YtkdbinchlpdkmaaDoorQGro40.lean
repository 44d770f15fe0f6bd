/- The tied card: Of any two leaves, of a tree and of one that is said to have grown of it, the two inputs of one hash that are told, or none, are those that the document tells. -/
import Derived.Test.YtkdbinchlpdkmaaDoorQGro39
import Derived.Test.YtkdbinchlpdkmaaDoorCards
import Derived.Test.YtkdbinchlpdkmaaDoorTie
import Derived.SevenTiedAt
namespace Go.Proofs.YtkdbinchlpdkmaaDoor
open Go
theorem growthLeaves_card_holds : Rows.GrowthLeavesCardSaid :=
  Claim7.holds_tied_plain_at .later [] [.data] true (true, "cbf1fdc224609e51096df043c4d3caea910968d34378560670aa3bf31dc1e9b6") false
    growthLeaves.over (fun _ h => by cases h) (by kernel_rfl) (fun _ h => by cases h) growthLeaves_row_tie rfl ⟨rfl, rfl⟩ (by kernel_rfl) rfl
    (fun f fn hf hfn => by
      obtain rfl : f = 7 := Option.some.inj ((show Tryd.prog.funcNamed "indenture/indenturelaw30.GrowthLeaves" = some 7 by kernel_rfl).symm.trans hf) |>.symm
      obtain rfl : fn = Tryd.f7 := (Option.some.inj (Tryd.func7.symm.trans hfn)).symm
      exact ⟨by kernel_rfl, fun j t ht => by
        rw [Tryd.params7] at ht
        have hw : ∀ t ∈ [56, 79, 27], Tryd.prog.wantsStandIn t = false := by decide +kernel
        exact hw t (by simpa using Array.mem_of_getElem? ht)⟩)
    (by kernel_rfl)
#print axioms growthLeaves_card_holds
end Go.Proofs.YtkdbinchlpdkmaaDoor

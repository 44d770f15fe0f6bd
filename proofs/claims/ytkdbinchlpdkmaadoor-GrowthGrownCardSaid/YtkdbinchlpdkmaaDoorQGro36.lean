/- The tied card: What any proof of growth says is what the document says. -/
import Derived.Test.YtkdbinchlpdkmaaDoorQGro35
import Derived.Test.YtkdbinchlpdkmaaDoorCards
import Derived.Test.YtkdbinchlpdkmaaDoorTie
import Derived.SevenTiedAt
namespace Go.Proofs.YtkdbinchlpdkmaaDoor
open Go
theorem growthGrown_card_holds : Rows.GrowthGrownCardSaid :=
  Claim7.holds_tied_plain_at .later [] [.data] true (true, "cbf1fdc224609e51096df043c4d3caea910968d34378560670aa3bf31dc1e9b6") false
    growthGrown.over (fun _ h => by cases h) (by kernel_rfl) (fun _ h => by cases h) growthGrown_row_tie rfl ⟨rfl, rfl⟩ (by kernel_rfl) rfl
    (fun f fn hf hfn => by
      obtain rfl : f = 5 := Option.some.inj ((show Tryd.prog.funcNamed "indenture/indenturelaw30.GrowthGrown" = some 5 by kernel_rfl).symm.trans hf) |>.symm
      obtain rfl : fn = Tryd.f5 := (Option.some.inj (Tryd.func5.symm.trans hfn)).symm
      exact ⟨by kernel_rfl, fun j t ht => by
        rw [Tryd.params5] at ht
        have hw : ∀ t ∈ [71, 30, 27], Tryd.prog.wantsStandIn t = false := by decide +kernel
        exact hw t (by simpa using Array.mem_of_getElem? ht)⟩)
    (by kernel_rfl)
#print axioms growthGrown_card_holds
end Go.Proofs.YtkdbinchlpdkmaaDoor

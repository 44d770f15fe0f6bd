/- The tied card: A receipt with another position, another log, another map does not check against the same digest. -/
import Derived.Test.YtkpkfplcoakfcaaDoorLawReceiptLies
import Derived.Test.YtkpkfplcoakfcaaDoorCards
import Derived.Test.YtkpkfplcoakfcaaDoorTie
import Derived.SevenTiedAt
namespace Go.Proofs.YtkpkfplcoakfcaaDoor
open Go
theorem receiptLies_card_holds : Rows.ReceiptLiesCardSaid :=
  Claim7.holds_tied_plain_at .later [] [.data] true (true, "ee0441bd42bfd6bdcad01b11607d4d7115c874e716787c3f82c2de6fcde11919") false
    receiptLies.over (fun _ h => by cases h) (by kernel_rfl) (fun _ h => by cases h) receiptLies_row_tie rfl ⟨rfl, rfl⟩ (by kernel_rfl) rfl
    (fun f fn hf hfn => by
      obtain rfl : f = 3 := Option.some.inj ((show Tryd.prog.funcNamed "indenture/indenturelaw17.ReceiptLies" = some 3 by kernel_rfl).symm.trans hf) |>.symm
      obtain rfl : fn = Tryd.f3 := (Option.some.inj (Tryd.func3.symm.trans hfn)).symm
      exact ⟨by kernel_rfl, fun j t ht => by
        rw [Tryd.params3] at ht
        have hw : ∀ t ∈ [32, 3, 28], Tryd.prog.wantsStandIn t = false := by decide +kernel
        exact hw t (by simpa using Array.mem_of_getElem? ht)⟩)
    (by kernel_rfl)
#print axioms receiptLies_card_holds
end Go.Proofs.YtkpkfplcoakfcaaDoor

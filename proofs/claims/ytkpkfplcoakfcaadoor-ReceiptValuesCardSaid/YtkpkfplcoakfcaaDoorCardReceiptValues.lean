/- The tied card: What a key has by a proof under a digest is what the reference says it has. -/
import Derived.Test.YtkpkfplcoakfcaaDoorLawReceiptValues
import Derived.Test.YtkpkfplcoakfcaaDoorCards
import Derived.Test.YtkpkfplcoakfcaaDoorTie
import Derived.SevenTiedAt
namespace Go.Proofs.YtkpkfplcoakfcaaDoor
open Go
theorem receiptValues_card_holds : Rows.ReceiptValuesCardSaid :=
  Claim7.holds_tied_plain_at .later [] [.data] true (true, "ee0441bd42bfd6bdcad01b11607d4d7115c874e716787c3f82c2de6fcde11919") false
    receiptValues.over (fun _ h => by cases h) (by kernel_rfl) (fun _ h => by cases h) receiptValues_row_tie rfl ⟨rfl, rfl⟩ (by kernel_rfl) rfl
    (fun f fn hf hfn => by
      obtain rfl : f = 6 := Option.some.inj ((show Tryd.prog.funcNamed "indenture/indenturelaw17.ReceiptValues" = some 6 by kernel_rfl).symm.trans hf) |>.symm
      obtain rfl : fn = Tryd.f6 := (Option.some.inj (Tryd.func6.symm.trans hfn)).symm
      exact ⟨by kernel_rfl, fun j t ht => by
        rw [Tryd.params6] at ht
        have hw : ∀ t ∈ [30, 9, 54], Tryd.prog.wantsStandIn t = false := by decide +kernel
        exact hw t (by simpa using Array.mem_of_getElem? ht)⟩)
    (by kernel_rfl)
#print axioms receiptValues_card_holds
end Go.Proofs.YtkpkfplcoakfcaaDoor

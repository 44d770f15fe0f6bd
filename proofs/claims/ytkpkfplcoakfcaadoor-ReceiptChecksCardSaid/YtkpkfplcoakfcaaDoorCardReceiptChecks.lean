/- The tied card: That a receipt checks against a digest says just what the reference says, and no more than that. -/
import Derived.Test.YtkpkfplcoakfcaaDoorLawReceiptChecks
import Derived.Test.YtkpkfplcoakfcaaDoorCards
import Derived.Test.YtkpkfplcoakfcaaDoorTie
import Derived.SevenTiedAt
namespace Go.Proofs.YtkpkfplcoakfcaaDoor
open Go
theorem receiptChecks_card_holds : Rows.ReceiptChecksCardSaid :=
  Claim7.holds_tied_plain_at .later [] [.data] true (true, "ee0441bd42bfd6bdcad01b11607d4d7115c874e716787c3f82c2de6fcde11919") false
    receiptChecks.over (fun _ h => by cases h) (by kernel_rfl) (fun _ h => by cases h) receiptChecks_row_tie rfl ⟨rfl, rfl⟩ (by kernel_rfl) rfl
    (fun f fn hf hfn => by
      obtain rfl : f = 4 := Option.some.inj ((show Tryd.prog.funcNamed "indenture/indenturelaw17.ReceiptChecks" = some 4 by kernel_rfl).symm.trans hf) |>.symm
      obtain rfl : fn = Tryd.f4 := (Option.some.inj (Tryd.func4.symm.trans hfn)).symm
      exact ⟨by kernel_rfl, fun j t ht => by
        rw [Tryd.params4] at ht
        have hw : ∀ t ∈ [32, 30, 26], Tryd.prog.wantsStandIn t = false := by decide +kernel
        exact hw t (by simpa using Array.mem_of_getElem? ht)⟩)
    (by kernel_rfl)
#print axioms receiptChecks_card_holds
end Go.Proofs.YtkpkfplcoakfcaaDoor

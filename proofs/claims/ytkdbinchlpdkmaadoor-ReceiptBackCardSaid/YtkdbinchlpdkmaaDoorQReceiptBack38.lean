/- The tied card: A receipt that may be comes back from its bytes; bytes that are read are the bytes of what is read; cut off anywhere they are none. -/
import Derived.Test.YtkdbinchlpdkmaaDoorQReceiptBack37
import Derived.Test.YtkdbinchlpdkmaaDoorCards
import Derived.Test.YtkdbinchlpdkmaaDoorTie
import Derived.SevenTiedAt
namespace Go.Proofs.YtkdbinchlpdkmaaDoor
open Go
theorem receiptBack_card_holds : Rows.ReceiptBackCardSaid :=
  Claim7.holds_tied_plain_at .later [] [.data] true (true, "cbf1fdc224609e51096df043c4d3caea910968d34378560670aa3bf31dc1e9b6") false
    receiptBack.over (fun _ h => by cases h) (by kernel_rfl) (fun _ h => by cases h) receiptBack_row_tie rfl ⟨rfl, rfl⟩ (by kernel_rfl) rfl
    (fun f fn hf hfn => by
      obtain rfl : f = 11 := Option.some.inj ((show Tryd.prog.funcNamed "indenture/indenturelaw17.ReceiptBack" = some 11 by kernel_rfl).symm.trans hf) |>.symm
      obtain rfl : fn = Tryd.f11 := (Option.some.inj (Tryd.func11.symm.trans hfn)).symm
      exact ⟨by kernel_rfl, fun j t ht => by
        rw [Tryd.params11] at ht
        have hw : ∀ t ∈ [100, 28, 23], Tryd.prog.wantsStandIn t = false := by decide +kernel
        exact hw t (by simpa using Array.mem_of_getElem? ht)⟩)
    (by kernel_rfl)
#print axioms receiptBack_card_holds
end Go.Proofs.YtkdbinchlpdkmaaDoor

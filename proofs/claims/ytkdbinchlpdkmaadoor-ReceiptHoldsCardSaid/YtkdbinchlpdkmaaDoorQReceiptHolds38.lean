/- The tied card: Of any records the receipt of each is accepted under the digest of its own time and under each later one; another record at its place is accepted just if its leaf leads to the same root. -/
import Derived.Test.YtkdbinchlpdkmaaDoorQReceiptHolds37
import Derived.Test.YtkdbinchlpdkmaaDoorCards
import Derived.Test.YtkdbinchlpdkmaaDoorTie
import Derived.SevenTiedAt
namespace Go.Proofs.YtkdbinchlpdkmaaDoor
open Go
theorem receiptHolds_card_holds : Rows.ReceiptHoldsCardSaid :=
  Claim7.holds_tied_plain_at .later [] [.data] true (true, "cbf1fdc224609e51096df043c4d3caea910968d34378560670aa3bf31dc1e9b6") false
    receiptHolds.over (fun _ h => by cases h) (by kernel_rfl) (fun _ h => by cases h) receiptHolds_row_tie rfl ⟨rfl, rfl⟩ (by kernel_rfl) rfl
    (fun f fn hf hfn => by
      obtain rfl : f = 10 := Option.some.inj ((show Tryd.prog.funcNamed "indenture/indenturelaw17.ReceiptHolds" = some 10 by kernel_rfl).symm.trans hf) |>.symm
      obtain rfl : fn = Tryd.f10 := (Option.some.inj (Tryd.func10.symm.trans hfn)).symm
      exact ⟨by kernel_rfl, fun j t ht => by
        rw [Tryd.params10] at ht
        have hw : ∀ t ∈ [89, 84, 93], Tryd.prog.wantsStandIn t = false := by decide +kernel
        exact hw t (by simpa using Array.mem_of_getElem? ht)⟩)
    (by kernel_rfl)
#print axioms receiptHolds_card_holds
end Go.Proofs.YtkdbinchlpdkmaaDoor

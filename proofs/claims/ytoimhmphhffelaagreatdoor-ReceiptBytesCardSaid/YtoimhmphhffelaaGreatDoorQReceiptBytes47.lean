/- The tied card: What both Reads make of any bytes is alike; the bytes of a receipt, and whether two are alike, are told alike by both. -/
import Derived.Test.YtoimhmphhffelaaGreatDoorQReceiptBytes46
import Derived.Test.YtoimhmphhffelaaGreatDoorCards
import Derived.Test.YtoimhmphhffelaaGreatDoorTie
import Derived.SevenTiedAt
namespace Go.Proofs.YtoimhmphhffelaaGreatDoor
open Go
theorem receiptBytes_card_holds : Rows.ReceiptBytesCardSaid :=
  Claim7.holds_tied_plain_at .later [] [.data] true (true, "089f301904c418cc73f39e9690710e3471d5a16d5a256933c97f843ab735d525") true
    receiptBytes.over (fun _ h => by cases h) (by kernel_rfl) (fun _ h => by cases h) receiptBytes_row_tie rfl ⟨rfl, rfl⟩ (by kernel_rfl) rfl
    (fun f fn hf hfn => by
      obtain rfl : f = 3 := Option.some.inj ((show Tryz.prog.funcNamed "indenture/indenturelaw17.ReceiptBytes" = some 3 by kernel_rfl).symm.trans hf) |>.symm
      obtain rfl : fn = Tryz.f3 := (Option.some.inj (Tryz.func3.symm.trans hfn)).symm
      exact ⟨by kernel_rfl, fun j t ht => by
        rw [Tryz.params3] at ht
        have hw : ∀ t ∈ [32, 32, 33], Tryz.prog.wantsStandIn t = false := by decide +kernel
        exact hw t (by simpa using Array.mem_of_getElem? ht)⟩)
    (by kernel_rfl)
#print axioms receiptBytes_card_holds
end Go.Proofs.YtoimhmphhffelaaGreatDoor

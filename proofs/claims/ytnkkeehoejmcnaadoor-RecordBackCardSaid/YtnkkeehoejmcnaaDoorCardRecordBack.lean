/- The tied card: A record that may be comes back from its bytes; bytes that are read are its bytes; cut off anywhere they are none. -/
import Derived.Test.YtnkkeehoejmcnaaDoorLawRecordBack
import Derived.Test.YtnkkeehoejmcnaaDoorCards
import Derived.Test.YtnkkeehoejmcnaaDoorTie
import Derived.SevenTiedAt
namespace Go.Proofs.YtnkkeehoejmcnaaDoor
open Go
theorem recordBack_card_holds : Rows.RecordBackCardSaid :=
  Claim7.holds_tied_plain_at .later [] [.data] true (true, "2994b4317a37f9194b19a2235e4f19a48c861c0000232abb069cb4ca2f8e3854") false
    recordBack.over (fun _ h => by cases h) (by kernel_rfl) (fun _ h => by cases h) recordBack_row_tie rfl ⟨rfl, rfl⟩ (by kernel_rfl) rfl
    (fun f fn hf hfn => by
      obtain rfl : f = 14 := Option.some.inj ((show Tryd.prog.funcNamed "indenture/indenturelaw16.RecordBack" = some 14 by kernel_rfl).symm.trans hf) |>.symm
      obtain rfl : fn = Tryd.f14 := (Option.some.inj (Tryd.func14.symm.trans hfn)).symm
      exact ⟨by kernel_rfl, fun j t ht => by
        rw [Tryd.params14] at ht
        have hw : ∀ t ∈ [25, 28, 56], Tryd.prog.wantsStandIn t = false := by decide +kernel
        exact hw t (by simpa using Array.mem_of_getElem? ht)⟩)
    (by kernel_rfl)
#print axioms recordBack_card_holds
end Go.Proofs.YtnkkeehoejmcnaaDoor

/- The tied card: Whether any record may be, its bytes, its leaf, and whether any two are alike. -/
import Derived.Test.YtnkkeehoejmcnaaDoorLawRecordBytes
import Derived.Test.YtnkkeehoejmcnaaDoorCards
import Derived.Test.YtnkkeehoejmcnaaDoorTie
import Derived.SevenTiedAt
namespace Go.Proofs.YtnkkeehoejmcnaaDoor
open Go
theorem recordBytes_card_holds : Rows.RecordBytesCardSaid :=
  Claim7.holds_tied_plain_at .later [] [.data] true (true, "2994b4317a37f9194b19a2235e4f19a48c861c0000232abb069cb4ca2f8e3854") false
    recordBytes.over (fun _ h => by cases h) (by kernel_rfl) (fun _ h => by cases h) recordBytes_row_tie rfl ⟨rfl, rfl⟩ (by kernel_rfl) rfl
    (fun f fn hf hfn => by
      obtain rfl : f = 3 := Option.some.inj ((show Tryd.prog.funcNamed "indenture/indenturelaw16.RecordBytes" = some 3 by kernel_rfl).symm.trans hf) |>.symm
      obtain rfl : fn = Tryd.f3 := (Option.some.inj (Tryd.func3.symm.trans hfn)).symm
      exact ⟨by kernel_rfl, fun j t ht => by
        rw [Tryd.params3] at ht
        have hw : ∀ t ∈ [25, 25], Tryd.prog.wantsStandIn t = false := by decide +kernel
        exact hw t (by simpa using Array.mem_of_getElem? ht)⟩)
    (by kernel_rfl)
#print axioms recordBytes_card_holds
end Go.Proofs.YtnkkeehoejmcnaaDoor

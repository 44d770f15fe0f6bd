/- The tied card: For any peaks and any leaf: whether they may be, their root, and the peaks with the leaf are the reference's; the call returns true. -/
import Derived.Test.YtbecfcnbgeeghaaDoorLawMountainAdds
import Derived.Test.YtbecfcnbgeeghaaDoorCards
import Derived.Test.YtbecfcnbgeeghaaDoorTie
import Derived.SevenTiedAt
namespace Go.Proofs.YtbecfcnbgeeghaaDoor
open Go
theorem mountainAdds_card_holds : Rows.MountainAddsCardSaid :=
  Claim7.holds_tied_plain_at .later [] [.data, .data, .data] true (true, "11614a2732df4f13fd9af0c8337424a05771221a5129fd07a892c94b53f6a73b") false
    mountainAdds.over (fun _ h => by cases h) (by kernel_rfl) (fun _ h => by cases h) mountainAdds_row_tie rfl ⟨rfl, rfl⟩ (by kernel_rfl) rfl
    (fun f fn hf hfn => by
      obtain rfl : f = 11 := Option.some.inj ((show Tryd.prog.funcNamed "indenture/indenturelaw09.MountainAdds" = some 11 by kernel_rfl).symm.trans hf) |>.symm
      obtain rfl : fn = Tryd.f11 := (Option.some.inj (Tryd.func11.symm.trans hfn)).symm
      exact ⟨by kernel_rfl, fun j t ht => by
        rw [Tryd.params11] at ht
        have hw : ∀ t ∈ [51, 26], Tryd.prog.wantsStandIn t = false := by decide +kernel
        exact hw t (by simpa using Array.mem_of_getElem? ht)⟩)
    (by kernel_rfl)
#print axioms mountainAdds_card_holds
end Go.Proofs.YtbecfcnbgeeghaaDoor

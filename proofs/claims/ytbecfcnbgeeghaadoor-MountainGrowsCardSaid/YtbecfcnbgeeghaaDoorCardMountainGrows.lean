/- The tied card: For all leaves: leaf by leaf the root of the peaks is that of the leaves so far, and peaks that were there stay; the call returns true. -/
import Derived.Test.YtbecfcnbgeeghaaDoorLawMountainGrows
import Derived.Test.YtbecfcnbgeeghaaDoorCards
import Derived.Test.YtbecfcnbgeeghaaDoorTie
import Derived.SevenTiedAt
namespace Go.Proofs.YtbecfcnbgeeghaaDoor
open Go
theorem mountainGrows_card_holds : Rows.MountainGrowsCardSaid :=
  Claim7.holds_tied_plain_at .later [] [.data, .data, .data] true (true, "11614a2732df4f13fd9af0c8337424a05771221a5129fd07a892c94b53f6a73b") false
    mountainGrows.over (fun _ h => by cases h) (by kernel_rfl) (fun _ h => by cases h) mountainGrows_row_tie rfl ⟨rfl, rfl⟩ (by kernel_rfl) rfl
    (fun f fn hf hfn => by
      obtain rfl : f = 17 := Option.some.inj ((show Tryd.prog.funcNamed "indenture/indenturelaw09.MountainGrows" = some 17 by kernel_rfl).symm.trans hf) |>.symm
      obtain rfl : fn = Tryd.f17 := (Option.some.inj (Tryd.func17.symm.trans hfn)).symm
      exact ⟨by kernel_rfl, fun j t ht => by
        rw [Tryd.params17] at ht
        have hw : ∀ t ∈ [22], Tryd.prog.wantsStandIn t = false := by decide +kernel
        exact hw t (by simpa using Array.mem_of_getElem? ht)⟩)
    (by kernel_rfl)
#print axioms mountainGrows_card_holds
end Go.Proofs.YtbecfcnbgeeghaaDoor

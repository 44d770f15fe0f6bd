/- The tied card: For all leaves and any number: the path of that leaf, and what shows that they have grown of that many, are the reference's; the call returns true. -/
import Derived.Test.YtbecfcnbgeeghaaDoorLawProofPaths
import Derived.Test.YtbecfcnbgeeghaaDoorCards
import Derived.Test.YtbecfcnbgeeghaaDoorTie
import Derived.SevenTiedAt
namespace Go.Proofs.YtbecfcnbgeeghaaDoor
open Go
theorem proofPaths_card_holds : Rows.ProofPathsCardSaid :=
  Claim7.holds_tied_plain_at .later [] [.data] true (true, "11614a2732df4f13fd9af0c8337424a05771221a5129fd07a892c94b53f6a73b") false
    proofPaths.over (fun _ h => by cases h) (by kernel_rfl) (fun _ h => by cases h) proofPaths_row_tie rfl ⟨rfl, rfl⟩ (by kernel_rfl) rfl
    (fun f fn hf hfn => by
      obtain rfl : f = 5 := Option.some.inj ((show Tryd.prog.funcNamed "indenture/indenturelaw10.ProofPaths" = some 5 by kernel_rfl).symm.trans hf) |>.symm
      obtain rfl : fn = Tryd.f5 := (Option.some.inj (Tryd.func5.symm.trans hfn)).symm
      exact ⟨by kernel_rfl, fun j t ht => by
        rw [Tryd.params5] at ht
        have hw : ∀ t ∈ [22, 3], Tryd.prog.wantsStandIn t = false := by decide +kernel
        exact hw t (by simpa using Array.mem_of_getElem? ht)⟩)
    (by kernel_rfl)
#print axioms proofPaths_card_holds
end Go.Proofs.YtbecfcnbgeeghaaDoor

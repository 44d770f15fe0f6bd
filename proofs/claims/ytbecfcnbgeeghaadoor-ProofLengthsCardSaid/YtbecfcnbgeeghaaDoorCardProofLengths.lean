/- The tied card: For all leaves: a path is not longer than the tree is high, and a path of another length is not accepted; the call returns true. -/
import Derived.Test.YtbecfcnbgeeghaaDoorLawProofLengths
import Derived.Test.YtbecfcnbgeeghaaDoorCards
import Derived.Test.YtbecfcnbgeeghaaDoorTie
import Derived.SevenTiedAt
namespace Go.Proofs.YtbecfcnbgeeghaaDoor
open Go
theorem proofLengths_card_holds : Rows.ProofLengthsCardSaid :=
  Claim7.holds_tied_plain_at .later [] [.data] true (true, "11614a2732df4f13fd9af0c8337424a05771221a5129fd07a892c94b53f6a73b") false
    proofLengths.over (fun _ h => by cases h) (by kernel_rfl) (fun _ h => by cases h) proofLengths_row_tie rfl ⟨rfl, rfl⟩ (by kernel_rfl) rfl
    (fun f fn hf hfn => by
      obtain rfl : f = 6 := Option.some.inj ((show Tryd.prog.funcNamed "indenture/indenturelaw10.ProofLengths" = some 6 by kernel_rfl).symm.trans hf) |>.symm
      obtain rfl : fn = Tryd.f6 := (Option.some.inj (Tryd.func6.symm.trans hfn)).symm
      exact ⟨by kernel_rfl, fun j t ht => by
        rw [Tryd.params6] at ht
        have hw : ∀ t ∈ [22, 30, 22], Tryd.prog.wantsStandIn t = false := by decide +kernel
        exact hw t (by simpa using Array.mem_of_getElem? ht)⟩)
    (by kernel_rfl)
#print axioms proofLengths_card_holds
end Go.Proofs.YtbecfcnbgeeghaaDoor

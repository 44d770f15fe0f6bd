/- The tied card: For all leaves: each leaf is accepted at its place by its path, each beginning by what is told of growth, and a path that is one longer is not; the call returns true. -/
import Derived.Test.YtbecfcnbgeeghaaDoorLawProofHolds
import Derived.Test.YtbecfcnbgeeghaaDoorCards
import Derived.Test.YtbecfcnbgeeghaaDoorTie
import Derived.SevenTiedAt
namespace Go.Proofs.YtbecfcnbgeeghaaDoor
open Go
theorem proofHolds_card_holds : Rows.ProofHoldsCardSaid :=
  Claim7.holds_tied_plain_at .later [] [.data] true (true, "11614a2732df4f13fd9af0c8337424a05771221a5129fd07a892c94b53f6a73b") false
    proofHolds.over (fun _ h => by cases h) (by kernel_rfl) (fun _ h => by cases h) proofHolds_row_tie rfl ⟨rfl, rfl⟩ (by kernel_rfl) rfl
    (fun f fn hf hfn => by
      obtain rfl : f = 18 := Option.some.inj ((show Tryd.prog.funcNamed "indenture/indenturelaw10.ProofHolds" = some 18 by kernel_rfl).symm.trans hf) |>.symm
      obtain rfl : fn = Tryd.f18 := (Option.some.inj (Tryd.func18.symm.trans hfn)).symm
      exact ⟨by kernel_rfl, fun j t ht => by
        rw [Tryd.params18] at ht
        have hw : ∀ t ∈ [22, 30, 30], Tryd.prog.wantsStandIn t = false := by decide +kernel
        exact hw t (by simpa using Array.mem_of_getElem? ht)⟩)
    (by kernel_rfl)
#print axioms proofHolds_card_holds
end Go.Proofs.YtbecfcnbgeeghaaDoor

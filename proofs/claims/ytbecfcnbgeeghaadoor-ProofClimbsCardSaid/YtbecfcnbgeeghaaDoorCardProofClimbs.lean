/- The tied card: Where any path leads to, of any leaf of any number of them, and whether that is a root, is the reference's; the call returns true. -/
import Derived.Test.YtbecfcnbgeeghaaDoorLawProofClimbs
import Derived.Test.YtbecfcnbgeeghaaDoorCards
import Derived.Test.YtbecfcnbgeeghaaDoorTie
import Derived.SevenTiedAt
namespace Go.Proofs.YtbecfcnbgeeghaaDoor
open Go
theorem proofClimbs_card_holds : Rows.ProofClimbsCardSaid :=
  Claim7.holds_tied_plain_at .later [] [.data] true (true, "11614a2732df4f13fd9af0c8337424a05771221a5129fd07a892c94b53f6a73b") false
    proofClimbs.over (fun _ h => by cases h) (by kernel_rfl) (fun _ h => by cases h) proofClimbs_row_tie rfl ⟨rfl, rfl⟩ (by kernel_rfl) rfl
    (fun f fn hf hfn => by
      obtain rfl : f = 7 := Option.some.inj ((show Tryd.prog.funcNamed "indenture/indenturelaw10.ProofClimbs" = some 7 by kernel_rfl).symm.trans hf) |>.symm
      obtain rfl : fn = Tryd.f7 := (Option.some.inj (Tryd.func7.symm.trans hfn)).symm
      exact ⟨by kernel_rfl, fun j t ht => by
        rw [Tryd.params7] at ht
        have hw : ∀ t ∈ [40, 41, 22], Tryd.prog.wantsStandIn t = false := by decide +kernel
        exact hw t (by simpa using Array.mem_of_getElem? ht)⟩)
    (by kernel_rfl)
#print axioms proofClimbs_card_holds
end Go.Proofs.YtbecfcnbgeeghaaDoor

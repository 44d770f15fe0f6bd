/- The tied card: For all leaves: what has grown of something that has grown of a third has grown of the third; the call returns true. -/
import Derived.Test.YtbecfcnbgeeghaaDoorLawProofJoins
import Derived.Test.YtbecfcnbgeeghaaDoorCards
import Derived.Test.YtbecfcnbgeeghaaDoorTie
import Derived.SevenTiedAt
namespace Go.Proofs.YtbecfcnbgeeghaaDoor
open Go
theorem proofJoins_card_holds : Rows.ProofJoinsCardSaid :=
  Claim7.holds_tied_plain_at .later [] [.data] true (true, "11614a2732df4f13fd9af0c8337424a05771221a5129fd07a892c94b53f6a73b") false
    proofJoins.over (fun _ h => by cases h) (by kernel_rfl) (fun _ h => by cases h) proofJoins_row_tie rfl ⟨rfl, rfl⟩ (by kernel_rfl) rfl
    (fun f fn hf hfn => by
      obtain rfl : f = 16 := Option.some.inj ((show Tryd.prog.funcNamed "indenture/indenturelaw10.ProofJoins" = some 16 by kernel_rfl).symm.trans hf) |>.symm
      obtain rfl : fn = Tryd.f16 := (Option.some.inj (Tryd.func16.symm.trans hfn)).symm
      exact ⟨by kernel_rfl, fun j t ht => by
        rw [Tryd.params16] at ht
        have hw : ∀ t ∈ [22, 30, 30], Tryd.prog.wantsStandIn t = false := by decide +kernel
        exact hw t (by simpa using Array.mem_of_getElem? ht)⟩)
    (by kernel_rfl)
#print axioms proofJoins_card_holds
end Go.Proofs.YtbecfcnbgeeghaaDoor

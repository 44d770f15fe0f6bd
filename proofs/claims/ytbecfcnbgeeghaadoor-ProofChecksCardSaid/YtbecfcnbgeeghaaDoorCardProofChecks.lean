/- The tied card: For all roots, sizes and paths: the program and the document say alike whether a path shows that one root has grown of the other; the call returns true. -/
import Derived.Test.YtbecfcnbgeeghaaDoorLawProofChecks
import Derived.Test.YtbecfcnbgeeghaaDoorCards
import Derived.Test.YtbecfcnbgeeghaaDoorTie
import Derived.SevenTiedAt
namespace Go.Proofs.YtbecfcnbgeeghaaDoor
open Go
theorem proofChecks_card_holds : Rows.ProofChecksCardSaid :=
  Claim7.holds_tied_plain_at .later [] [.data] true (true, "11614a2732df4f13fd9af0c8337424a05771221a5129fd07a892c94b53f6a73b") false
    proofChecks.over (fun _ h => by cases h) (by kernel_rfl) (fun _ h => by cases h) proofChecks_row_tie rfl ⟨rfl, rfl⟩ (by kernel_rfl) rfl
    (fun f fn hf hfn => by
      obtain rfl : f = 12 := Option.some.inj ((show Tryd.prog.funcNamed "indenture/indenturelaw10.ProofChecks" = some 12 by kernel_rfl).symm.trans hf) |>.symm
      obtain rfl : fn = Tryd.f12 := (Option.some.inj (Tryd.func12.symm.trans hfn)).symm
      exact ⟨by kernel_rfl, fun j t ht => by
        rw [Tryd.params12] at ht
        have hw : ∀ t ∈ [40, 41, 22], Tryd.prog.wantsStandIn t = false := by decide +kernel
        exact hw t (by simpa using Array.mem_of_getElem? ht)⟩)
    (by kernel_rfl)
#print axioms proofChecks_card_holds
end Go.Proofs.YtbecfcnbgeeghaaDoor

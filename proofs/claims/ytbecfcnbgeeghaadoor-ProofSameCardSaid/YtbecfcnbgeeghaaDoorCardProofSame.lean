/- The tied card: For all roots and sizes: what is as great as itself has grown of itself just if the roots are the same, without a path; nothing has grown of more; the call returns true. -/
import Derived.Test.YtbecfcnbgeeghaaDoorLawProofSame
import Derived.Test.YtbecfcnbgeeghaaDoorCards
import Derived.Test.YtbecfcnbgeeghaaDoorTie
import Derived.SevenTiedAt
namespace Go.Proofs.YtbecfcnbgeeghaaDoor
open Go
theorem proofSame_card_holds : Rows.ProofSameCardSaid :=
  Claim7.holds_tied_plain_at .later [] [.data] true (true, "11614a2732df4f13fd9af0c8337424a05771221a5129fd07a892c94b53f6a73b") false
    proofSame.over (fun _ h => by cases h) (by kernel_rfl) (fun _ h => by cases h) proofSame_row_tie rfl ⟨rfl, rfl⟩ (by kernel_rfl) rfl
    (fun f fn hf hfn => by
      obtain rfl : f = 13 := Option.some.inj ((show Tryd.prog.funcNamed "indenture/indenturelaw10.ProofSame" = some 13 by kernel_rfl).symm.trans hf) |>.symm
      obtain rfl : fn = Tryd.f13 := (Option.some.inj (Tryd.func13.symm.trans hfn)).symm
      exact ⟨by kernel_rfl, fun j t ht => by
        rw [Tryd.params13] at ht
        have hw : ∀ t ∈ [26, 26, 41], Tryd.prog.wantsStandIn t = false := by decide +kernel
        exact hw t (by simpa using Array.mem_of_getElem? ht)⟩)
    (by kernel_rfl)
#print axioms proofSame_card_holds
end Go.Proofs.YtbecfcnbgeeghaaDoor

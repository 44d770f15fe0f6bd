/- The tied card: Of any two lists of inputs, and of any two leaves and proofs, two inputs of one hash, or none. -/
import Derived.Test.YtnkkeehoejmcnaaDoorLawClashFirsts
import Derived.Test.YtnkkeehoejmcnaaDoorCards
import Derived.Test.YtnkkeehoejmcnaaDoorTie
import Derived.SevenTiedAt
namespace Go.Proofs.YtnkkeehoejmcnaaDoor
open Go
theorem clashFirsts_card_holds : Rows.ClashFirstsCardSaid :=
  Claim7.holds_tied_plain_at .later [] [.data] true (true, "2994b4317a37f9194b19a2235e4f19a48c861c0000232abb069cb4ca2f8e3854") false
    clashFirsts.over (fun _ h => by cases h) (by kernel_rfl) (fun _ h => by cases h) clashFirsts_row_tie rfl ⟨rfl, rfl⟩ (by kernel_rfl) rfl
    (fun f fn hf hfn => by
      obtain rfl : f = 6 := Option.some.inj ((show Tryd.prog.funcNamed "indenture/indenturelaw20.ClashFirsts" = some 6 by kernel_rfl).symm.trans hf) |>.symm
      obtain rfl : fn = Tryd.f6 := (Option.some.inj (Tryd.func6.symm.trans hfn)).symm
      exact ⟨by kernel_rfl, fun j t ht => by
        rw [Tryd.params6] at ht
        have hw : ∀ t ∈ [45, 45, 75], Tryd.prog.wantsStandIn t = false := by decide +kernel
        exact hw t (by simpa using Array.mem_of_getElem? ht)⟩)
    (by kernel_rfl)
#print axioms clashFirsts_card_holds
end Go.Proofs.YtnkkeehoejmcnaaDoor

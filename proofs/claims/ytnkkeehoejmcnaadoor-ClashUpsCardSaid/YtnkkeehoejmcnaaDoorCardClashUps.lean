/- The tied card: The inputs on the way of any leaf up any path, and of any key up any proof. -/
import Derived.Test.YtnkkeehoejmcnaaDoorLawClashUps
import Derived.Test.YtnkkeehoejmcnaaDoorCards
import Derived.Test.YtnkkeehoejmcnaaDoorTie
import Derived.SevenTiedAt
namespace Go.Proofs.YtnkkeehoejmcnaaDoor
open Go
theorem clashUps_card_holds : Rows.ClashUpsCardSaid :=
  Claim7.holds_tied_plain_at .later [] [.data] true (true, "2994b4317a37f9194b19a2235e4f19a48c861c0000232abb069cb4ca2f8e3854") false
    clashUps.over (fun _ h => by cases h) (by kernel_rfl) (fun _ h => by cases h) clashUps_row_tie rfl ⟨rfl, rfl⟩ (by kernel_rfl) rfl
    (fun f fn hf hfn => by
      obtain rfl : f = 4 := Option.some.inj ((show Tryd.prog.funcNamed "indenture/indenturelaw20.ClashUps" = some 4 by kernel_rfl).symm.trans hf) |>.symm
      obtain rfl : fn = Tryd.f4 := (Option.some.inj (Tryd.func4.symm.trans hfn)).symm
      exact ⟨by kernel_rfl, fun j t ht => by
        rw [Tryd.params4] at ht
        have hw : ∀ t ∈ [35, 38, 43], Tryd.prog.wantsStandIn t = false := by decide +kernel
        exact hw t (by simpa using Array.mem_of_getElem? ht)⟩)
    (by kernel_rfl)
#print axioms clashUps_card_holds
end Go.Proofs.YtnkkeehoejmcnaaDoor

/- The tied card: Of any two leaves at one place two inputs of one hash, or none. -/
import Derived.Test.YtfldckjkipmibaaDoorLawClashLeaves
import Derived.Test.YtfldckjkipmibaaDoorCards
import Derived.Test.YtfldckjkipmibaaDoorTie
import Derived.SevenTiedAt
namespace Go.Proofs.YtfldckjkipmibaaDoor
open Go
theorem clashLeaves_card_holds : Rows.ClashLeavesCardSaid :=
  Claim7.holds_tied_plain_at .later [] [.data] true (true, "de1d828319544e979df479316348ec997ac06e5c491e420b241b00f08e3efdf0") false
    clashLeaves.over (fun _ h => by cases h) (by kernel_rfl) (fun _ h => by cases h) clashLeaves_row_tie rfl ⟨rfl, rfl⟩ (by kernel_rfl) rfl
    (fun f fn hf hfn => by
      obtain rfl : f = 7 := Option.some.inj ((show Tryd.prog.funcNamed "indenture/indenturelaw20.ClashLeaves" = some 7 by kernel_rfl).symm.trans hf) |>.symm
      obtain rfl : fn = Tryd.f7 := (Option.some.inj (Tryd.func7.symm.trans hfn)).symm
      exact ⟨by kernel_rfl, fun j t ht => by
        rw [Tryd.params7] at ht
        have hw : ∀ t ∈ [31, 43, 43], Tryd.prog.wantsStandIn t = false := by decide +kernel
        exact hw t (by simpa using Array.mem_of_getElem? ht)⟩)
    (by kernel_rfl)
#print axioms clashLeaves_card_holds
end Go.Proofs.YtfldckjkipmibaaDoor

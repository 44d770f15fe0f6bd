/- The tied card: If two different leaves are accepted at one place under one root, two different inputs of one hash are told; what is told is that. -/
import Derived.Test.YtfldckjkipmibaaDoorLawClashFinds
import Derived.Test.YtfldckjkipmibaaDoorCards
import Derived.Test.YtfldckjkipmibaaDoorTie
import Derived.SevenTiedAt
namespace Go.Proofs.YtfldckjkipmibaaDoor
open Go
theorem clashFinds_card_holds : Rows.ClashFindsCardSaid :=
  Claim7.holds_tied_plain_at .later [] [.data] true (true, "de1d828319544e979df479316348ec997ac06e5c491e420b241b00f08e3efdf0") false
    clashFinds.over (fun _ h => by cases h) (by kernel_rfl) (fun _ h => by cases h) clashFinds_row_tie rfl ⟨rfl, rfl⟩ (by kernel_rfl) rfl
    (fun f fn hf hfn => by
      obtain rfl : f = 8 := Option.some.inj ((show Tryd.prog.funcNamed "indenture/indenturelaw20.ClashFinds" = some 8 by kernel_rfl).symm.trans hf) |>.symm
      obtain rfl : fn = Tryd.f8 := (Option.some.inj (Tryd.func8.symm.trans hfn)).symm
      exact ⟨by kernel_rfl, fun j t ht => by
        rw [Tryd.params8] at ht
        have hw : ∀ t ∈ [31, 43, 43], Tryd.prog.wantsStandIn t = false := by decide +kernel
        exact hw t (by simpa using Array.mem_of_getElem? ht)⟩)
    (by kernel_rfl)
#print axioms clashFinds_card_holds
end Go.Proofs.YtfldckjkipmibaaDoor

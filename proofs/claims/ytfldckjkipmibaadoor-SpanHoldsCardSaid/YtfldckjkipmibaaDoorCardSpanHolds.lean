/- The tied card: For all leaves and places: what is shown of leaves side by side is accepted under the root of all, with a side more it is not; the call returns true. -/
import Derived.Test.YtfldckjkipmibaaDoorLawSpanHolds
import Derived.Test.YtfldckjkipmibaaDoorCards
import Derived.Test.YtfldckjkipmibaaDoorTie
import Derived.SevenTiedAt
namespace Go.Proofs.YtfldckjkipmibaaDoor
open Go
theorem spanHolds_card_holds : Rows.SpanHoldsCardSaid :=
  Claim7.holds_tied_plain_at .later [] [.data] true (true, "de1d828319544e979df479316348ec997ac06e5c491e420b241b00f08e3efdf0") false
    spanHolds.over (fun _ h => by cases h) (by kernel_rfl) (fun _ h => by cases h) spanHolds_row_tie rfl ⟨rfl, rfl⟩ (by kernel_rfl) rfl
    (fun f fn hf hfn => by
      obtain rfl : f = 6 := Option.some.inj ((show Tryd.prog.funcNamed "indenture/indenturelaw28.SpanHolds" = some 6 by kernel_rfl).symm.trans hf) |>.symm
      obtain rfl : fn = Tryd.f6 := (Option.some.inj (Tryd.func6.symm.trans hfn)).symm
      exact ⟨by kernel_rfl, fun j t ht => by
        rw [Tryd.params6] at ht
        have hw : ∀ t ∈ [22, 37], Tryd.prog.wantsStandIn t = false := by decide +kernel
        exact hw t (by simpa using Array.mem_of_getElem? ht)⟩)
    (by kernel_rfl)
#print axioms spanHolds_card_holds
end Go.Proofs.YtfldckjkipmibaaDoor

/- The tied card: For all leaves and places: of one leaf there are just the hashes of its path, though in another order; the call returns true. -/
import Derived.Test.YtfldckjkipmibaaDoorLawSpanOnes
import Derived.Test.YtfldckjkipmibaaDoorCards
import Derived.Test.YtfldckjkipmibaaDoorTie
import Derived.SevenTiedAt
namespace Go.Proofs.YtfldckjkipmibaaDoor
open Go
theorem spanOnes_card_holds : Rows.SpanOnesCardSaid :=
  Claim7.holds_tied_plain_at .later [] [.data] true (true, "de1d828319544e979df479316348ec997ac06e5c491e420b241b00f08e3efdf0") false
    spanOnes.over (fun _ h => by cases h) (by kernel_rfl) (fun _ h => by cases h) spanOnes_row_tie rfl ⟨rfl, rfl⟩ (by kernel_rfl) rfl
    (fun f fn hf hfn => by
      obtain rfl : f = 3 := Option.some.inj ((show Tryd.prog.funcNamed "indenture/indenturelaw28.SpanOnes" = some 3 by kernel_rfl).symm.trans hf) |>.symm
      obtain rfl : fn = Tryd.f3 := (Option.some.inj (Tryd.func3.symm.trans hfn)).symm
      exact ⟨by kernel_rfl, fun j t ht => by
        rw [Tryd.params3] at ht
        have hw : ∀ t ∈ [22, 23], Tryd.prog.wantsStandIn t = false := by decide +kernel
        exact hw t (by simpa using Array.mem_of_getElem? ht)⟩)
    (by kernel_rfl)
#print axioms spanOnes_card_holds
end Go.Proofs.YtfldckjkipmibaaDoor

/- The tied card: For all leaves, places and sides: what shows any leaves of any, side by side; the root that any leaves and sides have, and whether that is one, are as the document has them; the call returns true. -/
import Derived.Test.YtfldckjkipmibaaDoorLawSpanProves
import Derived.Test.YtfldckjkipmibaaDoorCards
import Derived.Test.YtfldckjkipmibaaDoorTie
import Derived.SevenTiedAt
namespace Go.Proofs.YtfldckjkipmibaaDoor
open Go
theorem spanProves_card_holds : Rows.SpanProvesCardSaid :=
  Claim7.holds_tied_plain_at .later [] [.data] true (true, "de1d828319544e979df479316348ec997ac06e5c491e420b241b00f08e3efdf0") false
    spanProves.over (fun _ h => by cases h) (by kernel_rfl) (fun _ h => by cases h) spanProves_row_tie rfl ⟨rfl, rfl⟩ (by kernel_rfl) rfl
    (fun f fn hf hfn => by
      obtain rfl : f = 4 := Option.some.inj ((show Tryd.prog.funcNamed "indenture/indenturelaw28.SpanProves" = some 4 by kernel_rfl).symm.trans hf) |>.symm
      obtain rfl : fn = Tryd.f4 := (Option.some.inj (Tryd.func4.symm.trans hfn)).symm
      exact ⟨by kernel_rfl, fun j t ht => by
        rw [Tryd.params4] at ht
        have hw : ∀ t ∈ [22, 31, 22], Tryd.prog.wantsStandIn t = false := by decide +kernel
        exact hw t (by simpa using Array.mem_of_getElem? ht)⟩)
    (by kernel_rfl)
#print axioms spanProves_card_holds
end Go.Proofs.YtfldckjkipmibaaDoor

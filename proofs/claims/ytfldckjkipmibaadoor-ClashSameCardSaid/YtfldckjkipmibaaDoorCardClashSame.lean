/- The tied card: A way against itself has no two; two lists that end alike and differ below have just the first that differ from the end, if their sums are the same. -/
import Derived.Test.YtfldckjkipmibaaDoorLawClashSame
import Derived.Test.YtfldckjkipmibaaDoorCards
import Derived.Test.YtfldckjkipmibaaDoorTie
import Derived.SevenTiedAt
namespace Go.Proofs.YtfldckjkipmibaaDoor
open Go
theorem clashSame_card_holds : Rows.ClashSameCardSaid :=
  Claim7.holds_tied_plain_at .later [] [.data] true (true, "de1d828319544e979df479316348ec997ac06e5c491e420b241b00f08e3efdf0") false
    clashSame.over (fun _ h => by cases h) (by kernel_rfl) (fun _ h => by cases h) clashSame_row_tie rfl ⟨rfl, rfl⟩ (by kernel_rfl) rfl
    (fun f fn hf hfn => by
      obtain rfl : f = 9 := Option.some.inj ((show Tryd.prog.funcNamed "indenture/indenturelaw20.ClashSame" = some 9 by kernel_rfl).symm.trans hf) |>.symm
      obtain rfl : fn = Tryd.f9 := (Option.some.inj (Tryd.func9.symm.trans hfn)).symm
      exact ⟨by kernel_rfl, fun j t ht => by
        rw [Tryd.params9] at ht
        have hw : ∀ t ∈ [51, 51, 52], Tryd.prog.wantsStandIn t = false := by decide +kernel
        exact hw t (by simpa using Array.mem_of_getElem? ht)⟩)
    (by kernel_rfl)
#print axioms clashSame_card_holds
end Go.Proofs.YtfldckjkipmibaaDoor

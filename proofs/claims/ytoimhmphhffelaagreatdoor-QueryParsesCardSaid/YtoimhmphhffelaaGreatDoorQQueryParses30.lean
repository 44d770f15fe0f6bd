/- The tied card: What both Parses make of any text is alike: the query, or the word that is wrong; lives. -/
import Derived.Test.YtoimhmphhffelaaGreatDoorQQueryParses29
import Derived.Test.YtoimhmphhffelaaGreatDoorCards
import Derived.Test.YtoimhmphhffelaaGreatDoorTie
import Derived.SevenTiedAt
namespace Go.Proofs.YtoimhmphhffelaaGreatDoor
open Go
theorem queryParses_card_holds : Rows.QueryParsesCardSaid :=
  Claim7.holds_tied_plain_at .later [] [.data, .data, .data, .data, .sentinel, .sentinel, .widerDeep, .widerDeep, .pinned] true (true, "089f301904c418cc73f39e9690710e3471d5a16d5a256933c97f843ab735d525") true
    queryParses.over (fun _ h => by cases h) (by kernel_rfl) (fun _ h => by cases h) queryParses_row_tie rfl ⟨rfl, rfl⟩ (by kernel_rfl) rfl
    (fun f fn hf hfn => by
      obtain rfl : f = 4 := Option.some.inj ((show Tryz.prog.funcNamed "indenture/indenturelaw34.QueryParses" = some 4 by kernel_rfl).symm.trans hf) |>.symm
      obtain rfl : fn = Tryz.f4 := (Option.some.inj (Tryz.func4.symm.trans hfn)).symm
      exact ⟨by kernel_rfl, fun j t ht => by
        rw [Tryz.params4] at ht
        have hw : ∀ t ∈ [9], Tryz.prog.wantsStandIn t = false := by decide +kernel
        exact hw t (by simpa using Array.mem_of_getElem? ht)⟩)
    (by kernel_rfl)
#print axioms queryParses_card_holds
end Go.Proofs.YtoimhmphhffelaaGreatDoor

/- The tied card: Whether any query may be, its text, whether two are alike, and between which texts it looks, both tell alike; lives. -/
import Derived.Test.YtoimhmphhffelaaGreatDoorQQueryPrints29
import Derived.Test.YtoimhmphhffelaaGreatDoorCards
import Derived.Test.YtoimhmphhffelaaGreatDoorTie
import Derived.SevenTiedAt
namespace Go.Proofs.YtoimhmphhffelaaGreatDoor
open Go
theorem queryPrints_card_holds : Rows.QueryPrintsCardSaid :=
  Claim7.holds_tied_plain_at .later [] [.data, .data, .data, .data, .sentinel, .sentinel, .widerDeep, .widerDeep, .pinned] true (true, "089f301904c418cc73f39e9690710e3471d5a16d5a256933c97f843ab735d525") true
    queryPrints.over (fun _ h => by cases h) (by kernel_rfl) (fun _ h => by cases h) queryPrints_row_tie rfl ⟨rfl, rfl⟩ (by kernel_rfl) rfl
    (fun f fn hf hfn => by
      obtain rfl : f = 5 := Option.some.inj ((show Tryz.prog.funcNamed "indenture/indenturelaw34.QueryPrints" = some 5 by kernel_rfl).symm.trans hf) |>.symm
      obtain rfl : fn = Tryz.f5 := (Option.some.inj (Tryz.func5.symm.trans hfn)).symm
      exact ⟨by kernel_rfl, fun j t ht => by
        rw [Tryz.params5] at ht
        have hw : ∀ t ∈ [46, 46], Tryz.prog.wantsStandIn t = false := by decide +kernel
        exact hw t (by simpa using Array.mem_of_getElem? ht)⟩)
    (by kernel_rfl)
#print axioms queryPrints_card_holds
end Go.Proofs.YtoimhmphhffelaaGreatDoor

/- The tied card: The text of a query that may be is that query again; of a text that is one, too; lives. -/
import Derived.Test.YtoimhmphhffelaaDoorQQueryBack28
import Derived.Test.YtoimhmphhffelaaDoorCards
import Derived.Test.YtoimhmphhffelaaDoorTie
import Derived.SevenTiedAt
namespace Go.Proofs.YtoimhmphhffelaaDoor
open Go
theorem queryBack_card_holds : Rows.QueryBackCardSaid :=
  Claim7.holds_tied_plain_at .later [] [.data, .data, .data, .data, .sentinel, .sentinel, .widerDeep, .widerDeep, .pinned] true (true, "42212f3a7eb299b8341186c315aa890fcbebceb99864b217b581edb2cb773bcb") true
    queryBack.over (fun _ h => by cases h) (by kernel_rfl) (fun _ h => by cases h) queryBack_row_tie rfl ⟨rfl, rfl⟩ (by kernel_rfl) rfl
    (fun f fn hf hfn => by
      obtain rfl : f = 3 := Option.some.inj ((show Tryd.prog.funcNamed "indenture/indenturelaw34.QueryBack" = some 3 by kernel_rfl).symm.trans hf) |>.symm
      obtain rfl : fn = Tryd.f3 := (Option.some.inj (Tryd.func3.symm.trans hfn)).symm
      exact ⟨by kernel_rfl, fun j t ht => by
        rw [Tryd.params3] at ht
        have hw : ∀ t ∈ [24, 9], Tryd.prog.wantsStandIn t = false := by decide +kernel
        exact hw t (by simpa using Array.mem_of_getElem? ht)⟩)
    (by kernel_rfl)
#print axioms queryBack_card_holds
end Go.Proofs.YtoimhmphhffelaaDoor

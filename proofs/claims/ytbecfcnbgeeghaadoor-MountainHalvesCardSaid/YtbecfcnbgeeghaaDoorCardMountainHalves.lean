/- The tied card of the law of halves. -/
import Derived.Test.YtbecfcnbgeeghaaDoorLawMountainHalves
import Derived.Test.YtbecfcnbgeeghaaDoorCards
import Derived.Test.YtbecfcnbgeeghaaDoorTie
import Derived.SevenTiedAt
namespace Go.Proofs.YtbecfcnbgeeghaaDoor
open Go
theorem mountainHalves_card_holds : Rows.MountainHalvesCardSaid :=
  Claim7.holds_tied_plain_at .later [] [.data] true (true, "11614a2732df4f13fd9af0c8337424a05771221a5129fd07a892c94b53f6a73b") false
    mountainHalves.over (fun _ h => by cases h) (by kernel_rfl) (fun _ h => by cases h) mountainHalves_row_tie rfl ⟨rfl, rfl⟩ (by kernel_rfl) rfl
    (fun f fn hf hfn => by
      obtain rfl : f = 3 := Option.some.inj ((show Tryd.prog.funcNamed "indenture/indenturelaw09.MountainHalves" = some 3 by kernel_rfl).symm.trans hf) |>.symm
      obtain rfl : fn = Tryd.f3 := (Option.some.inj (Tryd.func3.symm.trans hfn)).symm
      exact ⟨by kernel_rfl, fun j t ht => by
        rw [Tryd.params3] at ht
        have h3 : t = 22 := by
          rcases j with _ | j
          · simpa using ht.symm
          · simp at ht
        subst h3
        exact (show Tryd.prog.wantsStandIn 22 = false by kernel_rfl)⟩)
    (by kernel_rfl)
#print axioms mountainHalves_card_holds
end Go.Proofs.YtbecfcnbgeeghaaDoor

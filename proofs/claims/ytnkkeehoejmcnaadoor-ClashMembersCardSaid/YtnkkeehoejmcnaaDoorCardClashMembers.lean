/- The tied card: Without the document's answer, and without belief in a hash: if two proofs that are accepted under one root say different things of one key, two different inputs of one hash are told. -/
import Derived.Test.YtnkkeehoejmcnaaDoorLawClashMembers
import Derived.Test.YtnkkeehoejmcnaaDoorCards
import Derived.Test.YtnkkeehoejmcnaaDoorTie
import Derived.SevenTiedAt
namespace Go.Proofs.YtnkkeehoejmcnaaDoor
open Go
theorem clashMembers_card_holds : Rows.ClashMembersCardSaid :=
  Claim7.holds_tied_plain_at .later [] [.data] true (true, "2994b4317a37f9194b19a2235e4f19a48c861c0000232abb069cb4ca2f8e3854") false
    clashMembers.over (fun _ h => by cases h) (by kernel_rfl) (fun _ h => by cases h) clashMembers_row_tie rfl ⟨rfl, rfl⟩ (by kernel_rfl) rfl
    (fun f fn hf hfn => by
      obtain rfl : f = 7 := Option.some.inj ((show Tryd.prog.funcNamed "indenture/indenturelaw20.ClashMembers" = some 7 by kernel_rfl).symm.trans hf) |>.symm
      obtain rfl : fn = Tryd.f7 := (Option.some.inj (Tryd.func7.symm.trans hfn)).symm
      exact ⟨by kernel_rfl, fun j t ht => by
        rw [Tryd.params7] at ht
        have hw : ∀ t ∈ [31, 41, 41], Tryd.prog.wantsStandIn t = false := by decide +kernel
        exact hw t (by simpa using Array.mem_of_getElem? ht)⟩)
    (by kernel_rfl)
#print axioms clashMembers_card_holds
end Go.Proofs.YtnkkeehoejmcnaaDoor

/-
  DERIVED. GIVEN WITH THE SEED: THE CARDS: each row of YtfldckjkipmibaaDoorRows.lean that lists a variable, with what it lists TIED to the program's text (the seventh form; the later family's looks); each row that meets fmt, with fmt's text TOLD by the authors' own Lean function (tested against real Go, not proved from fmt's source: count such statements apart). THE CARD IS WHAT COUNTS. Prove the row's statement (the work); the ties are given (YtfldckjkipmibaaDoorTie.lean); close each card by the builder's one call (the guide's Derived/Test/ToyasCard.lean, 'card_holds'). Laid BY PROGRAM, IN A SANDBOX (cutbox-door.mjs). By AI agents, Wed Nov 11 2026. No macro, syntax, notation, axiom, sorry.
-/
import Derived.Test.YtfldckjkipmibaaDoorRows
import GoSem.ClaimSeven
namespace Go.Proofs.YtfldckjkipmibaaDoor
namespace Rows

/-- THE TIED CARD OF 'indenturelaw28.SpanOnes'. -/
def spanOnesCard : Claim7 := { stood := { row := spanOnesRow, standIns := [], harness := (true, "de1d828319544e979df479316348ec997ac06e5c491e420b241b00f08e3efdf0"), looks := false }, kinds := [], alts := [], laidByText := true, laidKinds := [.data], laidTests := true, laidLooks := .later }
def SpanOnesCardSaid : Prop := Claim7.holds Tryd.pinned (.plain (OpenSpec.ofChange spanOnesSpec)) spanOnesCard

/-- THE TIED CARD OF 'indenturelaw28.SpanProves'. -/
def spanProvesCard : Claim7 := { stood := { row := spanProvesRow, standIns := [], harness := (true, "de1d828319544e979df479316348ec997ac06e5c491e420b241b00f08e3efdf0"), looks := false }, kinds := [], alts := [], laidByText := true, laidKinds := [.data], laidTests := true, laidLooks := .later }
def SpanProvesCardSaid : Prop := Claim7.holds Tryd.pinned (.plain (OpenSpec.ofChange spanProvesSpec)) spanProvesCard

/-- THE TIED CARD OF 'indenturelaw28.SpanRoots'. -/
def spanRootsCard : Claim7 := { stood := { row := spanRootsRow, standIns := [], harness := (true, "de1d828319544e979df479316348ec997ac06e5c491e420b241b00f08e3efdf0"), looks := false }, kinds := [], alts := [], laidByText := true, laidKinds := [.data], laidTests := true, laidLooks := .later }
def SpanRootsCardSaid : Prop := Claim7.holds Tryd.pinned (.plain (OpenSpec.ofChange spanRootsSpec)) spanRootsCard

/-- THE TIED CARD OF 'indenturelaw28.SpanHolds'. -/
def spanHoldsCard : Claim7 := { stood := { row := spanHoldsRow, standIns := [], harness := (true, "de1d828319544e979df479316348ec997ac06e5c491e420b241b00f08e3efdf0"), looks := false }, kinds := [], alts := [], laidByText := true, laidKinds := [.data], laidTests := true, laidLooks := .later }
def SpanHoldsCardSaid : Prop := Claim7.holds Tryd.pinned (.plain (OpenSpec.ofChange spanHoldsSpec)) spanHoldsCard

/-- THE TIED CARD OF 'indenturelaw20.ClashLeaves'. -/
def clashLeavesCard : Claim7 := { stood := { row := clashLeavesRow, standIns := [], harness := (true, "de1d828319544e979df479316348ec997ac06e5c491e420b241b00f08e3efdf0"), looks := false }, kinds := [], alts := [], laidByText := true, laidKinds := [.data], laidTests := true, laidLooks := .later }
def ClashLeavesCardSaid : Prop := Claim7.holds Tryd.pinned (.plain (OpenSpec.ofChange clashLeavesSpec)) clashLeavesCard

/-- THE TIED CARD OF 'indenturelaw20.ClashFinds'. -/
def clashFindsCard : Claim7 := { stood := { row := clashFindsRow, standIns := [], harness := (true, "de1d828319544e979df479316348ec997ac06e5c491e420b241b00f08e3efdf0"), looks := false }, kinds := [], alts := [], laidByText := true, laidKinds := [.data], laidTests := true, laidLooks := .later }
def ClashFindsCardSaid : Prop := Claim7.holds Tryd.pinned (.plain (OpenSpec.ofChange clashFindsSpec)) clashFindsCard

/-- THE TIED CARD OF 'indenturelaw20.ClashSame'. -/
def clashSameCard : Claim7 := { stood := { row := clashSameRow, standIns := [], harness := (true, "de1d828319544e979df479316348ec997ac06e5c491e420b241b00f08e3efdf0"), looks := false }, kinds := [], alts := [], laidByText := true, laidKinds := [.data], laidTests := true, laidLooks := .later }
def ClashSameCardSaid : Prop := Claim7.holds Tryd.pinned (.plain (OpenSpec.ofChange clashSameSpec)) clashSameCard

/-- THE TIED CARD OF 'indenturelaw20.ClashUps'. -/
def clashUpsCard : Claim7 := { stood := { row := clashUpsRow, standIns := [], harness := (true, "de1d828319544e979df479316348ec997ac06e5c491e420b241b00f08e3efdf0"), looks := false }, kinds := [], alts := [], laidByText := true, laidKinds := [.data], laidTests := true, laidLooks := .later }
def ClashUpsCardSaid : Prop := Claim7.holds Tryd.pinned (.plain (OpenSpec.ofChange clashUpsSpec)) clashUpsCard

/-- THE TIED CARD OF 'indenturelaw20.ClashTops'. -/
def clashTopsCard : Claim7 := { stood := { row := clashTopsRow, standIns := [], harness := (true, "de1d828319544e979df479316348ec997ac06e5c491e420b241b00f08e3efdf0"), looks := false }, kinds := [], alts := [], laidByText := true, laidKinds := [.data], laidTests := true, laidLooks := .later }
def ClashTopsCardSaid : Prop := Claim7.holds Tryd.pinned (.plain (OpenSpec.ofChange clashTopsSpec)) clashTopsCard

/-- THE TIED CARD OF 'indenturelaw20.ClashFirsts'. -/
def clashFirstsCard : Claim7 := { stood := { row := clashFirstsRow, standIns := [], harness := (true, "de1d828319544e979df479316348ec997ac06e5c491e420b241b00f08e3efdf0"), looks := false }, kinds := [], alts := [], laidByText := true, laidKinds := [.data], laidTests := true, laidLooks := .later }
def ClashFirstsCardSaid : Prop := Claim7.holds Tryd.pinned (.plain (OpenSpec.ofChange clashFirstsSpec)) clashFirstsCard

/-- THE TIED CARD OF 'indenturelaw20.ClashMembers'. -/
def clashMembersCard : Claim7 := { stood := { row := clashMembersRow, standIns := [], harness := (true, "de1d828319544e979df479316348ec997ac06e5c491e420b241b00f08e3efdf0"), looks := false }, kinds := [], alts := [], laidByText := true, laidKinds := [.data], laidTests := true, laidLooks := .later }
def ClashMembersCardSaid : Prop := Claim7.holds Tryd.pinned (.plain (OpenSpec.ofChange clashMembersSpec)) clashMembersCard

/-- THE SECOND FORM's CARD OF 'indenturelaw28.SpanOnes'. -/
def spanOnesUptoCard : Claim7 := { stood := { row := spanOnesUptoRow, standIns := [], harness := (true, "de1d828319544e979df479316348ec997ac06e5c491e420b241b00f08e3efdf0"), looks := false }, kinds := [], alts := [], laidByText := true, laidKinds := [.data], laidTests := true, laidLooks := .later }
def SpanOnesUptoCardSaid : Prop := Claim7.holds Tryd.pinned (.plain (OpenSpec.upto spanOnesSpec)) spanOnesUptoCard

/-- THE SECOND FORM's CARD OF 'indenturelaw28.SpanProves'. -/
def spanProvesUptoCard : Claim7 := { stood := { row := spanProvesUptoRow, standIns := [], harness := (true, "de1d828319544e979df479316348ec997ac06e5c491e420b241b00f08e3efdf0"), looks := false }, kinds := [], alts := [], laidByText := true, laidKinds := [.data], laidTests := true, laidLooks := .later }
def SpanProvesUptoCardSaid : Prop := Claim7.holds Tryd.pinned (.plain (OpenSpec.upto spanProvesSpec)) spanProvesUptoCard

/-- THE SECOND FORM's CARD OF 'indenturelaw28.SpanRoots'. -/
def spanRootsUptoCard : Claim7 := { stood := { row := spanRootsUptoRow, standIns := [], harness := (true, "de1d828319544e979df479316348ec997ac06e5c491e420b241b00f08e3efdf0"), looks := false }, kinds := [], alts := [], laidByText := true, laidKinds := [.data], laidTests := true, laidLooks := .later }
def SpanRootsUptoCardSaid : Prop := Claim7.holds Tryd.pinned (.plain (OpenSpec.upto spanRootsSpec)) spanRootsUptoCard

/-- THE SECOND FORM's CARD OF 'indenturelaw28.SpanHolds'. -/
def spanHoldsUptoCard : Claim7 := { stood := { row := spanHoldsUptoRow, standIns := [], harness := (true, "de1d828319544e979df479316348ec997ac06e5c491e420b241b00f08e3efdf0"), looks := false }, kinds := [], alts := [], laidByText := true, laidKinds := [.data], laidTests := true, laidLooks := .later }
def SpanHoldsUptoCardSaid : Prop := Claim7.holds Tryd.pinned (.plain (OpenSpec.upto spanHoldsSpec)) spanHoldsUptoCard

/-- THE SECOND FORM's CARD OF 'indenturelaw20.ClashLeaves'. -/
def clashLeavesUptoCard : Claim7 := { stood := { row := clashLeavesUptoRow, standIns := [], harness := (true, "de1d828319544e979df479316348ec997ac06e5c491e420b241b00f08e3efdf0"), looks := false }, kinds := [], alts := [], laidByText := true, laidKinds := [.data], laidTests := true, laidLooks := .later }
def ClashLeavesUptoCardSaid : Prop := Claim7.holds Tryd.pinned (.plain (OpenSpec.upto clashLeavesSpec)) clashLeavesUptoCard

/-- THE SECOND FORM's CARD OF 'indenturelaw20.ClashFinds'. -/
def clashFindsUptoCard : Claim7 := { stood := { row := clashFindsUptoRow, standIns := [], harness := (true, "de1d828319544e979df479316348ec997ac06e5c491e420b241b00f08e3efdf0"), looks := false }, kinds := [], alts := [], laidByText := true, laidKinds := [.data], laidTests := true, laidLooks := .later }
def ClashFindsUptoCardSaid : Prop := Claim7.holds Tryd.pinned (.plain (OpenSpec.upto clashFindsSpec)) clashFindsUptoCard

/-- THE SECOND FORM's CARD OF 'indenturelaw20.ClashSame'. -/
def clashSameUptoCard : Claim7 := { stood := { row := clashSameUptoRow, standIns := [], harness := (true, "de1d828319544e979df479316348ec997ac06e5c491e420b241b00f08e3efdf0"), looks := false }, kinds := [], alts := [], laidByText := true, laidKinds := [.data], laidTests := true, laidLooks := .later }
def ClashSameUptoCardSaid : Prop := Claim7.holds Tryd.pinned (.plain (OpenSpec.upto clashSameSpec)) clashSameUptoCard

/-- THE SECOND FORM's CARD OF 'indenturelaw20.ClashUps'. -/
def clashUpsUptoCard : Claim7 := { stood := { row := clashUpsUptoRow, standIns := [], harness := (true, "de1d828319544e979df479316348ec997ac06e5c491e420b241b00f08e3efdf0"), looks := false }, kinds := [], alts := [], laidByText := true, laidKinds := [.data], laidTests := true, laidLooks := .later }
def ClashUpsUptoCardSaid : Prop := Claim7.holds Tryd.pinned (.plain (OpenSpec.upto clashUpsSpec)) clashUpsUptoCard

/-- THE SECOND FORM's CARD OF 'indenturelaw20.ClashTops'. -/
def clashTopsUptoCard : Claim7 := { stood := { row := clashTopsUptoRow, standIns := [], harness := (true, "de1d828319544e979df479316348ec997ac06e5c491e420b241b00f08e3efdf0"), looks := false }, kinds := [], alts := [], laidByText := true, laidKinds := [.data], laidTests := true, laidLooks := .later }
def ClashTopsUptoCardSaid : Prop := Claim7.holds Tryd.pinned (.plain (OpenSpec.upto clashTopsSpec)) clashTopsUptoCard

/-- THE SECOND FORM's CARD OF 'indenturelaw20.ClashFirsts'. -/
def clashFirstsUptoCard : Claim7 := { stood := { row := clashFirstsUptoRow, standIns := [], harness := (true, "de1d828319544e979df479316348ec997ac06e5c491e420b241b00f08e3efdf0"), looks := false }, kinds := [], alts := [], laidByText := true, laidKinds := [.data], laidTests := true, laidLooks := .later }
def ClashFirstsUptoCardSaid : Prop := Claim7.holds Tryd.pinned (.plain (OpenSpec.upto clashFirstsSpec)) clashFirstsUptoCard

/-- THE SECOND FORM's CARD OF 'indenturelaw20.ClashMembers'. -/
def clashMembersUptoCard : Claim7 := { stood := { row := clashMembersUptoRow, standIns := [], harness := (true, "de1d828319544e979df479316348ec997ac06e5c491e420b241b00f08e3efdf0"), looks := false }, kinds := [], alts := [], laidByText := true, laidKinds := [.data], laidTests := true, laidLooks := .later }
def ClashMembersUptoCardSaid : Prop := Claim7.holds Tryd.pinned (.plain (OpenSpec.upto clashMembersSpec)) clashMembersUptoCard
end Rows
end Go.Proofs.YtfldckjkipmibaaDoor

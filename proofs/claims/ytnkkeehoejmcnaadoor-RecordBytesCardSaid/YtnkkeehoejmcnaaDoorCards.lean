/-
  DERIVED. GIVEN WITH THE SEED: THE CARDS: each row of YtnkkeehoejmcnaaDoorRows.lean that lists a variable, with what it lists TIED to the program's text (the seventh form; the later family's looks); each row that meets fmt, with fmt's text TOLD by the authors' own Lean function (tested against real Go, not proved from fmt's source: count such statements apart). THE CARD IS WHAT COUNTS. Prove the row's statement (the work); the ties are given (YtnkkeehoejmcnaaDoorTie.lean); close each card by the builder's one call (the guide's Derived/Test/ToyasCard.lean, 'card_holds'). Laid BY PROGRAM, IN A SANDBOX (cutbox-door.mjs). By AI agents, Wed Nov 11 2026. No macro, syntax, notation, axiom, sorry.
-/
import Derived.Test.YtnkkeehoejmcnaaDoorRows
import GoSem.ClaimSeven
namespace Go.Proofs.YtnkkeehoejmcnaaDoor
namespace Rows

/-- THE TIED CARD OF 'indenturelaw16.RecordBytes'. -/
def recordBytesCard : Claim7 := { stood := { row := recordBytesRow, standIns := [], harness := (true, "2994b4317a37f9194b19a2235e4f19a48c861c0000232abb069cb4ca2f8e3854"), looks := false }, kinds := [], alts := [], laidByText := true, laidKinds := [.data], laidTests := true, laidLooks := .later }
def RecordBytesCardSaid : Prop := Claim7.holds Tryd.pinned (.plain (OpenSpec.ofChange recordBytesSpec)) recordBytesCard

/-- THE TIED CARD OF 'indenturelaw20.ClashUps'. -/
def clashUpsCard : Claim7 := { stood := { row := clashUpsRow, standIns := [], harness := (true, "2994b4317a37f9194b19a2235e4f19a48c861c0000232abb069cb4ca2f8e3854"), looks := false }, kinds := [], alts := [], laidByText := true, laidKinds := [.data], laidTests := true, laidLooks := .later }
def ClashUpsCardSaid : Prop := Claim7.holds Tryd.pinned (.plain (OpenSpec.ofChange clashUpsSpec)) clashUpsCard

/-- THE TIED CARD OF 'indenturelaw20.ClashTops'. -/
def clashTopsCard : Claim7 := { stood := { row := clashTopsRow, standIns := [], harness := (true, "2994b4317a37f9194b19a2235e4f19a48c861c0000232abb069cb4ca2f8e3854"), looks := false }, kinds := [], alts := [], laidByText := true, laidKinds := [.data], laidTests := true, laidLooks := .later }
def ClashTopsCardSaid : Prop := Claim7.holds Tryd.pinned (.plain (OpenSpec.ofChange clashTopsSpec)) clashTopsCard

/-- THE TIED CARD OF 'indenturelaw20.ClashFirsts'. -/
def clashFirstsCard : Claim7 := { stood := { row := clashFirstsRow, standIns := [], harness := (true, "2994b4317a37f9194b19a2235e4f19a48c861c0000232abb069cb4ca2f8e3854"), looks := false }, kinds := [], alts := [], laidByText := true, laidKinds := [.data], laidTests := true, laidLooks := .later }
def ClashFirstsCardSaid : Prop := Claim7.holds Tryd.pinned (.plain (OpenSpec.ofChange clashFirstsSpec)) clashFirstsCard

/-- THE TIED CARD OF 'indenturelaw20.ClashMembers'. -/
def clashMembersCard : Claim7 := { stood := { row := clashMembersRow, standIns := [], harness := (true, "2994b4317a37f9194b19a2235e4f19a48c861c0000232abb069cb4ca2f8e3854"), looks := false }, kinds := [], alts := [], laidByText := true, laidKinds := [.data], laidTests := true, laidLooks := .later }
def ClashMembersCardSaid : Prop := Claim7.holds Tryd.pinned (.plain (OpenSpec.ofChange clashMembersSpec)) clashMembersCard

/-- THE TIED CARD OF 'indenturelaw30.GrowthPaths'. -/
def growthPathsCard : Claim7 := { stood := { row := growthPathsRow, standIns := [], harness := (true, "2994b4317a37f9194b19a2235e4f19a48c861c0000232abb069cb4ca2f8e3854"), looks := false }, kinds := [], alts := [], laidByText := true, laidKinds := [.data], laidTests := true, laidLooks := .later }
def GrowthPathsCardSaid : Prop := Claim7.holds Tryd.pinned (.plain (OpenSpec.ofChange growthPathsSpec)) growthPathsCard

/-- THE TIED CARD OF 'indenturelaw30.GrowthGrown'. -/
def growthGrownCard : Claim7 := { stood := { row := growthGrownRow, standIns := [], harness := (true, "2994b4317a37f9194b19a2235e4f19a48c861c0000232abb069cb4ca2f8e3854"), looks := false }, kinds := [], alts := [], laidByText := true, laidKinds := [.data], laidTests := true, laidLooks := .later }
def GrowthGrownCardSaid : Prop := Claim7.holds Tryd.pinned (.plain (OpenSpec.ofChange growthGrownSpec)) growthGrownCard

/-- THE TIED CARD OF 'indenturelaw30.GrowthMeets'. -/
def growthMeetsCard : Claim7 := { stood := { row := growthMeetsRow, standIns := [], harness := (true, "2994b4317a37f9194b19a2235e4f19a48c861c0000232abb069cb4ca2f8e3854"), looks := false }, kinds := [], alts := [], laidByText := true, laidKinds := [.data], laidTests := true, laidLooks := .later }
def GrowthMeetsCardSaid : Prop := Claim7.holds Tryd.pinned (.plain (OpenSpec.ofChange growthMeetsSpec)) growthMeetsCard

/-- THE TIED CARD OF 'indenturelaw30.GrowthLeaves'. -/
def growthLeavesCard : Claim7 := { stood := { row := growthLeavesRow, standIns := [], harness := (true, "2994b4317a37f9194b19a2235e4f19a48c861c0000232abb069cb4ca2f8e3854"), looks := false }, kinds := [], alts := [], laidByText := true, laidKinds := [.data], laidTests := true, laidLooks := .later }
def GrowthLeavesCardSaid : Prop := Claim7.holds Tryd.pinned (.plain (OpenSpec.ofChange growthLeavesSpec)) growthLeavesCard

/-- THE TIED CARD OF 'indenturelaw30.GrowthSays'. -/
def growthSaysCard : Claim7 := { stood := { row := growthSaysRow, standIns := [], harness := (true, "2994b4317a37f9194b19a2235e4f19a48c861c0000232abb069cb4ca2f8e3854"), looks := false }, kinds := [], alts := [], laidByText := true, laidKinds := [.data], laidTests := true, laidLooks := .later }
def GrowthSaysCardSaid : Prop := Claim7.holds Tryd.pinned (.plain (OpenSpec.ofChange growthSaysSpec)) growthSaysCard

/-- THE TIED CARD OF 'indenturelaw30.GrowthFinds'. -/
def growthFindsCard : Claim7 := { stood := { row := growthFindsRow, standIns := [], harness := (true, "2994b4317a37f9194b19a2235e4f19a48c861c0000232abb069cb4ca2f8e3854"), looks := false }, kinds := [], alts := [], laidByText := true, laidKinds := [.data], laidTests := true, laidLooks := .later }
def GrowthFindsCardSaid : Prop := Claim7.holds Tryd.pinned (.plain (OpenSpec.ofChange growthFindsSpec)) growthFindsCard

/-- THE TIED CARD OF 'indenturelaw16.RecordBack'. -/
def recordBackCard : Claim7 := { stood := { row := recordBackRow, standIns := [], harness := (true, "2994b4317a37f9194b19a2235e4f19a48c861c0000232abb069cb4ca2f8e3854"), looks := false }, kinds := [], alts := [], laidByText := true, laidKinds := [.data], laidTests := true, laidLooks := .later }
def RecordBackCardSaid : Prop := Claim7.holds Tryd.pinned (.plain (OpenSpec.ofChange recordBackSpec)) recordBackCard

/-- THE SECOND FORM's CARD OF 'indenturelaw16.RecordBytes'. -/
def recordBytesUptoCard : Claim7 := { stood := { row := recordBytesUptoRow, standIns := [], harness := (true, "2994b4317a37f9194b19a2235e4f19a48c861c0000232abb069cb4ca2f8e3854"), looks := false }, kinds := [], alts := [], laidByText := true, laidKinds := [.data], laidTests := true, laidLooks := .later }
def RecordBytesUptoCardSaid : Prop := Claim7.holds Tryd.pinned (.plain (OpenSpec.upto recordBytesSpec)) recordBytesUptoCard

/-- THE SECOND FORM's CARD OF 'indenturelaw20.ClashUps'. -/
def clashUpsUptoCard : Claim7 := { stood := { row := clashUpsUptoRow, standIns := [], harness := (true, "2994b4317a37f9194b19a2235e4f19a48c861c0000232abb069cb4ca2f8e3854"), looks := false }, kinds := [], alts := [], laidByText := true, laidKinds := [.data], laidTests := true, laidLooks := .later }
def ClashUpsUptoCardSaid : Prop := Claim7.holds Tryd.pinned (.plain (OpenSpec.upto clashUpsSpec)) clashUpsUptoCard

/-- THE SECOND FORM's CARD OF 'indenturelaw20.ClashTops'. -/
def clashTopsUptoCard : Claim7 := { stood := { row := clashTopsUptoRow, standIns := [], harness := (true, "2994b4317a37f9194b19a2235e4f19a48c861c0000232abb069cb4ca2f8e3854"), looks := false }, kinds := [], alts := [], laidByText := true, laidKinds := [.data], laidTests := true, laidLooks := .later }
def ClashTopsUptoCardSaid : Prop := Claim7.holds Tryd.pinned (.plain (OpenSpec.upto clashTopsSpec)) clashTopsUptoCard

/-- THE SECOND FORM's CARD OF 'indenturelaw20.ClashFirsts'. -/
def clashFirstsUptoCard : Claim7 := { stood := { row := clashFirstsUptoRow, standIns := [], harness := (true, "2994b4317a37f9194b19a2235e4f19a48c861c0000232abb069cb4ca2f8e3854"), looks := false }, kinds := [], alts := [], laidByText := true, laidKinds := [.data], laidTests := true, laidLooks := .later }
def ClashFirstsUptoCardSaid : Prop := Claim7.holds Tryd.pinned (.plain (OpenSpec.upto clashFirstsSpec)) clashFirstsUptoCard

/-- THE SECOND FORM's CARD OF 'indenturelaw20.ClashMembers'. -/
def clashMembersUptoCard : Claim7 := { stood := { row := clashMembersUptoRow, standIns := [], harness := (true, "2994b4317a37f9194b19a2235e4f19a48c861c0000232abb069cb4ca2f8e3854"), looks := false }, kinds := [], alts := [], laidByText := true, laidKinds := [.data], laidTests := true, laidLooks := .later }
def ClashMembersUptoCardSaid : Prop := Claim7.holds Tryd.pinned (.plain (OpenSpec.upto clashMembersSpec)) clashMembersUptoCard

/-- THE SECOND FORM's CARD OF 'indenturelaw30.GrowthPaths'. -/
def growthPathsUptoCard : Claim7 := { stood := { row := growthPathsUptoRow, standIns := [], harness := (true, "2994b4317a37f9194b19a2235e4f19a48c861c0000232abb069cb4ca2f8e3854"), looks := false }, kinds := [], alts := [], laidByText := true, laidKinds := [.data], laidTests := true, laidLooks := .later }
def GrowthPathsUptoCardSaid : Prop := Claim7.holds Tryd.pinned (.plain (OpenSpec.upto growthPathsSpec)) growthPathsUptoCard

/-- THE SECOND FORM's CARD OF 'indenturelaw30.GrowthGrown'. -/
def growthGrownUptoCard : Claim7 := { stood := { row := growthGrownUptoRow, standIns := [], harness := (true, "2994b4317a37f9194b19a2235e4f19a48c861c0000232abb069cb4ca2f8e3854"), looks := false }, kinds := [], alts := [], laidByText := true, laidKinds := [.data], laidTests := true, laidLooks := .later }
def GrowthGrownUptoCardSaid : Prop := Claim7.holds Tryd.pinned (.plain (OpenSpec.upto growthGrownSpec)) growthGrownUptoCard

/-- THE SECOND FORM's CARD OF 'indenturelaw30.GrowthMeets'. -/
def growthMeetsUptoCard : Claim7 := { stood := { row := growthMeetsUptoRow, standIns := [], harness := (true, "2994b4317a37f9194b19a2235e4f19a48c861c0000232abb069cb4ca2f8e3854"), looks := false }, kinds := [], alts := [], laidByText := true, laidKinds := [.data], laidTests := true, laidLooks := .later }
def GrowthMeetsUptoCardSaid : Prop := Claim7.holds Tryd.pinned (.plain (OpenSpec.upto growthMeetsSpec)) growthMeetsUptoCard

/-- THE SECOND FORM's CARD OF 'indenturelaw30.GrowthLeaves'. -/
def growthLeavesUptoCard : Claim7 := { stood := { row := growthLeavesUptoRow, standIns := [], harness := (true, "2994b4317a37f9194b19a2235e4f19a48c861c0000232abb069cb4ca2f8e3854"), looks := false }, kinds := [], alts := [], laidByText := true, laidKinds := [.data], laidTests := true, laidLooks := .later }
def GrowthLeavesUptoCardSaid : Prop := Claim7.holds Tryd.pinned (.plain (OpenSpec.upto growthLeavesSpec)) growthLeavesUptoCard

/-- THE SECOND FORM's CARD OF 'indenturelaw30.GrowthSays'. -/
def growthSaysUptoCard : Claim7 := { stood := { row := growthSaysUptoRow, standIns := [], harness := (true, "2994b4317a37f9194b19a2235e4f19a48c861c0000232abb069cb4ca2f8e3854"), looks := false }, kinds := [], alts := [], laidByText := true, laidKinds := [.data], laidTests := true, laidLooks := .later }
def GrowthSaysUptoCardSaid : Prop := Claim7.holds Tryd.pinned (.plain (OpenSpec.upto growthSaysSpec)) growthSaysUptoCard

/-- THE SECOND FORM's CARD OF 'indenturelaw30.GrowthFinds'. -/
def growthFindsUptoCard : Claim7 := { stood := { row := growthFindsUptoRow, standIns := [], harness := (true, "2994b4317a37f9194b19a2235e4f19a48c861c0000232abb069cb4ca2f8e3854"), looks := false }, kinds := [], alts := [], laidByText := true, laidKinds := [.data], laidTests := true, laidLooks := .later }
def GrowthFindsUptoCardSaid : Prop := Claim7.holds Tryd.pinned (.plain (OpenSpec.upto growthFindsSpec)) growthFindsUptoCard

/-- THE SECOND FORM's CARD OF 'indenturelaw16.RecordBack'. -/
def recordBackUptoCard : Claim7 := { stood := { row := recordBackUptoRow, standIns := [], harness := (true, "2994b4317a37f9194b19a2235e4f19a48c861c0000232abb069cb4ca2f8e3854"), looks := false }, kinds := [], alts := [], laidByText := true, laidKinds := [.data], laidTests := true, laidLooks := .later }
def RecordBackUptoCardSaid : Prop := Claim7.holds Tryd.pinned (.plain (OpenSpec.upto recordBackSpec)) recordBackUptoCard
end Rows
end Go.Proofs.YtnkkeehoejmcnaaDoor

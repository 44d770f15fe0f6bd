/-
  DERIVED. GIVEN WITH THE SEED: THE CARDS: each row of YtkdbinchlpdkmaaDoorRows.lean that lists a variable, with what it lists TIED to the program's text (the seventh form; the later family's looks); each row that meets fmt, with fmt's text TOLD by the authors' own Lean function (tested against real Go, not proved from fmt's source: count such statements apart). THE CARD IS WHAT COUNTS. Prove the row's statement (the work); the ties are given (YtkdbinchlpdkmaaDoorTie.lean); close each card by the builder's one call (the guide's Derived/Test/ToyasCard.lean, 'card_holds'). Laid BY PROGRAM, IN A SANDBOX (cutbox-door.mjs). By AI agents, Wed Nov 11 2026. No macro, syntax, notation, axiom, sorry.
-/
import Derived.Test.YtkdbinchlpdkmaaDoorRows
import GoSem.ClaimSeven
namespace Go.Proofs.YtkdbinchlpdkmaaDoor
namespace Rows

/-- THE TIED CARD OF 'indenturelaw20.ClashTops'. -/
def clashTopsCard : Claim7 := { stood := { row := clashTopsRow, standIns := [], harness := (true, "cbf1fdc224609e51096df043c4d3caea910968d34378560670aa3bf31dc1e9b6"), looks := false }, kinds := [], alts := [], laidByText := true, laidKinds := [.data], laidTests := true, laidLooks := .later }
def ClashTopsCardSaid : Prop := Claim7.holds Tryd.pinned (.plain (OpenSpec.ofChange clashTopsSpec)) clashTopsCard

/-- THE TIED CARD OF 'indenturelaw30.GrowthPaths'. -/
def growthPathsCard : Claim7 := { stood := { row := growthPathsRow, standIns := [], harness := (true, "cbf1fdc224609e51096df043c4d3caea910968d34378560670aa3bf31dc1e9b6"), looks := false }, kinds := [], alts := [], laidByText := true, laidKinds := [.data], laidTests := true, laidLooks := .later }
def GrowthPathsCardSaid : Prop := Claim7.holds Tryd.pinned (.plain (OpenSpec.ofChange growthPathsSpec)) growthPathsCard

/-- THE TIED CARD OF 'indenturelaw30.GrowthGrown'. -/
def growthGrownCard : Claim7 := { stood := { row := growthGrownRow, standIns := [], harness := (true, "cbf1fdc224609e51096df043c4d3caea910968d34378560670aa3bf31dc1e9b6"), looks := false }, kinds := [], alts := [], laidByText := true, laidKinds := [.data], laidTests := true, laidLooks := .later }
def GrowthGrownCardSaid : Prop := Claim7.holds Tryd.pinned (.plain (OpenSpec.ofChange growthGrownSpec)) growthGrownCard

/-- THE TIED CARD OF 'indenturelaw30.GrowthMeets'. -/
def growthMeetsCard : Claim7 := { stood := { row := growthMeetsRow, standIns := [], harness := (true, "cbf1fdc224609e51096df043c4d3caea910968d34378560670aa3bf31dc1e9b6"), looks := false }, kinds := [], alts := [], laidByText := true, laidKinds := [.data], laidTests := true, laidLooks := .later }
def GrowthMeetsCardSaid : Prop := Claim7.holds Tryd.pinned (.plain (OpenSpec.ofChange growthMeetsSpec)) growthMeetsCard

/-- THE TIED CARD OF 'indenturelaw30.GrowthLeaves'. -/
def growthLeavesCard : Claim7 := { stood := { row := growthLeavesRow, standIns := [], harness := (true, "cbf1fdc224609e51096df043c4d3caea910968d34378560670aa3bf31dc1e9b6"), looks := false }, kinds := [], alts := [], laidByText := true, laidKinds := [.data], laidTests := true, laidLooks := .later }
def GrowthLeavesCardSaid : Prop := Claim7.holds Tryd.pinned (.plain (OpenSpec.ofChange growthLeavesSpec)) growthLeavesCard

/-- THE TIED CARD OF 'indenturelaw30.GrowthSays'. -/
def growthSaysCard : Claim7 := { stood := { row := growthSaysRow, standIns := [], harness := (true, "cbf1fdc224609e51096df043c4d3caea910968d34378560670aa3bf31dc1e9b6"), looks := false }, kinds := [], alts := [], laidByText := true, laidKinds := [.data], laidTests := true, laidLooks := .later }
def GrowthSaysCardSaid : Prop := Claim7.holds Tryd.pinned (.plain (OpenSpec.ofChange growthSaysSpec)) growthSaysCard

/-- THE TIED CARD OF 'indenturelaw30.GrowthFinds'. -/
def growthFindsCard : Claim7 := { stood := { row := growthFindsRow, standIns := [], harness := (true, "cbf1fdc224609e51096df043c4d3caea910968d34378560670aa3bf31dc1e9b6"), looks := false }, kinds := [], alts := [], laidByText := true, laidKinds := [.data], laidTests := true, laidLooks := .later }
def GrowthFindsCardSaid : Prop := Claim7.holds Tryd.pinned (.plain (OpenSpec.ofChange growthFindsSpec)) growthFindsCard

/-- THE TIED CARD OF 'indenturelaw17.ReceiptHolds'. -/
def receiptHoldsCard : Claim7 := { stood := { row := receiptHoldsRow, standIns := [], harness := (true, "cbf1fdc224609e51096df043c4d3caea910968d34378560670aa3bf31dc1e9b6"), looks := false }, kinds := [], alts := [], laidByText := true, laidKinds := [.data], laidTests := true, laidLooks := .later }
def ReceiptHoldsCardSaid : Prop := Claim7.holds Tryd.pinned (.plain (OpenSpec.ofChange receiptHoldsSpec)) receiptHoldsCard

/-- THE TIED CARD OF 'indenturelaw17.ReceiptBack'. -/
def receiptBackCard : Claim7 := { stood := { row := receiptBackRow, standIns := [], harness := (true, "cbf1fdc224609e51096df043c4d3caea910968d34378560670aa3bf31dc1e9b6"), looks := false }, kinds := [], alts := [], laidByText := true, laidKinds := [.data], laidTests := true, laidLooks := .later }
def ReceiptBackCardSaid : Prop := Claim7.holds Tryd.pinned (.plain (OpenSpec.ofChange receiptBackSpec)) receiptBackCard

/-- THE SECOND FORM's CARD OF 'indenturelaw20.ClashTops'. -/
def clashTopsUptoCard : Claim7 := { stood := { row := clashTopsUptoRow, standIns := [], harness := (true, "cbf1fdc224609e51096df043c4d3caea910968d34378560670aa3bf31dc1e9b6"), looks := false }, kinds := [], alts := [], laidByText := true, laidKinds := [.data], laidTests := true, laidLooks := .later }
def ClashTopsUptoCardSaid : Prop := Claim7.holds Tryd.pinned (.plain (OpenSpec.upto clashTopsSpec)) clashTopsUptoCard

/-- THE SECOND FORM's CARD OF 'indenturelaw30.GrowthPaths'. -/
def growthPathsUptoCard : Claim7 := { stood := { row := growthPathsUptoRow, standIns := [], harness := (true, "cbf1fdc224609e51096df043c4d3caea910968d34378560670aa3bf31dc1e9b6"), looks := false }, kinds := [], alts := [], laidByText := true, laidKinds := [.data], laidTests := true, laidLooks := .later }
def GrowthPathsUptoCardSaid : Prop := Claim7.holds Tryd.pinned (.plain (OpenSpec.upto growthPathsSpec)) growthPathsUptoCard

/-- THE SECOND FORM's CARD OF 'indenturelaw30.GrowthGrown'. -/
def growthGrownUptoCard : Claim7 := { stood := { row := growthGrownUptoRow, standIns := [], harness := (true, "cbf1fdc224609e51096df043c4d3caea910968d34378560670aa3bf31dc1e9b6"), looks := false }, kinds := [], alts := [], laidByText := true, laidKinds := [.data], laidTests := true, laidLooks := .later }
def GrowthGrownUptoCardSaid : Prop := Claim7.holds Tryd.pinned (.plain (OpenSpec.upto growthGrownSpec)) growthGrownUptoCard

/-- THE SECOND FORM's CARD OF 'indenturelaw30.GrowthMeets'. -/
def growthMeetsUptoCard : Claim7 := { stood := { row := growthMeetsUptoRow, standIns := [], harness := (true, "cbf1fdc224609e51096df043c4d3caea910968d34378560670aa3bf31dc1e9b6"), looks := false }, kinds := [], alts := [], laidByText := true, laidKinds := [.data], laidTests := true, laidLooks := .later }
def GrowthMeetsUptoCardSaid : Prop := Claim7.holds Tryd.pinned (.plain (OpenSpec.upto growthMeetsSpec)) growthMeetsUptoCard

/-- THE SECOND FORM's CARD OF 'indenturelaw30.GrowthLeaves'. -/
def growthLeavesUptoCard : Claim7 := { stood := { row := growthLeavesUptoRow, standIns := [], harness := (true, "cbf1fdc224609e51096df043c4d3caea910968d34378560670aa3bf31dc1e9b6"), looks := false }, kinds := [], alts := [], laidByText := true, laidKinds := [.data], laidTests := true, laidLooks := .later }
def GrowthLeavesUptoCardSaid : Prop := Claim7.holds Tryd.pinned (.plain (OpenSpec.upto growthLeavesSpec)) growthLeavesUptoCard

/-- THE SECOND FORM's CARD OF 'indenturelaw30.GrowthSays'. -/
def growthSaysUptoCard : Claim7 := { stood := { row := growthSaysUptoRow, standIns := [], harness := (true, "cbf1fdc224609e51096df043c4d3caea910968d34378560670aa3bf31dc1e9b6"), looks := false }, kinds := [], alts := [], laidByText := true, laidKinds := [.data], laidTests := true, laidLooks := .later }
def GrowthSaysUptoCardSaid : Prop := Claim7.holds Tryd.pinned (.plain (OpenSpec.upto growthSaysSpec)) growthSaysUptoCard

/-- THE SECOND FORM's CARD OF 'indenturelaw30.GrowthFinds'. -/
def growthFindsUptoCard : Claim7 := { stood := { row := growthFindsUptoRow, standIns := [], harness := (true, "cbf1fdc224609e51096df043c4d3caea910968d34378560670aa3bf31dc1e9b6"), looks := false }, kinds := [], alts := [], laidByText := true, laidKinds := [.data], laidTests := true, laidLooks := .later }
def GrowthFindsUptoCardSaid : Prop := Claim7.holds Tryd.pinned (.plain (OpenSpec.upto growthFindsSpec)) growthFindsUptoCard

/-- THE SECOND FORM's CARD OF 'indenturelaw17.ReceiptHolds'. -/
def receiptHoldsUptoCard : Claim7 := { stood := { row := receiptHoldsUptoRow, standIns := [], harness := (true, "cbf1fdc224609e51096df043c4d3caea910968d34378560670aa3bf31dc1e9b6"), looks := false }, kinds := [], alts := [], laidByText := true, laidKinds := [.data], laidTests := true, laidLooks := .later }
def ReceiptHoldsUptoCardSaid : Prop := Claim7.holds Tryd.pinned (.plain (OpenSpec.upto receiptHoldsSpec)) receiptHoldsUptoCard

/-- THE SECOND FORM's CARD OF 'indenturelaw17.ReceiptBack'. -/
def receiptBackUptoCard : Claim7 := { stood := { row := receiptBackUptoRow, standIns := [], harness := (true, "cbf1fdc224609e51096df043c4d3caea910968d34378560670aa3bf31dc1e9b6"), looks := false }, kinds := [], alts := [], laidByText := true, laidKinds := [.data], laidTests := true, laidLooks := .later }
def ReceiptBackUptoCardSaid : Prop := Claim7.holds Tryd.pinned (.plain (OpenSpec.upto receiptBackSpec)) receiptBackUptoCard
end Rows
end Go.Proofs.YtkdbinchlpdkmaaDoor

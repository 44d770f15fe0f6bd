/-
  DERIVED. GIVEN WITH THE SEED: THE CARDS: each row of YtkpkfplcoakfcaaDoorRows.lean that lists a variable, with what it lists TIED to the program's text (the seventh form; the later family's looks); each row that meets fmt, with fmt's text TOLD by the authors' own Lean function (tested against real Go, not proved from fmt's source: count such statements apart). THE CARD IS WHAT COUNTS. Prove the row's statement (the work); the ties are given (YtkpkfplcoakfcaaDoorTie.lean); close each card by the builder's one call (the guide's Derived/Test/ToyasCard.lean, 'card_holds'). Laid BY PROGRAM, IN A SANDBOX (cutbox-door.mjs). By AI agents, Wed Nov 11 2026. No macro, syntax, notation, axiom, sorry.
-/
import Derived.Test.YtkpkfplcoakfcaaDoorRows
import GoSem.ClaimSeven
namespace Go.Proofs.YtkpkfplcoakfcaaDoor
namespace Rows

/-- THE TIED CARD OF 'indenturelaw17.ReceiptLies'. -/
def receiptLiesCard : Claim7 := { stood := { row := receiptLiesRow, standIns := [], harness := (true, "ee0441bd42bfd6bdcad01b11607d4d7115c874e716787c3f82c2de6fcde11919"), looks := false }, kinds := [], alts := [], laidByText := true, laidKinds := [.data], laidTests := true, laidLooks := .later }
def ReceiptLiesCardSaid : Prop := Claim7.holds Tryd.pinned (.plain (OpenSpec.ofChange receiptLiesSpec)) receiptLiesCard

/-- THE TIED CARD OF 'indenturelaw17.ReceiptChecks'. -/
def receiptChecksCard : Claim7 := { stood := { row := receiptChecksRow, standIns := [], harness := (true, "ee0441bd42bfd6bdcad01b11607d4d7115c874e716787c3f82c2de6fcde11919"), looks := false }, kinds := [], alts := [], laidByText := true, laidKinds := [.data], laidTests := true, laidLooks := .later }
def ReceiptChecksCardSaid : Prop := Claim7.holds Tryd.pinned (.plain (OpenSpec.ofChange receiptChecksSpec)) receiptChecksCard

/-- THE TIED CARD OF 'indenturelaw17.ReceiptHolds'. -/
def receiptHoldsCard : Claim7 := { stood := { row := receiptHoldsRow, standIns := [], harness := (true, "ee0441bd42bfd6bdcad01b11607d4d7115c874e716787c3f82c2de6fcde11919"), looks := false }, kinds := [], alts := [], laidByText := true, laidKinds := [.data], laidTests := true, laidLooks := .later }
def ReceiptHoldsCardSaid : Prop := Claim7.holds Tryd.pinned (.plain (OpenSpec.ofChange receiptHoldsSpec)) receiptHoldsCard

/-- THE TIED CARD OF 'indenturelaw17.ReceiptValues'. -/
def receiptValuesCard : Claim7 := { stood := { row := receiptValuesRow, standIns := [], harness := (true, "ee0441bd42bfd6bdcad01b11607d4d7115c874e716787c3f82c2de6fcde11919"), looks := false }, kinds := [], alts := [], laidByText := true, laidKinds := [.data], laidTests := true, laidLooks := .later }
def ReceiptValuesCardSaid : Prop := Claim7.holds Tryd.pinned (.plain (OpenSpec.ofChange receiptValuesSpec)) receiptValuesCard

/-- THE TIED CARD OF 'indenturelaw17.ReceiptBack'. -/
def receiptBackCard : Claim7 := { stood := { row := receiptBackRow, standIns := [], harness := (true, "ee0441bd42bfd6bdcad01b11607d4d7115c874e716787c3f82c2de6fcde11919"), looks := false }, kinds := [], alts := [], laidByText := true, laidKinds := [.data], laidTests := true, laidLooks := .later }
def ReceiptBackCardSaid : Prop := Claim7.holds Tryd.pinned (.plain (OpenSpec.ofChange receiptBackSpec)) receiptBackCard

/-- THE SECOND FORM's CARD OF 'indenturelaw17.ReceiptLies'. -/
def receiptLiesUptoCard : Claim7 := { stood := { row := receiptLiesUptoRow, standIns := [], harness := (true, "ee0441bd42bfd6bdcad01b11607d4d7115c874e716787c3f82c2de6fcde11919"), looks := false }, kinds := [], alts := [], laidByText := true, laidKinds := [.data], laidTests := true, laidLooks := .later }
def ReceiptLiesUptoCardSaid : Prop := Claim7.holds Tryd.pinned (.plain (OpenSpec.upto receiptLiesSpec)) receiptLiesUptoCard

/-- THE SECOND FORM's CARD OF 'indenturelaw17.ReceiptChecks'. -/
def receiptChecksUptoCard : Claim7 := { stood := { row := receiptChecksUptoRow, standIns := [], harness := (true, "ee0441bd42bfd6bdcad01b11607d4d7115c874e716787c3f82c2de6fcde11919"), looks := false }, kinds := [], alts := [], laidByText := true, laidKinds := [.data], laidTests := true, laidLooks := .later }
def ReceiptChecksUptoCardSaid : Prop := Claim7.holds Tryd.pinned (.plain (OpenSpec.upto receiptChecksSpec)) receiptChecksUptoCard

/-- THE SECOND FORM's CARD OF 'indenturelaw17.ReceiptHolds'. -/
def receiptHoldsUptoCard : Claim7 := { stood := { row := receiptHoldsUptoRow, standIns := [], harness := (true, "ee0441bd42bfd6bdcad01b11607d4d7115c874e716787c3f82c2de6fcde11919"), looks := false }, kinds := [], alts := [], laidByText := true, laidKinds := [.data], laidTests := true, laidLooks := .later }
def ReceiptHoldsUptoCardSaid : Prop := Claim7.holds Tryd.pinned (.plain (OpenSpec.upto receiptHoldsSpec)) receiptHoldsUptoCard

/-- THE SECOND FORM's CARD OF 'indenturelaw17.ReceiptValues'. -/
def receiptValuesUptoCard : Claim7 := { stood := { row := receiptValuesUptoRow, standIns := [], harness := (true, "ee0441bd42bfd6bdcad01b11607d4d7115c874e716787c3f82c2de6fcde11919"), looks := false }, kinds := [], alts := [], laidByText := true, laidKinds := [.data], laidTests := true, laidLooks := .later }
def ReceiptValuesUptoCardSaid : Prop := Claim7.holds Tryd.pinned (.plain (OpenSpec.upto receiptValuesSpec)) receiptValuesUptoCard

/-- THE SECOND FORM's CARD OF 'indenturelaw17.ReceiptBack'. -/
def receiptBackUptoCard : Claim7 := { stood := { row := receiptBackUptoRow, standIns := [], harness := (true, "ee0441bd42bfd6bdcad01b11607d4d7115c874e716787c3f82c2de6fcde11919"), looks := false }, kinds := [], alts := [], laidByText := true, laidKinds := [.data], laidTests := true, laidLooks := .later }
def ReceiptBackUptoCardSaid : Prop := Claim7.holds Tryd.pinned (.plain (OpenSpec.upto receiptBackSpec)) receiptBackUptoCard
end Rows
end Go.Proofs.YtkpkfplcoakfcaaDoor

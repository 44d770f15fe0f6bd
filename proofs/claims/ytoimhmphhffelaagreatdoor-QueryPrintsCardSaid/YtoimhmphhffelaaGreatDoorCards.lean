/-
  DERIVED. GIVEN WITH THE SEED: THE CARDS: each row of YtoimhmphhffelaaGreatDoorRows.lean that lists a variable, with what it lists TIED to the program's text (the seventh form; the later family's looks); each row that meets fmt, with fmt's text TOLD by the authors' own Lean function (tested against real Go, not proved from fmt's source: count such statements apart). THE CARD IS WHAT COUNTS. Prove the row's statement (the work); the ties are given (YtoimhmphhffelaaGreatDoorTie.lean); close each card by the builder's one call (the guide's Derived/Test/ToyasCard.lean, 'card_holds'). Laid BY PROGRAM, IN A SANDBOX (cutbox-door.mjs). By AI agents, Wed Nov 11 2026. No macro, syntax, notation, axiom, sorry.
-/
import Derived.Test.YtoimhmphhffelaaGreatDoorRows
import GoSem.ClaimSeven
namespace Go.Proofs.YtoimhmphhffelaaGreatDoor
namespace Rows

/-- THE TIED CARD OF 'indenturelaw17.ReceiptBytes'. -/
def receiptBytesCard : Claim7 := { stood := { row := receiptBytesRow, standIns := [], harness := (true, "089f301904c418cc73f39e9690710e3471d5a16d5a256933c97f843ab735d525"), looks := true }, kinds := [], alts := [], laidByText := true, laidKinds := [.data], laidTests := true, laidLooks := .later }
def ReceiptBytesCardSaid : Prop := Claim7.holds Tryz.pinned (.plain (OpenSpec.ofChange receiptBytesSpec)) receiptBytesCard

/-- THE TIED CARD OF 'indenturelaw34.QueryParses'. -/
def queryParsesCard : Claim7 := { stood := { row := queryParsesRow, standIns := [], harness := (true, "089f301904c418cc73f39e9690710e3471d5a16d5a256933c97f843ab735d525"), looks := true }, kinds := [], alts := [], laidByText := true, laidKinds := [.data, .data, .data, .data, .sentinel, .sentinel, .widerDeep, .widerDeep, .pinned], laidTests := true, laidLooks := .later }
def QueryParsesCardSaid : Prop := Claim7.holds Tryz.pinned (.plain (OpenSpec.ofChange queryParsesSpec)) queryParsesCard

/-- THE TIED CARD OF 'indenturelaw34.QueryPrints'. -/
def queryPrintsCard : Claim7 := { stood := { row := queryPrintsRow, standIns := [], harness := (true, "089f301904c418cc73f39e9690710e3471d5a16d5a256933c97f843ab735d525"), looks := true }, kinds := [], alts := [], laidByText := true, laidKinds := [.data, .data, .data, .data, .sentinel, .sentinel, .widerDeep, .widerDeep, .pinned], laidTests := true, laidLooks := .later }
def QueryPrintsCardSaid : Prop := Claim7.holds Tryz.pinned (.plain (OpenSpec.ofChange queryPrintsSpec)) queryPrintsCard

/-- THE TIED CARD OF 'indenturelaw34.QueryCounts'. -/
def queryCountsCard : Claim7 := { stood := { row := queryCountsRow, standIns := [], harness := (true, "089f301904c418cc73f39e9690710e3471d5a16d5a256933c97f843ab735d525"), looks := true }, kinds := [], alts := [], laidByText := true, laidKinds := [.data, .data, .data, .data, .sentinel, .sentinel, .widerDeep, .widerDeep, .pinned], laidTests := true, laidLooks := .later }
def QueryCountsCardSaid : Prop := Claim7.holds Tryz.pinned (.plain (OpenSpec.ofChange queryCountsSpec)) queryCountsCard

/-- THE TIED CARD OF 'indenturelaw34.QueryNarrows'. -/
def queryNarrowsCard : Claim7 := { stood := { row := queryNarrowsRow, standIns := [], harness := (true, "089f301904c418cc73f39e9690710e3471d5a16d5a256933c97f843ab735d525"), looks := true }, kinds := [], alts := [], laidByText := true, laidKinds := [.data, .data, .data, .data, .sentinel, .sentinel, .widerDeep, .widerDeep, .pinned], laidTests := true, laidLooks := .later }
def QueryNarrowsCardSaid : Prop := Claim7.holds Tryz.pinned (.plain (OpenSpec.ofChange queryNarrowsSpec)) queryNarrowsCard

/-- THE SECOND FORM's CARD OF 'indenturelaw17.ReceiptBytes'. -/
def receiptBytesUptoCard : Claim7 := { stood := { row := receiptBytesUptoRow, standIns := [], harness := (true, "089f301904c418cc73f39e9690710e3471d5a16d5a256933c97f843ab735d525"), looks := true }, kinds := [], alts := [], laidByText := true, laidKinds := [.data], laidTests := true, laidLooks := .later }
def ReceiptBytesUptoCardSaid : Prop := Claim7.holds Tryz.pinned (.plain (OpenSpec.upto receiptBytesSpec)) receiptBytesUptoCard

/-- THE SECOND FORM's CARD OF 'indenturelaw34.QueryParses'. -/
def queryParsesUptoCard : Claim7 := { stood := { row := queryParsesUptoRow, standIns := [], harness := (true, "089f301904c418cc73f39e9690710e3471d5a16d5a256933c97f843ab735d525"), looks := true }, kinds := [], alts := [], laidByText := true, laidKinds := [.data, .data, .data, .data, .sentinel, .sentinel, .widerDeep, .widerDeep, .pinned], laidTests := true, laidLooks := .later }
def QueryParsesUptoCardSaid : Prop := Claim7.holds Tryz.pinned (.plain (OpenSpec.upto queryParsesSpec)) queryParsesUptoCard

/-- THE SECOND FORM's CARD OF 'indenturelaw34.QueryPrints'. -/
def queryPrintsUptoCard : Claim7 := { stood := { row := queryPrintsUptoRow, standIns := [], harness := (true, "089f301904c418cc73f39e9690710e3471d5a16d5a256933c97f843ab735d525"), looks := true }, kinds := [], alts := [], laidByText := true, laidKinds := [.data, .data, .data, .data, .sentinel, .sentinel, .widerDeep, .widerDeep, .pinned], laidTests := true, laidLooks := .later }
def QueryPrintsUptoCardSaid : Prop := Claim7.holds Tryz.pinned (.plain (OpenSpec.upto queryPrintsSpec)) queryPrintsUptoCard

/-- THE SECOND FORM's CARD OF 'indenturelaw34.QueryCounts'. -/
def queryCountsUptoCard : Claim7 := { stood := { row := queryCountsUptoRow, standIns := [], harness := (true, "089f301904c418cc73f39e9690710e3471d5a16d5a256933c97f843ab735d525"), looks := true }, kinds := [], alts := [], laidByText := true, laidKinds := [.data, .data, .data, .data, .sentinel, .sentinel, .widerDeep, .widerDeep, .pinned], laidTests := true, laidLooks := .later }
def QueryCountsUptoCardSaid : Prop := Claim7.holds Tryz.pinned (.plain (OpenSpec.upto queryCountsSpec)) queryCountsUptoCard

/-- THE SECOND FORM's CARD OF 'indenturelaw34.QueryNarrows'. -/
def queryNarrowsUptoCard : Claim7 := { stood := { row := queryNarrowsUptoRow, standIns := [], harness := (true, "089f301904c418cc73f39e9690710e3471d5a16d5a256933c97f843ab735d525"), looks := true }, kinds := [], alts := [], laidByText := true, laidKinds := [.data, .data, .data, .data, .sentinel, .sentinel, .widerDeep, .widerDeep, .pinned], laidTests := true, laidLooks := .later }
def QueryNarrowsUptoCardSaid : Prop := Claim7.holds Tryz.pinned (.plain (OpenSpec.upto queryNarrowsSpec)) queryNarrowsUptoCard
end Rows
end Go.Proofs.YtoimhmphhffelaaGreatDoor

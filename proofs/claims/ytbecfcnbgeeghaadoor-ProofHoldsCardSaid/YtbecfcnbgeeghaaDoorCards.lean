/-
  DERIVED. GIVEN WITH THE SEED: THE CARDS: each row of YtbecfcnbgeeghaaDoorRows.lean that lists a variable, with what it lists TIED to the program's text (the seventh form; the later family's looks); each row that meets fmt, with fmt's text TOLD by the authors' own Lean function (tested against real Go, not proved from fmt's source: count such statements apart). THE CARD IS WHAT COUNTS. Prove the row's statement (the work); the ties are given (YtbecfcnbgeeghaaDoorTie.lean); close each card by the builder's one call (the guide's Derived/Test/ToyasCard.lean, 'card_holds'). Laid BY PROGRAM, IN A SANDBOX (cutbox-door.mjs). By AI agents, Wed Nov 11 2026. No macro, syntax, notation, axiom, sorry.
-/
import Derived.Test.YtbecfcnbgeeghaaDoorRows
import GoSem.ClaimSeven
namespace Go.Proofs.YtbecfcnbgeeghaaDoor
namespace Rows

/-- THE TIED CARD OF 'indenturelaw09.MountainHalves'. -/
def mountainHalvesCard : Claim7 := { stood := { row := mountainHalvesRow, standIns := [], harness := (true, "11614a2732df4f13fd9af0c8337424a05771221a5129fd07a892c94b53f6a73b"), looks := false }, kinds := [], alts := [], laidByText := true, laidKinds := [.data], laidTests := true, laidLooks := .later }
def MountainHalvesCardSaid : Prop := Claim7.holds Tryd.pinned (.plain (OpenSpec.ofChange mountainHalvesSpec)) mountainHalvesCard

/-- THE TIED CARD OF 'indenturelaw28.SpanOnes'. -/
def spanOnesCard : Claim7 := { stood := { row := spanOnesRow, standIns := [], harness := (true, "11614a2732df4f13fd9af0c8337424a05771221a5129fd07a892c94b53f6a73b"), looks := false }, kinds := [], alts := [], laidByText := true, laidKinds := [.data], laidTests := true, laidLooks := .later }
def SpanOnesCardSaid : Prop := Claim7.holds Tryd.pinned (.plain (OpenSpec.ofChange spanOnesSpec)) spanOnesCard

/-- THE TIED CARD OF 'indenturelaw10.ProofPaths'. -/
def proofPathsCard : Claim7 := { stood := { row := proofPathsRow, standIns := [], harness := (true, "11614a2732df4f13fd9af0c8337424a05771221a5129fd07a892c94b53f6a73b"), looks := false }, kinds := [], alts := [], laidByText := true, laidKinds := [.data], laidTests := true, laidLooks := .later }
def ProofPathsCardSaid : Prop := Claim7.holds Tryd.pinned (.plain (OpenSpec.ofChange proofPathsSpec)) proofPathsCard

/-- THE TIED CARD OF 'indenturelaw10.ProofLengths'. -/
def proofLengthsCard : Claim7 := { stood := { row := proofLengthsRow, standIns := [], harness := (true, "11614a2732df4f13fd9af0c8337424a05771221a5129fd07a892c94b53f6a73b"), looks := false }, kinds := [], alts := [], laidByText := true, laidKinds := [.data], laidTests := true, laidLooks := .later }
def ProofLengthsCardSaid : Prop := Claim7.holds Tryd.pinned (.plain (OpenSpec.ofChange proofLengthsSpec)) proofLengthsCard

/-- THE TIED CARD OF 'indenturelaw10.ProofClimbs'. -/
def proofClimbsCard : Claim7 := { stood := { row := proofClimbsRow, standIns := [], harness := (true, "11614a2732df4f13fd9af0c8337424a05771221a5129fd07a892c94b53f6a73b"), looks := false }, kinds := [], alts := [], laidByText := true, laidKinds := [.data], laidTests := true, laidLooks := .later }
def ProofClimbsCardSaid : Prop := Claim7.holds Tryd.pinned (.plain (OpenSpec.ofChange proofClimbsSpec)) proofClimbsCard

/-- THE TIED CARD OF 'indenturelaw28.SpanProves'. -/
def spanProvesCard : Claim7 := { stood := { row := spanProvesRow, standIns := [], harness := (true, "11614a2732df4f13fd9af0c8337424a05771221a5129fd07a892c94b53f6a73b"), looks := false }, kinds := [], alts := [], laidByText := true, laidKinds := [.data], laidTests := true, laidLooks := .later }
def SpanProvesCardSaid : Prop := Claim7.holds Tryd.pinned (.plain (OpenSpec.ofChange spanProvesSpec)) spanProvesCard

/-- THE TIED CARD OF 'indenturelaw28.SpanRoots'. -/
def spanRootsCard : Claim7 := { stood := { row := spanRootsRow, standIns := [], harness := (true, "11614a2732df4f13fd9af0c8337424a05771221a5129fd07a892c94b53f6a73b"), looks := false }, kinds := [], alts := [], laidByText := true, laidKinds := [.data], laidTests := true, laidLooks := .later }
def SpanRootsCardSaid : Prop := Claim7.holds Tryd.pinned (.plain (OpenSpec.ofChange spanRootsSpec)) spanRootsCard

/-- THE TIED CARD OF 'indenturelaw28.SpanHolds'. -/
def spanHoldsCard : Claim7 := { stood := { row := spanHoldsRow, standIns := [], harness := (true, "11614a2732df4f13fd9af0c8337424a05771221a5129fd07a892c94b53f6a73b"), looks := false }, kinds := [], alts := [], laidByText := true, laidKinds := [.data], laidTests := true, laidLooks := .later }
def SpanHoldsCardSaid : Prop := Claim7.holds Tryd.pinned (.plain (OpenSpec.ofChange spanHoldsSpec)) spanHoldsCard

/-- THE TIED CARD OF 'indenturelaw09.MountainAdds'. -/
def mountainAddsCard : Claim7 := { stood := { row := mountainAddsRow, standIns := [], harness := (true, "11614a2732df4f13fd9af0c8337424a05771221a5129fd07a892c94b53f6a73b"), looks := false }, kinds := [], alts := [], laidByText := true, laidKinds := [.data, .data, .data], laidTests := true, laidLooks := .later }
def MountainAddsCardSaid : Prop := Claim7.holds Tryd.pinned (.plain (OpenSpec.ofChange mountainAddsSpec)) mountainAddsCard

/-- THE TIED CARD OF 'indenturelaw10.ProofChecks'. -/
def proofChecksCard : Claim7 := { stood := { row := proofChecksRow, standIns := [], harness := (true, "11614a2732df4f13fd9af0c8337424a05771221a5129fd07a892c94b53f6a73b"), looks := false }, kinds := [], alts := [], laidByText := true, laidKinds := [.data], laidTests := true, laidLooks := .later }
def ProofChecksCardSaid : Prop := Claim7.holds Tryd.pinned (.plain (OpenSpec.ofChange proofChecksSpec)) proofChecksCard

/-- THE TIED CARD OF 'indenturelaw10.ProofSame'. -/
def proofSameCard : Claim7 := { stood := { row := proofSameRow, standIns := [], harness := (true, "11614a2732df4f13fd9af0c8337424a05771221a5129fd07a892c94b53f6a73b"), looks := false }, kinds := [], alts := [], laidByText := true, laidKinds := [.data], laidTests := true, laidLooks := .later }
def ProofSameCardSaid : Prop := Claim7.holds Tryd.pinned (.plain (OpenSpec.ofChange proofSameSpec)) proofSameCard

/-- THE TIED CARD OF 'indenturelaw09.MountainRoots'. -/
def mountainRootsCard : Claim7 := { stood := { row := mountainRootsRow, standIns := [], harness := (true, "11614a2732df4f13fd9af0c8337424a05771221a5129fd07a892c94b53f6a73b"), looks := false }, kinds := [], alts := [], laidByText := true, laidKinds := [.data, .data, .data], laidTests := true, laidLooks := .later }
def MountainRootsCardSaid : Prop := Claim7.holds Tryd.pinned (.plain (OpenSpec.ofChange mountainRootsSpec)) mountainRootsCard

/-- THE TIED CARD OF 'indenturelaw09.MountainTops'. -/
def mountainTopsCard : Claim7 := { stood := { row := mountainTopsRow, standIns := [], harness := (true, "11614a2732df4f13fd9af0c8337424a05771221a5129fd07a892c94b53f6a73b"), looks := false }, kinds := [], alts := [], laidByText := true, laidKinds := [.data, .data, .data], laidTests := true, laidLooks := .later }
def MountainTopsCardSaid : Prop := Claim7.holds Tryd.pinned (.plain (OpenSpec.ofChange mountainTopsSpec)) mountainTopsCard

/-- THE TIED CARD OF 'indenturelaw10.ProofJoins'. -/
def proofJoinsCard : Claim7 := { stood := { row := proofJoinsRow, standIns := [], harness := (true, "11614a2732df4f13fd9af0c8337424a05771221a5129fd07a892c94b53f6a73b"), looks := false }, kinds := [], alts := [], laidByText := true, laidKinds := [.data], laidTests := true, laidLooks := .later }
def ProofJoinsCardSaid : Prop := Claim7.holds Tryd.pinned (.plain (OpenSpec.ofChange proofJoinsSpec)) proofJoinsCard

/-- THE TIED CARD OF 'indenturelaw09.MountainGrows'. -/
def mountainGrowsCard : Claim7 := { stood := { row := mountainGrowsRow, standIns := [], harness := (true, "11614a2732df4f13fd9af0c8337424a05771221a5129fd07a892c94b53f6a73b"), looks := false }, kinds := [], alts := [], laidByText := true, laidKinds := [.data, .data, .data], laidTests := true, laidLooks := .later }
def MountainGrowsCardSaid : Prop := Claim7.holds Tryd.pinned (.plain (OpenSpec.ofChange mountainGrowsSpec)) mountainGrowsCard

/-- THE TIED CARD OF 'indenturelaw10.ProofHolds'. -/
def proofHoldsCard : Claim7 := { stood := { row := proofHoldsRow, standIns := [], harness := (true, "11614a2732df4f13fd9af0c8337424a05771221a5129fd07a892c94b53f6a73b"), looks := false }, kinds := [], alts := [], laidByText := true, laidKinds := [.data], laidTests := true, laidLooks := .later }
def ProofHoldsCardSaid : Prop := Claim7.holds Tryd.pinned (.plain (OpenSpec.ofChange proofHoldsSpec)) proofHoldsCard

/-- THE SECOND FORM's CARD OF 'indenturelaw09.MountainHalves'. -/
def mountainHalvesUptoCard : Claim7 := { stood := { row := mountainHalvesUptoRow, standIns := [], harness := (true, "11614a2732df4f13fd9af0c8337424a05771221a5129fd07a892c94b53f6a73b"), looks := false }, kinds := [], alts := [], laidByText := true, laidKinds := [.data], laidTests := true, laidLooks := .later }
def MountainHalvesUptoCardSaid : Prop := Claim7.holds Tryd.pinned (.plain (OpenSpec.upto mountainHalvesSpec)) mountainHalvesUptoCard

/-- THE SECOND FORM's CARD OF 'indenturelaw28.SpanOnes'. -/
def spanOnesUptoCard : Claim7 := { stood := { row := spanOnesUptoRow, standIns := [], harness := (true, "11614a2732df4f13fd9af0c8337424a05771221a5129fd07a892c94b53f6a73b"), looks := false }, kinds := [], alts := [], laidByText := true, laidKinds := [.data], laidTests := true, laidLooks := .later }
def SpanOnesUptoCardSaid : Prop := Claim7.holds Tryd.pinned (.plain (OpenSpec.upto spanOnesSpec)) spanOnesUptoCard

/-- THE SECOND FORM's CARD OF 'indenturelaw10.ProofPaths'. -/
def proofPathsUptoCard : Claim7 := { stood := { row := proofPathsUptoRow, standIns := [], harness := (true, "11614a2732df4f13fd9af0c8337424a05771221a5129fd07a892c94b53f6a73b"), looks := false }, kinds := [], alts := [], laidByText := true, laidKinds := [.data], laidTests := true, laidLooks := .later }
def ProofPathsUptoCardSaid : Prop := Claim7.holds Tryd.pinned (.plain (OpenSpec.upto proofPathsSpec)) proofPathsUptoCard

/-- THE SECOND FORM's CARD OF 'indenturelaw10.ProofLengths'. -/
def proofLengthsUptoCard : Claim7 := { stood := { row := proofLengthsUptoRow, standIns := [], harness := (true, "11614a2732df4f13fd9af0c8337424a05771221a5129fd07a892c94b53f6a73b"), looks := false }, kinds := [], alts := [], laidByText := true, laidKinds := [.data], laidTests := true, laidLooks := .later }
def ProofLengthsUptoCardSaid : Prop := Claim7.holds Tryd.pinned (.plain (OpenSpec.upto proofLengthsSpec)) proofLengthsUptoCard

/-- THE SECOND FORM's CARD OF 'indenturelaw10.ProofClimbs'. -/
def proofClimbsUptoCard : Claim7 := { stood := { row := proofClimbsUptoRow, standIns := [], harness := (true, "11614a2732df4f13fd9af0c8337424a05771221a5129fd07a892c94b53f6a73b"), looks := false }, kinds := [], alts := [], laidByText := true, laidKinds := [.data], laidTests := true, laidLooks := .later }
def ProofClimbsUptoCardSaid : Prop := Claim7.holds Tryd.pinned (.plain (OpenSpec.upto proofClimbsSpec)) proofClimbsUptoCard

/-- THE SECOND FORM's CARD OF 'indenturelaw28.SpanProves'. -/
def spanProvesUptoCard : Claim7 := { stood := { row := spanProvesUptoRow, standIns := [], harness := (true, "11614a2732df4f13fd9af0c8337424a05771221a5129fd07a892c94b53f6a73b"), looks := false }, kinds := [], alts := [], laidByText := true, laidKinds := [.data], laidTests := true, laidLooks := .later }
def SpanProvesUptoCardSaid : Prop := Claim7.holds Tryd.pinned (.plain (OpenSpec.upto spanProvesSpec)) spanProvesUptoCard

/-- THE SECOND FORM's CARD OF 'indenturelaw28.SpanRoots'. -/
def spanRootsUptoCard : Claim7 := { stood := { row := spanRootsUptoRow, standIns := [], harness := (true, "11614a2732df4f13fd9af0c8337424a05771221a5129fd07a892c94b53f6a73b"), looks := false }, kinds := [], alts := [], laidByText := true, laidKinds := [.data], laidTests := true, laidLooks := .later }
def SpanRootsUptoCardSaid : Prop := Claim7.holds Tryd.pinned (.plain (OpenSpec.upto spanRootsSpec)) spanRootsUptoCard

/-- THE SECOND FORM's CARD OF 'indenturelaw28.SpanHolds'. -/
def spanHoldsUptoCard : Claim7 := { stood := { row := spanHoldsUptoRow, standIns := [], harness := (true, "11614a2732df4f13fd9af0c8337424a05771221a5129fd07a892c94b53f6a73b"), looks := false }, kinds := [], alts := [], laidByText := true, laidKinds := [.data], laidTests := true, laidLooks := .later }
def SpanHoldsUptoCardSaid : Prop := Claim7.holds Tryd.pinned (.plain (OpenSpec.upto spanHoldsSpec)) spanHoldsUptoCard

/-- THE SECOND FORM's CARD OF 'indenturelaw09.MountainAdds'. -/
def mountainAddsUptoCard : Claim7 := { stood := { row := mountainAddsUptoRow, standIns := [], harness := (true, "11614a2732df4f13fd9af0c8337424a05771221a5129fd07a892c94b53f6a73b"), looks := false }, kinds := [], alts := [], laidByText := true, laidKinds := [.data, .data, .data], laidTests := true, laidLooks := .later }
def MountainAddsUptoCardSaid : Prop := Claim7.holds Tryd.pinned (.plain (OpenSpec.upto mountainAddsSpec)) mountainAddsUptoCard

/-- THE SECOND FORM's CARD OF 'indenturelaw10.ProofChecks'. -/
def proofChecksUptoCard : Claim7 := { stood := { row := proofChecksUptoRow, standIns := [], harness := (true, "11614a2732df4f13fd9af0c8337424a05771221a5129fd07a892c94b53f6a73b"), looks := false }, kinds := [], alts := [], laidByText := true, laidKinds := [.data], laidTests := true, laidLooks := .later }
def ProofChecksUptoCardSaid : Prop := Claim7.holds Tryd.pinned (.plain (OpenSpec.upto proofChecksSpec)) proofChecksUptoCard

/-- THE SECOND FORM's CARD OF 'indenturelaw10.ProofSame'. -/
def proofSameUptoCard : Claim7 := { stood := { row := proofSameUptoRow, standIns := [], harness := (true, "11614a2732df4f13fd9af0c8337424a05771221a5129fd07a892c94b53f6a73b"), looks := false }, kinds := [], alts := [], laidByText := true, laidKinds := [.data], laidTests := true, laidLooks := .later }
def ProofSameUptoCardSaid : Prop := Claim7.holds Tryd.pinned (.plain (OpenSpec.upto proofSameSpec)) proofSameUptoCard

/-- THE SECOND FORM's CARD OF 'indenturelaw09.MountainRoots'. -/
def mountainRootsUptoCard : Claim7 := { stood := { row := mountainRootsUptoRow, standIns := [], harness := (true, "11614a2732df4f13fd9af0c8337424a05771221a5129fd07a892c94b53f6a73b"), looks := false }, kinds := [], alts := [], laidByText := true, laidKinds := [.data, .data, .data], laidTests := true, laidLooks := .later }
def MountainRootsUptoCardSaid : Prop := Claim7.holds Tryd.pinned (.plain (OpenSpec.upto mountainRootsSpec)) mountainRootsUptoCard

/-- THE SECOND FORM's CARD OF 'indenturelaw09.MountainTops'. -/
def mountainTopsUptoCard : Claim7 := { stood := { row := mountainTopsUptoRow, standIns := [], harness := (true, "11614a2732df4f13fd9af0c8337424a05771221a5129fd07a892c94b53f6a73b"), looks := false }, kinds := [], alts := [], laidByText := true, laidKinds := [.data, .data, .data], laidTests := true, laidLooks := .later }
def MountainTopsUptoCardSaid : Prop := Claim7.holds Tryd.pinned (.plain (OpenSpec.upto mountainTopsSpec)) mountainTopsUptoCard

/-- THE SECOND FORM's CARD OF 'indenturelaw10.ProofJoins'. -/
def proofJoinsUptoCard : Claim7 := { stood := { row := proofJoinsUptoRow, standIns := [], harness := (true, "11614a2732df4f13fd9af0c8337424a05771221a5129fd07a892c94b53f6a73b"), looks := false }, kinds := [], alts := [], laidByText := true, laidKinds := [.data], laidTests := true, laidLooks := .later }
def ProofJoinsUptoCardSaid : Prop := Claim7.holds Tryd.pinned (.plain (OpenSpec.upto proofJoinsSpec)) proofJoinsUptoCard

/-- THE SECOND FORM's CARD OF 'indenturelaw09.MountainGrows'. -/
def mountainGrowsUptoCard : Claim7 := { stood := { row := mountainGrowsUptoRow, standIns := [], harness := (true, "11614a2732df4f13fd9af0c8337424a05771221a5129fd07a892c94b53f6a73b"), looks := false }, kinds := [], alts := [], laidByText := true, laidKinds := [.data, .data, .data], laidTests := true, laidLooks := .later }
def MountainGrowsUptoCardSaid : Prop := Claim7.holds Tryd.pinned (.plain (OpenSpec.upto mountainGrowsSpec)) mountainGrowsUptoCard

/-- THE SECOND FORM's CARD OF 'indenturelaw10.ProofHolds'. -/
def proofHoldsUptoCard : Claim7 := { stood := { row := proofHoldsUptoRow, standIns := [], harness := (true, "11614a2732df4f13fd9af0c8337424a05771221a5129fd07a892c94b53f6a73b"), looks := false }, kinds := [], alts := [], laidByText := true, laidKinds := [.data], laidTests := true, laidLooks := .later }
def ProofHoldsUptoCardSaid : Prop := Claim7.holds Tryd.pinned (.plain (OpenSpec.upto proofHoldsSpec)) proofHoldsUptoCard
end Rows
end Go.Proofs.YtbecfcnbgeeghaaDoor

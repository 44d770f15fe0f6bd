/-
  NARROWER THAN 'FOR EVERY INPUT', by the rows' own cells (each row's printed sentence says how): MountainHalves: laid · SpanOnes: laid · ProofPaths: laid · ProofLengths: laid · ProofClimbs: laid · SpanProves: laid · SpanRoots: laid · SpanHolds: laid · MountainAdds: laid · ProofChecks: laid · ProofSame: laid · MountainRoots: laid · MountainTops: laid · ProofJoins: laid · MountainGrows: laid · ProofHolds: laid.
  DERIVED. THE GIVEN ROWS OF THIS SEAT. 16 by the template 'for every input the law returns true; each argument reads behind the call as it read before'; 0 by the template 'total and deterministic' (their statements: YtbecfcnbgeeghaaDoorTotals.lean).
  GIVEN WITH THE SEED: the statements are not yours to turn. If you find one false, say at which input.
  Laid BY PROGRAM, IN A SANDBOX (cutbox-rows.mjs): the forced cells as the released guide's own fill.sh prints them over the translation d52b1f8dfae6226a… (all of the seat's roots in one cut). By AI agents, Wed Nov 11 2026. No macro, syntax, notation, axiom, sorry.
-/
import Derived.Test.YtbecfcnbgeeghaaDoorChecked
import GoSem.Claim
import GoSem.ClaimJoined
import GoSem.ClaimMapViews
import Derived.JoinedTies
import Derived.KernelRfl
namespace Go.Proofs.YtbecfcnbgeeghaaDoor
/- THE CELL 'sum', in the pinned program and in every row, IS THE sha256 OF THE DUMP (.gsa) THAT YtbecfcnbgeeghaaDoorProg.lean LOADS. Nothing in Lean hashes anything: it is a label: what it is worth is what the hold of that sum in a sandbox is worth. -/
noncomputable def Tryd.pinned : Pinned := { name := "ytbecfcnbgeeghaadoor", sum := "d52b1f8dfae6226a3df95e8da7f06f057473f0b340f144a6df3243d93f81a453", checked := Tryd.checked }
namespace Rows
def none {H : Type} : Left H := { results := [], args := [] }

/- WHAT THE LISTED PACKAGE-LEVEL VARIABLES READ AS WHEN THE CALL BEGINS. Each datum BY PROGRAM (the guide's laid-datum.mjs) off the statement by which the dump's own 'gosem.cut.vars' lays the variable. In a bare row this is a premise. The card (YtbecfcnbgeeghaaDoorCards.lean) ties it to the program's text. -/
def laid_indenture_sha_rounds {H : Type} : DataW H := .agg [.lit (.int .u32 1116352408), .lit (.int .u32 1899447441), .lit (.int .u32 3049323471), .lit (.int .u32 3921009573), .lit (.int .u32 961987163), .lit (.int .u32 1508970993), .lit (.int .u32 2453635748), .lit (.int .u32 2870763221), .lit (.int .u32 3624381080), .lit (.int .u32 310598401), .lit (.int .u32 607225278), .lit (.int .u32 1426881987), .lit (.int .u32 1925078388), .lit (.int .u32 2162078206), .lit (.int .u32 2614888103), .lit (.int .u32 3248222580), .lit (.int .u32 3835390401), .lit (.int .u32 4022224774), .lit (.int .u32 264347078), .lit (.int .u32 604807628), .lit (.int .u32 770255983), .lit (.int .u32 1249150122), .lit (.int .u32 1555081692), .lit (.int .u32 1996064986), .lit (.int .u32 2554220882), .lit (.int .u32 2821834349), .lit (.int .u32 2952996808), .lit (.int .u32 3210313671), .lit (.int .u32 3336571891), .lit (.int .u32 3584528711), .lit (.int .u32 113926993), .lit (.int .u32 338241895), .lit (.int .u32 666307205), .lit (.int .u32 773529912), .lit (.int .u32 1294757372), .lit (.int .u32 1396182291), .lit (.int .u32 1695183700), .lit (.int .u32 1986661051), .lit (.int .u32 2177026350), .lit (.int .u32 2456956037), .lit (.int .u32 2730485921), .lit (.int .u32 2820302411), .lit (.int .u32 3259730800), .lit (.int .u32 3345764771), .lit (.int .u32 3516065817), .lit (.int .u32 3600352804), .lit (.int .u32 4094571909), .lit (.int .u32 275423344), .lit (.int .u32 430227734), .lit (.int .u32 506948616), .lit (.int .u32 659060556), .lit (.int .u32 883997877), .lit (.int .u32 958139571), .lit (.int .u32 1322822218), .lit (.int .u32 1537002063), .lit (.int .u32 1747873779), .lit (.int .u32 1955562222), .lit (.int .u32 2024104815), .lit (.int .u32 2227730452), .lit (.int .u32 2361852424), .lit (.int .u32 2428436474), .lit (.int .u32 2756734187), .lit (.int .u32 3204031479), .lit (.int .u32 3329325298)]
def laid_math_bits_deBruijn32tab {H : Type} : DataW H := .agg [.lit (.int .u8 0), .lit (.int .u8 1), .lit (.int .u8 28), .lit (.int .u8 2), .lit (.int .u8 29), .lit (.int .u8 14), .lit (.int .u8 24), .lit (.int .u8 3), .lit (.int .u8 30), .lit (.int .u8 22), .lit (.int .u8 20), .lit (.int .u8 15), .lit (.int .u8 25), .lit (.int .u8 17), .lit (.int .u8 4), .lit (.int .u8 8), .lit (.int .u8 31), .lit (.int .u8 27), .lit (.int .u8 13), .lit (.int .u8 23), .lit (.int .u8 21), .lit (.int .u8 19), .lit (.int .u8 16), .lit (.int .u8 7), .lit (.int .u8 26), .lit (.int .u8 12), .lit (.int .u8 18), .lit (.int .u8 6), .lit (.int .u8 11), .lit (.int .u8 5), .lit (.int .u8 10), .lit (.int .u8 9)]
def laid_math_bits_deBruijn64tab {H : Type} : DataW H := .agg [.lit (.int .u8 0), .lit (.int .u8 1), .lit (.int .u8 56), .lit (.int .u8 2), .lit (.int .u8 57), .lit (.int .u8 49), .lit (.int .u8 28), .lit (.int .u8 3), .lit (.int .u8 61), .lit (.int .u8 58), .lit (.int .u8 42), .lit (.int .u8 50), .lit (.int .u8 38), .lit (.int .u8 29), .lit (.int .u8 17), .lit (.int .u8 4), .lit (.int .u8 62), .lit (.int .u8 47), .lit (.int .u8 59), .lit (.int .u8 36), .lit (.int .u8 45), .lit (.int .u8 43), .lit (.int .u8 51), .lit (.int .u8 22), .lit (.int .u8 53), .lit (.int .u8 39), .lit (.int .u8 33), .lit (.int .u8 30), .lit (.int .u8 24), .lit (.int .u8 18), .lit (.int .u8 12), .lit (.int .u8 5), .lit (.int .u8 63), .lit (.int .u8 55), .lit (.int .u8 48), .lit (.int .u8 27), .lit (.int .u8 60), .lit (.int .u8 41), .lit (.int .u8 37), .lit (.int .u8 16), .lit (.int .u8 46), .lit (.int .u8 35), .lit (.int .u8 44), .lit (.int .u8 21), .lit (.int .u8 52), .lit (.int .u8 32), .lit (.int .u8 23), .lit (.int .u8 11), .lit (.int .u8 54), .lit (.int .u8 26), .lit (.int .u8 40), .lit (.int .u8 15), .lit (.int .u8 34), .lit (.int .u8 20), .lit (.int .u8 31), .lit (.int .u8 10), .lit (.int .u8 25), .lit (.int .u8 14), .lit (.int .u8 19), .lit (.int .u8 9), .lit (.int .u8 13), .lit (.int .u8 8), .lit (.int .u8 7), .lit (.int .u8 6)]

/-- 'indenturelaw09.MountainHalves': WHATEVER THE INPUT: true; the input reads as it did. -/
def mountainHalvesSpec : ChangeSpec := { name := "mountainHalves", fn := fun _ => fun
  | [d] => { results := [.lit (.bool true)], args := [d] }
  | _ => none }
def mountainHalvesRow : OpenClaim := { program := "ytbecfcnbgeeghaadoor", sum := "d52b1f8dfae6226a3df95e8da7f06f057473f0b340f144a6df3243d93f81a453", func := "indenture/indenturelaw09.MountainHalves", spec := "mountainHalves", named := ["indenture/sha.rounds"], apart := false, laid := [("indenture/sha.rounds", laid_indenture_sha_rounds)] }
def MountainHalvesSaid : Prop := mountainHalvesRow.holds Tryd.pinned (OpenSpec.ofChange mountainHalvesSpec)

/-- ITS FALSE NEIGHBOUR: 'it returns false'. Refute it at one input. -/
def mountainHalvesWrong : ChangeSpec := { name := "mountainHalves", fn := fun _ => fun
  | [d] => { results := [.lit (.bool false)], args := [d] }
  | _ => none }
def MountainHalvesWrongFalsely : Prop := mountainHalvesRow.holds Tryd.pinned (OpenSpec.ofChange mountainHalvesWrong)

/-- 'indenturelaw28.SpanOnes': WHATEVER THE INPUT: true; the input reads as it did. -/
def spanOnesSpec : ChangeSpec := { name := "spanOnes", fn := fun _ => fun
  | [d1, d2] => { results := [.lit (.bool true)], args := [d1, d2] }
  | _ => none }
def spanOnesRow : OpenClaim := { program := "ytbecfcnbgeeghaadoor", sum := "d52b1f8dfae6226a3df95e8da7f06f057473f0b340f144a6df3243d93f81a453", func := "indenture/indenturelaw28.SpanOnes", spec := "spanOnes", unfollowed := true, recurses := true, named := ["indenture/sha.rounds"], apart := false, laid := [("indenture/sha.rounds", laid_indenture_sha_rounds)] }
def SpanOnesSaid : Prop := spanOnesRow.holds Tryd.pinned (OpenSpec.ofChange spanOnesSpec)

/-- ITS FALSE NEIGHBOUR: 'it returns false'. Refute it at one input. -/
def spanOnesWrong : ChangeSpec := { name := "spanOnes", fn := fun _ => fun
  | [d1, d2] => { results := [.lit (.bool false)], args := [d1, d2] }
  | _ => none }
def SpanOnesWrongFalsely : Prop := spanOnesRow.holds Tryd.pinned (OpenSpec.ofChange spanOnesWrong)

/-- 'indenturelaw10.ProofPaths': WHATEVER THE INPUT: true; the input reads as it did. -/
def proofPathsSpec : ChangeSpec := { name := "proofPaths", fn := fun _ => fun
  | [d1, d2] => { results := [.lit (.bool true)], args := [d1, d2] }
  | _ => none }
def proofPathsRow : OpenClaim := { program := "ytbecfcnbgeeghaadoor", sum := "d52b1f8dfae6226a3df95e8da7f06f057473f0b340f144a6df3243d93f81a453", func := "indenture/indenturelaw10.ProofPaths", spec := "proofPaths", recurses := true, named := ["indenture/sha.rounds"], apart := false, laid := [("indenture/sha.rounds", laid_indenture_sha_rounds)] }
def ProofPathsSaid : Prop := proofPathsRow.holds Tryd.pinned (OpenSpec.ofChange proofPathsSpec)

/-- ITS FALSE NEIGHBOUR: 'it returns false'. Refute it at one input. -/
def proofPathsWrong : ChangeSpec := { name := "proofPaths", fn := fun _ => fun
  | [d1, d2] => { results := [.lit (.bool false)], args := [d1, d2] }
  | _ => none }
def ProofPathsWrongFalsely : Prop := proofPathsRow.holds Tryd.pinned (OpenSpec.ofChange proofPathsWrong)

/-- 'indenturelaw10.ProofLengths': WHATEVER THE INPUT: true; the input reads as it did. -/
def proofLengthsSpec : ChangeSpec := { name := "proofLengths", fn := fun _ => fun
  | [d1, d2, d3] => { results := [.lit (.bool true)], args := [d1, d2, d3] }
  | _ => none }
def proofLengthsRow : OpenClaim := { program := "ytbecfcnbgeeghaadoor", sum := "d52b1f8dfae6226a3df95e8da7f06f057473f0b340f144a6df3243d93f81a453", func := "indenture/indenturelaw10.ProofLengths", spec := "proofLengths", unfollowed := true, recurses := true, named := ["indenture/sha.rounds"], apart := false, laid := [("indenture/sha.rounds", laid_indenture_sha_rounds)] }
def ProofLengthsSaid : Prop := proofLengthsRow.holds Tryd.pinned (OpenSpec.ofChange proofLengthsSpec)

/-- ITS FALSE NEIGHBOUR: 'it returns false'. Refute it at one input. -/
def proofLengthsWrong : ChangeSpec := { name := "proofLengths", fn := fun _ => fun
  | [d1, d2, d3] => { results := [.lit (.bool false)], args := [d1, d2, d3] }
  | _ => none }
def ProofLengthsWrongFalsely : Prop := proofLengthsRow.holds Tryd.pinned (OpenSpec.ofChange proofLengthsWrong)

/-- 'indenturelaw10.ProofClimbs': WHATEVER THE INPUT: true; the input reads as it did. -/
def proofClimbsSpec : ChangeSpec := { name := "proofClimbs", fn := fun _ => fun
  | [d1, d2, d3] => { results := [.lit (.bool true)], args := [d1, d2, d3] }
  | _ => none }
def proofClimbsRow : OpenClaim := { program := "ytbecfcnbgeeghaadoor", sum := "d52b1f8dfae6226a3df95e8da7f06f057473f0b340f144a6df3243d93f81a453", func := "indenture/indenturelaw10.ProofClimbs", spec := "proofClimbs", unfollowed := true, recurses := true, named := ["indenture/sha.rounds"], apart := false, laid := [("indenture/sha.rounds", laid_indenture_sha_rounds)] }
def ProofClimbsSaid : Prop := proofClimbsRow.holds Tryd.pinned (OpenSpec.ofChange proofClimbsSpec)

/-- ITS FALSE NEIGHBOUR: 'it returns false'. Refute it at one input. -/
def proofClimbsWrong : ChangeSpec := { name := "proofClimbs", fn := fun _ => fun
  | [d1, d2, d3] => { results := [.lit (.bool false)], args := [d1, d2, d3] }
  | _ => none }
def ProofClimbsWrongFalsely : Prop := proofClimbsRow.holds Tryd.pinned (OpenSpec.ofChange proofClimbsWrong)

/-- 'indenturelaw28.SpanProves': WHATEVER THE INPUT: true; the input reads as it did. -/
def spanProvesSpec : ChangeSpec := { name := "spanProves", fn := fun _ => fun
  | [d1, d2, d3] => { results := [.lit (.bool true)], args := [d1, d2, d3] }
  | _ => none }
def spanProvesRow : OpenClaim := { program := "ytbecfcnbgeeghaadoor", sum := "d52b1f8dfae6226a3df95e8da7f06f057473f0b340f144a6df3243d93f81a453", func := "indenture/indenturelaw28.SpanProves", spec := "spanProves", unfollowed := true, recurses := true, named := ["indenture/sha.rounds"], apart := false, laid := [("indenture/sha.rounds", laid_indenture_sha_rounds)] }
def SpanProvesSaid : Prop := spanProvesRow.holds Tryd.pinned (OpenSpec.ofChange spanProvesSpec)

/-- ITS FALSE NEIGHBOUR: 'it returns false'. Refute it at one input. -/
def spanProvesWrong : ChangeSpec := { name := "spanProves", fn := fun _ => fun
  | [d1, d2, d3] => { results := [.lit (.bool false)], args := [d1, d2, d3] }
  | _ => none }
def SpanProvesWrongFalsely : Prop := spanProvesRow.holds Tryd.pinned (OpenSpec.ofChange spanProvesWrong)

/-- 'indenturelaw28.SpanRoots': WHATEVER THE INPUT: true; the input reads as it did. -/
def spanRootsSpec : ChangeSpec := { name := "spanRoots", fn := fun _ => fun
  | [d1, d2, d3] => { results := [.lit (.bool true)], args := [d1, d2, d3] }
  | _ => none }
def spanRootsRow : OpenClaim := { program := "ytbecfcnbgeeghaadoor", sum := "d52b1f8dfae6226a3df95e8da7f06f057473f0b340f144a6df3243d93f81a453", func := "indenture/indenturelaw28.SpanRoots", spec := "spanRoots", unfollowed := true, recurses := true, named := ["indenture/sha.rounds"], apart := false, laid := [("indenture/sha.rounds", laid_indenture_sha_rounds)] }
def SpanRootsSaid : Prop := spanRootsRow.holds Tryd.pinned (OpenSpec.ofChange spanRootsSpec)

/-- ITS FALSE NEIGHBOUR: 'it returns false'. Refute it at one input. -/
def spanRootsWrong : ChangeSpec := { name := "spanRoots", fn := fun _ => fun
  | [d1, d2, d3] => { results := [.lit (.bool false)], args := [d1, d2, d3] }
  | _ => none }
def SpanRootsWrongFalsely : Prop := spanRootsRow.holds Tryd.pinned (OpenSpec.ofChange spanRootsWrong)

/-- 'indenturelaw28.SpanHolds': WHATEVER THE INPUT: true; the input reads as it did. -/
def spanHoldsSpec : ChangeSpec := { name := "spanHolds", fn := fun _ => fun
  | [d1, d2] => { results := [.lit (.bool true)], args := [d1, d2] }
  | _ => none }
def spanHoldsRow : OpenClaim := { program := "ytbecfcnbgeeghaadoor", sum := "d52b1f8dfae6226a3df95e8da7f06f057473f0b340f144a6df3243d93f81a453", func := "indenture/indenturelaw28.SpanHolds", spec := "spanHolds", unfollowed := true, recurses := true, named := ["indenture/sha.rounds"], apart := false, laid := [("indenture/sha.rounds", laid_indenture_sha_rounds)] }
def SpanHoldsSaid : Prop := spanHoldsRow.holds Tryd.pinned (OpenSpec.ofChange spanHoldsSpec)

/-- ITS FALSE NEIGHBOUR: 'it returns false'. Refute it at one input. -/
def spanHoldsWrong : ChangeSpec := { name := "spanHolds", fn := fun _ => fun
  | [d1, d2] => { results := [.lit (.bool false)], args := [d1, d2] }
  | _ => none }
def SpanHoldsWrongFalsely : Prop := spanHoldsRow.holds Tryd.pinned (OpenSpec.ofChange spanHoldsWrong)

/-- 'indenturelaw09.MountainAdds': WHATEVER THE INPUT: true; the input reads as it did. -/
def mountainAddsSpec : ChangeSpec := { name := "mountainAdds", fn := fun _ => fun
  | [d1, d2] => { results := [.lit (.bool true)], args := [d1, d2] }
  | _ => none }
def mountainAddsRow : OpenClaim := { program := "ytbecfcnbgeeghaadoor", sum := "d52b1f8dfae6226a3df95e8da7f06f057473f0b340f144a6df3243d93f81a453", func := "indenture/indenturelaw09.MountainAdds", spec := "mountainAdds", named := ["math/bits.deBruijn32tab", "math/bits.deBruijn64tab", "indenture/sha.rounds"], apart := false, laid := [("math/bits.deBruijn32tab", laid_math_bits_deBruijn32tab), ("math/bits.deBruijn64tab", laid_math_bits_deBruijn64tab), ("indenture/sha.rounds", laid_indenture_sha_rounds)] }
def MountainAddsSaid : Prop := mountainAddsRow.holds Tryd.pinned (OpenSpec.ofChange mountainAddsSpec)

/-- ITS FALSE NEIGHBOUR: 'it returns false'. Refute it at one input. -/
def mountainAddsWrong : ChangeSpec := { name := "mountainAdds", fn := fun _ => fun
  | [d1, d2] => { results := [.lit (.bool false)], args := [d1, d2] }
  | _ => none }
def MountainAddsWrongFalsely : Prop := mountainAddsRow.holds Tryd.pinned (OpenSpec.ofChange mountainAddsWrong)

/-- 'indenturelaw10.ProofChecks': WHATEVER THE INPUT: true; the input reads as it did. -/
def proofChecksSpec : ChangeSpec := { name := "proofChecks", fn := fun _ => fun
  | [d1, d2, d3] => { results := [.lit (.bool true)], args := [d1, d2, d3] }
  | _ => none }
def proofChecksRow : OpenClaim := { program := "ytbecfcnbgeeghaadoor", sum := "d52b1f8dfae6226a3df95e8da7f06f057473f0b340f144a6df3243d93f81a453", func := "indenture/indenturelaw10.ProofChecks", spec := "proofChecks", unfollowed := true, recurses := true, named := ["indenture/sha.rounds"], apart := false, laid := [("indenture/sha.rounds", laid_indenture_sha_rounds)] }
def ProofChecksSaid : Prop := proofChecksRow.holds Tryd.pinned (OpenSpec.ofChange proofChecksSpec)

/-- ITS FALSE NEIGHBOUR: 'it returns false'. Refute it at one input. -/
def proofChecksWrong : ChangeSpec := { name := "proofChecks", fn := fun _ => fun
  | [d1, d2, d3] => { results := [.lit (.bool false)], args := [d1, d2, d3] }
  | _ => none }
def ProofChecksWrongFalsely : Prop := proofChecksRow.holds Tryd.pinned (OpenSpec.ofChange proofChecksWrong)

/-- 'indenturelaw10.ProofSame': WHATEVER THE INPUT: true; the input reads as it did. -/
def proofSameSpec : ChangeSpec := { name := "proofSame", fn := fun _ => fun
  | [d1, d2, d3] => { results := [.lit (.bool true)], args := [d1, d2, d3] }
  | _ => none }
def proofSameRow : OpenClaim := { program := "ytbecfcnbgeeghaadoor", sum := "d52b1f8dfae6226a3df95e8da7f06f057473f0b340f144a6df3243d93f81a453", func := "indenture/indenturelaw10.ProofSame", spec := "proofSame", unfollowed := true, recurses := true, named := ["indenture/sha.rounds"], apart := false, laid := [("indenture/sha.rounds", laid_indenture_sha_rounds)] }
def ProofSameSaid : Prop := proofSameRow.holds Tryd.pinned (OpenSpec.ofChange proofSameSpec)

/-- ITS FALSE NEIGHBOUR: 'it returns false'. Refute it at one input. -/
def proofSameWrong : ChangeSpec := { name := "proofSame", fn := fun _ => fun
  | [d1, d2, d3] => { results := [.lit (.bool false)], args := [d1, d2, d3] }
  | _ => none }
def ProofSameWrongFalsely : Prop := proofSameRow.holds Tryd.pinned (OpenSpec.ofChange proofSameWrong)

/-- 'indenturelaw09.MountainRoots': WHATEVER THE INPUT: true; the input reads as it did. -/
def mountainRootsSpec : ChangeSpec := { name := "mountainRoots", fn := fun _ => fun
  | [d] => { results := [.lit (.bool true)], args := [d] }
  | _ => none }
def mountainRootsRow : OpenClaim := { program := "ytbecfcnbgeeghaadoor", sum := "d52b1f8dfae6226a3df95e8da7f06f057473f0b340f144a6df3243d93f81a453", func := "indenture/indenturelaw09.MountainRoots", spec := "mountainRoots", recurses := true, named := ["math/bits.deBruijn32tab", "math/bits.deBruijn64tab", "indenture/sha.rounds"], apart := false, laid := [("math/bits.deBruijn32tab", laid_math_bits_deBruijn32tab), ("math/bits.deBruijn64tab", laid_math_bits_deBruijn64tab), ("indenture/sha.rounds", laid_indenture_sha_rounds)] }
def MountainRootsSaid : Prop := mountainRootsRow.holds Tryd.pinned (OpenSpec.ofChange mountainRootsSpec)

/-- ITS FALSE NEIGHBOUR: 'it returns false'. Refute it at one input. -/
def mountainRootsWrong : ChangeSpec := { name := "mountainRoots", fn := fun _ => fun
  | [d] => { results := [.lit (.bool false)], args := [d] }
  | _ => none }
def MountainRootsWrongFalsely : Prop := mountainRootsRow.holds Tryd.pinned (OpenSpec.ofChange mountainRootsWrong)

/-- 'indenturelaw09.MountainTops': WHATEVER THE INPUT: true; the input reads as it did. -/
def mountainTopsSpec : ChangeSpec := { name := "mountainTops", fn := fun _ => fun
  | [d] => { results := [.lit (.bool true)], args := [d] }
  | _ => none }
def mountainTopsRow : OpenClaim := { program := "ytbecfcnbgeeghaadoor", sum := "d52b1f8dfae6226a3df95e8da7f06f057473f0b340f144a6df3243d93f81a453", func := "indenture/indenturelaw09.MountainTops", spec := "mountainTops", named := ["math/bits.deBruijn32tab", "math/bits.deBruijn64tab", "indenture/sha.rounds"], apart := false, laid := [("math/bits.deBruijn32tab", laid_math_bits_deBruijn32tab), ("math/bits.deBruijn64tab", laid_math_bits_deBruijn64tab), ("indenture/sha.rounds", laid_indenture_sha_rounds)] }
def MountainTopsSaid : Prop := mountainTopsRow.holds Tryd.pinned (OpenSpec.ofChange mountainTopsSpec)

/-- ITS FALSE NEIGHBOUR: 'it returns false'. Refute it at one input. -/
def mountainTopsWrong : ChangeSpec := { name := "mountainTops", fn := fun _ => fun
  | [d] => { results := [.lit (.bool false)], args := [d] }
  | _ => none }
def MountainTopsWrongFalsely : Prop := mountainTopsRow.holds Tryd.pinned (OpenSpec.ofChange mountainTopsWrong)

/-- 'indenturelaw10.ProofJoins': WHATEVER THE INPUT: true; the input reads as it did. -/
def proofJoinsSpec : ChangeSpec := { name := "proofJoins", fn := fun _ => fun
  | [d1, d2, d3] => { results := [.lit (.bool true)], args := [d1, d2, d3] }
  | _ => none }
def proofJoinsRow : OpenClaim := { program := "ytbecfcnbgeeghaadoor", sum := "d52b1f8dfae6226a3df95e8da7f06f057473f0b340f144a6df3243d93f81a453", func := "indenture/indenturelaw10.ProofJoins", spec := "proofJoins", unfollowed := true, recurses := true, named := ["indenture/sha.rounds"], apart := false, laid := [("indenture/sha.rounds", laid_indenture_sha_rounds)] }
def ProofJoinsSaid : Prop := proofJoinsRow.holds Tryd.pinned (OpenSpec.ofChange proofJoinsSpec)

/-- ITS FALSE NEIGHBOUR: 'it returns false'. Refute it at one input. -/
def proofJoinsWrong : ChangeSpec := { name := "proofJoins", fn := fun _ => fun
  | [d1, d2, d3] => { results := [.lit (.bool false)], args := [d1, d2, d3] }
  | _ => none }
def ProofJoinsWrongFalsely : Prop := proofJoinsRow.holds Tryd.pinned (OpenSpec.ofChange proofJoinsWrong)

/-- 'indenturelaw09.MountainGrows': WHATEVER THE INPUT: true; the input reads as it did. -/
def mountainGrowsSpec : ChangeSpec := { name := "mountainGrows", fn := fun _ => fun
  | [d] => { results := [.lit (.bool true)], args := [d] }
  | _ => none }
def mountainGrowsRow : OpenClaim := { program := "ytbecfcnbgeeghaadoor", sum := "d52b1f8dfae6226a3df95e8da7f06f057473f0b340f144a6df3243d93f81a453", func := "indenture/indenturelaw09.MountainGrows", spec := "mountainGrows", named := ["math/bits.deBruijn32tab", "math/bits.deBruijn64tab", "indenture/sha.rounds"], apart := false, laid := [("math/bits.deBruijn32tab", laid_math_bits_deBruijn32tab), ("math/bits.deBruijn64tab", laid_math_bits_deBruijn64tab), ("indenture/sha.rounds", laid_indenture_sha_rounds)] }
def MountainGrowsSaid : Prop := mountainGrowsRow.holds Tryd.pinned (OpenSpec.ofChange mountainGrowsSpec)

/-- ITS FALSE NEIGHBOUR: 'it returns false'. Refute it at one input. -/
def mountainGrowsWrong : ChangeSpec := { name := "mountainGrows", fn := fun _ => fun
  | [d] => { results := [.lit (.bool false)], args := [d] }
  | _ => none }
def MountainGrowsWrongFalsely : Prop := mountainGrowsRow.holds Tryd.pinned (OpenSpec.ofChange mountainGrowsWrong)

/-- 'indenturelaw10.ProofHolds': WHATEVER THE INPUT: true; the input reads as it did. -/
def proofHoldsSpec : ChangeSpec := { name := "proofHolds", fn := fun _ => fun
  | [d1, d2, d3] => { results := [.lit (.bool true)], args := [d1, d2, d3] }
  | _ => none }
def proofHoldsRow : OpenClaim := { program := "ytbecfcnbgeeghaadoor", sum := "d52b1f8dfae6226a3df95e8da7f06f057473f0b340f144a6df3243d93f81a453", func := "indenture/indenturelaw10.ProofHolds", spec := "proofHolds", unfollowed := true, recurses := true, named := ["indenture/sha.rounds"], apart := false, laid := [("indenture/sha.rounds", laid_indenture_sha_rounds)] }
def ProofHoldsSaid : Prop := proofHoldsRow.holds Tryd.pinned (OpenSpec.ofChange proofHoldsSpec)

/-- ITS FALSE NEIGHBOUR: 'it returns false'. Refute it at one input. -/
def proofHoldsWrong : ChangeSpec := { name := "proofHolds", fn := fun _ => fun
  | [d1, d2, d3] => { results := [.lit (.bool false)], args := [d1, d2, d3] }
  | _ => none }
def ProofHoldsWrongFalsely : Prop := proofHoldsRow.holds Tryd.pinned (OpenSpec.ofChange proofHoldsWrong)

/- THE SECOND FORM. 'bulk': how many values and letters a reading holds, each counted each time it is reached (what is shared counts as often as it is met; a slice's spare places count too). A statement '..UptoSaid' is the law's where the arguments, and the package variables that the reading takes, are together of bulk at most 1048576: NARROWER than '..Said'. Prove '..Said' where nothing that the law and all that it calls make is longer than what came in: it says more and counts as full. Else prove '..UptoSaid'. A law counts once. -/
mutual
def uptoBulk {H : Type} : DataW H → Nat
  | .lit (.string bytes) => bytes.length + 1
  | .lit _ => 1
  | .nil => 1
  | .ptr d => uptoBulk d + 1
  | .slice elems spare => uptoBulkAll elems + uptoBulkAll spare + 1
  | .agg parts => uptoBulkAll parts + 1
  | .iface _ d => uptoBulk d + 1
  | .map entries => uptoBulkEntries entries + 1
  | .held _ => 1
def uptoBulkAll {H : Type} : List (DataW H) → Nat
  | [] => 0
  | d :: r => uptoBulk d + uptoBulkAll r
def uptoBulkEntries {H : Type} : List (Lit × DataW H) → Nat
  | [] => 0
  | x :: r => uptoBulkEntry x + uptoBulkEntries r
def uptoBulkEntry {H : Type} : Lit × DataW H → Nat
  | (.string bytes, d) => bytes.length + uptoBulk d + 1
  | (_, d) => uptoBulk d + 1
 end
def uptoSmall : (H : Type) → List (DataW H) → Bool := fun _ ds => decide (uptoBulkAll ds ≤ 1048576)
def OpenSpec.upto (s : _root_.Go.ChangeSpec) : _root_.Go.OpenSpec := { _root_.Go.OpenSpec.ofChange s with cond := some uptoSmall }

/-- 'indenturelaw09.MountainHalves', WHERE WHAT IT READS IS OF BULK AT MOST 1048576: true; the input reads as it did. -/
def mountainHalvesUptoRow : OpenClaim := { program := "ytbecfcnbgeeghaadoor", sum := "d52b1f8dfae6226a3df95e8da7f06f057473f0b340f144a6df3243d93f81a453", func := "indenture/indenturelaw09.MountainHalves", spec := "mountainHalves", named := ["indenture/sha.rounds"], apart := false, laid := [("indenture/sha.rounds", laid_indenture_sha_rounds)], narrowed := true }
def MountainHalvesUptoSaid : Prop := mountainHalvesUptoRow.holds Tryd.pinned (OpenSpec.upto mountainHalvesSpec)

/-- 'indenturelaw28.SpanOnes', WHERE WHAT IT READS IS OF BULK AT MOST 1048576: true; the input reads as it did. -/
def spanOnesUptoRow : OpenClaim := { program := "ytbecfcnbgeeghaadoor", sum := "d52b1f8dfae6226a3df95e8da7f06f057473f0b340f144a6df3243d93f81a453", func := "indenture/indenturelaw28.SpanOnes", spec := "spanOnes", unfollowed := true, recurses := true, named := ["indenture/sha.rounds"], apart := false, laid := [("indenture/sha.rounds", laid_indenture_sha_rounds)], narrowed := true }
def SpanOnesUptoSaid : Prop := spanOnesUptoRow.holds Tryd.pinned (OpenSpec.upto spanOnesSpec)

/-- 'indenturelaw10.ProofPaths', WHERE WHAT IT READS IS OF BULK AT MOST 1048576: true; the input reads as it did. -/
def proofPathsUptoRow : OpenClaim := { program := "ytbecfcnbgeeghaadoor", sum := "d52b1f8dfae6226a3df95e8da7f06f057473f0b340f144a6df3243d93f81a453", func := "indenture/indenturelaw10.ProofPaths", spec := "proofPaths", recurses := true, named := ["indenture/sha.rounds"], apart := false, laid := [("indenture/sha.rounds", laid_indenture_sha_rounds)], narrowed := true }
def ProofPathsUptoSaid : Prop := proofPathsUptoRow.holds Tryd.pinned (OpenSpec.upto proofPathsSpec)

/-- 'indenturelaw10.ProofLengths', WHERE WHAT IT READS IS OF BULK AT MOST 1048576: true; the input reads as it did. -/
def proofLengthsUptoRow : OpenClaim := { program := "ytbecfcnbgeeghaadoor", sum := "d52b1f8dfae6226a3df95e8da7f06f057473f0b340f144a6df3243d93f81a453", func := "indenture/indenturelaw10.ProofLengths", spec := "proofLengths", unfollowed := true, recurses := true, named := ["indenture/sha.rounds"], apart := false, laid := [("indenture/sha.rounds", laid_indenture_sha_rounds)], narrowed := true }
def ProofLengthsUptoSaid : Prop := proofLengthsUptoRow.holds Tryd.pinned (OpenSpec.upto proofLengthsSpec)

/-- 'indenturelaw10.ProofClimbs', WHERE WHAT IT READS IS OF BULK AT MOST 1048576: true; the input reads as it did. -/
def proofClimbsUptoRow : OpenClaim := { program := "ytbecfcnbgeeghaadoor", sum := "d52b1f8dfae6226a3df95e8da7f06f057473f0b340f144a6df3243d93f81a453", func := "indenture/indenturelaw10.ProofClimbs", spec := "proofClimbs", unfollowed := true, recurses := true, named := ["indenture/sha.rounds"], apart := false, laid := [("indenture/sha.rounds", laid_indenture_sha_rounds)], narrowed := true }
def ProofClimbsUptoSaid : Prop := proofClimbsUptoRow.holds Tryd.pinned (OpenSpec.upto proofClimbsSpec)

/-- 'indenturelaw28.SpanProves', WHERE WHAT IT READS IS OF BULK AT MOST 1048576: true; the input reads as it did. -/
def spanProvesUptoRow : OpenClaim := { program := "ytbecfcnbgeeghaadoor", sum := "d52b1f8dfae6226a3df95e8da7f06f057473f0b340f144a6df3243d93f81a453", func := "indenture/indenturelaw28.SpanProves", spec := "spanProves", unfollowed := true, recurses := true, named := ["indenture/sha.rounds"], apart := false, laid := [("indenture/sha.rounds", laid_indenture_sha_rounds)], narrowed := true }
def SpanProvesUptoSaid : Prop := spanProvesUptoRow.holds Tryd.pinned (OpenSpec.upto spanProvesSpec)

/-- 'indenturelaw28.SpanRoots', WHERE WHAT IT READS IS OF BULK AT MOST 1048576: true; the input reads as it did. -/
def spanRootsUptoRow : OpenClaim := { program := "ytbecfcnbgeeghaadoor", sum := "d52b1f8dfae6226a3df95e8da7f06f057473f0b340f144a6df3243d93f81a453", func := "indenture/indenturelaw28.SpanRoots", spec := "spanRoots", unfollowed := true, recurses := true, named := ["indenture/sha.rounds"], apart := false, laid := [("indenture/sha.rounds", laid_indenture_sha_rounds)], narrowed := true }
def SpanRootsUptoSaid : Prop := spanRootsUptoRow.holds Tryd.pinned (OpenSpec.upto spanRootsSpec)

/-- 'indenturelaw28.SpanHolds', WHERE WHAT IT READS IS OF BULK AT MOST 1048576: true; the input reads as it did. -/
def spanHoldsUptoRow : OpenClaim := { program := "ytbecfcnbgeeghaadoor", sum := "d52b1f8dfae6226a3df95e8da7f06f057473f0b340f144a6df3243d93f81a453", func := "indenture/indenturelaw28.SpanHolds", spec := "spanHolds", unfollowed := true, recurses := true, named := ["indenture/sha.rounds"], apart := false, laid := [("indenture/sha.rounds", laid_indenture_sha_rounds)], narrowed := true }
def SpanHoldsUptoSaid : Prop := spanHoldsUptoRow.holds Tryd.pinned (OpenSpec.upto spanHoldsSpec)

/-- 'indenturelaw09.MountainAdds', WHERE WHAT IT READS IS OF BULK AT MOST 1048576: true; the input reads as it did. -/
def mountainAddsUptoRow : OpenClaim := { program := "ytbecfcnbgeeghaadoor", sum := "d52b1f8dfae6226a3df95e8da7f06f057473f0b340f144a6df3243d93f81a453", func := "indenture/indenturelaw09.MountainAdds", spec := "mountainAdds", named := ["math/bits.deBruijn32tab", "math/bits.deBruijn64tab", "indenture/sha.rounds"], apart := false, laid := [("math/bits.deBruijn32tab", laid_math_bits_deBruijn32tab), ("math/bits.deBruijn64tab", laid_math_bits_deBruijn64tab), ("indenture/sha.rounds", laid_indenture_sha_rounds)], narrowed := true }
def MountainAddsUptoSaid : Prop := mountainAddsUptoRow.holds Tryd.pinned (OpenSpec.upto mountainAddsSpec)

/-- 'indenturelaw10.ProofChecks', WHERE WHAT IT READS IS OF BULK AT MOST 1048576: true; the input reads as it did. -/
def proofChecksUptoRow : OpenClaim := { program := "ytbecfcnbgeeghaadoor", sum := "d52b1f8dfae6226a3df95e8da7f06f057473f0b340f144a6df3243d93f81a453", func := "indenture/indenturelaw10.ProofChecks", spec := "proofChecks", unfollowed := true, recurses := true, named := ["indenture/sha.rounds"], apart := false, laid := [("indenture/sha.rounds", laid_indenture_sha_rounds)], narrowed := true }
def ProofChecksUptoSaid : Prop := proofChecksUptoRow.holds Tryd.pinned (OpenSpec.upto proofChecksSpec)

/-- 'indenturelaw10.ProofSame', WHERE WHAT IT READS IS OF BULK AT MOST 1048576: true; the input reads as it did. -/
def proofSameUptoRow : OpenClaim := { program := "ytbecfcnbgeeghaadoor", sum := "d52b1f8dfae6226a3df95e8da7f06f057473f0b340f144a6df3243d93f81a453", func := "indenture/indenturelaw10.ProofSame", spec := "proofSame", unfollowed := true, recurses := true, named := ["indenture/sha.rounds"], apart := false, laid := [("indenture/sha.rounds", laid_indenture_sha_rounds)], narrowed := true }
def ProofSameUptoSaid : Prop := proofSameUptoRow.holds Tryd.pinned (OpenSpec.upto proofSameSpec)

/-- 'indenturelaw09.MountainRoots', WHERE WHAT IT READS IS OF BULK AT MOST 1048576: true; the input reads as it did. -/
def mountainRootsUptoRow : OpenClaim := { program := "ytbecfcnbgeeghaadoor", sum := "d52b1f8dfae6226a3df95e8da7f06f057473f0b340f144a6df3243d93f81a453", func := "indenture/indenturelaw09.MountainRoots", spec := "mountainRoots", recurses := true, named := ["math/bits.deBruijn32tab", "math/bits.deBruijn64tab", "indenture/sha.rounds"], apart := false, laid := [("math/bits.deBruijn32tab", laid_math_bits_deBruijn32tab), ("math/bits.deBruijn64tab", laid_math_bits_deBruijn64tab), ("indenture/sha.rounds", laid_indenture_sha_rounds)], narrowed := true }
def MountainRootsUptoSaid : Prop := mountainRootsUptoRow.holds Tryd.pinned (OpenSpec.upto mountainRootsSpec)

/-- 'indenturelaw09.MountainTops', WHERE WHAT IT READS IS OF BULK AT MOST 1048576: true; the input reads as it did. -/
def mountainTopsUptoRow : OpenClaim := { program := "ytbecfcnbgeeghaadoor", sum := "d52b1f8dfae6226a3df95e8da7f06f057473f0b340f144a6df3243d93f81a453", func := "indenture/indenturelaw09.MountainTops", spec := "mountainTops", named := ["math/bits.deBruijn32tab", "math/bits.deBruijn64tab", "indenture/sha.rounds"], apart := false, laid := [("math/bits.deBruijn32tab", laid_math_bits_deBruijn32tab), ("math/bits.deBruijn64tab", laid_math_bits_deBruijn64tab), ("indenture/sha.rounds", laid_indenture_sha_rounds)], narrowed := true }
def MountainTopsUptoSaid : Prop := mountainTopsUptoRow.holds Tryd.pinned (OpenSpec.upto mountainTopsSpec)

/-- 'indenturelaw10.ProofJoins', WHERE WHAT IT READS IS OF BULK AT MOST 1048576: true; the input reads as it did. -/
def proofJoinsUptoRow : OpenClaim := { program := "ytbecfcnbgeeghaadoor", sum := "d52b1f8dfae6226a3df95e8da7f06f057473f0b340f144a6df3243d93f81a453", func := "indenture/indenturelaw10.ProofJoins", spec := "proofJoins", unfollowed := true, recurses := true, named := ["indenture/sha.rounds"], apart := false, laid := [("indenture/sha.rounds", laid_indenture_sha_rounds)], narrowed := true }
def ProofJoinsUptoSaid : Prop := proofJoinsUptoRow.holds Tryd.pinned (OpenSpec.upto proofJoinsSpec)

/-- 'indenturelaw09.MountainGrows', WHERE WHAT IT READS IS OF BULK AT MOST 1048576: true; the input reads as it did. -/
def mountainGrowsUptoRow : OpenClaim := { program := "ytbecfcnbgeeghaadoor", sum := "d52b1f8dfae6226a3df95e8da7f06f057473f0b340f144a6df3243d93f81a453", func := "indenture/indenturelaw09.MountainGrows", spec := "mountainGrows", named := ["math/bits.deBruijn32tab", "math/bits.deBruijn64tab", "indenture/sha.rounds"], apart := false, laid := [("math/bits.deBruijn32tab", laid_math_bits_deBruijn32tab), ("math/bits.deBruijn64tab", laid_math_bits_deBruijn64tab), ("indenture/sha.rounds", laid_indenture_sha_rounds)], narrowed := true }
def MountainGrowsUptoSaid : Prop := mountainGrowsUptoRow.holds Tryd.pinned (OpenSpec.upto mountainGrowsSpec)

/-- 'indenturelaw10.ProofHolds', WHERE WHAT IT READS IS OF BULK AT MOST 1048576: true; the input reads as it did. -/
def proofHoldsUptoRow : OpenClaim := { program := "ytbecfcnbgeeghaadoor", sum := "d52b1f8dfae6226a3df95e8da7f06f057473f0b340f144a6df3243d93f81a453", func := "indenture/indenturelaw10.ProofHolds", spec := "proofHolds", unfollowed := true, recurses := true, named := ["indenture/sha.rounds"], apart := false, laid := [("indenture/sha.rounds", laid_indenture_sha_rounds)], narrowed := true }
def ProofHoldsUptoSaid : Prop := proofHoldsUptoRow.holds Tryd.pinned (OpenSpec.upto proofHoldsSpec)

end Rows
end Go.Proofs.YtbecfcnbgeeghaaDoor

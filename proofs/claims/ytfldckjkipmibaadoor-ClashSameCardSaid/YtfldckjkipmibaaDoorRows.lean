/-
  NARROWER THAN 'FOR EVERY INPUT', by the rows' own cells (each row's printed sentence says how): SpanOnes: laid · SpanProves: laid · SpanRoots: laid · SpanHolds: laid · ClashLeaves: laid · ClashFinds: laid · ClashSame: laid · ClashUps: laid · ClashTops: laid · ClashFirsts: laid · ClashMembers: laid.
  DERIVED. THE GIVEN ROWS OF THIS SEAT. 11 by the template 'for every input the law returns true; each argument reads behind the call as it read before'; 0 by the template 'total and deterministic' (their statements: YtfldckjkipmibaaDoorTotals.lean).
  GIVEN WITH THE SEED: the statements are not yours to turn. If you find one false, say at which input.
  Laid BY PROGRAM, IN A SANDBOX (cutbox-rows.mjs): the forced cells as the released guide's own fill.sh prints them over the translation b615fca9fcfd9799… (all of the seat's roots in one cut). By AI agents, Wed Nov 11 2026. No macro, syntax, notation, axiom, sorry.
-/
import Derived.Test.YtfldckjkipmibaaDoorChecked
import GoSem.Claim
import GoSem.ClaimJoined
import GoSem.ClaimMapViews
import Derived.JoinedTies
import Derived.KernelRfl
namespace Go.Proofs.YtfldckjkipmibaaDoor
/- THE CELL 'sum', in the pinned program and in every row, IS THE sha256 OF THE DUMP (.gsa) THAT YtfldckjkipmibaaDoorProg.lean LOADS. Nothing in Lean hashes anything: it is a label: what it is worth is what the hold of that sum in a sandbox is worth. -/
noncomputable def Tryd.pinned : Pinned := { name := "ytfldckjkipmibaadoor", sum := "b615fca9fcfd97991955c77279a3aa04d6b72bce05734b5647dc177faf9b4b86", checked := Tryd.checked }
namespace Rows
def none {H : Type} : Left H := { results := [], args := [] }

/- WHAT THE LISTED PACKAGE-LEVEL VARIABLES READ AS WHEN THE CALL BEGINS. Each datum BY PROGRAM (the guide's laid-datum.mjs) off the statement by which the dump's own 'gosem.cut.vars' lays the variable. In a bare row this is a premise. The card (YtfldckjkipmibaaDoorCards.lean) ties it to the program's text. -/
def laid_indenture_sha_rounds {H : Type} : DataW H := .agg [.lit (.int .u32 1116352408), .lit (.int .u32 1899447441), .lit (.int .u32 3049323471), .lit (.int .u32 3921009573), .lit (.int .u32 961987163), .lit (.int .u32 1508970993), .lit (.int .u32 2453635748), .lit (.int .u32 2870763221), .lit (.int .u32 3624381080), .lit (.int .u32 310598401), .lit (.int .u32 607225278), .lit (.int .u32 1426881987), .lit (.int .u32 1925078388), .lit (.int .u32 2162078206), .lit (.int .u32 2614888103), .lit (.int .u32 3248222580), .lit (.int .u32 3835390401), .lit (.int .u32 4022224774), .lit (.int .u32 264347078), .lit (.int .u32 604807628), .lit (.int .u32 770255983), .lit (.int .u32 1249150122), .lit (.int .u32 1555081692), .lit (.int .u32 1996064986), .lit (.int .u32 2554220882), .lit (.int .u32 2821834349), .lit (.int .u32 2952996808), .lit (.int .u32 3210313671), .lit (.int .u32 3336571891), .lit (.int .u32 3584528711), .lit (.int .u32 113926993), .lit (.int .u32 338241895), .lit (.int .u32 666307205), .lit (.int .u32 773529912), .lit (.int .u32 1294757372), .lit (.int .u32 1396182291), .lit (.int .u32 1695183700), .lit (.int .u32 1986661051), .lit (.int .u32 2177026350), .lit (.int .u32 2456956037), .lit (.int .u32 2730485921), .lit (.int .u32 2820302411), .lit (.int .u32 3259730800), .lit (.int .u32 3345764771), .lit (.int .u32 3516065817), .lit (.int .u32 3600352804), .lit (.int .u32 4094571909), .lit (.int .u32 275423344), .lit (.int .u32 430227734), .lit (.int .u32 506948616), .lit (.int .u32 659060556), .lit (.int .u32 883997877), .lit (.int .u32 958139571), .lit (.int .u32 1322822218), .lit (.int .u32 1537002063), .lit (.int .u32 1747873779), .lit (.int .u32 1955562222), .lit (.int .u32 2024104815), .lit (.int .u32 2227730452), .lit (.int .u32 2361852424), .lit (.int .u32 2428436474), .lit (.int .u32 2756734187), .lit (.int .u32 3204031479), .lit (.int .u32 3329325298)]

/-- 'indenturelaw28.SpanOnes': WHATEVER THE INPUT: true; the input reads as it did. -/
def spanOnesSpec : ChangeSpec := { name := "spanOnes", fn := fun _ => fun
  | [d1, d2] => { results := [.lit (.bool true)], args := [d1, d2] }
  | _ => none }
def spanOnesRow : OpenClaim := { program := "ytfldckjkipmibaadoor", sum := "b615fca9fcfd97991955c77279a3aa04d6b72bce05734b5647dc177faf9b4b86", func := "indenture/indenturelaw28.SpanOnes", spec := "spanOnes", unfollowed := true, recurses := true, named := ["indenture/sha.rounds"], apart := false, laid := [("indenture/sha.rounds", laid_indenture_sha_rounds)] }
def SpanOnesSaid : Prop := spanOnesRow.holds Tryd.pinned (OpenSpec.ofChange spanOnesSpec)

/-- ITS FALSE NEIGHBOUR: 'it returns false'. Refute it at one input. -/
def spanOnesWrong : ChangeSpec := { name := "spanOnes", fn := fun _ => fun
  | [d1, d2] => { results := [.lit (.bool false)], args := [d1, d2] }
  | _ => none }
def SpanOnesWrongFalsely : Prop := spanOnesRow.holds Tryd.pinned (OpenSpec.ofChange spanOnesWrong)

/-- 'indenturelaw28.SpanProves': WHATEVER THE INPUT: true; the input reads as it did. -/
def spanProvesSpec : ChangeSpec := { name := "spanProves", fn := fun _ => fun
  | [d1, d2, d3] => { results := [.lit (.bool true)], args := [d1, d2, d3] }
  | _ => none }
def spanProvesRow : OpenClaim := { program := "ytfldckjkipmibaadoor", sum := "b615fca9fcfd97991955c77279a3aa04d6b72bce05734b5647dc177faf9b4b86", func := "indenture/indenturelaw28.SpanProves", spec := "spanProves", unfollowed := true, recurses := true, named := ["indenture/sha.rounds"], apart := false, laid := [("indenture/sha.rounds", laid_indenture_sha_rounds)] }
def SpanProvesSaid : Prop := spanProvesRow.holds Tryd.pinned (OpenSpec.ofChange spanProvesSpec)

/-- ITS FALSE NEIGHBOUR: 'it returns false'. Refute it at one input. -/
def spanProvesWrong : ChangeSpec := { name := "spanProves", fn := fun _ => fun
  | [d1, d2, d3] => { results := [.lit (.bool false)], args := [d1, d2, d3] }
  | _ => none }
def SpanProvesWrongFalsely : Prop := spanProvesRow.holds Tryd.pinned (OpenSpec.ofChange spanProvesWrong)

/-- 'indenturelaw28.SpanRoots': WHATEVER THE INPUT: true; the input reads as it did. -/
def spanRootsSpec : ChangeSpec := { name := "spanRoots", fn := fun _ => fun
  | [d1, d2, d3] => { results := [.lit (.bool true)], args := [d1, d2, d3] }
  | _ => none }
def spanRootsRow : OpenClaim := { program := "ytfldckjkipmibaadoor", sum := "b615fca9fcfd97991955c77279a3aa04d6b72bce05734b5647dc177faf9b4b86", func := "indenture/indenturelaw28.SpanRoots", spec := "spanRoots", unfollowed := true, recurses := true, named := ["indenture/sha.rounds"], apart := false, laid := [("indenture/sha.rounds", laid_indenture_sha_rounds)] }
def SpanRootsSaid : Prop := spanRootsRow.holds Tryd.pinned (OpenSpec.ofChange spanRootsSpec)

/-- ITS FALSE NEIGHBOUR: 'it returns false'. Refute it at one input. -/
def spanRootsWrong : ChangeSpec := { name := "spanRoots", fn := fun _ => fun
  | [d1, d2, d3] => { results := [.lit (.bool false)], args := [d1, d2, d3] }
  | _ => none }
def SpanRootsWrongFalsely : Prop := spanRootsRow.holds Tryd.pinned (OpenSpec.ofChange spanRootsWrong)

/-- 'indenturelaw28.SpanHolds': WHATEVER THE INPUT: true; the input reads as it did. -/
def spanHoldsSpec : ChangeSpec := { name := "spanHolds", fn := fun _ => fun
  | [d1, d2] => { results := [.lit (.bool true)], args := [d1, d2] }
  | _ => none }
def spanHoldsRow : OpenClaim := { program := "ytfldckjkipmibaadoor", sum := "b615fca9fcfd97991955c77279a3aa04d6b72bce05734b5647dc177faf9b4b86", func := "indenture/indenturelaw28.SpanHolds", spec := "spanHolds", unfollowed := true, recurses := true, named := ["indenture/sha.rounds"], apart := false, laid := [("indenture/sha.rounds", laid_indenture_sha_rounds)] }
def SpanHoldsSaid : Prop := spanHoldsRow.holds Tryd.pinned (OpenSpec.ofChange spanHoldsSpec)

/-- ITS FALSE NEIGHBOUR: 'it returns false'. Refute it at one input. -/
def spanHoldsWrong : ChangeSpec := { name := "spanHolds", fn := fun _ => fun
  | [d1, d2] => { results := [.lit (.bool false)], args := [d1, d2] }
  | _ => none }
def SpanHoldsWrongFalsely : Prop := spanHoldsRow.holds Tryd.pinned (OpenSpec.ofChange spanHoldsWrong)

/-- 'indenturelaw20.ClashLeaves': WHATEVER THE INPUT: true; the input reads as it did. -/
def clashLeavesSpec : ChangeSpec := { name := "clashLeaves", fn := fun _ => fun
  | [d1, d2, d3] => { results := [.lit (.bool true)], args := [d1, d2, d3] }
  | _ => none }
def clashLeavesRow : OpenClaim := { program := "ytfldckjkipmibaadoor", sum := "b615fca9fcfd97991955c77279a3aa04d6b72bce05734b5647dc177faf9b4b86", func := "indenture/indenturelaw20.ClashLeaves", spec := "clashLeaves", unfollowed := true, recurses := true, named := ["indenture/sha.rounds"], apart := false, laid := [("indenture/sha.rounds", laid_indenture_sha_rounds)] }
def ClashLeavesSaid : Prop := clashLeavesRow.holds Tryd.pinned (OpenSpec.ofChange clashLeavesSpec)

/-- ITS FALSE NEIGHBOUR: 'it returns false'. Refute it at one input. -/
def clashLeavesWrong : ChangeSpec := { name := "clashLeaves", fn := fun _ => fun
  | [d1, d2, d3] => { results := [.lit (.bool false)], args := [d1, d2, d3] }
  | _ => none }
def ClashLeavesWrongFalsely : Prop := clashLeavesRow.holds Tryd.pinned (OpenSpec.ofChange clashLeavesWrong)

/-- 'indenturelaw20.ClashFinds': WHATEVER THE INPUT: true; the input reads as it did. -/
def clashFindsSpec : ChangeSpec := { name := "clashFinds", fn := fun _ => fun
  | [d1, d2, d3] => { results := [.lit (.bool true)], args := [d1, d2, d3] }
  | _ => none }
def clashFindsRow : OpenClaim := { program := "ytfldckjkipmibaadoor", sum := "b615fca9fcfd97991955c77279a3aa04d6b72bce05734b5647dc177faf9b4b86", func := "indenture/indenturelaw20.ClashFinds", spec := "clashFinds", unfollowed := true, recurses := true, named := ["indenture/sha.rounds"], apart := false, laid := [("indenture/sha.rounds", laid_indenture_sha_rounds)] }
def ClashFindsSaid : Prop := clashFindsRow.holds Tryd.pinned (OpenSpec.ofChange clashFindsSpec)

/-- ITS FALSE NEIGHBOUR: 'it returns false'. Refute it at one input. -/
def clashFindsWrong : ChangeSpec := { name := "clashFinds", fn := fun _ => fun
  | [d1, d2, d3] => { results := [.lit (.bool false)], args := [d1, d2, d3] }
  | _ => none }
def ClashFindsWrongFalsely : Prop := clashFindsRow.holds Tryd.pinned (OpenSpec.ofChange clashFindsWrong)

/-- 'indenturelaw20.ClashSame': WHATEVER THE INPUT: true; the input reads as it did. -/
def clashSameSpec : ChangeSpec := { name := "clashSame", fn := fun _ => fun
  | [d1, d2, d3] => { results := [.lit (.bool true)], args := [d1, d2, d3] }
  | _ => none }
def clashSameRow : OpenClaim := { program := "ytfldckjkipmibaadoor", sum := "b615fca9fcfd97991955c77279a3aa04d6b72bce05734b5647dc177faf9b4b86", func := "indenture/indenturelaw20.ClashSame", spec := "clashSame", unfollowed := true, recurses := true, named := ["indenture/sha.rounds"], apart := false, laid := [("indenture/sha.rounds", laid_indenture_sha_rounds)] }
def ClashSameSaid : Prop := clashSameRow.holds Tryd.pinned (OpenSpec.ofChange clashSameSpec)

/-- ITS FALSE NEIGHBOUR: 'it returns false'. Refute it at one input. -/
def clashSameWrong : ChangeSpec := { name := "clashSame", fn := fun _ => fun
  | [d1, d2, d3] => { results := [.lit (.bool false)], args := [d1, d2, d3] }
  | _ => none }
def ClashSameWrongFalsely : Prop := clashSameRow.holds Tryd.pinned (OpenSpec.ofChange clashSameWrong)

/-- 'indenturelaw20.ClashUps': WHATEVER THE INPUT: true; the input reads as it did. -/
def clashUpsSpec : ChangeSpec := { name := "clashUps", fn := fun _ => fun
  | [d1, d2, d3] => { results := [.lit (.bool true)], args := [d1, d2, d3] }
  | _ => none }
def clashUpsRow : OpenClaim := { program := "ytfldckjkipmibaadoor", sum := "b615fca9fcfd97991955c77279a3aa04d6b72bce05734b5647dc177faf9b4b86", func := "indenture/indenturelaw20.ClashUps", spec := "clashUps", unfollowed := true, recurses := true, named := ["indenture/sha.rounds"], apart := false, laid := [("indenture/sha.rounds", laid_indenture_sha_rounds)] }
def ClashUpsSaid : Prop := clashUpsRow.holds Tryd.pinned (OpenSpec.ofChange clashUpsSpec)

/-- ITS FALSE NEIGHBOUR: 'it returns false'. Refute it at one input. -/
def clashUpsWrong : ChangeSpec := { name := "clashUps", fn := fun _ => fun
  | [d1, d2, d3] => { results := [.lit (.bool false)], args := [d1, d2, d3] }
  | _ => none }
def ClashUpsWrongFalsely : Prop := clashUpsRow.holds Tryd.pinned (OpenSpec.ofChange clashUpsWrong)

/-- 'indenturelaw20.ClashTops': WHATEVER THE INPUT: true; the input reads as it did. -/
def clashTopsSpec : ChangeSpec := { name := "clashTops", fn := fun _ => fun
  | [d1, d2, d3] => { results := [.lit (.bool true)], args := [d1, d2, d3] }
  | _ => none }
def clashTopsRow : OpenClaim := { program := "ytfldckjkipmibaadoor", sum := "b615fca9fcfd97991955c77279a3aa04d6b72bce05734b5647dc177faf9b4b86", func := "indenture/indenturelaw20.ClashTops", spec := "clashTops", unfollowed := true, recurses := true, named := ["indenture/sha.rounds"], apart := false, laid := [("indenture/sha.rounds", laid_indenture_sha_rounds)] }
def ClashTopsSaid : Prop := clashTopsRow.holds Tryd.pinned (OpenSpec.ofChange clashTopsSpec)

/-- ITS FALSE NEIGHBOUR: 'it returns false'. Refute it at one input. -/
def clashTopsWrong : ChangeSpec := { name := "clashTops", fn := fun _ => fun
  | [d1, d2, d3] => { results := [.lit (.bool false)], args := [d1, d2, d3] }
  | _ => none }
def ClashTopsWrongFalsely : Prop := clashTopsRow.holds Tryd.pinned (OpenSpec.ofChange clashTopsWrong)

/-- 'indenturelaw20.ClashFirsts': WHATEVER THE INPUT: true; the input reads as it did. -/
def clashFirstsSpec : ChangeSpec := { name := "clashFirsts", fn := fun _ => fun
  | [d1, d2, d3] => { results := [.lit (.bool true)], args := [d1, d2, d3] }
  | _ => none }
def clashFirstsRow : OpenClaim := { program := "ytfldckjkipmibaadoor", sum := "b615fca9fcfd97991955c77279a3aa04d6b72bce05734b5647dc177faf9b4b86", func := "indenture/indenturelaw20.ClashFirsts", spec := "clashFirsts", unfollowed := true, recurses := true, named := ["indenture/sha.rounds"], apart := false, laid := [("indenture/sha.rounds", laid_indenture_sha_rounds)] }
def ClashFirstsSaid : Prop := clashFirstsRow.holds Tryd.pinned (OpenSpec.ofChange clashFirstsSpec)

/-- ITS FALSE NEIGHBOUR: 'it returns false'. Refute it at one input. -/
def clashFirstsWrong : ChangeSpec := { name := "clashFirsts", fn := fun _ => fun
  | [d1, d2, d3] => { results := [.lit (.bool false)], args := [d1, d2, d3] }
  | _ => none }
def ClashFirstsWrongFalsely : Prop := clashFirstsRow.holds Tryd.pinned (OpenSpec.ofChange clashFirstsWrong)

/-- 'indenturelaw20.ClashMembers': WHATEVER THE INPUT: true; the input reads as it did. -/
def clashMembersSpec : ChangeSpec := { name := "clashMembers", fn := fun _ => fun
  | [d1, d2, d3] => { results := [.lit (.bool true)], args := [d1, d2, d3] }
  | _ => none }
def clashMembersRow : OpenClaim := { program := "ytfldckjkipmibaadoor", sum := "b615fca9fcfd97991955c77279a3aa04d6b72bce05734b5647dc177faf9b4b86", func := "indenture/indenturelaw20.ClashMembers", spec := "clashMembers", unfollowed := true, recurses := true, named := ["indenture/sha.rounds"], apart := false, laid := [("indenture/sha.rounds", laid_indenture_sha_rounds)] }
def ClashMembersSaid : Prop := clashMembersRow.holds Tryd.pinned (OpenSpec.ofChange clashMembersSpec)

/-- ITS FALSE NEIGHBOUR: 'it returns false'. Refute it at one input. -/
def clashMembersWrong : ChangeSpec := { name := "clashMembers", fn := fun _ => fun
  | [d1, d2, d3] => { results := [.lit (.bool false)], args := [d1, d2, d3] }
  | _ => none }
def ClashMembersWrongFalsely : Prop := clashMembersRow.holds Tryd.pinned (OpenSpec.ofChange clashMembersWrong)

/- THE SECOND FORM. 'bulk': how many values and letters a reading holds, each counted each time it is reached (what is shared counts as often as it is met; a slice's spare places count too). A statement '..UptoSaid' is the law's where the arguments, and the package variables that the reading takes, are together of bulk at most 1048576: NARROWER than '..Said'. Prove '..Said' where nothing that the law and all that it calls make is longer than what came in: it says more and counts as full. Else prove '..UptoSaid'. A law counts once. -/
mutual
def uptoBulk {H : Type} : DataW H → Nat
  | .lit (.string bytes) => bytes.length + 1
  | .lit _ => 1
  | .nil => 1
  | .ptr d => uptoBulk d + 1
  | .slice elems spare => uptoBulkAll elems + uptoBulkAll spare + 1
  | .agg parts => uptoBulkAll parts + 1
  | .iface _ d => uptoBulk d + 1
  | .map entries => uptoBulkEntries entries + 1
  | .held _ => 1
def uptoBulkAll {H : Type} : List (DataW H) → Nat
  | [] => 0
  | d :: r => uptoBulk d + uptoBulkAll r
def uptoBulkEntries {H : Type} : List (Lit × DataW H) → Nat
  | [] => 0
  | x :: r => uptoBulkEntry x + uptoBulkEntries r
def uptoBulkEntry {H : Type} : Lit × DataW H → Nat
  | (.string bytes, d) => bytes.length + uptoBulk d + 1
  | (_, d) => uptoBulk d + 1
 end
def uptoSmall : (H : Type) → List (DataW H) → Bool := fun _ ds => decide (uptoBulkAll ds ≤ 1048576)
def OpenSpec.upto (s : _root_.Go.ChangeSpec) : _root_.Go.OpenSpec := { _root_.Go.OpenSpec.ofChange s with cond := some uptoSmall }

/-- 'indenturelaw28.SpanOnes', WHERE WHAT IT READS IS OF BULK AT MOST 1048576: true; the input reads as it did. -/
def spanOnesUptoRow : OpenClaim := { program := "ytfldckjkipmibaadoor", sum := "b615fca9fcfd97991955c77279a3aa04d6b72bce05734b5647dc177faf9b4b86", func := "indenture/indenturelaw28.SpanOnes", spec := "spanOnes", unfollowed := true, recurses := true, named := ["indenture/sha.rounds"], apart := false, laid := [("indenture/sha.rounds", laid_indenture_sha_rounds)], narrowed := true }
def SpanOnesUptoSaid : Prop := spanOnesUptoRow.holds Tryd.pinned (OpenSpec.upto spanOnesSpec)

/-- 'indenturelaw28.SpanProves', WHERE WHAT IT READS IS OF BULK AT MOST 1048576: true; the input reads as it did. -/
def spanProvesUptoRow : OpenClaim := { program := "ytfldckjkipmibaadoor", sum := "b615fca9fcfd97991955c77279a3aa04d6b72bce05734b5647dc177faf9b4b86", func := "indenture/indenturelaw28.SpanProves", spec := "spanProves", unfollowed := true, recurses := true, named := ["indenture/sha.rounds"], apart := false, laid := [("indenture/sha.rounds", laid_indenture_sha_rounds)], narrowed := true }
def SpanProvesUptoSaid : Prop := spanProvesUptoRow.holds Tryd.pinned (OpenSpec.upto spanProvesSpec)

/-- 'indenturelaw28.SpanRoots', WHERE WHAT IT READS IS OF BULK AT MOST 1048576: true; the input reads as it did. -/
def spanRootsUptoRow : OpenClaim := { program := "ytfldckjkipmibaadoor", sum := "b615fca9fcfd97991955c77279a3aa04d6b72bce05734b5647dc177faf9b4b86", func := "indenture/indenturelaw28.SpanRoots", spec := "spanRoots", unfollowed := true, recurses := true, named := ["indenture/sha.rounds"], apart := false, laid := [("indenture/sha.rounds", laid_indenture_sha_rounds)], narrowed := true }
def SpanRootsUptoSaid : Prop := spanRootsUptoRow.holds Tryd.pinned (OpenSpec.upto spanRootsSpec)

/-- 'indenturelaw28.SpanHolds', WHERE WHAT IT READS IS OF BULK AT MOST 1048576: true; the input reads as it did. -/
def spanHoldsUptoRow : OpenClaim := { program := "ytfldckjkipmibaadoor", sum := "b615fca9fcfd97991955c77279a3aa04d6b72bce05734b5647dc177faf9b4b86", func := "indenture/indenturelaw28.SpanHolds", spec := "spanHolds", unfollowed := true, recurses := true, named := ["indenture/sha.rounds"], apart := false, laid := [("indenture/sha.rounds", laid_indenture_sha_rounds)], narrowed := true }
def SpanHoldsUptoSaid : Prop := spanHoldsUptoRow.holds Tryd.pinned (OpenSpec.upto spanHoldsSpec)

/-- 'indenturelaw20.ClashLeaves', WHERE WHAT IT READS IS OF BULK AT MOST 1048576: true; the input reads as it did. -/
def clashLeavesUptoRow : OpenClaim := { program := "ytfldckjkipmibaadoor", sum := "b615fca9fcfd97991955c77279a3aa04d6b72bce05734b5647dc177faf9b4b86", func := "indenture/indenturelaw20.ClashLeaves", spec := "clashLeaves", unfollowed := true, recurses := true, named := ["indenture/sha.rounds"], apart := false, laid := [("indenture/sha.rounds", laid_indenture_sha_rounds)], narrowed := true }
def ClashLeavesUptoSaid : Prop := clashLeavesUptoRow.holds Tryd.pinned (OpenSpec.upto clashLeavesSpec)

/-- 'indenturelaw20.ClashFinds', WHERE WHAT IT READS IS OF BULK AT MOST 1048576: true; the input reads as it did. -/
def clashFindsUptoRow : OpenClaim := { program := "ytfldckjkipmibaadoor", sum := "b615fca9fcfd97991955c77279a3aa04d6b72bce05734b5647dc177faf9b4b86", func := "indenture/indenturelaw20.ClashFinds", spec := "clashFinds", unfollowed := true, recurses := true, named := ["indenture/sha.rounds"], apart := false, laid := [("indenture/sha.rounds", laid_indenture_sha_rounds)], narrowed := true }
def ClashFindsUptoSaid : Prop := clashFindsUptoRow.holds Tryd.pinned (OpenSpec.upto clashFindsSpec)

/-- 'indenturelaw20.ClashSame', WHERE WHAT IT READS IS OF BULK AT MOST 1048576: true; the input reads as it did. -/
def clashSameUptoRow : OpenClaim := { program := "ytfldckjkipmibaadoor", sum := "b615fca9fcfd97991955c77279a3aa04d6b72bce05734b5647dc177faf9b4b86", func := "indenture/indenturelaw20.ClashSame", spec := "clashSame", unfollowed := true, recurses := true, named := ["indenture/sha.rounds"], apart := false, laid := [("indenture/sha.rounds", laid_indenture_sha_rounds)], narrowed := true }
def ClashSameUptoSaid : Prop := clashSameUptoRow.holds Tryd.pinned (OpenSpec.upto clashSameSpec)

/-- 'indenturelaw20.ClashUps', WHERE WHAT IT READS IS OF BULK AT MOST 1048576: true; the input reads as it did. -/
def clashUpsUptoRow : OpenClaim := { program := "ytfldckjkipmibaadoor", sum := "b615fca9fcfd97991955c77279a3aa04d6b72bce05734b5647dc177faf9b4b86", func := "indenture/indenturelaw20.ClashUps", spec := "clashUps", unfollowed := true, recurses := true, named := ["indenture/sha.rounds"], apart := false, laid := [("indenture/sha.rounds", laid_indenture_sha_rounds)], narrowed := true }
def ClashUpsUptoSaid : Prop := clashUpsUptoRow.holds Tryd.pinned (OpenSpec.upto clashUpsSpec)

/-- 'indenturelaw20.ClashTops', WHERE WHAT IT READS IS OF BULK AT MOST 1048576: true; the input reads as it did. -/
def clashTopsUptoRow : OpenClaim := { program := "ytfldckjkipmibaadoor", sum := "b615fca9fcfd97991955c77279a3aa04d6b72bce05734b5647dc177faf9b4b86", func := "indenture/indenturelaw20.ClashTops", spec := "clashTops", unfollowed := true, recurses := true, named := ["indenture/sha.rounds"], apart := false, laid := [("indenture/sha.rounds", laid_indenture_sha_rounds)], narrowed := true }
def ClashTopsUptoSaid : Prop := clashTopsUptoRow.holds Tryd.pinned (OpenSpec.upto clashTopsSpec)

/-- 'indenturelaw20.ClashFirsts', WHERE WHAT IT READS IS OF BULK AT MOST 1048576: true; the input reads as it did. -/
def clashFirstsUptoRow : OpenClaim := { program := "ytfldckjkipmibaadoor", sum := "b615fca9fcfd97991955c77279a3aa04d6b72bce05734b5647dc177faf9b4b86", func := "indenture/indenturelaw20.ClashFirsts", spec := "clashFirsts", unfollowed := true, recurses := true, named := ["indenture/sha.rounds"], apart := false, laid := [("indenture/sha.rounds", laid_indenture_sha_rounds)], narrowed := true }
def ClashFirstsUptoSaid : Prop := clashFirstsUptoRow.holds Tryd.pinned (OpenSpec.upto clashFirstsSpec)

/-- 'indenturelaw20.ClashMembers', WHERE WHAT IT READS IS OF BULK AT MOST 1048576: true; the input reads as it did. -/
def clashMembersUptoRow : OpenClaim := { program := "ytfldckjkipmibaadoor", sum := "b615fca9fcfd97991955c77279a3aa04d6b72bce05734b5647dc177faf9b4b86", func := "indenture/indenturelaw20.ClashMembers", spec := "clashMembers", unfollowed := true, recurses := true, named := ["indenture/sha.rounds"], apart := false, laid := [("indenture/sha.rounds", laid_indenture_sha_rounds)], narrowed := true }
def ClashMembersUptoSaid : Prop := clashMembersUptoRow.holds Tryd.pinned (OpenSpec.upto clashMembersSpec)

end Rows
end Go.Proofs.YtfldckjkipmibaaDoor

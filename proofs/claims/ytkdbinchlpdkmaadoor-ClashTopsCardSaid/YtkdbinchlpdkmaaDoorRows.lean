/-
  NARROWER THAN 'FOR EVERY INPUT', by the rows' own cells (each row's printed sentence says how): ClashTops: laid · GrowthPaths: laid · GrowthGrown: laid · GrowthMeets: laid · GrowthLeaves: laid · GrowthSays: laid · GrowthFinds: laid · ReceiptHolds: laid · ReceiptBack: laid.
  DERIVED. THE GIVEN ROWS OF THIS SEAT. 9 by the template 'for every input the law returns true; each argument reads behind the call as it read before'; 0 by the template 'total and deterministic' (their statements: YtkdbinchlpdkmaaDoorTotals.lean).
  GIVEN WITH THE SEED: the statements are not yours to turn. If you find one false, say at which input.
  Laid BY PROGRAM, IN A SANDBOX (cutbox-rows.mjs): the forced cells as the released guide's own fill.sh prints them over the translation 0a8835da439dea78… (all of the seat's roots in one cut). By AI agents, Wed Nov 11 2026. No macro, syntax, notation, axiom, sorry.
-/
import Derived.Test.YtkdbinchlpdkmaaDoorChecked
import GoSem.Claim
import GoSem.ClaimJoined
import GoSem.ClaimMapViews
import Derived.JoinedTies
import Derived.KernelRfl
namespace Go.Proofs.YtkdbinchlpdkmaaDoor
/- THE CELL 'sum', in the pinned program and in every row, IS THE sha256 OF THE DUMP (.gsa) THAT YtkdbinchlpdkmaaDoorProg.lean LOADS. Nothing in Lean hashes anything: it is a label: what it is worth is what the hold of that sum in a sandbox is worth. -/
noncomputable def Tryd.pinned : Pinned := { name := "ytkdbinchlpdkmaadoor", sum := "0a8835da439dea78f12b262e73058815fa11ad8227a5677b148ea5603f25a061", checked := Tryd.checked }
namespace Rows
def none {H : Type} : Left H := { results := [], args := [] }

/- WHAT THE LISTED PACKAGE-LEVEL VARIABLES READ AS WHEN THE CALL BEGINS. Each datum BY PROGRAM (the guide's laid-datum.mjs) off the statement by which the dump's own 'gosem.cut.vars' lays the variable. In a bare row this is a premise. The card (YtkdbinchlpdkmaaDoorCards.lean) ties it to the program's text. -/
def laid_indenture_sha_rounds {H : Type} : DataW H := .agg [.lit (.int .u32 1116352408), .lit (.int .u32 1899447441), .lit (.int .u32 3049323471), .lit (.int .u32 3921009573), .lit (.int .u32 961987163), .lit (.int .u32 1508970993), .lit (.int .u32 2453635748), .lit (.int .u32 2870763221), .lit (.int .u32 3624381080), .lit (.int .u32 310598401), .lit (.int .u32 607225278), .lit (.int .u32 1426881987), .lit (.int .u32 1925078388), .lit (.int .u32 2162078206), .lit (.int .u32 2614888103), .lit (.int .u32 3248222580), .lit (.int .u32 3835390401), .lit (.int .u32 4022224774), .lit (.int .u32 264347078), .lit (.int .u32 604807628), .lit (.int .u32 770255983), .lit (.int .u32 1249150122), .lit (.int .u32 1555081692), .lit (.int .u32 1996064986), .lit (.int .u32 2554220882), .lit (.int .u32 2821834349), .lit (.int .u32 2952996808), .lit (.int .u32 3210313671), .lit (.int .u32 3336571891), .lit (.int .u32 3584528711), .lit (.int .u32 113926993), .lit (.int .u32 338241895), .lit (.int .u32 666307205), .lit (.int .u32 773529912), .lit (.int .u32 1294757372), .lit (.int .u32 1396182291), .lit (.int .u32 1695183700), .lit (.int .u32 1986661051), .lit (.int .u32 2177026350), .lit (.int .u32 2456956037), .lit (.int .u32 2730485921), .lit (.int .u32 2820302411), .lit (.int .u32 3259730800), .lit (.int .u32 3345764771), .lit (.int .u32 3516065817), .lit (.int .u32 3600352804), .lit (.int .u32 4094571909), .lit (.int .u32 275423344), .lit (.int .u32 430227734), .lit (.int .u32 506948616), .lit (.int .u32 659060556), .lit (.int .u32 883997877), .lit (.int .u32 958139571), .lit (.int .u32 1322822218), .lit (.int .u32 1537002063), .lit (.int .u32 1747873779), .lit (.int .u32 1955562222), .lit (.int .u32 2024104815), .lit (.int .u32 2227730452), .lit (.int .u32 2361852424), .lit (.int .u32 2428436474), .lit (.int .u32 2756734187), .lit (.int .u32 3204031479), .lit (.int .u32 3329325298)]

/-- 'indenturelaw20.ClashTops': WHATEVER THE INPUT: true; the input reads as it did. -/
def clashTopsSpec : ChangeSpec := { name := "clashTops", fn := fun _ => fun
  | [d1, d2, d3] => { results := [.lit (.bool true)], args := [d1, d2, d3] }
  | _ => none }
def clashTopsRow : OpenClaim := { program := "ytkdbinchlpdkmaadoor", sum := "0a8835da439dea78f12b262e73058815fa11ad8227a5677b148ea5603f25a061", func := "indenture/indenturelaw20.ClashTops", spec := "clashTops", unfollowed := true, recurses := true, named := ["indenture/sha.rounds"], plainKeys := false, apart := false, laid := [("indenture/sha.rounds", laid_indenture_sha_rounds)] }
def ClashTopsSaid : Prop := clashTopsRow.holds Tryd.pinned (OpenSpec.ofChange clashTopsSpec)

/-- ITS FALSE NEIGHBOUR: 'it returns false'. Refute it at one input. -/
def clashTopsWrong : ChangeSpec := { name := "clashTops", fn := fun _ => fun
  | [d1, d2, d3] => { results := [.lit (.bool false)], args := [d1, d2, d3] }
  | _ => none }
def ClashTopsWrongFalsely : Prop := clashTopsRow.holds Tryd.pinned (OpenSpec.ofChange clashTopsWrong)

/-- 'indenturelaw30.GrowthPaths': WHATEVER THE INPUT: true; the input reads as it did. -/
def growthPathsSpec : ChangeSpec := { name := "growthPaths", fn := fun _ => fun
  | [d1, d2, d3] => { results := [.lit (.bool true)], args := [d1, d2, d3] }
  | _ => none }
def growthPathsRow : OpenClaim := { program := "ytkdbinchlpdkmaadoor", sum := "0a8835da439dea78f12b262e73058815fa11ad8227a5677b148ea5603f25a061", func := "indenture/indenturelaw30.GrowthPaths", spec := "growthPaths", unfollowed := true, recurses := true, named := ["indenture/sha.rounds"], plainKeys := false, apart := false, laid := [("indenture/sha.rounds", laid_indenture_sha_rounds)] }
def GrowthPathsSaid : Prop := growthPathsRow.holds Tryd.pinned (OpenSpec.ofChange growthPathsSpec)

/-- ITS FALSE NEIGHBOUR: 'it returns false'. Refute it at one input. -/
def growthPathsWrong : ChangeSpec := { name := "growthPaths", fn := fun _ => fun
  | [d1, d2, d3] => { results := [.lit (.bool false)], args := [d1, d2, d3] }
  | _ => none }
def GrowthPathsWrongFalsely : Prop := growthPathsRow.holds Tryd.pinned (OpenSpec.ofChange growthPathsWrong)

/-- 'indenturelaw30.GrowthGrown': WHATEVER THE INPUT: true; the input reads as it did. -/
def growthGrownSpec : ChangeSpec := { name := "growthGrown", fn := fun _ => fun
  | [d1, d2, d3] => { results := [.lit (.bool true)], args := [d1, d2, d3] }
  | _ => none }
def growthGrownRow : OpenClaim := { program := "ytkdbinchlpdkmaadoor", sum := "0a8835da439dea78f12b262e73058815fa11ad8227a5677b148ea5603f25a061", func := "indenture/indenturelaw30.GrowthGrown", spec := "growthGrown", unfollowed := true, recurses := true, named := ["indenture/sha.rounds"], plainKeys := false, apart := false, laid := [("indenture/sha.rounds", laid_indenture_sha_rounds)] }
def GrowthGrownSaid : Prop := growthGrownRow.holds Tryd.pinned (OpenSpec.ofChange growthGrownSpec)

/-- ITS FALSE NEIGHBOUR: 'it returns false'. Refute it at one input. -/
def growthGrownWrong : ChangeSpec := { name := "growthGrown", fn := fun _ => fun
  | [d1, d2, d3] => { results := [.lit (.bool false)], args := [d1, d2, d3] }
  | _ => none }
def GrowthGrownWrongFalsely : Prop := growthGrownRow.holds Tryd.pinned (OpenSpec.ofChange growthGrownWrong)

/-- 'indenturelaw30.GrowthMeets': WHATEVER THE INPUT: true; the input reads as it did. -/
def growthMeetsSpec : ChangeSpec := { name := "growthMeets", fn := fun _ => fun
  | [d] => { results := [.lit (.bool true)], args := [d] }
  | _ => none }
def growthMeetsRow : OpenClaim := { program := "ytkdbinchlpdkmaadoor", sum := "0a8835da439dea78f12b262e73058815fa11ad8227a5677b148ea5603f25a061", func := "indenture/indenturelaw30.GrowthMeets", spec := "growthMeets", unfollowed := true, recurses := true, named := ["indenture/sha.rounds"], plainKeys := false, apart := false, laid := [("indenture/sha.rounds", laid_indenture_sha_rounds)] }
def GrowthMeetsSaid : Prop := growthMeetsRow.holds Tryd.pinned (OpenSpec.ofChange growthMeetsSpec)

/-- ITS FALSE NEIGHBOUR: 'it returns false'. Refute it at one input. -/
def growthMeetsWrong : ChangeSpec := { name := "growthMeets", fn := fun _ => fun
  | [d] => { results := [.lit (.bool false)], args := [d] }
  | _ => none }
def GrowthMeetsWrongFalsely : Prop := growthMeetsRow.holds Tryd.pinned (OpenSpec.ofChange growthMeetsWrong)

/-- 'indenturelaw30.GrowthLeaves': WHATEVER THE INPUT: true; the input reads as it did. -/
def growthLeavesSpec : ChangeSpec := { name := "growthLeaves", fn := fun _ => fun
  | [d1, d2, d3] => { results := [.lit (.bool true)], args := [d1, d2, d3] }
  | _ => none }
def growthLeavesRow : OpenClaim := { program := "ytkdbinchlpdkmaadoor", sum := "0a8835da439dea78f12b262e73058815fa11ad8227a5677b148ea5603f25a061", func := "indenture/indenturelaw30.GrowthLeaves", spec := "growthLeaves", unfollowed := true, recurses := true, named := ["indenture/sha.rounds"], plainKeys := false, apart := false, laid := [("indenture/sha.rounds", laid_indenture_sha_rounds)] }
def GrowthLeavesSaid : Prop := growthLeavesRow.holds Tryd.pinned (OpenSpec.ofChange growthLeavesSpec)

/-- ITS FALSE NEIGHBOUR: 'it returns false'. Refute it at one input. -/
def growthLeavesWrong : ChangeSpec := { name := "growthLeaves", fn := fun _ => fun
  | [d1, d2, d3] => { results := [.lit (.bool false)], args := [d1, d2, d3] }
  | _ => none }
def GrowthLeavesWrongFalsely : Prop := growthLeavesRow.holds Tryd.pinned (OpenSpec.ofChange growthLeavesWrong)

/-- 'indenturelaw30.GrowthSays': WHATEVER THE INPUT: true; the input reads as it did. -/
def growthSaysSpec : ChangeSpec := { name := "growthSays", fn := fun _ => fun
  | [d1, d2, d3] => { results := [.lit (.bool true)], args := [d1, d2, d3] }
  | _ => none }
def growthSaysRow : OpenClaim := { program := "ytkdbinchlpdkmaadoor", sum := "0a8835da439dea78f12b262e73058815fa11ad8227a5677b148ea5603f25a061", func := "indenture/indenturelaw30.GrowthSays", spec := "growthSays", unfollowed := true, recurses := true, named := ["indenture/sha.rounds"], plainKeys := false, apart := false, laid := [("indenture/sha.rounds", laid_indenture_sha_rounds)] }
def GrowthSaysSaid : Prop := growthSaysRow.holds Tryd.pinned (OpenSpec.ofChange growthSaysSpec)

/-- ITS FALSE NEIGHBOUR: 'it returns false'. Refute it at one input. -/
def growthSaysWrong : ChangeSpec := { name := "growthSays", fn := fun _ => fun
  | [d1, d2, d3] => { results := [.lit (.bool false)], args := [d1, d2, d3] }
  | _ => none }
def GrowthSaysWrongFalsely : Prop := growthSaysRow.holds Tryd.pinned (OpenSpec.ofChange growthSaysWrong)

/-- 'indenturelaw30.GrowthFinds': WHATEVER THE INPUT: true; the input reads as it did. -/
def growthFindsSpec : ChangeSpec := { name := "growthFinds", fn := fun _ => fun
  | [d1, d2, d3] => { results := [.lit (.bool true)], args := [d1, d2, d3] }
  | _ => none }
def growthFindsRow : OpenClaim := { program := "ytkdbinchlpdkmaadoor", sum := "0a8835da439dea78f12b262e73058815fa11ad8227a5677b148ea5603f25a061", func := "indenture/indenturelaw30.GrowthFinds", spec := "growthFinds", unfollowed := true, recurses := true, named := ["indenture/sha.rounds"], plainKeys := false, apart := false, laid := [("indenture/sha.rounds", laid_indenture_sha_rounds)] }
def GrowthFindsSaid : Prop := growthFindsRow.holds Tryd.pinned (OpenSpec.ofChange growthFindsSpec)

/-- ITS FALSE NEIGHBOUR: 'it returns false'. Refute it at one input. -/
def growthFindsWrong : ChangeSpec := { name := "growthFinds", fn := fun _ => fun
  | [d1, d2, d3] => { results := [.lit (.bool false)], args := [d1, d2, d3] }
  | _ => none }
def GrowthFindsWrongFalsely : Prop := growthFindsRow.holds Tryd.pinned (OpenSpec.ofChange growthFindsWrong)

/-- 'indenturelaw17.ReceiptHolds': WHATEVER THE INPUT: true; the input reads as it did. -/
def receiptHoldsSpec : ChangeSpec := { name := "receiptHolds", fn := fun _ => fun
  | [d1, d2, d3] => { results := [.lit (.bool true)], args := [d1, d2, d3] }
  | _ => none }
def receiptHoldsRow : OpenClaim := { program := "ytkdbinchlpdkmaadoor", sum := "0a8835da439dea78f12b262e73058815fa11ad8227a5677b148ea5603f25a061", func := "indenture/indenturelaw17.ReceiptHolds", spec := "receiptHolds", unfollowed := true, recurses := true, named := ["indenture/sha.rounds"], plainKeys := false, apart := false, laid := [("indenture/sha.rounds", laid_indenture_sha_rounds)] }
def ReceiptHoldsSaid : Prop := receiptHoldsRow.holds Tryd.pinned (OpenSpec.ofChange receiptHoldsSpec)

/-- ITS FALSE NEIGHBOUR: 'it returns false'. Refute it at one input. -/
def receiptHoldsWrong : ChangeSpec := { name := "receiptHolds", fn := fun _ => fun
  | [d1, d2, d3] => { results := [.lit (.bool false)], args := [d1, d2, d3] }
  | _ => none }
def ReceiptHoldsWrongFalsely : Prop := receiptHoldsRow.holds Tryd.pinned (OpenSpec.ofChange receiptHoldsWrong)

/-- 'indenturelaw17.ReceiptBack': WHATEVER THE INPUT: true; the input reads as it did. -/
def receiptBackSpec : ChangeSpec := { name := "receiptBack", fn := fun _ => fun
  | [d1, d2, d3] => { results := [.lit (.bool true)], args := [d1, d2, d3] }
  | _ => none }
def receiptBackRow : OpenClaim := { program := "ytkdbinchlpdkmaadoor", sum := "0a8835da439dea78f12b262e73058815fa11ad8227a5677b148ea5603f25a061", func := "indenture/indenturelaw17.ReceiptBack", spec := "receiptBack", unfollowed := true, recurses := true, named := ["indenture/sha.rounds"], plainKeys := false, apart := false, laid := [("indenture/sha.rounds", laid_indenture_sha_rounds)] }
def ReceiptBackSaid : Prop := receiptBackRow.holds Tryd.pinned (OpenSpec.ofChange receiptBackSpec)

/-- ITS FALSE NEIGHBOUR: 'it returns false'. Refute it at one input. -/
def receiptBackWrong : ChangeSpec := { name := "receiptBack", fn := fun _ => fun
  | [d1, d2, d3] => { results := [.lit (.bool false)], args := [d1, d2, d3] }
  | _ => none }
def ReceiptBackWrongFalsely : Prop := receiptBackRow.holds Tryd.pinned (OpenSpec.ofChange receiptBackWrong)

/- THE SECOND FORM. 'bulk': how many values and letters a reading holds, each counted each time it is reached (what is shared counts as often as it is met; a slice's spare places count too). A statement '..UptoSaid' is the law's where the arguments, and the package variables that the reading takes, are together of bulk at most 1048576: NARROWER than '..Said'. Prove '..Said' where nothing that the law and all that it calls make is longer than what came in: it says more and counts as full. Else prove '..UptoSaid'. A law counts once. -/
mutual
def uptoBulk {H : Type} : DataW H → Nat
  | .lit (.string bytes) => bytes.length + 1
  | .lit _ => 1
  | .nil => 1
  | .ptr d => uptoBulk d + 1
  | .slice elems spare => uptoBulkAll elems + uptoBulkAll spare + 1
  | .agg parts => uptoBulkAll parts + 1
  | .iface _ d => uptoBulk d + 1
  | .map entries => uptoBulkEntries entries + 1
  | .held _ => 1
def uptoBulkAll {H : Type} : List (DataW H) → Nat
  | [] => 0
  | d :: r => uptoBulk d + uptoBulkAll r
def uptoBulkEntries {H : Type} : List (Lit × DataW H) → Nat
  | [] => 0
  | x :: r => uptoBulkEntry x + uptoBulkEntries r
def uptoBulkEntry {H : Type} : Lit × DataW H → Nat
  | (.string bytes, d) => bytes.length + uptoBulk d + 1
  | (_, d) => uptoBulk d + 1
 end
def uptoSmall : (H : Type) → List (DataW H) → Bool := fun _ ds => decide (uptoBulkAll ds ≤ 1048576)
def OpenSpec.upto (s : _root_.Go.ChangeSpec) : _root_.Go.OpenSpec := { _root_.Go.OpenSpec.ofChange s with cond := some uptoSmall }

/-- 'indenturelaw20.ClashTops', WHERE WHAT IT READS IS OF BULK AT MOST 1048576: true; the input reads as it did. -/
def clashTopsUptoRow : OpenClaim := { program := "ytkdbinchlpdkmaadoor", sum := "0a8835da439dea78f12b262e73058815fa11ad8227a5677b148ea5603f25a061", func := "indenture/indenturelaw20.ClashTops", spec := "clashTops", unfollowed := true, recurses := true, named := ["indenture/sha.rounds"], plainKeys := false, apart := false, laid := [("indenture/sha.rounds", laid_indenture_sha_rounds)], narrowed := true }
def ClashTopsUptoSaid : Prop := clashTopsUptoRow.holds Tryd.pinned (OpenSpec.upto clashTopsSpec)

/-- 'indenturelaw30.GrowthPaths', WHERE WHAT IT READS IS OF BULK AT MOST 1048576: true; the input reads as it did. -/
def growthPathsUptoRow : OpenClaim := { program := "ytkdbinchlpdkmaadoor", sum := "0a8835da439dea78f12b262e73058815fa11ad8227a5677b148ea5603f25a061", func := "indenture/indenturelaw30.GrowthPaths", spec := "growthPaths", unfollowed := true, recurses := true, named := ["indenture/sha.rounds"], plainKeys := false, apart := false, laid := [("indenture/sha.rounds", laid_indenture_sha_rounds)], narrowed := true }
def GrowthPathsUptoSaid : Prop := growthPathsUptoRow.holds Tryd.pinned (OpenSpec.upto growthPathsSpec)

/-- 'indenturelaw30.GrowthGrown', WHERE WHAT IT READS IS OF BULK AT MOST 1048576: true; the input reads as it did. -/
def growthGrownUptoRow : OpenClaim := { program := "ytkdbinchlpdkmaadoor", sum := "0a8835da439dea78f12b262e73058815fa11ad8227a5677b148ea5603f25a061", func := "indenture/indenturelaw30.GrowthGrown", spec := "growthGrown", unfollowed := true, recurses := true, named := ["indenture/sha.rounds"], plainKeys := false, apart := false, laid := [("indenture/sha.rounds", laid_indenture_sha_rounds)], narrowed := true }
def GrowthGrownUptoSaid : Prop := growthGrownUptoRow.holds Tryd.pinned (OpenSpec.upto growthGrownSpec)

/-- 'indenturelaw30.GrowthMeets', WHERE WHAT IT READS IS OF BULK AT MOST 1048576: true; the input reads as it did. -/
def growthMeetsUptoRow : OpenClaim := { program := "ytkdbinchlpdkmaadoor", sum := "0a8835da439dea78f12b262e73058815fa11ad8227a5677b148ea5603f25a061", func := "indenture/indenturelaw30.GrowthMeets", spec := "growthMeets", unfollowed := true, recurses := true, named := ["indenture/sha.rounds"], plainKeys := false, apart := false, laid := [("indenture/sha.rounds", laid_indenture_sha_rounds)], narrowed := true }
def GrowthMeetsUptoSaid : Prop := growthMeetsUptoRow.holds Tryd.pinned (OpenSpec.upto growthMeetsSpec)

/-- 'indenturelaw30.GrowthLeaves', WHERE WHAT IT READS IS OF BULK AT MOST 1048576: true; the input reads as it did. -/
def growthLeavesUptoRow : OpenClaim := { program := "ytkdbinchlpdkmaadoor", sum := "0a8835da439dea78f12b262e73058815fa11ad8227a5677b148ea5603f25a061", func := "indenture/indenturelaw30.GrowthLeaves", spec := "growthLeaves", unfollowed := true, recurses := true, named := ["indenture/sha.rounds"], plainKeys := false, apart := false, laid := [("indenture/sha.rounds", laid_indenture_sha_rounds)], narrowed := true }
def GrowthLeavesUptoSaid : Prop := growthLeavesUptoRow.holds Tryd.pinned (OpenSpec.upto growthLeavesSpec)

/-- 'indenturelaw30.GrowthSays', WHERE WHAT IT READS IS OF BULK AT MOST 1048576: true; the input reads as it did. -/
def growthSaysUptoRow : OpenClaim := { program := "ytkdbinchlpdkmaadoor", sum := "0a8835da439dea78f12b262e73058815fa11ad8227a5677b148ea5603f25a061", func := "indenture/indenturelaw30.GrowthSays", spec := "growthSays", unfollowed := true, recurses := true, named := ["indenture/sha.rounds"], plainKeys := false, apart := false, laid := [("indenture/sha.rounds", laid_indenture_sha_rounds)], narrowed := true }
def GrowthSaysUptoSaid : Prop := growthSaysUptoRow.holds Tryd.pinned (OpenSpec.upto growthSaysSpec)

/-- 'indenturelaw30.GrowthFinds', WHERE WHAT IT READS IS OF BULK AT MOST 1048576: true; the input reads as it did. -/
def growthFindsUptoRow : OpenClaim := { program := "ytkdbinchlpdkmaadoor", sum := "0a8835da439dea78f12b262e73058815fa11ad8227a5677b148ea5603f25a061", func := "indenture/indenturelaw30.GrowthFinds", spec := "growthFinds", unfollowed := true, recurses := true, named := ["indenture/sha.rounds"], plainKeys := false, apart := false, laid := [("indenture/sha.rounds", laid_indenture_sha_rounds)], narrowed := true }
def GrowthFindsUptoSaid : Prop := growthFindsUptoRow.holds Tryd.pinned (OpenSpec.upto growthFindsSpec)

/-- 'indenturelaw17.ReceiptHolds', WHERE WHAT IT READS IS OF BULK AT MOST 1048576: true; the input reads as it did. -/
def receiptHoldsUptoRow : OpenClaim := { program := "ytkdbinchlpdkmaadoor", sum := "0a8835da439dea78f12b262e73058815fa11ad8227a5677b148ea5603f25a061", func := "indenture/indenturelaw17.ReceiptHolds", spec := "receiptHolds", unfollowed := true, recurses := true, named := ["indenture/sha.rounds"], plainKeys := false, apart := false, laid := [("indenture/sha.rounds", laid_indenture_sha_rounds)], narrowed := true }
def ReceiptHoldsUptoSaid : Prop := receiptHoldsUptoRow.holds Tryd.pinned (OpenSpec.upto receiptHoldsSpec)

/-- 'indenturelaw17.ReceiptBack', WHERE WHAT IT READS IS OF BULK AT MOST 1048576: true; the input reads as it did. -/
def receiptBackUptoRow : OpenClaim := { program := "ytkdbinchlpdkmaadoor", sum := "0a8835da439dea78f12b262e73058815fa11ad8227a5677b148ea5603f25a061", func := "indenture/indenturelaw17.ReceiptBack", spec := "receiptBack", unfollowed := true, recurses := true, named := ["indenture/sha.rounds"], plainKeys := false, apart := false, laid := [("indenture/sha.rounds", laid_indenture_sha_rounds)], narrowed := true }
def ReceiptBackUptoSaid : Prop := receiptBackUptoRow.holds Tryd.pinned (OpenSpec.upto receiptBackSpec)

end Rows
end Go.Proofs.YtkdbinchlpdkmaaDoor

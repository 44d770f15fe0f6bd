/- Plain, of law 34: which pairs are as a query wants them; between which texts they stand; what it tells of pairs. -/
import Derived.Test.YtoimhmphhffelaaGreatDoorQQueryPrints10
import Derived.Lib.IndexMore
import Derived.Lib.Strings
set_option linter.unusedVariables false
set_option linter.unusedSimpArgs false
namespace Go.Proofs.E
open Go
def behindB (s : List UInt8) : List UInt8 := match s.reverse.dropWhile (fun c => c == 255) with
  | [] => []
  | c :: r => r.reverse ++ [c + 1]
def raiseB (t : TsV) : List UInt8 := if t.2.1 = 1 then t.2.2 else if t.2.1 = 5 then t.2.2 ++ [0] else if t.2.1 = 6 then t.2.2 else if t.2.1 = 8 then t.2.2 else []
def lowerB (t : TsV) : List UInt8 := if t.2.1 = 1 then t.2.2 ++ [0] else if t.2.1 = 3 then (if t.2.2 = [] then [0] else t.2.2) else if t.2.1 = 4 then t.2.2 ++ [0] else if t.2.1 = 8 then behindB t.2.2 else []
def raiseF (f r : List UInt8) : List UInt8 := if ltB f r = true then r else f
def lowerF (f r : List UInt8) : List UInt8 := if r ≠ [] ∧ (f = [] ∨ ltB r f = true) then r else f
def nStep (x : List UInt8 × List UInt8) (t : TsV) : List UInt8 × List UInt8 := if t.1 = 1 then (raiseF x.1 (raiseB t), lowerF x.2 (lowerB t)) else x
def narrowB (q : QryV) : List UInt8 × List UInt8 := q.ts.foldl nStep (q.fr, q.to_)
/-! ### The order of texts -/
/-! ### Between which texts -/
/-! ### Counts -/
end Go.Proofs.E

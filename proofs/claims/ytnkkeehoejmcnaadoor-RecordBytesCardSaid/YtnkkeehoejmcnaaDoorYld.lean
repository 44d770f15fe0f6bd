/- A region that draws its order and calls yield: all that only reads in any order, then the call alone, then one operation more. -/
import Derived.Test.YtnkkeehoejmcnaaDoorSl
set_option linter.unusedVariables false
set_option linter.unusedSimpArgs false
namespace Go.Proofs.E
open Go Go.RowKit
section
variable {P : Program} {ops : Array Oper} {G : World → World → Prop} {Z : Act → World → Prop} {full : Array Bool} {z : Nat}
variable {Q : Exit → Act → World → Prop} {n : Nat}
end
section
variable {P : Program} {Q : Exit → Act → World → Prop} {n : Nat} {O : List Nat} {w0 w : World} {L : List As} {l : List Value}
end
end Go.Proofs.E

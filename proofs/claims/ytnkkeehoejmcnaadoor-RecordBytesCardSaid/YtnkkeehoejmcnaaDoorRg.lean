/- A range over a function with two variables; what comes behind it; results in three cells. -/
import Derived.Test.YtnkkeehoejmcnaaDoorYld
set_option linter.unusedVariables false
set_option linter.unusedSimpArgs false
namespace Go.Proofs.E
open Go Go.RowKit
section
variable {P : Program} {Q : Exit → Act → World → Prop} {l : List Value} {w w0 : World} {O : List Nat} {L L1 L2 L3 : List As} {ops : Array Oper} {ds : List Deferred}
variable {R : Value → World → Prop} {fn : Func}
end
end Go.Proofs.E

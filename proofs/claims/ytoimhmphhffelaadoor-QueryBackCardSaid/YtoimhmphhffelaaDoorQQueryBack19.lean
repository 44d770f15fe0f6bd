/- Regions that draw their order: an append onto an empty literal beside another literal, guarded. -/
import Derived.Test.YtoimhmphhffelaaDoorQQueryBack06
import Derived.Test.YtoimhmphhffelaaDoorQQueryBack18
set_option linter.unusedVariables false
set_option linter.unusedSimpArgs false
namespace Go.Proofs.E
open Go Go.RowKit
section
variable {P : Program} {ops : Array Oper} {N : Nat} {S : List Nat} {Q : Exit → Act → World → Prop} {z : List Nat × List Nat} {fuel : Nat} {listed : Array Bool} {a : Act} {l l' : List Value} {w : World} {T : TypeId} {pos : String} {after : Array Edge}
end
end Go.Proofs.E

/- More of memory: structs built, results in cells, appends that find no room, that find room. -/
import Derived.Test.YtoimhmphhffelaaDoorQQueryBack03
import Derived.Laws.AppendOwn
set_option linter.unusedVariables false
set_option linter.unusedSimpArgs false
namespace Go.Proofs.E
open Go Go.RowKit
section
variable {P : Program} {ops : Array Oper} {Q : Exit → Act → World → Prop} {rest : List Oper} {l : List Value} {w : World} {op : Op} {T : TypeId} {pos : String} {after : Array Edge}
end
end Go.Proofs.E

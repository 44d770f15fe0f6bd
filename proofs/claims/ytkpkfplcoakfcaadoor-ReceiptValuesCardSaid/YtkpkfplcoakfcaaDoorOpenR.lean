/- What law 16's arguments read as: records. -/
import Derived.Test.YtkpkfplcoakfcaaDoorOpen
import Derived.Test.YtkpkfplcoakfcaaDoorRec7
set_option linter.unusedVariables false
set_option linter.unusedSimpArgs false
namespace Go.Proofs.E
open Go Go.RowKit
end Go.Proofs.E
namespace Go.Proofs.YtkpkfplcoakfcaaDoor
open Go Go.RowKit Go.Proofs.E
section
variable {H : Type} {enc : TypeId × Value → H} {W : World}
end
end Go.Proofs.YtkpkfplcoakfcaaDoor

/- A loop whose ways out all come to the same: what holds behind it is said once. -/
import Derived.Test.YtkpkfplcoakfcaaDoorE
set_option linter.unusedVariables false
set_option linter.unusedSimpArgs false
namespace Go.Proofs.E
open Go Go.RowKit
end Go.Proofs.E

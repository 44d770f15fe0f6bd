/- The law of paths; the document's example of one. -/
import Derived.Test.YtkpkfplcoakfcaaDoorGrown
import Derived.Test.YtkpkfplcoakfcaaDoorLAdds
set_option linter.unusedVariables false
set_option linter.unusedSimpArgs false
namespace Go.Proofs.YtkpkfplcoakfcaaDoor
open Go Go.RowKit Go.Proofs.E
attribute [local irreducible] Go.wpList Go.Code.wp Go.Proofs.E.exec Go.Proofs.E.wpLexG
end Go.Proofs.YtkpkfplcoakfcaaDoor

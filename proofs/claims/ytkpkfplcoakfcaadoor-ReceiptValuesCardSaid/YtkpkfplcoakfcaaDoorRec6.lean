/- Walks: ref14.Light. -/
import Derived.Test.YtkpkfplcoakfcaaDoorRec5
set_option linter.unusedVariables false
set_option linter.unusedSimpArgs false
namespace Go.Proofs.E
open Go Go.RowKit Go.Proofs.YtkpkfplcoakfcaaDoor
end Go.Proofs.E
namespace Go.Proofs.YtkpkfplcoakfcaaDoor
open Go Go.RowKit Go.Proofs.E
attribute [local irreducible] Go.wpList Go.Code.wp Go.Proofs.E.exec Go.Proofs.E.wpLexG
end Go.Proofs.YtkpkfplcoakfcaaDoor

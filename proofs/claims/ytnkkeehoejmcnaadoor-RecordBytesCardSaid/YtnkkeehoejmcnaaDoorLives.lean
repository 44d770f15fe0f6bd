/- Walks: the reference's Split and Bits, the law's examples (for the seat of the tied cards). -/
import Derived.Test.YtnkkeehoejmcnaaDoorNum
import Derived.Test.YtnkkeehoejmcnaaDoorU
set_option linter.unusedVariables false
set_option linter.unusedSimpArgs false
namespace Go.Proofs.YtnkkeehoejmcnaaDoor
open Go Go.RowKit Go.Proofs.E
attribute [local irreducible] Go.wpList Go.Code.wp Go.Proofs.E.exec Go.Proofs.E.wpLexG

end Go.Proofs.YtnkkeehoejmcnaaDoor

/- Walks: the reference's root; the law of halves. -/
import Derived.Test.YtnkkeehoejmcnaaDoorRoot
import Derived.Test.YtnkkeehoejmcnaaDoorLives
set_option linter.unusedVariables false
set_option linter.unusedSimpArgs false
namespace Go.Proofs.YtnkkeehoejmcnaaDoor
open Go Go.RowKit Go.Proofs.E
attribute [local irreducible] Go.wpList Go.Code.wp Go.Proofs.E.exec Go.Proofs.E.wpLexG

end Go.Proofs.YtnkkeehoejmcnaaDoor

/- Walks: the root of leaves, row by row. -/
import Derived.Test.YtnkkeehoejmcnaaDoorTree
import Derived.Test.YtnkkeehoejmcnaaDoorU
set_option linter.unusedVariables false
set_option linter.unusedSimpArgs false
namespace Go.Proofs.YtnkkeehoejmcnaaDoor
open Go Go.RowKit Go.Proofs.E
attribute [local irreducible] Go.wpList Go.Code.wp Go.Proofs.E.exec Go.Proofs.E.wpLexG

section
variable {α : Type} {nd : α → α → α}
end

end Go.Proofs.YtnkkeehoejmcnaaDoor

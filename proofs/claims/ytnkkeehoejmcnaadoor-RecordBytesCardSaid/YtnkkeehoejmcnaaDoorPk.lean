/- Peaks: plain words; leaf by leaf they are the roots of the whole trees. -/
import Derived.Test.YtnkkeehoejmcnaaDoorTree
import Derived.Test.YtnkkeehoejmcnaaDoorPop
set_option linter.unusedVariables false
set_option linter.unusedSimpArgs false
namespace Go.Proofs.YtnkkeehoejmcnaaDoor
open Go Go.RowKit Go.Proofs.E

section
variable {α : Type} (nd : α → α → α) (em : α)
variable {nd em}
end
end Go.Proofs.YtnkkeehoejmcnaaDoor

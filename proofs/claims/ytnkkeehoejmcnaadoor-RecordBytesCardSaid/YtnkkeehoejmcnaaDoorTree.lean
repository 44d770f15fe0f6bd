/- A tree over leaves: plain words. -/
import Derived.Test.YtnkkeehoejmcnaaDoorSplitN
import Derived.Test.YtnkkeehoejmcnaaDoorRef
set_option linter.unusedVariables false
set_option linter.unusedSimpArgs false
namespace Go.Proofs.YtnkkeehoejmcnaaDoor
open Go Go.RowKit Go.Proofs.E

section
variable {α : Type} (nd : α → α → α) (em : α)
variable {nd em}
end
/-! ### Hashes -/
end Go.Proofs.YtnkkeehoejmcnaaDoor

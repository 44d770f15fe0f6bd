/- The greatest power of two below a number: plain words. -/
import Derived.Test.YtnkkeehoejmcnaaDoorNum
set_option linter.unusedVariables false
set_option linter.unusedSimpArgs false
namespace Go.Proofs.YtnkkeehoejmcnaaDoor
open Go Go.RowKit Go.Proofs.E
end Go.Proofs.YtnkkeehoejmcnaaDoor

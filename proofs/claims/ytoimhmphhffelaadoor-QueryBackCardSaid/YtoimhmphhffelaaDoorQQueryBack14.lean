/- Walks: mountain.Split, mountain.Bits, the reference's Split and Bits. -/
import Derived.Test.YtoimhmphhffelaaDoorQQueryBack12
import Derived.Test.YtoimhmphhffelaaDoorQQueryBack02
import Derived.Test.YtoimhmphhffelaaDoorShelf
import Derived.Lib.ItoaNum
set_option linter.unusedVariables false
set_option linter.unusedSimpArgs false
namespace Go.Proofs.YtoimhmphhffelaaDoor
open Go Go.RowKit Go.Proofs.E
attribute [local irreducible] Go.wpList Go.Code.wp Go.Proofs.E.exec Go.Proofs.E.wpLexG

/-! ### Plain words -/
/-! ### The walks -/
end Go.Proofs.YtoimhmphhffelaaDoor

/- Walks: mountain.Split, mountain.Bits, the reference's Split and Bits. -/
import Derived.Test.YtoimhmphhffelaaGreatDoorQQueryPrints12
import Derived.Test.YtoimhmphhffelaaGreatDoorQQueryPrints02
import Derived.Test.YtoimhmphhffelaaGreatDoorShelf
import Derived.Lib.ItoaNum
set_option linter.unusedVariables false
set_option linter.unusedSimpArgs false
namespace Go.Proofs.YtoimhmphhffelaaGreatDoor
open Go Go.RowKit Go.Proofs.E
attribute [local irreducible] Go.wpList Go.Code.wp Go.Proofs.E.exec Go.Proofs.E.wpLexG

/-! ### Plain words -/
/-! ### The walks -/
end Go.Proofs.YtoimhmphhffelaaGreatDoor

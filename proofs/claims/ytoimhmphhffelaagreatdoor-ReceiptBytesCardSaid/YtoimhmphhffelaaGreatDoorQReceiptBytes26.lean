/- Walks: what a path of growth leads to, the reference's.
   Walks: the reference's Checks.
   Plain: the way of growth, and what a path leads to along it.
   Walks: is it shown that one root has grown of another one, the program's. -/
import Derived.Test.YtoimhmphhffelaaGreatDoorQReceiptBytes25
import Derived.Test.YtoimhmphhffelaaGreatDoorQReceiptBytes07
set_option linter.unusedVariables false
set_option linter.unusedSimpArgs false
namespace Go.Proofs.YtoimhmphhffelaaGreatDoor
open Go Go.RowKit Go.Proofs.E
attribute [local irreducible] Go.wpList Go.Code.wp Go.Proofs.E.exec Go.Proofs.E.wpLexG
end Go.Proofs.YtoimhmphhffelaaGreatDoor
set_option linter.unusedVariables false
set_option linter.unusedSimpArgs false
namespace Go.Proofs.YtoimhmphhffelaaGreatDoor
open Go Go.RowKit Go.Proofs.E
attribute [local irreducible] Go.wpList Go.Code.wp Go.Proofs.E.exec Go.Proofs.E.wpLexG
end Go.Proofs.YtoimhmphhffelaaGreatDoor
set_option linter.unusedVariables false
set_option linter.unusedSimpArgs false
namespace Go.Proofs.YtoimhmphhffelaaGreatDoor
open Go Go.RowKit Go.Proofs.E
def one (W : Bool) : Nat := if W = true then 0 else 1
end Go.Proofs.YtoimhmphhffelaaGreatDoor
set_option linter.unusedVariables false
set_option linter.unusedSimpArgs false
namespace Go.Proofs.YtoimhmphhffelaaGreatDoor
open Go Go.RowKit Go.Proofs.E
attribute [local irreducible] Go.wpList Go.Code.wp Go.Proofs.E.exec Go.Proofs.E.wpLexG
end Go.Proofs.YtoimhmphhffelaaGreatDoor

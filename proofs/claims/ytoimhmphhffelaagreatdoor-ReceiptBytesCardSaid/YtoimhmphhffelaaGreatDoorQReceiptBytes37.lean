/- Walk: the law RecordBack. -/
import Derived.Test.YtoimhmphhffelaaGreatDoorQReceiptBytes31
import Derived.Test.YtoimhmphhffelaaGreatDoorQReceiptBytes15
import Derived.Test.YtoimhmphhffelaaGreatDoorQReceiptBytes00
import Derived.Test.YtoimhmphhffelaaGreatDoorQReceiptBytes27
set_option linter.unusedVariables false
set_option linter.unusedSimpArgs false
namespace Go.Proofs.YtoimhmphhffelaaGreatDoor
open Go Go.RowKit Go.Proofs.E
attribute [local irreducible] Go.wpList Go.Code.wp Go.Proofs.E.exec Go.Proofs.E.wpLexG
theorem sameB_rfl {ses snap : Int} {strict : Bool} {us vs : List (RR × List Pr)} {wz : List Pr} (h : us.map dat = vs.map dat) : sameB ses snap strict us wz ses snap strict vs wz = true := by simp [sameB, h]
end Go.Proofs.YtoimhmphhffelaaGreatDoor

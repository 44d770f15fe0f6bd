/- Walk: the law ReceiptBack. -/
import Derived.Test.YtoimhmphhffelaaGreatDoorQReceiptBytes35
import Derived.Test.YtoimhmphhffelaaGreatDoorQReceiptBytes36
import Derived.Test.YtoimhmphhffelaaGreatDoorQReceiptBytes37
set_option linter.unusedVariables false
set_option linter.unusedSimpArgs false
namespace Go.Proofs.YtoimhmphhffelaaGreatDoor
open Go Go.RowKit Go.Proofs.E
attribute [local irreducible] Go.wpList Go.Code.wp Go.Proofs.E.exec Go.Proofs.E.wpLexG
theorem sameT_rfl {a size : Int} {lg mp : Hs} {path : List Hs} : sameT a size lg mp path a size lg mp path true = true := by simp [sameT]
theorem rct_plain {vp vr vw : Value} {us : List (RR × List Pr)} {wz : List Pr} {path : List Hs} : ∀ x ∈ (As.row eH 28 vp path :: rows16 vr vw us wz), x.plain := fun x hx => by
  rcases List.mem_cons.1 hx with rfl | hx
  · trivial
  · exact rows_plain x hx
end Go.Proofs.YtoimhmphhffelaaGreatDoor

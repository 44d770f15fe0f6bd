/- The law of paths; the document's example of one. -/
import Derived.Test.YtnkkeehoejmcnaaDoorGrown
import Derived.Test.YtnkkeehoejmcnaaDoorLAdds
set_option linter.unusedVariables false
set_option linter.unusedSimpArgs false
namespace Go.Proofs.YtnkkeehoejmcnaaDoor
open Go Go.RowKit Go.Proofs.E
attribute [local irreducible] Go.wpList Go.Code.wp Go.Proofs.E.exec Go.Proofs.E.wpLexG
def exH (n : UInt8) : Hs := ⟨n :: List.replicate 31 0, by simp⟩
theorem ex_path : pathZ [exH 0, exH 1, exH 2] 2 = [nodeH (exH 0) (exH 1)] := by
  have h3 : splitN 3 = 2 := splitN_eq (j := 1) (by omega) (by omega) (by omega)
  have h2 : splitN 2 = 1 := splitN_eq (j := 0) (by omega) (by omega) (by omega)
  have e := pathZ_t (l := [exH 0, exH 1, exH 2]) (m := 2) (by simp)
  rw [show (2 : Int) = ((2 : Nat) : Int) from rfl, e]
  have hd := down_right (l := [exH 0, exH 1, exH 2]) (i := 2) (by simp) (by simp) (by
    rw [show [exH 0, exH 1, exH 2].length = 3 from rfl, h3]
    omega)
  rw [hd, show [exH 0, exH 1, exH 2].length = 3 from rfl, h3, down_one (by simp)]
  have hr : rootH [exH 0, exH 1] = nodeH (exH 0) (exH 1) := by
    have := rootG_two (nd := nodeH) (em := emptyH) (l := [exH 0, exH 1]) (by simp) (by simp)
    rw [show [exH 0, exH 1].length = 2 from rfl, h2] at this
    exact this
  show [rootH [exH 0, exH 1]] = _
  rw [hr]
end Go.Proofs.YtnkkeehoejmcnaaDoor

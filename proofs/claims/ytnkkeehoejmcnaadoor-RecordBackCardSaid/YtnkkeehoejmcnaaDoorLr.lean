/- A loop whose ways out all come to the same: what holds behind it is said once. -/
import Derived.Test.YtnkkeehoejmcnaaDoorE
set_option linter.unusedVariables false
set_option linter.unusedSimpArgs false
namespace Go.Proofs.E
open Go Go.RowKit
def OutJ (J : List Value → World → Prop) : Exit → Act → World → Prop := fun e a w => e = .normal ∧ ∃ l, a = fr l ∧ J l w
theorem outJ {J : List Value → World → Prop} {l : List Value} {w : World} (h : J l w) : OutJ J .normal (fr l) w := ⟨rfl, l, rfl, h⟩
/-- The same for any code. -/
theorem c_cutJ {P : Program} {c : Code} {K : Act → World → Prop} {Q : Exit → Act → World → Prop} {l : List Value} {w : World} (J : List Value → World → Prop) (h : c.wp P (OutJ J) (fr l) w) (hk : ∀ l w, J l w → K (fr l) w) : c.wp P (Exit.then K Q) (fr l) w :=
  wp_mono h fun e a w h => by
    obtain ⟨rfl, l, rfl, hj⟩ := h
    exact hk l w hj
end Go.Proofs.E

/- Strings in the engine: lengths, comparisons, sums, appends. -/
import Derived.Test.YtkdbinchlpdkmaaDoorQGrowthSays21
import Derived.Lib.AppendStr
import Derived.Laws.Strings
import Derived.Lib.SliceRun
set_option linter.unusedVariables false
set_option linter.unusedSimpArgs false
namespace Go.Proofs.E
open Go Go.RowKit
@[simp] theorem bst_size (s : List UInt8) : (bst s).size = s.length := by simp [bst, ByteArray.size]
section
variable {P : Program} {l : List Value} {w : World} {T : TypeId}
theorem r_eqnil {x : Operand} {t u e : TypeId} {A : Option Addr} {n c : Nat} [hu : Und P t (.slice e)] (hx : ev l x = .slice A n c := by exact rfl) : (exec (ev l) (.binOp .eql t x (.const (.slice none 0 0)) u) T).run P w = .ok (.value (.bool A.isNone)) w := by
  have := Lib.run_eql_slice_nil (P := P) w t e A n c 0 0 hu.out
  have hy : ev l (.const (.slice none 0 0)) = .slice none 0 0 := rfl
  simp [exec, execOp, hx, hy, eqGuard, this]
end
section
variable {P : Program} {ops : Array Oper} {Q : Exit → Act → World → Prop} {rest : List Oper} {l l' : List Value} {O : List Nat} {w0 w : World} {L L' : List As} {T : TypeId} {pos : String} {after : Array Edge}
end
end Go.Proofs.E

/- Walks: the library's counts of ones and of trailing zeros. -/
import Derived.Test.YtnkkeehoejmcnaaDoorPop
import Derived.Test.YtnkkeehoejmcnaaDoorMem2
set_option linter.unusedVariables false
set_option linter.unusedSimpArgs false
namespace Go.Proofs.E
open Go Go.RowKit
section
variable {P : Program} {l : List Value} {w : World} {T : TypeId} {x y : Operand} {t u : TypeId} {a b : Nat}
end
end Go.Proofs.E
namespace Go.Proofs.YtnkkeehoejmcnaaDoor
open Go Go.RowKit Go.Proofs.E
attribute [local irreducible] Go.wpList Go.Code.wp Go.Proofs.E.exec Go.Proofs.E.wpLexG
/-! ### Trailing zeros -/
def deB : Nat := 285870213051353865
/-- The table: where a power of two's product begins with i. -/
def dB : List Nat := (List.range 64).map fun i => ((List.range 64).find? fun t => 2 ^ t * deB % 2 ^ 64 / 2 ^ 58 == i).getD 0
def cB : List Value := dB.map fun (n : Nat) => Value.int .u8 (n : Int)
/-- The table lies where it lies. -/
def LaidB (w : World) : Prop := 1 < w.heap.size ∧ w.rangeAt 1 0 cB
theorem LaidB.ch {S : List Nat} {w w' : World} (h : LaidB w) (hc : Ch S w w') (hn : 1 ∉ S) : LaidB w' := ⟨Nat.lt_of_lt_of_le h.1 hc.size, hc.rangeAt h.2 h.1 hn⟩
end Go.Proofs.YtnkkeehoejmcnaaDoor

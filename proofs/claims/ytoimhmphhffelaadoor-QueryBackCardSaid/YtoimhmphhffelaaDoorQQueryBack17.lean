/- Bits counted, trailing ones: plain words; the library's own two ways to count.
   Peaks: plain words; leaf by leaf they are the roots of the whole trees.
   Walks: the library's counts of ones and of trailing zeros. -/
import Derived.Test.YtoimhmphhffelaaDoorQQueryBack14
import Derived.Test.YtoimhmphhffelaaDoorQQueryBack16
import Derived.Test.YtoimhmphhffelaaDoorQQueryBack04
set_option linter.unusedVariables false
set_option linter.unusedSimpArgs false
namespace Go.Proofs.YtoimhmphhffelaaDoor
open Go Go.RowKit Go.Proofs.E

/-! ### The sum side by side -/
def s1 (m x : Nat) : Nat := (x / 2 &&& m) + (x &&& m)
def s2 (m x : Nat) : Nat := (x / 4 &&& m) + (x &&& m)
def s3 (m x : Nat) : Nat := (x / 16 + x) &&& m
theorem b1 : ∀ a < 256, ∀ c < 2, (a / 2 + 128 * c) &&& 85 = a / 2 &&& 85 := by decide +kernel
theorem b2 : ∀ a < 256, ∀ c < 4, (a / 4 + 64 * c) &&& 51 = a / 4 &&& 51 := by decide +kernel
theorem b3 : ∀ a < 69, ∀ c < 5, (a / 16 + 16 * c + a) &&& 15 = (a / 16 + a) &&& 15 := by decide +kernel
/-! ### Trailing ones -/
end Go.Proofs.YtoimhmphhffelaaDoor
set_option linter.unusedVariables false
set_option linter.unusedSimpArgs false
namespace Go.Proofs.YtoimhmphhffelaaDoor
open Go Go.RowKit Go.Proofs.E

section
variable {α : Type} (nd : α → α → α) (em : α)
variable {nd em}
end
end Go.Proofs.YtoimhmphhffelaaDoor
set_option linter.unusedVariables false
set_option linter.unusedSimpArgs false
namespace Go.Proofs.E
open Go Go.RowKit
section
variable {P : Program} {l : List Value} {w : World} {T : TypeId} {x y : Operand} {t u : TypeId} {a b : Nat}
end
end Go.Proofs.E
namespace Go.Proofs.YtoimhmphhffelaaDoor
open Go Go.RowKit Go.Proofs.E
attribute [local irreducible] Go.wpList Go.Code.wp Go.Proofs.E.exec Go.Proofs.E.wpLexG
/-! ### Trailing zeros -/
def deB : Nat := 285870213051353865
/-- The table: where a power of two's product begins with i. -/
def dB : List Nat := (List.range 64).map fun i => ((List.range 64).find? fun t => 2 ^ t * deB % 2 ^ 64 / 2 ^ 58 == i).getD 0
def cB : List Value := dB.map fun (n : Nat) => Value.int .u8 (n : Int)
/-- The table lies where it lies. -/
def LaidB (w : World) : Prop := 9 < w.heap.size ∧ w.rangeAt 9 0 cB
theorem LaidB.ch {S : List Nat} {w w' : World} (h : LaidB w) (hc : Ch S w w') (hn : 9 ∉ S) : LaidB w' := ⟨Nat.lt_of_lt_of_le h.1 hc.size, hc.rangeAt h.2 h.1 hn⟩
end Go.Proofs.YtoimhmphhffelaaDoor

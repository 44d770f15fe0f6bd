/- Bits counted, trailing ones: plain words; the library's own two ways to count. -/
import Derived.Test.YtnkkeehoejmcnaaDoorNum
set_option linter.unusedVariables false
set_option linter.unusedSimpArgs false
namespace Go.Proofs.YtnkkeehoejmcnaaDoor
open Go Go.RowKit Go.Proofs.E

/-! ### The sum side by side -/
def s1 (m x : Nat) : Nat := (x / 2 &&& m) + (x &&& m)
def s2 (m x : Nat) : Nat := (x / 4 &&& m) + (x &&& m)
def s3 (m x : Nat) : Nat := (x / 16 + x) &&& m
theorem b1 : ∀ a < 256, ∀ c < 2, (a / 2 + 128 * c) &&& 85 = a / 2 &&& 85 := by decide +kernel
theorem b2 : ∀ a < 256, ∀ c < 4, (a / 4 + 64 * c) &&& 51 = a / 4 &&& 51 := by decide +kernel
theorem b3 : ∀ a < 69, ∀ c < 5, (a / 16 + 16 * c + a) &&& 15 = (a / 16 + a) &&& 15 := by decide +kernel
/-! ### Trailing ones -/
end Go.Proofs.YtnkkeehoejmcnaaDoor

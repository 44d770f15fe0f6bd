/- The greatest power of two below a number: plain words.
   A tree over leaves: plain words.
   Walks: the root of leaves, row by row.
   Walks: the reference's Split and Bits, the law's examples (for the seat of the tied cards).
   Walks: the reference's root; the law of halves. -/
import Derived.Test.YtoimhmphhffelaaGreatDoorQReceiptBytes17
import Derived.Test.YtoimhmphhffelaaGreatDoorQReceiptBytes14
import Derived.Test.YtoimhmphhffelaaGreatDoorQReceiptBytes04
set_option linter.unusedVariables false
set_option linter.unusedSimpArgs false
namespace Go.Proofs.YtoimhmphhffelaaGreatDoor
open Go Go.RowKit Go.Proofs.E
/-- The greatest power of two below n. -/
def splitN (n : Nat) : Nat := (splitZ (n : Int)).toNat
theorem splitZ_nat (n : Nat) : splitZ (n : Int) = (splitN n : Int) := by
  unfold splitN
  have : 0 ≤ splitZ (n : Int) := by
    unfold splitZ
    split
    · exact Int.le_refl _
    · exact_mod_cast Nat.zero_le _
  omega
theorem splitN_spec {n : Nat} (h2 : 2 ≤ n) (h : n ≤ 9223372036854775807) : ∃ j, splitN n = 2 ^ j ∧ 2 ^ j < n ∧ n ≤ 2 ^ (j + 1) := by
  obtain ⟨k, hk, h1, h3, h4⟩ := bitLen_spec (u := n - 1) (by omega) (by omega)
  refine ⟨k, ?_, by omega, by omega⟩
  unfold splitN splitZ
  rw [if_neg (by omega), show ((n : Int) - 1).toNat = n - 1 by omega, hk, Nat.add_sub_cancel]
  have : ((2 : Int) ^ k) = ((2 ^ k : Nat) : Int) := by simp
  rw [this, Int.toNat_natCast]
theorem splitN_lt {n : Nat} (h2 : 2 ≤ n) (h : n ≤ 9223372036854775807) : 0 < splitN n ∧ splitN n < n := by
  obtain ⟨j, e, h1, _⟩ := splitN_spec h2 h
  have := Nat.one_le_two_pow (n := j)
  omega
end Go.Proofs.YtoimhmphhffelaaGreatDoor
set_option linter.unusedVariables false
set_option linter.unusedSimpArgs false
namespace Go.Proofs.YtoimhmphhffelaaGreatDoor
open Go Go.RowKit Go.Proofs.E

section
variable {α : Type} (nd : α → α → α) (em : α)
variable {nd em}
end
/-! ### Hashes -/
abbrev Hs := { a : List UInt8 // a.length = 32 }
abbrev eH : En Hs := { f := fun a => a.1.map u8v, n := 32, hl := fun a => by rw [List.length_map, a.2], h1 := fun a => one_u8 }
def nodeH (a b : Hs) : Hs := ⟨nodeOf a.1 b.1, nodeOf_len _ _⟩
end Go.Proofs.YtoimhmphhffelaaGreatDoor
set_option linter.unusedVariables false
set_option linter.unusedSimpArgs false
namespace Go.Proofs.YtoimhmphhffelaaGreatDoor
open Go Go.RowKit Go.Proofs.E
attribute [local irreducible] Go.wpList Go.Code.wp Go.Proofs.E.exec Go.Proofs.E.wpLexG

section
variable {α : Type} {nd : α → α → α}
end

end Go.Proofs.YtoimhmphhffelaaGreatDoor
set_option linter.unusedVariables false
set_option linter.unusedSimpArgs false
namespace Go.Proofs.YtoimhmphhffelaaGreatDoor
open Go Go.RowKit Go.Proofs.E
attribute [local irreducible] Go.wpList Go.Code.wp Go.Proofs.E.exec Go.Proofs.E.wpLexG

end Go.Proofs.YtoimhmphhffelaaGreatDoor
set_option linter.unusedVariables false
set_option linter.unusedSimpArgs false
namespace Go.Proofs.YtoimhmphhffelaaGreatDoor
open Go Go.RowKit Go.Proofs.E
attribute [local irreducible] Go.wpList Go.Code.wp Go.Proofs.E.exec Go.Proofs.E.wpLexG

end Go.Proofs.YtoimhmphhffelaaGreatDoor

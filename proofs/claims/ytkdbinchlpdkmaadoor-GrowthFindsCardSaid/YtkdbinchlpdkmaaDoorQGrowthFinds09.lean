/- The greatest power of two below a number: plain words.
   A tree over leaves: plain words.
   Walks: the root of leaves, row by row.
   Walks: the reference's Split and Bits, the law's examples (for the seat of the tied cards).
   Walks: the reference's root; the law of halves. -/
import Derived.Test.YtkdbinchlpdkmaaDoorQGrowthFinds07
import Derived.Test.YtkdbinchlpdkmaaDoorQGrowthFinds08
import Derived.Test.YtkdbinchlpdkmaaDoorQGrowthFinds03
set_option linter.unusedVariables false
set_option linter.unusedSimpArgs false
namespace Go.Proofs.YtkdbinchlpdkmaaDoor
open Go Go.RowKit Go.Proofs.E
/-- The greatest power of two below n. -/
def splitN (n : Nat) : Nat := (splitZ (n : Int)).toNat
theorem splitZ_nat (n : Nat) : splitZ (n : Int) = (splitN n : Int) := by
  unfold splitN
  have : 0 ≤ splitZ (n : Int) := by
    unfold splitZ
    split
    · exact Int.le_refl _
    · exact_mod_cast Nat.zero_le _
  omega
theorem splitN_spec {n : Nat} (h2 : 2 ≤ n) (h : n ≤ 9223372036854775807) : ∃ j, splitN n = 2 ^ j ∧ 2 ^ j < n ∧ n ≤ 2 ^ (j + 1) := by
  obtain ⟨k, hk, h1, h3, h4⟩ := bitLen_spec (u := n - 1) (by omega) (by omega)
  refine ⟨k, ?_, by omega, by omega⟩
  unfold splitN splitZ
  rw [if_neg (by omega), show ((n : Int) - 1).toNat = n - 1 by omega, hk, Nat.add_sub_cancel]
  have : ((2 : Int) ^ k) = ((2 ^ k : Nat) : Int) := by simp
  rw [this, Int.toNat_natCast]
theorem pow_uniq {n i j : Nat} (h1 : 2 ^ i < n) (h2 : n ≤ 2 ^ (i + 1)) (h3 : 2 ^ j < n) (h4 : n ≤ 2 ^ (j + 1)) : i = j := by
  rcases Nat.lt_trichotomy i j with h | h | h
  · have : 2 ^ (i + 1) ≤ 2 ^ j := Nat.pow_le_pow_right (by omega) h
    omega
  · exact h
  · have : 2 ^ (j + 1) ≤ 2 ^ i := Nat.pow_le_pow_right (by omega) h
    omega
theorem splitN_eq {n j : Nat} (h : n ≤ 9223372036854775807) (h1 : 2 ^ j < n) (h2 : n ≤ 2 ^ (j + 1)) : splitN n = 2 ^ j := by
  have := Nat.one_le_two_pow (n := j)
  obtain ⟨i, e, h3, h4⟩ := splitN_spec (n := n) (by omega) h
  rw [e, pow_uniq h3 h4 h1 h2]
theorem splitN_lt {n : Nat} (h2 : 2 ≤ n) (h : n ≤ 9223372036854775807) : 0 < splitN n ∧ splitN n < n := by
  obtain ⟨j, e, h1, _⟩ := splitN_spec h2 h
  have := Nat.one_le_two_pow (n := j)
  omega
end Go.Proofs.YtkdbinchlpdkmaaDoor
set_option linter.unusedVariables false
set_option linter.unusedSimpArgs false
namespace Go.Proofs.YtkdbinchlpdkmaaDoor
open Go Go.RowKit Go.Proofs.E

section
variable {α : Type} (nd : α → α → α) (em : α)
variable {nd em}
end
/-! ### Hashes -/
abbrev Hs := { a : List UInt8 // a.length = 32 }
abbrev eH : En Hs := { f := fun a => a.1.map u8v, n := 32, hl := fun a => by rw [List.length_map, a.2], h1 := fun a => one_u8 }
def nodeH (a b : Hs) : Hs := ⟨nodeOf a.1 b.1, nodeOf_len _ _⟩
end Go.Proofs.YtkdbinchlpdkmaaDoor
set_option linter.unusedVariables false
set_option linter.unusedSimpArgs false
namespace Go.Proofs.YtkdbinchlpdkmaaDoor
open Go Go.RowKit Go.Proofs.E
attribute [local irreducible] Go.wpList Go.Code.wp Go.Proofs.E.exec Go.Proofs.E.wpLexG

section
variable {α : Type} {nd : α → α → α}
end

end Go.Proofs.YtkdbinchlpdkmaaDoor
set_option linter.unusedVariables false
set_option linter.unusedSimpArgs false
namespace Go.Proofs.YtkdbinchlpdkmaaDoor
open Go Go.RowKit Go.Proofs.E
attribute [local irreducible] Go.wpList Go.Code.wp Go.Proofs.E.exec Go.Proofs.E.wpLexG

theorem splitZ_eq {n : Int} {j : Nat} (h1 : (2 : Int) ^ j < n) (h2 : n ≤ 2 ^ (j + 1)) (h3 : n ≤ 9223372036854775807) : splitZ n = 2 ^ j := by
  have hp : (1 : Int) ≤ 2 ^ j := by exact_mod_cast Nat.one_le_two_pow
  obtain ⟨m, rfl⟩ : ∃ m : Nat, n = m + 2 := ⟨(n - 2).toNat, by omega⟩
  have em : ((m : Int) + 2 - 1).toNat = m + 1 := by omega
  obtain ⟨k, hk, k1, k2, k3⟩ := bitLen_spec (u := m + 1) (by omega) (by omega)
  unfold splitZ
  rw [if_neg (by omega), em, hk, Nat.add_sub_cancel]
  have a1 : 2 ^ j ≤ m + 1 := by have : ((2 ^ j : Nat) : Int) < (m : Int) + 2 := by exact_mod_cast h1
                                omega
  have a2 : m + 1 < 2 ^ (j + 1) := by have : (m : Int) + 2 ≤ ((2 ^ (j + 1) : Nat) : Int) := by exact_mod_cast h2
                                      omega
  have e1 : j < k + 1 := (Nat.pow_lt_pow_iff_right (a := 2) (by omega)).1 (by omega)
  have e2 : k < j + 1 := (Nat.pow_lt_pow_iff_right (a := 2) (by omega)).1 (by omega)
  rw [show k = j by omega]
theorem rsplit_any (n : Int) (h0 : -9223372036854775808 ≤ n ∧ n ≤ 2305843009213693952) (w : World) :
    Calls Tryd.prog 52 #[.int .i64 n] w (Ret fun v w' => v = .int .i64 (splitZ n) ∧ w' = w) := by
  refine enter [.int .i64 n, undef, undef, undef, undef, undef, undef, undef, undef, undef, undef, undef, undef, undef] Tryd.func52 rfl rfl ?_
  repeat (first | ((with_reducible apply is_st); refine st ?_) | ((with_reducible apply is_gd); first | refine gt ?_ | refine gf ?_ | refine gu ?_) | ((with_reducible apply is_en); refine en ?_) | (with_reducible apply c_region) | refine ws ?_ | refine x_block_other (by decide) ?_)
  refine c_cond rfl (fun h => ?_) (fun h => ?_)
  · repeat (first | ((with_reducible apply is_st); refine st ?_) | ((with_reducible apply is_gd); first | refine gt ?_ | refine gf ?_ | refine gu ?_) | ((with_reducible apply is_en); refine en ?_) | (with_reducible apply c_region) | refine ws ?_ | refine x_block_other (by decide) ?_)
    exact out1 rfl ⟨by simp [splitZ, h]; rfl, rfl⟩
  · repeat (first | ((with_reducible apply is_st); refine st ?_) | ((with_reducible apply is_gd); first | refine gt ?_ | refine gf ?_ | refine gu ?_) | ((with_reducible apply is_en); refine en ?_) | (with_reducible apply c_region) | refine ws ?_ | refine x_block_other (by decide) ?_)
    
    refine c_loop (fun k l w' => ∃ (q : Int) (j : Nat), (∃ jj : Nat → Value, l = [.int .i64 n, undef, .int .i64 0, .int .i64 q, jj 4, jj 5, jj 6, jj 7, jj 8, jj 9, jj 10, jj 11, jj 12, jj 13]) ∧ q = 2 ^ j ∧ q < n ∧ k = (n - q).toNat ∧ w' = w) (n - 1).toNat
      ⟨1, 0, exj rfl, rfl, by omega, by omega, rfl⟩ ?_
    rintro k l w1 ⟨q, j, ⟨jj, rfl⟩, hq, hqn, hk, rfl⟩
    have hp : (1 : Int) ≤ q := by rw [hq]; exact_mod_cast Nat.one_le_two_pow
    repeat (first | ((with_reducible apply is_st); refine st ?_) | ((with_reducible apply is_gd); first | refine gt ?_ | refine gf ?_ | refine gu ?_) | ((with_reducible apply is_en); refine en ?_) | (with_reducible apply c_region) | refine ws ?_ | refine x_block_other (by decide) ?_)
    refine c_cond rfl (fun hi => ?_) (fun hi => ?_)
    · repeat (first | ((with_reducible apply is_st); refine st ?_) | ((with_reducible apply is_gd); first | refine gt ?_ | refine gf ?_ | refine gu ?_) | ((with_reducible apply is_en); refine en ?_) | (with_reducible apply c_region) | refine ws ?_ | refine x_block_other (by decide) ?_)
      exact x_goes (n - q * 2).toNat rfl (by omega) ⟨q * 2, j + 1, exj rfl, by rw [hq, Int.pow_succ], by omega, rfl, rfl⟩
    · repeat (first | ((with_reducible apply is_st); refine st ?_) | ((with_reducible apply is_gd); first | refine gt ?_ | refine gf ?_ | refine gu ?_) | ((with_reducible apply is_en); refine en ?_) | (with_reducible apply c_region) | refine ws ?_ | refine x_block_other (by decide) ?_)
      refine out1 rfl ⟨?_, rfl⟩
      show Value.int .i64 q = _
      rw [splitZ_eq (j := j) (by omega) (by rw [Int.pow_succ]; omega) (by omega), hq]
end Go.Proofs.YtkdbinchlpdkmaaDoor
set_option linter.unusedVariables false
set_option linter.unusedSimpArgs false
namespace Go.Proofs.YtkdbinchlpdkmaaDoor
open Go Go.RowKit Go.Proofs.E
attribute [local irreducible] Go.wpList Go.Code.wp Go.Proofs.E.exec Go.Proofs.E.wpLexG

end Go.Proofs.YtkdbinchlpdkmaaDoor

/- Walks: mountain.Split, mountain.Bits, the reference's Split and Bits. -/
import Derived.Test.YtoimhmphhffelaaGreatDoorQReceiptBytes01
import Derived.Test.YtoimhmphhffelaaGreatDoorQReceiptBytes03
import Derived.Test.YtoimhmphhffelaaGreatDoorShelf
import Derived.Lib.ItoaNum
set_option linter.unusedVariables false
set_option linter.unusedSimpArgs false
namespace Go.Proofs.YtoimhmphhffelaaGreatDoor
open Go Go.RowKit Go.Proofs.E
attribute [local irreducible] Go.wpList Go.Code.wp Go.Proofs.E.exec Go.Proofs.E.wpLexG

/-! ### Plain words -/
def splitZ (n : Int) : Int := if n < 2 then 0 else 2 ^ (Lib.bitLen (n - 1).toNat - 1)
theorem bitLen_spec {u : Nat} (h0 : 0 < u) (h : u < 2 ^ 64) : ∃ k, Lib.bitLen u = k + 1 ∧ 2 ^ k ≤ u ∧ u < 2 ^ (k + 1) ∧ k ≤ 63 := by
  obtain ⟨a, b, c⟩ := Lib.bitLenAux_bounds 64 u h (by omega)
  have d := Lib.bitLen_le u 64 (Nat.le_refl _) h
  refine ⟨Lib.bitLen u - 1, ?_, b, ?_, by omega⟩
  · show Lib.bitLen u = Lib.bitLen u - 1 + 1
    have : 1 ≤ Lib.bitLen u := a
    omega
  · have : 1 ≤ Lib.bitLen u := a
    rw [Nat.sub_add_cancel this]
    exact c
theorem tb (n : Nat) (i : Nat) : n.testBit i = decide (n / 2 ^ i % 2 = 1) := by
  rw [Nat.testBit_eq_decide_div_mod_eq]
/-! ### The walks -/
theorem split_any (n : Int) (h0 : -9223372036854775808 ≤ n ∧ n ≤ 9223372036854775807) (w : World) :
    Calls Tryz.prog 214 #[.int .i64 n] w (Ret fun v w' => v = .int .i64 (splitZ n) ∧ w' = w) := by
  refine enter [.int .i64 n, undef, undef, undef, undef, undef, undef, undef, undef, undef, undef] Tryz.func214 rfl rfl ?_
  repeat (first | ((with_reducible apply is_st); refine st ?_) | ((with_reducible apply is_gd); first | refine gt ?_ | refine gf ?_ | refine gu ?_) | ((with_reducible apply is_en); refine en ?_) | (with_reducible apply c_region) | refine ws ?_ | refine x_block_other (by decide) ?_)
  refine c_cond rfl (fun h => ?_) (fun h => ?_)
  · repeat (first | ((with_reducible apply is_st); refine st ?_) | ((with_reducible apply is_gd); first | refine gt ?_ | refine gf ?_ | refine gu ?_) | ((with_reducible apply is_en); refine en ?_) | (with_reducible apply c_region) | refine ws ?_ | refine x_block_other (by decide) ?_)
    exact out1 rfl ⟨by simp [splitZ, h]; rfl, rfl⟩
  · obtain ⟨m, rfl⟩ : ∃ m : Nat, n = m + 2 := ⟨(n - 2).toNat, by omega⟩
    obtain ⟨k, hk, h1, h2, h3⟩ := bitLen_spec (u := m + 1) (by omega) (by omega)
    have hk62 : k ≤ 62 := by
      rcases Nat.lt_or_ge 62 k with h | h
      · have : 2 ^ 63 ≤ 2 ^ k := Nat.pow_le_pow_right (by omega) h
        omega
      · exact h
    have hpk : (2 : Nat) ^ k ≤ 2 ^ 62 := Nat.pow_le_pow_right (by omega) hk62
    have hp1 : (1 : Int) ≤ 2 ^ k := by exact_mod_cast Nat.one_le_two_pow
    have hp2 : (2 : Int) ^ k ≤ 2 ^ 62 := by exact_mod_cast hpk
    have em : ((m : Int) + 2 - 1).toNat = m + 1 := by omega
    repeat (first | ((with_reducible apply is_st); refine st ?_) | ((with_reducible apply is_gd); first | refine gt ?_ | refine gf ?_ | refine gu ?_) | ((with_reducible apply is_en); refine en ?_) | (with_reducible apply c_region) | refine ws ?_ | refine x_block_other (by decide) ?_)
    (try ((with_reducible apply is_gd); first | refine gt ?_ | refine gf ?_ | refine gu ?_)); refine ca (ret_eq (Tryz.bits_Len ((m : Int) + 2 - 1) w (by omega) (by omega))) ?_
    rintro _ _ ⟨rfl, rfl⟩
    rw [em, hk]
    repeat (first | ((with_reducible apply is_st); refine st ?_) | ((with_reducible apply is_gd); first | refine gt ?_ | refine gf ?_ | refine gu ?_) | ((with_reducible apply is_en); refine en ?_) | (with_reducible apply c_region) | refine ws ?_ | refine x_block_other (by decide) ?_)
    refine out1 rfl ⟨?_, rfl⟩
    show Value.int .i64 _ = _
    congr 1
    unfold splitZ
    rw [if_neg (by omega), em, hk]
    have e1 : (((k + 1 : Nat) : Int) - 1).toNat = k := by omega
    rw [e1, Nat.min_eq_left (show k ≤ IntKind.i64.bits by simp only [IntKind.bits]; omega), Nat.add_sub_cancel, Int.one_mul]
    generalize (2 : Int) ^ k = p at hp1 hp2 ⊢
    exact wrap_i64 (by omega)

end Go.Proofs.YtoimhmphhffelaaGreatDoor

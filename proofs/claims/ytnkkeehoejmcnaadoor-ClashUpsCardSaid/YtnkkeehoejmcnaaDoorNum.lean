/- Walks: mountain.Split, mountain.Bits, the reference's Split and Bits. -/
import Derived.Test.YtnkkeehoejmcnaaDoorInst
import Derived.Test.YtnkkeehoejmcnaaDoorD
import Derived.Test.YtnkkeehoejmcnaaDoorShelf
import Derived.Lib.ItoaNum
set_option linter.unusedVariables false
set_option linter.unusedSimpArgs false
namespace Go.Proofs.YtnkkeehoejmcnaaDoor
open Go Go.RowKit Go.Proofs.E
attribute [local irreducible] Go.wpList Go.Code.wp Go.Proofs.E.exec Go.Proofs.E.wpLexG

/-! ### Plain words -/
def splitZ (n : Int) : Int := if n < 2 then 0 else 2 ^ (Lib.bitLen (n - 1).toNat - 1)
/-- The powers of two of u below 2^k, the greatest first. -/
def bitsDown (u : Nat) : Nat → List Int
  | 0 => []
  | k + 1 => if u.testBit k then 2 ^ k :: bitsDown u k else bitsDown u k
theorem bitLen_spec {u : Nat} (h0 : 0 < u) (h : u < 2 ^ 64) : ∃ k, Lib.bitLen u = k + 1 ∧ 2 ^ k ≤ u ∧ u < 2 ^ (k + 1) ∧ k ≤ 63 := by
  obtain ⟨a, b, c⟩ := Lib.bitLenAux_bounds 64 u h (by omega)
  have d := Lib.bitLen_le u 64 (Nat.le_refl _) h
  refine ⟨Lib.bitLen u - 1, ?_, b, ?_, by omega⟩
  · show Lib.bitLen u = Lib.bitLen u - 1 + 1
    have : 1 ≤ Lib.bitLen u := a
    omega
  · have : 1 ≤ Lib.bitLen u := a
    rw [Nat.sub_add_cancel this]
    exact c
theorem bitsDown_high {u : Nat} : ∀ {k : Nat}, u < 2 ^ k → ∀ j, bitsDown u (k + j) = bitsDown u k
  | k, h, 0 => rfl
  | k, h, j + 1 => by
    have : u.testBit (k + j) = false := Nat.testBit_lt_two_pow (Nat.lt_of_lt_of_le h (Nat.pow_le_pow_right (by omega) (by omega)))
    rw [← Nat.add_assoc, bitsDown, this]
    exact bitsDown_high h j
theorem bitsDown_congr {u v : Nat} : ∀ {k : Nat}, (∀ j, j < k → u.testBit j = v.testBit j) → bitsDown u k = bitsDown v k
  | 0, _ => rfl
  | k + 1, h => by rw [bitsDown, bitsDown, h k (by omega), bitsDown_congr fun j hj => h j (by omega)]
theorem bitsDown_top {u k K : Nat} (h1 : 2 ^ k ≤ u) (h2 : u < 2 ^ (k + 1)) (hK : k < K) : bitsDown u K = 2 ^ k :: bitsDown (u - 2 ^ k) K := by
  have hp : 2 ^ (k + 1) = 2 ^ k + 2 ^ k := by rw [Nat.pow_succ]; omega
  obtain ⟨r, rfl⟩ : ∃ r, u = 2 ^ k + r := ⟨u - 2 ^ k, by omega⟩
  have hr : r < 2 ^ k := by omega
  obtain ⟨j, rfl⟩ : ∃ j, K = (k + 1) + j := ⟨K - (k + 1), by omega⟩
  rw [bitsDown_high h2 j, Nat.add_sub_cancel_left, show k + 1 + j = k + (j + 1) by omega, bitsDown_high hr (j + 1), bitsDown]
  have ht : (2 ^ k + r).testBit k = true := by rw [Nat.testBit_two_pow_add_eq, Nat.testBit_lt_two_pow hr]; rfl
  rw [ht, if_pos rfl]
  congr 1
  refine bitsDown_congr fun i hi => ?_
  exact Nat.testBit_two_pow_add_gt hi r
theorem xor_top {u k : Nat} (h1 : 2 ^ k ≤ u) (h2 : u < 2 ^ (k + 1)) : u ^^^ 2 ^ k = u - 2 ^ k := by
  have hp : 2 ^ (k + 1) = 2 ^ k + 2 ^ k := by rw [Nat.pow_succ]; omega
  obtain ⟨r, rfl⟩ : ∃ r, u = 2 ^ k + r := ⟨u - 2 ^ k, by omega⟩
  have hr : r < 2 ^ k := by omega
  rw [Nat.add_sub_cancel_left]
  have h : 2 ^ k + r = 2 ^ k ||| r := by
    have := Nat.two_pow_add_eq_or_of_lt hr 1
    simpa using this
  rw [h]
  apply Nat.eq_of_testBit_eq
  intro i
  rw [Nat.testBit_xor, Nat.testBit_or, Nat.testBit_two_pow]
  by_cases hi : k = i
  · subst hi
    rw [Nat.testBit_lt_two_pow hr]
    simp
  · simp [hi]
theorem xor_u64 {u k : Nat} (h1 : 2 ^ k ≤ u) (h2 : u < 2 ^ (k + 1)) (hk : k ≤ 63) : IntKind.u64.wrap (BitVec.ofInt IntKind.u64.bits (u : Int) ^^^ BitVec.ofInt IntKind.u64.bits ((2 : Int) ^ k)).toNat = ((u - 2 ^ k : Nat) : Int) := by
  have hu : u < 2 ^ 64 := Nat.lt_of_lt_of_le h2 (Nat.pow_le_pow_right (by omega) (by omega))
  have hk' : 2 ^ k < 2 ^ 64 := by omega
  have e2 : ((2 : Int) ^ k) = ((2 ^ k : Nat) : Int) := by simp
  rw [e2, BitVec.ofInt_natCast, BitVec.ofInt_natCast, BitVec.toNat_xor]
  simp only [BitVec.toNat_ofNat, IntKind.bits]
  rw [Nat.mod_eq_of_lt hu, Nat.mod_eq_of_lt hk', xor_top h1 h2]
  exact wrap_u64 (by omega)
theorem tb (n : Nat) (i : Nat) : n.testBit i = decide (n / 2 ^ i % 2 = 1) := by
  rw [Nat.testBit_eq_decide_div_mod_eq]
theorem and1 {a : Int} (h0 : 0 ≤ a) (h1 : a ≤ 9223372036854775807) : IntKind.i64.wrap (BitVec.ofInt IntKind.i64.bits a &&& BitVec.ofInt IntKind.i64.bits 1).toNat = a % 2 := by
  obtain ⟨m, rfl⟩ := Int.eq_ofNat_of_zero_le h0
  have e1 : (1 : Int) = ((1 : Nat) : Int) := rfl
  rw [e1, BitVec.ofInt_natCast, BitVec.ofInt_natCast, BitVec.toNat_and]
  simp only [BitVec.toNat_ofNat, IntKind.bits]
  rw [Nat.mod_eq_of_lt (by omega), Nat.mod_eq_of_lt (by omega), Nat.and_one_is_mod]
  have hm : m % 2 < 2 := Nat.mod_lt _ (by omega)
  rw [wrap_i64 ⟨by omega, by omega⟩]
  omega

theorem shl1_u64 {k : Nat} (h : k ≤ 63) : IntKind.u64.wrap (1 * 2 ^ min (((k + 1 : Nat) : Int) - 1).toNat IntKind.u64.bits) = ((2 ^ k : Nat) : Int) := by
  have e1 : (((k + 1 : Nat) : Int) - 1).toNat = k := by omega
  have h2 : 2 ^ k ≤ 2 ^ 63 := Nat.pow_le_pow_right (by omega) h
  rw [e1, Nat.min_eq_left (show k ≤ IntKind.u64.bits by simp only [IntKind.bits]; omega), Int.one_mul, show ((2 : Int) ^ k) = ((2 ^ k : Nat) : Int) by simp]
  generalize 2 ^ k = p at h2 ⊢
  exact wrap_u64 ⟨by omega, by omega⟩
theorem bitsDown_len (u : Nat) : ∀ k, (bitsDown u k).length ≤ k
  | 0 => Nat.le_refl _
  | k + 1 => by
    have := bitsDown_len u k
    rw [bitsDown]
    split
    · simp; omega
    · omega

/-! ### The walks -/
theorem split_any (n : Int) (h0 : -9223372036854775808 ≤ n ∧ n ≤ 9223372036854775807) (w : World) :
    Calls Tryd.prog 110 #[.int .i64 n] w (Ret fun v w' => v = .int .i64 (splitZ n) ∧ w' = w) := by
  refine enter [.int .i64 n, undef, undef, undef, undef, undef, undef, undef, undef, undef, undef] Tryd.func110 rfl rfl ?_
  repeat (first | ((with_reducible apply is_st); refine st ?_) | ((with_reducible apply is_gd); first | refine gt ?_ | refine gf ?_ | refine gu ?_) | ((with_reducible apply is_en); refine en ?_) | (with_reducible apply c_region) | refine ws ?_ | refine x_block_other (by decide) ?_)
  refine c_cond rfl (fun h => ?_) (fun h => ?_)
  · repeat (first | ((with_reducible apply is_st); refine st ?_) | ((with_reducible apply is_gd); first | refine gt ?_ | refine gf ?_ | refine gu ?_) | ((with_reducible apply is_en); refine en ?_) | (with_reducible apply c_region) | refine ws ?_ | refine x_block_other (by decide) ?_)
    exact out1 rfl ⟨by simp [splitZ, h]; rfl, rfl⟩
  · obtain ⟨m, rfl⟩ : ∃ m : Nat, n = m + 2 := ⟨(n - 2).toNat, by omega⟩
    obtain ⟨k, hk, h1, h2, h3⟩ := bitLen_spec (u := m + 1) (by omega) (by omega)
    have hk62 : k ≤ 62 := by
      rcases Nat.lt_or_ge 62 k with h | h
      · have : 2 ^ 63 ≤ 2 ^ k := Nat.pow_le_pow_right (by omega) h
        omega
      · exact h
    have hpk : (2 : Nat) ^ k ≤ 2 ^ 62 := Nat.pow_le_pow_right (by omega) hk62
    have hp1 : (1 : Int) ≤ 2 ^ k := by exact_mod_cast Nat.one_le_two_pow
    have hp2 : (2 : Int) ^ k ≤ 2 ^ 62 := by exact_mod_cast hpk
    have em : ((m : Int) + 2 - 1).toNat = m + 1 := by omega
    repeat (first | ((with_reducible apply is_st); refine st ?_) | ((with_reducible apply is_gd); first | refine gt ?_ | refine gf ?_ | refine gu ?_) | ((with_reducible apply is_en); refine en ?_) | (with_reducible apply c_region) | refine ws ?_ | refine x_block_other (by decide) ?_)
    (try ((with_reducible apply is_gd); first | refine gt ?_ | refine gf ?_ | refine gu ?_)); refine ca (ret_eq (Tryd.bits_Len ((m : Int) + 2 - 1) w (by omega) (by omega))) ?_
    rintro _ _ ⟨rfl, rfl⟩
    rw [em, hk]
    repeat (first | ((with_reducible apply is_st); refine st ?_) | ((with_reducible apply is_gd); first | refine gt ?_ | refine gf ?_ | refine gu ?_) | ((with_reducible apply is_en); refine en ?_) | (with_reducible apply c_region) | refine ws ?_ | refine x_block_other (by decide) ?_)
    refine out1 rfl ⟨?_, rfl⟩
    show Value.int .i64 _ = _
    congr 1
    unfold splitZ
    rw [if_neg (by omega), em, hk]
    have e1 : (((k + 1 : Nat) : Int) - 1).toNat = k := by omega
    rw [e1, Nat.min_eq_left (show k ≤ IntKind.i64.bits by simp only [IntKind.bits]; omega), Nat.add_sub_cancel, Int.one_mul]
    generalize (2 : Int) ^ k = p at hp1 hp2 ⊢
    exact wrap_i64 (by omega)

end Go.Proofs.YtnkkeehoejmcnaaDoor

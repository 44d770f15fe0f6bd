/- Walks: the library's counts of ones and of trailing zeros. -/
import Derived.Test.YtnkkeehoejmcnaaDoorPop
import Derived.Test.YtnkkeehoejmcnaaDoorMem2
set_option linter.unusedVariables false
set_option linter.unusedSimpArgs false
namespace Go.Proofs.E
open Go Go.RowKit
section
variable {P : Program} {l : List Value} {w : World} {T : TypeId} {x y : Operand} {t u : TypeId} {a b : Nat}
theorem r_andN {k : IntKind} (hk : k = .u64 ∨ k = .i64) (hx : ev l x = .int k (a : Int)) (hy : ev l y = .int k (b : Int)) (ha : a < 2 ^ 63 ∨ (k = .u64 ∧ a < 2 ^ 64)) (hb : b < 2 ^ 63 ∨ (k = .u64 ∧ b < 2 ^ 64)) : (exec (ev l) (.binOp .and t x y u) T).run P w = .ok (.value (.int k ((a &&& b : Nat) : Int))) w := by
  refine (r_and hx hy).trans ?_
  congr 3
  rw [BitVec.ofInt_natCast, BitVec.ofInt_natCast, BitVec.toNat_and]
  have h1 : a &&& b ≤ a := Nat.and_le_left
  rcases hk with rfl | rfl
  · simp only [BitVec.toNat_ofNat, IntKind.bits]
    rw [Nat.mod_eq_of_lt (by omega), Nat.mod_eq_of_lt (by omega)]
    exact wrap_u64 (by omega)
  · simp only [BitVec.toNat_ofNat, IntKind.bits]
    have ha' : a < 2 ^ 63 := ha.resolve_right (fun h => by cases h.1)
    have hb' : b < 2 ^ 63 := hb.resolve_right (fun h => by cases h.1)
    rw [Nat.mod_eq_of_lt (by omega), Nat.mod_eq_of_lt (by omega)]
    exact wrap_i64 (by omega)
theorem r_shrN {q : IntKind} {c : Nat} (hx : ev l x = .int .u64 (a : Int)) (hy : ev l y = .int q (c : Int)) (hc : c ≤ 64) : (exec (ev l) (.binOp .shr t x y u) T).run P w = .ok (.value (.int .u64 ((a / 2 ^ c : Nat) : Int))) w := by
  refine (r_shr hx hy (by omega)).trans ?_
  congr 3
  rw [Int.toNat_natCast, Nat.min_eq_left (show c ≤ IntKind.u64.bits from hc), Int.fdiv_eq_ediv_of_nonneg _ (by exact_mod_cast Nat.zero_le (2 ^ c))]
  simp
theorem r_addN (hx : ev l x = .int .u64 (a : Int)) (hy : ev l y = .int .u64 (b : Int)) (h : a + b < 2 ^ 64) : (exec (ev l) (.binOp .add t x y u) T).run P w = .ok (.value (.int .u64 ((a + b : Nat) : Int))) w := by
  refine (r_add hx hy).trans ?_
  congr 3
  rw [wrap_u64 (by omega)]
  omega
theorem r_negN (hx : ev l x = .int .u64 (a : Int)) (h0 : 0 < a) (h : a < 2 ^ 64) : (exec (ev l) (.unOp .neg t x) T).run P w = .ok (.value (.int .u64 ((2 ^ 64 - a : Nat) : Int))) w := by
  refine (r_neg hx).trans ?_
  congr 3
  simp [IntKind.wrap, IntKind.signed, IntKind.bits]
  omega
theorem r_mulN (hx : ev l x = .int .u64 (a : Int)) (hy : ev l y = .int .u64 (b : Int)) : (exec (ev l) (.binOp .mul t x y u) T).run P w = .ok (.value (.int .u64 ((a * b % 2 ^ 64 : Nat) : Int))) w := by
  refine (r_mul hx hy).trans ?_
  congr 3
theorem r_complN (hx : ev l x = .int .u64 (a : Int)) (h : a < 2 ^ 64) : (exec (ev l) (.unOp .xor t x) T).run P w = .ok (.value (.int .u64 ((2 ^ 64 - (a + 1) : Nat) : Int))) w := by
  refine (r_compl hx).trans ?_
  congr 3
  rw [BitVec.ofInt_natCast]
  have h1 : BitVec.ofInt IntKind.u64.bits (if IntKind.u64.signed = true then -1 else IntKind.u64.max) = BitVec.allOnes IntKind.u64.bits := by
    show BitVec.ofInt 64 18446744073709551615 = BitVec.allOnes 64
    rfl
  rw [h1, BitVec.xor_comm, BitVec.xor_allOnes, BitVec.toNat_not]
  simp only [BitVec.toNat_ofNat, IntKind.bits]
  rw [Nat.mod_eq_of_lt h]
  have : (2 ^ 64 - 1 - a : Nat) = 2 ^ 64 - (a + 1) := by omega
  rw [this]
  exact wrap_u64 (by omega)
end
end Go.Proofs.E
namespace Go.Proofs.YtnkkeehoejmcnaaDoor
open Go Go.RowKit Go.Proofs.E
attribute [local irreducible] Go.wpList Go.Code.wp Go.Proofs.E.exec Go.Proofs.E.wpLexG
theorem s1_le {m x M : Nat} (hx : x < 2 ^ 64) (hm : m ≤ M) : s1 m x ≤ M + M := by
  have h1 : x / 2 &&& m ≤ m := Nat.and_le_right
  have h2 : x &&& m ≤ m := Nat.and_le_right
  unfold s1
  omega
theorem s2_le {m x M : Nat} (hm : m ≤ M) : s2 m x ≤ M + M := by
  have h1 : x / 4 &&& m ≤ m := Nat.and_le_right
  have h2 : x &&& m ≤ m := Nat.and_le_right
  unfold s2
  omega
theorem rep85 : rep 85 8 = 6148914691236517205 := by decide +kernel
theorem rep51 : rep 51 8 = 3689348814741910323 := by decide +kernel
theorem rep15 : rep 15 8 = 1085102592571150095 := by decide +kernel
/-! ### Trailing zeros -/
def deB : Nat := 285870213051353865
/-- The table: where a power of two's product begins with i. -/
def dB : List Nat := (List.range 64).map fun i => ((List.range 64).find? fun t => 2 ^ t * deB % 2 ^ 64 / 2 ^ 58 == i).getD 0
theorem dB_at : ∀ t < 64, dB[2 ^ t * deB % 2 ^ 64 / 2 ^ 58]? = some t := by decide +kernel
def cB : List Value := dB.map fun (n : Nat) => Value.int .u8 (n : Int)
/-- The table lies where it lies. -/
def LaidB (w : World) : Prop := 1 < w.heap.size ∧ w.rangeAt 1 0 cB
theorem LaidB.ch {S : List Nat} {w w' : World} (h : LaidB w) (hc : Ch S w w') (hn : 1 ∉ S) : LaidB w' := ⟨Nat.lt_of_lt_of_le h.1 hc.size, hc.rangeAt h.2 h.1 hn⟩
end Go.Proofs.YtnkkeehoejmcnaaDoor

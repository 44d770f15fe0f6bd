/- Walks: the library's counts of ones and of trailing zeros. -/
import Derived.Test.YtbecfcnbgeeghaaDoorPop
import Derived.Test.YtbecfcnbgeeghaaDoorMem2
set_option linter.unusedVariables false
set_option linter.unusedSimpArgs false
namespace Go.Proofs.E
open Go Go.RowKit
section
variable {P : Program} {l : List Value} {w : World} {T : TypeId} {x y : Operand} {t u : TypeId} {a b : Nat}
theorem r_andN {k : IntKind} (hk : k = .u64 ∨ k = .i64) (hx : ev l x = .int k (a : Int)) (hy : ev l y = .int k (b : Int)) (ha : a < 2 ^ 63 ∨ (k = .u64 ∧ a < 2 ^ 64)) (hb : b < 2 ^ 63 ∨ (k = .u64 ∧ b < 2 ^ 64)) : (exec (ev l) (.binOp .and t x y u) T).run P w = .ok (.value (.int k ((a &&& b : Nat) : Int))) w := by
  refine (r_and hx hy).trans ?_
  congr 3
  rw [BitVec.ofInt_natCast, BitVec.ofInt_natCast, BitVec.toNat_and]
  have h1 : a &&& b ≤ a := Nat.and_le_left
  rcases hk with rfl | rfl
  · simp only [BitVec.toNat_ofNat, IntKind.bits]
    rw [Nat.mod_eq_of_lt (by omega), Nat.mod_eq_of_lt (by omega)]
    exact wrap_u64 (by omega)
  · simp only [BitVec.toNat_ofNat, IntKind.bits]
    have ha' : a < 2 ^ 63 := ha.resolve_right (fun h => by cases h.1)
    have hb' : b < 2 ^ 63 := hb.resolve_right (fun h => by cases h.1)
    rw [Nat.mod_eq_of_lt (by omega), Nat.mod_eq_of_lt (by omega)]
    exact wrap_i64 (by omega)
theorem r_shrN {q : IntKind} {c : Nat} (hx : ev l x = .int .u64 (a : Int)) (hy : ev l y = .int q (c : Int)) (hc : c ≤ 64) : (exec (ev l) (.binOp .shr t x y u) T).run P w = .ok (.value (.int .u64 ((a / 2 ^ c : Nat) : Int))) w := by
  refine (r_shr hx hy (by omega)).trans ?_
  congr 3
  rw [Int.toNat_natCast, Nat.min_eq_left (show c ≤ IntKind.u64.bits from hc), Int.fdiv_eq_ediv_of_nonneg _ (by exact_mod_cast Nat.zero_le (2 ^ c))]
  simp
theorem r_addN (hx : ev l x = .int .u64 (a : Int)) (hy : ev l y = .int .u64 (b : Int)) (h : a + b < 2 ^ 64) : (exec (ev l) (.binOp .add t x y u) T).run P w = .ok (.value (.int .u64 ((a + b : Nat) : Int))) w := by
  refine (r_add hx hy).trans ?_
  congr 3
  rw [wrap_u64 (by omega)]
  omega
theorem r_negN (hx : ev l x = .int .u64 (a : Int)) (h0 : 0 < a) (h : a < 2 ^ 64) : (exec (ev l) (.unOp .neg t x) T).run P w = .ok (.value (.int .u64 ((2 ^ 64 - a : Nat) : Int))) w := by
  refine (r_neg hx).trans ?_
  congr 3
  simp [IntKind.wrap, IntKind.signed, IntKind.bits]
  omega
theorem r_mulN (hx : ev l x = .int .u64 (a : Int)) (hy : ev l y = .int .u64 (b : Int)) : (exec (ev l) (.binOp .mul t x y u) T).run P w = .ok (.value (.int .u64 ((a * b % 2 ^ 64 : Nat) : Int))) w := by
  refine (r_mul hx hy).trans ?_
  congr 3
theorem r_complN (hx : ev l x = .int .u64 (a : Int)) (h : a < 2 ^ 64) : (exec (ev l) (.unOp .xor t x) T).run P w = .ok (.value (.int .u64 ((2 ^ 64 - (a + 1) : Nat) : Int))) w := by
  refine (r_compl hx).trans ?_
  congr 3
  rw [BitVec.ofInt_natCast]
  have h1 : BitVec.ofInt IntKind.u64.bits (if IntKind.u64.signed = true then -1 else IntKind.u64.max) = BitVec.allOnes IntKind.u64.bits := by
    show BitVec.ofInt 64 18446744073709551615 = BitVec.allOnes 64
    rfl
  rw [h1, BitVec.xor_comm, BitVec.xor_allOnes, BitVec.toNat_not]
  simp only [BitVec.toNat_ofNat, IntKind.bits]
  rw [Nat.mod_eq_of_lt h]
  have : (2 ^ 64 - 1 - a : Nat) = 2 ^ 64 - (a + 1) := by omega
  rw [this]
  exact wrap_u64 (by omega)
end
end Go.Proofs.E
namespace Go.Proofs.YtbecfcnbgeeghaaDoor
open Go Go.RowKit Go.Proofs.E
attribute [local irreducible] Go.wpList Go.Code.wp Go.Proofs.E.exec Go.Proofs.E.wpLexG
theorem s1_le {m x M : Nat} (hx : x < 2 ^ 64) (hm : m ≤ M) : s1 m x ≤ M + M := by
  have h1 : x / 2 &&& m ≤ m := Nat.and_le_right
  have h2 : x &&& m ≤ m := Nat.and_le_right
  unfold s1
  omega
theorem s2_le {m x M : Nat} (hm : m ≤ M) : s2 m x ≤ M + M := by
  have h1 : x / 4 &&& m ≤ m := Nat.and_le_right
  have h2 : x &&& m ≤ m := Nat.and_le_right
  unfold s2
  omega
theorem rep85 : rep 85 8 = 6148914691236517205 := by decide +kernel
theorem rep51 : rep 51 8 = 3689348814741910323 := by decide +kernel
theorem rep15 : rep 15 8 = 1085102592571150095 := by decide +kernel
theorem ones64_any (n : Nat) (h : n < 2 ^ 63) (w : World) : Calls Tryd.prog 89 #[.int .u64 (n : Int)] w (Ret fun v w' => v = .int .i64 (popN n : Int) ∧ w' = w) := by
  refine enter [.int .u64 (n : Int), undef, undef, undef, undef, undef, undef, undef, undef, undef, undef, undef, undef, undef, undef, undef, undef, undef, undef, undef, undef, undef, undef, undef, undef, undef, undef, undef, undef, undef, undef, undef, undef, undef, undef] Tryd.func89 rfl rfl ?_
  obtain ⟨hs, hsw⟩ := swar_eq h
  unfold swar at hs
  simp only at hs
  unfold sw at hs hsw
  rw [rep85, rep51, rep15] at hs hsw
  have a1 : n / 2 &&& 6148914691236517205 ≤ 6148914691236517205 := Nat.and_le_right
  have a2 : n &&& 6148914691236517205 ≤ 6148914691236517205 := Nat.and_le_right
  repeat (first | ((with_reducible apply is_st); refine stm ?_) | ((with_reducible apply is_gd); first | refine gt ?_ | refine gf ?_ | refine gu ?_) | ((with_reducible apply is_en); refine en ?_) | (with_reducible first | apply x_then | apply wp_seq | apply c_region | apply wp_block | apply wp_skip | apply wp_exit | apply wp_ret | apply x_then_ret | apply x_then_exit | apply x_block | apply x_block_ret | apply x_block_exit | refine x_block_other (by decide) ?_))
  (try ((with_reducible apply is_gd); first | refine gt ?_ | refine gf ?_ | refine gu ?_)); refine wl_val (r_shrN (c := 1) rfl rfl (by omega)) ?_
  (try ((with_reducible apply is_gd); first | refine gt ?_ | refine gf ?_ | refine gu ?_)); refine wl_val (r_andN (b := 6148914691236517205) (.inl rfl) rfl rfl (by omega) (by omega)) ?_
  repeat (first | ((with_reducible apply is_st); refine stm ?_) | ((with_reducible apply is_gd); first | refine gt ?_ | refine gf ?_ | refine gu ?_) | ((with_reducible apply is_en); refine en ?_) | (with_reducible first | apply x_then | apply wp_seq | apply c_region | apply wp_block | apply wp_skip | apply wp_exit | apply wp_ret | apply x_then_ret | apply x_then_exit | apply x_block | apply x_block_ret | apply x_block_exit | refine x_block_other (by decide) ?_))
  (try ((with_reducible apply is_gd); first | refine gt ?_ | refine gf ?_ | refine gu ?_)); refine wl_val (r_andN (b := 6148914691236517205) (.inl rfl) rfl rfl (by omega) (by omega)) ?_
  (try ((with_reducible apply is_gd); first | refine gt ?_ | refine gf ?_ | refine gu ?_)); refine wl_val (r_addN rfl rfl (by rw [show (2 : Nat) ^ 1 = 2 from rfl]; omega)) ?_
  rw [show ((n / 2 ^ 1 &&& 6148914691236517205) + (n &&& 6148914691236517205)) = s1 6148914691236517205 n from rfl]
  have c1 : s1 6148914691236517205 n ≤ 6148914691236517205 + 6148914691236517205 := s1_le (by omega) (Nat.le_refl _)
  generalize s1 6148914691236517205 n = x1 at *
  have b1 : x1 / 4 &&& 3689348814741910323 ≤ 3689348814741910323 := Nat.and_le_right
  have b2 : x1 &&& 3689348814741910323 ≤ 3689348814741910323 := Nat.and_le_right
  repeat (first | ((with_reducible apply is_st); refine stm ?_) | ((with_reducible apply is_gd); first | refine gt ?_ | refine gf ?_ | refine gu ?_) | ((with_reducible apply is_en); refine en ?_) | (with_reducible first | apply x_then | apply wp_seq | apply c_region | apply wp_block | apply wp_skip | apply wp_exit | apply wp_ret | apply x_then_ret | apply x_then_exit | apply x_block | apply x_block_ret | apply x_block_exit | refine x_block_other (by decide) ?_))
  (try ((with_reducible apply is_gd); first | refine gt ?_ | refine gf ?_ | refine gu ?_)); refine wl_val (r_shrN (c := 2) rfl rfl (by omega)) ?_
  (try ((with_reducible apply is_gd); first | refine gt ?_ | refine gf ?_ | refine gu ?_)); refine wl_val (r_andN (b := 3689348814741910323) (.inl rfl) rfl rfl (by rw [show (2 : Nat) ^ 2 = 4 from rfl]; omega) (by omega)) ?_
  repeat (first | ((with_reducible apply is_st); refine stm ?_) | ((with_reducible apply is_gd); first | refine gt ?_ | refine gf ?_ | refine gu ?_) | ((with_reducible apply is_en); refine en ?_) | (with_reducible first | apply x_then | apply wp_seq | apply c_region | apply wp_block | apply wp_skip | apply wp_exit | apply wp_ret | apply x_then_ret | apply x_then_exit | apply x_block | apply x_block_ret | apply x_block_exit | refine x_block_other (by decide) ?_))
  (try ((with_reducible apply is_gd); first | refine gt ?_ | refine gf ?_ | refine gu ?_)); refine wl_val (r_andN (b := 3689348814741910323) (.inl rfl) rfl rfl (.inr ⟨rfl, by omega⟩) (by omega)) ?_
  (try ((with_reducible apply is_gd); first | refine gt ?_ | refine gf ?_ | refine gu ?_)); refine wl_val (r_addN rfl rfl (by rw [show (2 : Nat) ^ 2 = 4 from rfl]; omega)) ?_
  rw [show ((x1 / 2 ^ 2 &&& 3689348814741910323) + (x1 &&& 3689348814741910323)) = s2 3689348814741910323 x1 from rfl]
  have c2 : s2 3689348814741910323 x1 ≤ 3689348814741910323 + 3689348814741910323 := s2_le (Nat.le_refl _)
  generalize s2 3689348814741910323 x1 = x2 at *
  repeat (first | ((with_reducible apply is_st); refine stm ?_) | ((with_reducible apply is_gd); first | refine gt ?_ | refine gf ?_ | refine gu ?_) | ((with_reducible apply is_en); refine en ?_) | (with_reducible first | apply x_then | apply wp_seq | apply c_region | apply wp_block | apply wp_skip | apply wp_exit | apply wp_ret | apply x_then_ret | apply x_then_exit | apply x_block | apply x_block_ret | apply x_block_exit | refine x_block_other (by decide) ?_))
  (try ((with_reducible apply is_gd); first | refine gt ?_ | refine gf ?_ | refine gu ?_)); refine wl_val (r_shrN (c := 4) rfl rfl (by omega)) ?_
  repeat (first | ((with_reducible apply is_st); refine stm ?_) | ((with_reducible apply is_gd); first | refine gt ?_ | refine gf ?_ | refine gu ?_) | ((with_reducible apply is_en); refine en ?_) | (with_reducible first | apply x_then | apply wp_seq | apply c_region | apply wp_block | apply wp_skip | apply wp_exit | apply wp_ret | apply x_then_ret | apply x_then_exit | apply x_block | apply x_block_ret | apply x_block_exit | refine x_block_other (by decide) ?_))
  (try ((with_reducible apply is_gd); first | refine gt ?_ | refine gf ?_ | refine gu ?_)); refine wl_val (r_addN rfl rfl (by rw [show (2 : Nat) ^ 4 = 16 from rfl]; omega)) ?_
  (try ((with_reducible apply is_gd); first | refine gt ?_ | refine gf ?_ | refine gu ?_)); refine wl_val (r_andN (b := 1085102592571150095) (.inl rfl) rfl rfl (by rw [show (2 : Nat) ^ 4 = 16 from rfl]; omega) (by omega)) ?_
  rw [show ((x2 / 2 ^ 4 + x2) &&& 1085102592571150095) = s3 1085102592571150095 x2 from rfl]
  generalize s3 1085102592571150095 x2 = x3 at *
  repeat (first | ((with_reducible apply is_st); refine stm ?_) | ((with_reducible apply is_gd); first | refine gt ?_ | refine gf ?_ | refine gu ?_) | ((with_reducible apply is_en); refine en ?_) | (with_reducible first | apply x_then | apply wp_seq | apply c_region | apply wp_block | apply wp_skip | apply wp_exit | apply wp_ret | apply x_then_ret | apply x_then_exit | apply x_block | apply x_block_ret | apply x_block_exit | refine x_block_other (by decide) ?_))
  (try ((with_reducible apply is_gd); first | refine gt ?_ | refine gf ?_ | refine gu ?_)); refine wl_val (r_shrN (c := 8) rfl rfl (by omega)) ?_
  rw [show (2 : Nat) ^ 8 = 256 from rfl]
  (try ((with_reducible apply is_gd); first | refine gt ?_ | refine gf ?_ | refine gu ?_)); refine wl_val (r_addN rfl rfl (by omega)) ?_
  repeat (first | ((with_reducible apply is_st); refine stm ?_) | ((with_reducible apply is_gd); first | refine gt ?_ | refine gf ?_ | refine gu ?_) | ((with_reducible apply is_en); refine en ?_) | (with_reducible first | apply x_then | apply wp_seq | apply c_region | apply wp_block | apply wp_skip | apply wp_exit | apply wp_ret | apply x_then_ret | apply x_then_exit | apply x_block | apply x_block_ret | apply x_block_exit | refine x_block_other (by decide) ?_))
  (try ((with_reducible apply is_gd); first | refine gt ?_ | refine gf ?_ | refine gu ?_)); refine wl_val (r_shrN (c := 16) rfl rfl (by omega)) ?_
  rw [show (2 : Nat) ^ 16 = 65536 from rfl]
  (try ((with_reducible apply is_gd); first | refine gt ?_ | refine gf ?_ | refine gu ?_)); refine wl_val (r_addN rfl rfl (by omega)) ?_
  repeat (first | ((with_reducible apply is_st); refine stm ?_) | ((with_reducible apply is_gd); first | refine gt ?_ | refine gf ?_ | refine gu ?_) | ((with_reducible apply is_en); refine en ?_) | (with_reducible first | apply x_then | apply wp_seq | apply c_region | apply wp_block | apply wp_skip | apply wp_exit | apply wp_ret | apply x_then_ret | apply x_then_exit | apply x_block | apply x_block_ret | apply x_block_exit | refine x_block_other (by decide) ?_))
  (try ((with_reducible apply is_gd); first | refine gt ?_ | refine gf ?_ | refine gu ?_)); refine wl_val (r_shrN (c := 32) rfl rfl (by omega)) ?_
  rw [show (2 : Nat) ^ 32 = 4294967296 from rfl]
  (try ((with_reducible apply is_gd); first | refine gt ?_ | refine gf ?_ | refine gu ?_)); refine wl_val (r_addN rfl rfl (by omega)) ?_
  generalize hd : x3 + x3 / 256 + (x3 + x3 / 256) / 65536 + (x3 + x3 / 256 + (x3 + x3 / 256) / 65536) / 4294967296 = x4 at *
  have hx4 : x4 < 2 ^ 63 := by omega
  repeat (first | ((with_reducible apply is_st); refine st ?_) | ((with_reducible apply is_gd); first | refine gt ?_ | refine gf ?_ | refine gu ?_) | ((with_reducible apply is_en); refine en ?_) | (with_reducible first | apply x_then | apply wp_seq | apply c_region | apply wp_block | apply wp_skip | apply wp_exit | apply wp_ret | apply x_then_ret | apply x_then_exit | apply x_block | apply x_block_ret | apply x_block_exit | refine x_block_other (by decide) ?_))
  (try ((with_reducible apply is_gd); first | refine gt ?_ | refine gf ?_ | refine gu ?_)); refine wl_val (r_andN (b := 127) (.inr rfl) rfl rfl (.inl hx4) (by omega)) ?_
  rw [show (127 : Nat) = 2 ^ 7 - 1 from rfl, Nat.and_two_pow_sub_one_eq_mod, show (2 : Nat) ^ 7 = 128 from rfl, hs]
  repeat (first | ((with_reducible apply is_st); refine stm ?_) | ((with_reducible apply is_gd); first | refine gt ?_ | refine gf ?_ | refine gu ?_) | ((with_reducible apply is_en); refine en ?_) | (with_reducible first | apply x_then | apply wp_seq | apply c_region | apply wp_block | apply wp_skip | apply wp_exit | apply wp_ret | apply x_then_ret | apply x_then_exit | apply x_block | apply x_block_ret | apply x_block_exit | refine x_block_other (by decide) ?_))
  exact out1 rfl ⟨rfl, rfl⟩
theorem ones_any (n : Nat) (h : n < 2 ^ 63) (w : World) : Calls Tryd.prog 74 #[.int .u64 (n : Int)] w (Ret fun v w' => v = .int .i64 (popN n : Int) ∧ w' = w) := by
  refine enter [.int .u64 (n : Int), undef, undef, undef, undef, undef, undef, undef] Tryd.func74 rfl rfl ?_
  repeat (first | ((with_reducible apply is_st); refine st ?_) | ((with_reducible apply is_gd); first | refine gt ?_ | refine gf ?_ | refine gu ?_) | ((with_reducible apply is_en); refine en ?_) | (with_reducible first | apply x_then | apply wp_seq | apply c_region | apply wp_block | apply wp_skip | apply wp_exit | apply wp_ret | apply x_then_ret | apply x_then_exit | apply x_block | apply x_block_ret | apply x_block_exit | refine x_block_other (by decide) ?_))
  refine c_condb rfl (fun h => by cases h) (fun _ => ?_)
  repeat (first | ((with_reducible apply is_st); refine st ?_) | ((with_reducible apply is_gd); first | refine gt ?_ | refine gf ?_ | refine gu ?_) | ((with_reducible apply is_en); refine en ?_) | (with_reducible first | apply x_then | apply wp_seq | apply c_region | apply wp_block | apply wp_skip | apply wp_exit | apply wp_ret | apply x_then_ret | apply x_then_exit | apply x_block | apply x_block_ret | apply x_block_exit | refine x_block_other (by decide) ?_))
  (try ((with_reducible apply is_gd); first | refine gt ?_ | refine gf ?_ | refine gu ?_)); refine ca (ones64_any n h w) ?_
  rintro _ _ ⟨rfl, rfl⟩
  repeat (first | ((with_reducible apply is_st); refine stm ?_) | ((with_reducible apply is_gd); first | refine gt ?_ | refine gf ?_ | refine gu ?_) | ((with_reducible apply is_en); refine en ?_) | (with_reducible first | apply x_then | apply wp_seq | apply c_region | apply wp_block | apply wp_skip | apply wp_exit | apply wp_ret | apply x_then_ret | apply x_then_exit | apply x_block | apply x_block_ret | apply x_block_exit | refine x_block_other (by decide) ?_))
  exact out1 rfl ⟨rfl, rfl⟩
/-! ### Trailing zeros -/
def deB : Nat := 285870213051353865
/-- The table: where a power of two's product begins with i. -/
def dB : List Nat := (List.range 64).map fun i => ((List.range 64).find? fun t => 2 ^ t * deB % 2 ^ 64 / 2 ^ 58 == i).getD 0
theorem dB_at : ∀ t < 64, dB[2 ^ t * deB % 2 ^ 64 / 2 ^ 58]? = some t := by decide +kernel
def cB : List Value := dB.map fun (n : Nat) => Value.int .u8 (n : Int)
/-- The table lies where it lies. -/
def LaidB (w : World) : Prop := 1 < w.heap.size ∧ w.rangeAt 1 0 cB
theorem LaidB.ch {S : List Nat} {w w' : World} (h : LaidB w) (hc : Ch S w w') (hn : 1 ∉ S) : LaidB w' := ⟨Nat.lt_of_lt_of_le h.1 hc.size, hc.rangeAt h.2 h.1 hn⟩
theorem tz64_any (n : Nat) (h : n < 2 ^ 62) (w : World) (hB : LaidB w) : Calls Tryd.prog 87 #[.int .u64 ((2 ^ 64 - (n + 1) : Nat) : Int)] w (Ret fun v w' => v = .int .i64 (tones n : Int) ∧ w' = w) := by
  refine enter [.int .u64 ((2 ^ 64 - (n + 1) : Nat) : Int), undef, undef, undef, undef, undef, undef, undef, undef, undef, undef, undef, undef, undef] Tryd.func87 rfl rfl ?_
  repeat (first | ((with_reducible apply is_st); refine st ?_) | ((with_reducible apply is_gd); first | refine gt ?_ | refine gf ?_ | refine gu ?_) | ((with_reducible apply is_en); refine en ?_) | (with_reducible first | apply x_then | apply wp_seq | apply c_region | apply wp_block | apply wp_skip | apply wp_exit | apply wp_ret | apply x_then_ret | apply x_then_exit | apply x_block | apply x_block_ret | apply x_block_exit | refine x_block_other (by decide) ?_))
  refine c_cond rfl (fun h0 => by omega) (fun h0 => ?_)
  obtain ⟨ha, ht⟩ := tones_and 64 n (by omega)
  have ht' : tonesF 64 n = tones n := rfl
  rw [ht'] at ha ht
  repeat (first | ((with_reducible apply is_st); refine stm ?_) | ((with_reducible apply is_gd); first | refine gt ?_ | refine gf ?_ | refine gu ?_) | ((with_reducible apply is_en); refine en ?_) | (with_reducible first | apply x_then | apply wp_seq | apply c_region | apply wp_block | apply wp_skip | apply wp_exit | apply wp_ret | apply x_then_ret | apply x_then_exit | apply x_block | apply x_block_ret | apply x_block_exit | refine x_block_other (by decide) ?_))
  (try ((with_reducible apply is_gd); first | refine gt ?_ | refine gf ?_ | refine gu ?_)); refine wl_val (r_negN rfl (by omega) (by omega)) ?_
  rw [show 2 ^ 64 - (2 ^ 64 - (n + 1)) = n + 1 by omega]
  (try ((with_reducible apply is_gd); first | refine gt ?_ | refine gf ?_ | refine gu ?_)); refine wl_val (r_andN (.inl rfl) rfl rfl (.inr ⟨rfl, by omega⟩) (.inl (by omega))) ?_
  rw [ha]
  (try ((with_reducible apply is_gd); first | refine gt ?_ | refine gf ?_ | refine gu ?_)); refine wl_val (r_mulN (b := 285870213051353865) rfl rfl) ?_
  (try ((with_reducible apply is_gd); first | refine gt ?_ | refine gf ?_ | refine gu ?_)); refine wl_val (r_shrN (c := 58) rfl rfl (by omega)) ?_
  have hidx := dB_at (tones n) ht
  rw [show deB = 285870213051353865 from rfl] at hidx
  generalize hi : 2 ^ tones n * 285870213051353865 % 2 ^ 64 / 2 ^ 58 = i at hidx ⊢
  have hi64 : i < 64 := by
    have h1 : 2 ^ tones n * 285870213051353865 % 2 ^ 64 < 2 ^ 64 := Nat.mod_lt _ (by omega)
    omega
  refine wl_val (r_indexAddr_arr rfl rfl (by omega) (by omega)) ?_
  rw [show 0 + (i : Int).toNat * 1 = 0 + i by omega]
  refine wl_val (r_load_one rfl (hB.2 i (.int .u8 (tones n : Int)) (by unfold cB; rw [List.getElem?_map, hidx]; rfl))) ?_
  repeat (first | ((with_reducible apply is_st); refine st ?_) | ((with_reducible apply is_gd); first | refine gt ?_ | refine gf ?_ | refine gu ?_) | ((with_reducible apply is_en); refine en ?_) | (with_reducible first | apply x_then | apply wp_seq | apply c_region | apply wp_block | apply wp_skip | apply wp_exit | apply wp_ret | apply x_then_ret | apply x_then_exit | apply x_block | apply x_block_ret | apply x_block_exit | refine x_block_other (by decide) ?_))
  exact out1 rfl ⟨rfl, rfl⟩
theorem tz_any (n : Nat) (h : n < 2 ^ 62) (w : World) (hB : LaidB w) : Calls Tryd.prog 73 #[.int .u64 ((2 ^ 64 - (n + 1) : Nat) : Int)] w (Ret fun v w' => v = .int .i64 (tones n : Int) ∧ w' = w) := by
  refine enter [.int .u64 ((2 ^ 64 - (n + 1) : Nat) : Int), undef, undef, undef, undef, undef, undef, undef] Tryd.func73 rfl rfl ?_
  repeat (first | ((with_reducible apply is_st); refine st ?_) | ((with_reducible apply is_gd); first | refine gt ?_ | refine gf ?_ | refine gu ?_) | ((with_reducible apply is_en); refine en ?_) | (with_reducible first | apply x_then | apply wp_seq | apply c_region | apply wp_block | apply wp_skip | apply wp_exit | apply wp_ret | apply x_then_ret | apply x_then_exit | apply x_block | apply x_block_ret | apply x_block_exit | refine x_block_other (by decide) ?_))
  refine c_condb rfl (fun h => by cases h) (fun _ => ?_)
  repeat (first | ((with_reducible apply is_st); refine st ?_) | ((with_reducible apply is_gd); first | refine gt ?_ | refine gf ?_ | refine gu ?_) | ((with_reducible apply is_en); refine en ?_) | (with_reducible first | apply x_then | apply wp_seq | apply c_region | apply wp_block | apply wp_skip | apply wp_exit | apply wp_ret | apply x_then_ret | apply x_then_exit | apply x_block | apply x_block_ret | apply x_block_exit | refine x_block_other (by decide) ?_))
  (try ((with_reducible apply is_gd); first | refine gt ?_ | refine gf ?_ | refine gu ?_)); refine ca (tz64_any n h w hB) ?_
  rintro _ _ ⟨rfl, rfl⟩
  repeat (first | ((with_reducible apply is_st); refine stm ?_) | ((with_reducible apply is_gd); first | refine gt ?_ | refine gf ?_ | refine gu ?_) | ((with_reducible apply is_en); refine en ?_) | (with_reducible first | apply x_then | apply wp_seq | apply c_region | apply wp_block | apply wp_skip | apply wp_exit | apply wp_ret | apply x_then_ret | apply x_then_exit | apply x_block | apply x_block_ret | apply x_block_exit | refine x_block_other (by decide) ?_))
  exact out1 rfl ⟨rfl, rfl⟩
end Go.Proofs.YtbecfcnbgeeghaaDoor

/- Walks: a key's bits, both.
   Walks: the hashes of nothing, of an item, of a fork, both.
   Walks: the hashes of an item and of a fork, both; structs compared; helpers for blocks that hold hashes.
   Walks: whether a proof of a key may be, both.
   Walks: the root that a proof of a key leads to, both.
   Walks: the root that a proof of a key leads to, both. -/
import Derived.Test.YtkpkfplcoakfcaaDoorG1
import Derived.Test.YtkpkfplcoakfcaaDoorClimb
set_option linter.unusedVariables false
set_option linter.unusedSimpArgs false
namespace Go.Proofs.YtkpkfplcoakfcaaDoor
open Go Go.RowKit Go.Proofs.E
attribute [local irreducible] Go.wpList Go.Code.wp Go.Proofs.E.exec Go.Proofs.E.wpLexG
def shaH (bs : List UInt8) : Hs := ⟨shaOf bs, shaOf_len bs⟩
def bitN (k : Hs) (i : Nat) : Nat := (k.1.getD (i / 8) 0).toNat / 2 ^ (7 - i % 8) % 2
def bitZ (k : Hs) (i : Int) : Nat := if 0 ≤ i ∧ i ≤ 255 then bitN k i.toNat else 0
theorem bitZ_lt (k : Hs) (i : Int) : bitZ k i < 2 := by
  unfold bitZ bitN
  split <;> omega
theorem tbit_any (k : Hs) (i : Int) (w0 : World) : Calls Tryd.prog 111 #[hv k.1, .int .i64 i] w0 (Ret fun u w' => u = .int .i64 (bitZ k i : Int) ∧ Ch [] w0 w') := by
  have hM := Mem.start w0
  refine enter [hv k.1, .int .i64 i, undef, undef, undef, undef, undef, undef, undef, undef, undef, undef, undef, undef, undef, undef, undef, undef, undef, undef, undef] Tryd.func111 rfl rfl ?_
  repeat (first | ((with_reducible apply is_ld); first | refine kld hM ?_ | refine kldw hM ?_ | refine kle hM ?_ | refine klew hM ?_) | ((with_reducible apply is_sto); first | (refine kst hM ?_; intro w hM) | (refine kstw hM ?_; intro w hM)) | ((with_reducible apply is_st); refine su ?_) | ((with_reducible apply is_gd); first | refine gt ?_ | refine gf ?_ | refine gu ?_) | ((with_reducible apply is_en); refine en ?_) | (with_reducible apply c_region) | refine ws ?_ | refine x_block_other (by decide) ?_)
  refine kbx hM (fun w b2 hM => ?_)
  unfold bitZ
  repeat (first | ((with_reducible apply is_ld); first | refine kld hM ?_ | refine kldw hM ?_ | refine kle hM ?_ | refine klew hM ?_) | ((with_reducible apply is_sto); first | (refine kst hM ?_; intro w hM) | (refine kstw hM ?_; intro w hM)) | ((with_reducible apply is_st); refine su ?_) | ((with_reducible apply is_gd); first | refine gt ?_ | refine gf ?_ | refine gu ?_) | ((with_reducible apply is_en); refine en ?_) | (with_reducible apply c_region) | refine ws ?_ | refine x_block_other (by decide) ?_)
  by_cases h0 : i < 0
  · rw [decide_eq_true h0, if_neg (by omega)]
    repeat (first | ((with_reducible apply is_ld); first | refine kld hM ?_ | refine kldw hM ?_ | refine kle hM ?_ | refine klew hM ?_) | ((with_reducible apply is_sto); first | (refine kst hM ?_; intro w hM) | (refine kstw hM ?_; intro w hM)) | ((with_reducible apply is_st); refine su ?_) | ((with_reducible apply is_gd); first | refine gt ?_ | refine gf ?_ | refine gu ?_) | ((with_reducible apply is_en); refine en ?_) | (with_reducible apply c_region) | refine ws ?_ | refine x_block_other (by decide) ?_)
    refine c_condb rfl (fun _ => ?_) (fun h => by cases h)
    repeat (first | ((with_reducible apply is_ld); first | refine kld hM ?_ | refine kldw hM ?_ | refine kle hM ?_ | refine klew hM ?_) | ((with_reducible apply is_sto); first | (refine kst hM ?_; intro w hM) | (refine kstw hM ?_; intro w hM)) | ((with_reducible apply is_st); refine su ?_) | ((with_reducible apply is_gd); first | refine gt ?_ | refine gf ?_ | refine gu ?_) | ((with_reducible apply is_en); refine en ?_) | (with_reducible apply c_region) | refine ws ?_ | refine x_block_other (by decide) ?_)
    exact out1 rfl ⟨rfl, hM.ch⟩
  · rw [decide_eq_false h0]
    repeat (first | ((with_reducible apply is_ld); first | refine kld hM ?_ | refine kldw hM ?_ | refine kle hM ?_ | refine klew hM ?_) | ((with_reducible apply is_sto); first | (refine kst hM ?_; intro w hM) | (refine kstw hM ?_; intro w hM)) | ((with_reducible apply is_st); refine su ?_) | ((with_reducible apply is_gd); first | refine gt ?_ | refine gf ?_ | refine gu ?_) | ((with_reducible apply is_en); refine en ?_) | (with_reducible apply c_region) | refine ws ?_ | refine x_block_other (by decide) ?_)
    by_cases h1 : i ≥ 256
    · rw [decide_eq_true h1, if_neg (by omega)]
      repeat (first | ((with_reducible apply is_ld); first | refine kld hM ?_ | refine kldw hM ?_ | refine kle hM ?_ | refine klew hM ?_) | ((with_reducible apply is_sto); first | (refine kst hM ?_; intro w hM) | (refine kstw hM ?_; intro w hM)) | ((with_reducible apply is_st); refine su ?_) | ((with_reducible apply is_gd); first | refine gt ?_ | refine gf ?_ | refine gu ?_) | ((with_reducible apply is_en); refine en ?_) | (with_reducible apply c_region) | refine ws ?_ | refine x_block_other (by decide) ?_)
      refine c_condb rfl (fun _ => ?_) (fun h => by cases h)
      repeat (first | ((with_reducible apply is_ld); first | refine kld hM ?_ | refine kldw hM ?_ | refine kle hM ?_ | refine klew hM ?_) | ((with_reducible apply is_sto); first | (refine kst hM ?_; intro w hM) | (refine kstw hM ?_; intro w hM)) | ((with_reducible apply is_st); refine su ?_) | ((with_reducible apply is_gd); first | refine gt ?_ | refine gf ?_ | refine gu ?_) | ((with_reducible apply is_en); refine en ?_) | (with_reducible apply c_region) | refine ws ?_ | refine x_block_other (by decide) ?_)
      exact out1 rfl ⟨rfl, hM.ch⟩
    · rw [decide_eq_false h1, if_pos ⟨by omega, by omega⟩]
      obtain ⟨I, rfl⟩ := Int.eq_ofNat_of_zero_le (by omega : 0 ≤ i)
      rw [Int.toNat_natCast]
      repeat (first | ((with_reducible apply is_ld); first | refine kld hM ?_ | refine kldw hM ?_ | refine kle hM ?_ | refine klew hM ?_) | ((with_reducible apply is_sto); first | (refine kst hM ?_; intro w hM) | (refine kstw hM ?_; intro w hM)) | ((with_reducible apply is_st); refine su ?_) | ((with_reducible apply is_gd); first | refine gt ?_ | refine gf ?_ | refine gu ?_) | ((with_reducible apply is_en); refine en ?_) | (with_reducible apply c_region) | refine ws ?_ | refine x_block_other (by decide) ?_)
      refine c_condb rfl (fun h => by cases h) (fun _ => ?_)
      repeat (first | ((with_reducible apply is_ld); first | refine kld hM ?_ | refine kldw hM ?_ | refine kle hM ?_ | refine klew hM ?_) | ((with_reducible apply is_sto); first | (refine kst hM ?_; intro w hM) | (refine kstw hM ?_; intro w hM)) | ((with_reducible apply is_st); refine su ?_) | ((with_reducible apply is_gd); first | refine gt ?_ | refine gf ?_ | refine gu ?_) | ((with_reducible apply is_en); refine en ?_) | (with_reducible apply c_region) | refine ws ?_ | refine x_block_other (by decide) ?_)
      have e8 : (I : Int).fdiv (2 ^ min (3 : Int).toNat IntKind.i64.bits) = ((I / 8 : Nat) : Int) := by
        rw [show (2 : Int) ^ min (3 : Int).toNat IntKind.i64.bits = ((8 : Nat) : Int) by rfl]
        exact (Int.ofNat_fdiv I 8).symm
      have e7 : (I : Int).fdiv (2 ^ min (3 : Int).toNat IntKind.i64.bits) = ((I / 8 : Nat) : Int) := e8
      rw [e8]
      have hk := k.2
      obtain ⟨x, hx⟩ : ∃ x, k.1[I / 8]? = some x := ⟨_, List.getElem?_eq_getElem (by omega)⟩
      have hB : Blk w b2 (k.1.map u8v) 28 := hM.blk (by (repeat constructor))
      (try ((with_reducible apply is_gd); first | refine gt ?_ | refine gf ?_ | refine gu ?_)); refine wl_val (r_indexAddr_arr (i := ((I / 8 : Nat) : Int)) rfl rfl (by omega) (by omega)) ?_
      refine ldb hB rfl (v := u8v x) (by rw [show 0 + ((I / 8 : Nat) : Int).toNat * 1 = I / 8 by omega, List.getElem?_map, hx]; rfl) ?_
      repeat (first | ((with_reducible apply is_ld); first | refine kld hM ?_ | refine kldw hM ?_ | refine kle hM ?_ | refine klew hM ?_) | ((with_reducible apply is_sto); first | (refine kst hM ?_; intro w hM) | (refine kstw hM ?_; intro w hM)) | ((with_reducible apply is_st); refine su ?_) | ((with_reducible apply is_gd); first | refine gt ?_ | refine gf ?_ | refine gu ?_) | ((with_reducible apply is_en); refine en ?_) | (with_reducible apply c_region) | refine ws ?_ | refine x_block_other (by decide) ?_)
      have ea : I &&& 7 = I % 8 := Nat.and_two_pow_sub_one_eq_mod I 3
      (try ((with_reducible apply is_gd); first | refine gt ?_ | refine gf ?_ | refine gu ?_)); refine wl_val (r_andN (a := I) (b := 7) (.inr rfl) rfl rfl (.inl (by omega)) (.inl (by omega))) ?_
      rw [ea]
      repeat (first | ((with_reducible apply is_ld); first | refine kld hM ?_ | refine kldw hM ?_ | refine kle hM ?_ | refine klew hM ?_) | ((with_reducible apply is_sto); first | (refine kst hM ?_; intro w hM) | (refine kstw hM ?_; intro w hM)) | ((with_reducible apply is_st); refine su ?_) | ((with_reducible apply is_gd); first | refine gt ?_ | refine gf ?_ | refine gu ?_) | ((with_reducible apply is_en); refine en ?_) | (with_reducible apply c_region) | refine ws ?_ | refine x_block_other (by decide) ?_)
      have es : ((x.toNat : Int)).fdiv (2 ^ min ((7 : Int) - ((I % 8 : Nat) : Int)).toNat IntKind.u8.bits) = ((x.toNat / 2 ^ (7 - I % 8) : Nat) : Int) := by
        rw [show min ((7 : Int) - ((I % 8 : Nat) : Int)).toNat IntKind.u8.bits = 7 - I % 8 by simp only [IntKind.bits]; omega]
        rw [show ((2 : Int) ^ (7 - I % 8)) = ((2 ^ (7 - I % 8) : Nat) : Int) by simp]
        exact (Int.ofNat_fdiv _ _).symm
      have hsm : x.toNat / 2 ^ (7 - I % 8) < 256 := Nat.lt_of_le_of_lt (Nat.div_le_self _ _) x.toNat_lt
      have ew : IntKind.i64.wrap ((x.toNat / 2 ^ (7 - I % 8) : Nat) : Int) = ((x.toNat / 2 ^ (7 - I % 8) : Nat) : Int) := (fun (q : Nat) (h : q < 256) => (wrap_rng (by exact rfl) (by omega) (by omega) : IntKind.i64.wrap (q : Int) = (q : Int))) _ hsm
      rw [es, ew]
      (try ((with_reducible apply is_gd); first | refine gt ?_ | refine gf ?_ | refine gu ?_)); refine wl_val (r_andN (a := x.toNat / 2 ^ (7 - I % 8)) (b := 1) (.inr rfl) rfl rfl (.inl (by omega)) (.inl (by omega))) ?_
      repeat (first | ((with_reducible apply is_ld); first | refine kld hM ?_ | refine kldw hM ?_ | refine kle hM ?_ | refine klew hM ?_) | ((with_reducible apply is_sto); first | (refine kst hM ?_; intro w hM) | (refine kstw hM ?_; intro w hM)) | ((with_reducible apply is_st); refine su ?_) | ((with_reducible apply is_gd); first | refine gt ?_ | refine gf ?_ | refine gu ?_) | ((with_reducible apply is_en); refine en ?_) | (with_reducible apply c_region) | refine ws ?_ | refine x_block_other (by decide) ?_)
      refine out1 rfl ⟨?_, hM.ch⟩
      rw [Nat.and_one_is_mod]
      unfold bitN
      rw [List.getD_eq_getElem?_getD, hx]
      rfl
theorem rbit_any (k : Hs) (i : Int) (w0 : World) : Calls Tryd.prog 80 #[hv k.1, .int .i64 i] w0 (Ret fun u w' => u = .int .i64 (bitZ k i : Int) ∧ Ch [] w0 w') := by
  have hM := Mem.start w0
  refine enter [hv k.1, .int .i64 i, undef, undef, undef, undef, undef, undef, undef, undef, undef, undef, undef, undef, undef, undef, undef, undef, undef, undef, undef, undef] Tryd.func80 rfl rfl ?_
  repeat (first | ((with_reducible apply is_ld); first | refine kld hM ?_ | refine kldw hM ?_ | refine kle hM ?_ | refine klew hM ?_) | ((with_reducible apply is_sto); first | (refine kst hM ?_; intro w hM) | (refine kstw hM ?_; intro w hM)) | ((with_reducible apply is_st); refine su ?_) | ((with_reducible apply is_gd); first | refine gt ?_ | refine gf ?_ | refine gu ?_) | ((with_reducible apply is_en); refine en ?_) | (with_reducible apply c_region) | refine ws ?_ | refine x_block_other (by decide) ?_)
  refine kbx hM (fun w b2 hM => ?_)
  unfold bitZ
  repeat (first | ((with_reducible apply is_ld); first | refine kld hM ?_ | refine kldw hM ?_ | refine kle hM ?_ | refine klew hM ?_) | ((with_reducible apply is_sto); first | (refine kst hM ?_; intro w hM) | (refine kstw hM ?_; intro w hM)) | ((with_reducible apply is_st); refine su ?_) | ((with_reducible apply is_gd); first | refine gt ?_ | refine gf ?_ | refine gu ?_) | ((with_reducible apply is_en); refine en ?_) | (with_reducible apply c_region) | refine ws ?_ | refine x_block_other (by decide) ?_)
  by_cases h0 : i < 0
  · rw [decide_eq_true h0, if_neg (by omega)]
    repeat (first | ((with_reducible apply is_ld); first | refine kld hM ?_ | refine kldw hM ?_ | refine kle hM ?_ | refine klew hM ?_) | ((with_reducible apply is_sto); first | (refine kst hM ?_; intro w hM) | (refine kstw hM ?_; intro w hM)) | ((with_reducible apply is_st); refine su ?_) | ((with_reducible apply is_gd); first | refine gt ?_ | refine gf ?_ | refine gu ?_) | ((with_reducible apply is_en); refine en ?_) | (with_reducible apply c_region) | refine ws ?_ | refine x_block_other (by decide) ?_)
    refine c_condb rfl (fun _ => ?_) (fun h => by cases h)
    repeat (first | ((with_reducible apply is_ld); first | refine kld hM ?_ | refine kldw hM ?_ | refine kle hM ?_ | refine klew hM ?_) | ((with_reducible apply is_sto); first | (refine kst hM ?_; intro w hM) | (refine kstw hM ?_; intro w hM)) | ((with_reducible apply is_st); refine su ?_) | ((with_reducible apply is_gd); first | refine gt ?_ | refine gf ?_ | refine gu ?_) | ((with_reducible apply is_en); refine en ?_) | (with_reducible apply c_region) | refine ws ?_ | refine x_block_other (by decide) ?_)
    exact out1 rfl ⟨rfl, hM.ch⟩
  · rw [decide_eq_false h0]
    repeat (first | ((with_reducible apply is_ld); first | refine kld hM ?_ | refine kldw hM ?_ | refine kle hM ?_ | refine klew hM ?_) | ((with_reducible apply is_sto); first | (refine kst hM ?_; intro w hM) | (refine kstw hM ?_; intro w hM)) | ((with_reducible apply is_st); refine su ?_) | ((with_reducible apply is_gd); first | refine gt ?_ | refine gf ?_ | refine gu ?_) | ((with_reducible apply is_en); refine en ?_) | (with_reducible apply c_region) | refine ws ?_ | refine x_block_other (by decide) ?_)
    by_cases h1 : i > 255
    · rw [decide_eq_true h1, if_neg (by omega)]
      repeat (first | ((with_reducible apply is_ld); first | refine kld hM ?_ | refine kldw hM ?_ | refine kle hM ?_ | refine klew hM ?_) | ((with_reducible apply is_sto); first | (refine kst hM ?_; intro w hM) | (refine kstw hM ?_; intro w hM)) | ((with_reducible apply is_st); refine su ?_) | ((with_reducible apply is_gd); first | refine gt ?_ | refine gf ?_ | refine gu ?_) | ((with_reducible apply is_en); refine en ?_) | (with_reducible apply c_region) | refine ws ?_ | refine x_block_other (by decide) ?_)
      refine c_condb rfl (fun _ => ?_) (fun h => by cases h)
      repeat (first | ((with_reducible apply is_ld); first | refine kld hM ?_ | refine kldw hM ?_ | refine kle hM ?_ | refine klew hM ?_) | ((with_reducible apply is_sto); first | (refine kst hM ?_; intro w hM) | (refine kstw hM ?_; intro w hM)) | ((with_reducible apply is_st); refine su ?_) | ((with_reducible apply is_gd); first | refine gt ?_ | refine gf ?_ | refine gu ?_) | ((with_reducible apply is_en); refine en ?_) | (with_reducible apply c_region) | refine ws ?_ | refine x_block_other (by decide) ?_)
      exact out1 rfl ⟨rfl, hM.ch⟩
    · rw [decide_eq_false h1, if_pos ⟨by omega, by omega⟩]
      obtain ⟨I, rfl⟩ := Int.eq_ofNat_of_zero_le (by omega : 0 ≤ i)
      rw [Int.toNat_natCast]
      repeat (first | ((with_reducible apply is_ld); first | refine kld hM ?_ | refine kldw hM ?_ | refine kle hM ?_ | refine klew hM ?_) | ((with_reducible apply is_sto); first | (refine kst hM ?_; intro w hM) | (refine kstw hM ?_; intro w hM)) | ((with_reducible apply is_st); refine su ?_) | ((with_reducible apply is_gd); first | refine gt ?_ | refine gf ?_ | refine gu ?_) | ((with_reducible apply is_en); refine en ?_) | (with_reducible apply c_region) | refine ws ?_ | refine x_block_other (by decide) ?_)
      refine c_condb rfl (fun h => by cases h) (fun _ => ?_)
      repeat (first | ((with_reducible apply is_ld); first | refine kld hM ?_ | refine kldw hM ?_ | refine kle hM ?_ | refine klew hM ?_) | ((with_reducible apply is_sto); first | (refine kst hM ?_; intro w hM) | (refine kstw hM ?_; intro w hM)) | ((with_reducible apply is_st); refine su ?_) | ((with_reducible apply is_gd); first | refine gt ?_ | refine gf ?_ | refine gu ?_) | ((with_reducible apply is_en); refine en ?_) | (with_reducible apply c_region) | refine ws ?_ | refine x_block_other (by decide) ?_)
      have e8 : IntKind.i64.wrap ((I : Int).tdiv 8) = ((I / 8 : Nat) : Int) := by
        rw [show (I : Int).tdiv 8 = ((I / 8 : Nat) : Int) from (Int.ofNat_tdiv I 8).symm]
        exact wrap_rng (by exact rfl) (by omega) (by omega)
      have e7 : (I : Int).tmod 8 = ((I % 8 : Nat) : Int) := (Int.ofNat_tmod I 8).symm
      rw [e8]
      have hk := k.2
      obtain ⟨x, hx⟩ : ∃ x, k.1[I / 8]? = some x := ⟨_, List.getElem?_eq_getElem (by omega)⟩
      have hB : Blk w b2 (k.1.map u8v) 28 := hM.blk (by (repeat constructor))
      (try ((with_reducible apply is_gd); first | refine gt ?_ | refine gf ?_ | refine gu ?_)); refine wl_val (r_indexAddr_arr (i := ((I / 8 : Nat) : Int)) rfl rfl (by omega) (by omega)) ?_
      refine ldb hB rfl (v := u8v x) (by rw [show 0 + ((I / 8 : Nat) : Int).toNat * 1 = I / 8 by omega, List.getElem?_map, hx]; rfl) ?_
      repeat (first | ((with_reducible apply is_ld); first | refine kld hM ?_ | refine kldw hM ?_ | refine kle hM ?_ | refine klew hM ?_) | ((with_reducible apply is_sto); first | (refine kst hM ?_; intro w hM) | (refine kstw hM ?_; intro w hM)) | ((with_reducible apply is_st); refine su ?_) | ((with_reducible apply is_gd); first | refine gt ?_ | refine gf ?_ | refine gu ?_) | ((with_reducible apply is_en); refine en ?_) | (with_reducible apply c_region) | refine ws ?_ | refine x_block_other (by decide) ?_)
      rw [e7]
      have es : ((x.toNat : Int)).fdiv (2 ^ min ((7 : Int) - ((I % 8 : Nat) : Int)).toNat IntKind.u8.bits) = ((x.toNat / 2 ^ (7 - I % 8) : Nat) : Int) := by
        rw [show min ((7 : Int) - ((I % 8 : Nat) : Int)).toNat IntKind.u8.bits = 7 - I % 8 by simp only [IntKind.bits]; omega]
        rw [show ((2 : Int) ^ (7 - I % 8)) = ((2 ^ (7 - I % 8) : Nat) : Int) by simp]
        exact (Int.ofNat_fdiv _ _).symm
      have hsm : x.toNat / 2 ^ (7 - I % 8) < 256 := Nat.lt_of_le_of_lt (Nat.div_le_self _ _) x.toNat_lt
      repeat (first | ((with_reducible apply is_ld); first | refine kld hM ?_ | refine kldw hM ?_ | refine kle hM ?_ | refine klew hM ?_) | ((with_reducible apply is_sto); first | (refine kst hM ?_; intro w hM) | (refine kstw hM ?_; intro w hM)) | ((with_reducible apply is_st); refine su ?_) | ((with_reducible apply is_gd); first | refine gt ?_ | refine gf ?_ | refine gu ?_) | ((with_reducible apply is_en); refine en ?_) | (with_reducible apply c_region) | refine ws ?_ | refine x_block_other (by decide) ?_)
      have ew : IntKind.i64.wrap ((x.toNat / 2 ^ (7 - I % 8) : Nat) : Int) = ((x.toNat / 2 ^ (7 - I % 8) : Nat) : Int) := (fun (q : Nat) (h : q < 256) => (wrap_rng (by exact rfl) (by omega) (by omega) : IntKind.i64.wrap (q : Int) = (q : Int))) _ hsm
      rw [es, ew]
      (try ((with_reducible apply is_gd); first | refine gt ?_ | refine gf ?_ | refine gu ?_)); refine wl_val (r_andN (a := x.toNat / 2 ^ (7 - I % 8)) (b := 1) (.inr rfl) rfl rfl (.inl (by omega)) (.inl (by omega))) ?_
      repeat (first | ((with_reducible apply is_ld); first | refine kld hM ?_ | refine kldw hM ?_ | refine kle hM ?_ | refine klew hM ?_) | ((with_reducible apply is_sto); first | (refine kst hM ?_; intro w hM) | (refine kstw hM ?_; intro w hM)) | ((with_reducible apply is_st); refine su ?_) | ((with_reducible apply is_gd); first | refine gt ?_ | refine gf ?_ | refine gu ?_) | ((with_reducible apply is_en); refine en ?_) | (with_reducible apply c_region) | refine ws ?_ | refine x_block_other (by decide) ?_)
      refine out1 rfl ⟨?_, hM.ch⟩
      rw [Nat.and_one_is_mod]
      unfold bitN
      rw [List.getD_eq_getElem?_getD, hx]
      rfl
end Go.Proofs.YtkpkfplcoakfcaaDoor
set_option linter.unusedVariables false
set_option linter.unusedSimpArgs false
namespace Go.Proofs.YtkpkfplcoakfcaaDoor
open Go Go.RowKit Go.Proofs.E
attribute [local irreducible] Go.wpList Go.Code.wp Go.Proofs.E.exec Go.Proofs.E.wpLexG
theorem tnothing_any (w0 : World) (hK : Laid w0) : Calls Tryd.prog 108 #[] w0 (Ret fun u w' => u = hv (shaH [5]).1 ∧ Ch [] w0 w') := by
  have hM := Mem.start w0
  refine enter [undef, undef] Tryd.func108 rfl rfl ?_
  repeat (first | ((with_reducible apply is_ld); first | refine kld hM ?_ | refine kldw hM ?_ | refine kle hM ?_ | refine klew hM ?_) | ((with_reducible apply is_sto); first | (refine kst hM ?_; intro w hM) | (refine kstw hM ?_; intro w hM)) | ((with_reducible apply is_st); refine su ?_) | ((with_reducible apply is_gd); first | refine gt ?_ | refine gf ?_ | refine gu ?_) | ((with_reducible apply is_en); refine en ?_) | (with_reducible apply c_region) | refine ws ?_ | refine x_block_other (by decide) ?_)
  refine kal hM (fun w b2 hM => ?_)
  repeat (first | ((with_reducible apply is_ld); first | refine kld hM ?_ | refine kldw hM ?_ | refine kle hM ?_ | refine klew hM ?_) | ((with_reducible apply is_sto); first | (refine kst hM ?_; intro w hM) | (refine kstw hM ?_; intro w hM)) | ((with_reducible apply is_st); refine su ?_) | ((with_reducible apply is_gd); first | refine gt ?_ | refine gf ?_ | refine gu ?_) | ((with_reducible apply is_en); refine en ?_) | (with_reducible apply c_region) | refine ws ?_ | refine x_block_other (by decide) ?_)
  refine kca hM ((fun q v ls w h1 => of_any q v ls w h1) 5 (.slice none 0 0) [] w (hK.ch hM.ch (by simp)) (Ty.Rd.nil _ _ _ _ _) (by decide)) (X := hv (shaH [5]).1) (fun w hM => ?_)
  refine kstw (vs := (shaH [5]).1.map u8v) hM (fun w hM => ?_)
  repeat (first | ((with_reducible apply is_ld); first | refine kld hM ?_ | refine kldw hM ?_ | refine kle hM ?_ | refine klew hM ?_) | ((with_reducible apply is_sto); first | (refine kst hM ?_; intro w hM) | (refine kstw hM ?_; intro w hM)) | ((with_reducible apply is_st); refine su ?_) | ((with_reducible apply is_gd); first | refine gt ?_ | refine gf ?_ | refine gu ?_) | ((with_reducible apply is_en); refine en ?_) | (with_reducible apply c_region) | refine ws ?_ | refine x_block_other (by decide) ?_)
  exact koc hM rfl ⟨rfl, hM.ch⟩
theorem rnothing_any (w0 : World) (hK : True) : Calls Tryd.prog 44 #[] w0 (Ret fun u w' => u = hv (shaH [5]).1 ∧ Ch [] w0 w') := by
  have hM := Mem.start w0
  refine enter [undef, undef] Tryd.func44 rfl rfl ?_
  repeat (first | ((with_reducible apply is_ld); first | refine kld hM ?_ | refine kldw hM ?_ | refine kle hM ?_ | refine klew hM ?_) | ((with_reducible apply is_sto); first | (refine kst hM ?_; intro w hM) | (refine kstw hM ?_; intro w hM)) | ((with_reducible apply is_st); refine su ?_) | ((with_reducible apply is_gd); first | refine gt ?_ | refine gf ?_ | refine gu ?_) | ((with_reducible apply is_en); refine en ?_) | (with_reducible apply c_region) | refine ws ?_ | refine x_block_other (by decide) ?_)
  refine kal hM (fun w b2 hM => ?_)
  repeat (first | ((with_reducible apply is_ld); first | refine kld hM ?_ | refine kldw hM ?_ | refine kle hM ?_ | refine klew hM ?_) | ((with_reducible apply is_sto); first | (refine kst hM ?_; intro w hM) | (refine kstw hM ?_; intro w hM)) | ((with_reducible apply is_st); refine su ?_) | ((with_reducible apply is_gd); first | refine gt ?_ | refine gf ?_ | refine gu ?_) | ((with_reducible apply is_en); refine en ?_) | (with_reducible apply c_region) | refine ws ?_ | refine x_block_other (by decide) ?_)
  refine kca hM ((fun q v ls w (_ : True) => rof_any q v ls w) 5 (.slice none 0 0) [] w (hK) (Ty.Rd.nil _ _ _ _ _) (by decide)) (X := hv (shaH [5]).1) (fun w hM => ?_)
  refine kstw (vs := (shaH [5]).1.map u8v) hM (fun w hM => ?_)
  repeat (first | ((with_reducible apply is_ld); first | refine kld hM ?_ | refine kldw hM ?_ | refine kle hM ?_ | refine klew hM ?_) | ((with_reducible apply is_sto); first | (refine kst hM ?_; intro w hM) | (refine kstw hM ?_; intro w hM)) | ((with_reducible apply is_st); refine su ?_) | ((with_reducible apply is_gd); first | refine gt ?_ | refine gf ?_ | refine gu ?_) | ((with_reducible apply is_en); refine en ?_) | (with_reducible apply c_region) | refine ws ?_ | refine x_block_other (by decide) ?_)
  exact koc hM rfl ⟨rfl, hM.ch⟩
end Go.Proofs.YtkpkfplcoakfcaaDoor
set_option linter.unusedVariables false
set_option linter.unusedSimpArgs false
namespace Go.Proofs.YtkpkfplcoakfcaaDoor
open Go Go.RowKit Go.Proofs.E
attribute [local irreducible] Go.wpList Go.Code.wp Go.Proofs.E.exec Go.Proofs.E.wpLexG
@[simp] theorem hs_len (a : Hs) : a.1.length = 32 := a.2
@[simp] theorem hs_take (a : Hs) : (a.1.map u8v).take 32 = a.1.map u8v := List.take_of_length_le (by simp)
@[simp] theorem hs_takeA (a : Hs) (r : List Value) : (a.1.map u8v ++ r).take 32 = a.1.map u8v := List.take_left' (by simp)
@[simp] theorem hs_dropA (a : Hs) (r : List Value) : (a.1.map u8v ++ r).drop 32 = r := List.drop_left' (by simp)
theorem hs_get (a : Hs) (x : Value) (r : List Value) : (a.1.map u8v ++ x :: r)[32]? = some x := by
  rw [List.getElem?_append_right (by simp)]
  simp
theorem hs_get1 (a : Hs) (x y : Value) (r : List Value) : (a.1.map u8v ++ x :: y :: r)[33]? = some y := by
  rw [List.getElem?_append_right (by simp)]
  simp
theorem hs_takeB (a b : Hs) : ((b.1.map u8v ++ a.1.map u8v).drop 32).take 32 = a.1.map u8v := by simp
theorem kldh {P : Program} {ops : Array Oper} {Q : Exit → Act → World → Prop} {rest : List Oper} {l l' : List Value} {O : List Nat} {w0 w : World} {L L' : List As} {T : TypeId} {pos : String} {after : Array Edge} {d : Nat} {x : Operand} {E E' : TypeId} {b o by_ : Nat} {cs : List Value} {z : Value} {a : Hs} [hr : Row P E] [hi : Inf P E z 32 by_] (hM : Mem O w0 w L) (h : wpList P ops Q rest (fr l') w)
    (hx : ev l x = .pointer (some ⟨b, o, none⟩) := by exact rfl) (hp : Pick L (.cell b cs E') L' := by (repeat (first | exact Go.Proofs.E.Pick.here | apply Go.Proofs.E.Pick.there))) (hd : (cs.drop o).take 32 = a.1.map u8v := by first | exact hs_take _ | exact hs_takeA _ _ | exact hs_takeB _ _)
    (hl : l.set d (.agg (a.1.map u8v).toArray) = l' := by first | (dsimp only [List.set, Go.Proofs.E.set1, Go.Proofs.E.ev, Go.Proofs.E.nth]; done) | exact rfl) :
    wpList P ops Q ({ dst := some d, op := .load E x, type := T, pos := pos, after := after, guard := none } :: rest) (fr l) w := by
  subst hl
  exact kldp (a.1.map u8v) hM hd h hx hp (by simp) rfl
theorem kldhg {P : Program} {ops : Array Oper} {Q : Exit → Act → World → Prop} {rest : List Oper} {l l' : List Value} {O : List Nat} {w0 w : World} {L L' : List As} {k zz : Nat} {listed : Array Bool} {T : TypeId} {pos : String} {after : Array Edge} {d : Nat} {x : Operand} {E E' : TypeId} {b o by_ : Nat} {cs : List Value} {z : Value} {a : Hs} [hr : Row P E] [hi : Inf P E z 32 by_] (hM : Mem O w0 w L) (h : wpLexG P ops (Ch []) Q zz rest (k + 1) (listed.setIfInBounds k true) (fr l') w)
    (hx : ev l x = .pointer (some ⟨b, o, none⟩) := by exact rfl) (hp : Pick L (.cell b cs E') L' := by (repeat (first | exact Go.Proofs.E.Pick.here | apply Go.Proofs.E.Pick.there))) (hd : (cs.drop o).take 32 = a.1.map u8v := by first | exact hs_take _ | exact hs_takeA _ _ | exact hs_takeB _ _)
    (hl : l.set d (.agg (a.1.map u8v).toArray) = l' := by first | (dsimp only [List.set, Go.Proofs.E.set1, Go.Proofs.E.ev, Go.Proofs.E.nth]; done) | exact rfl) :
    wpLexG P ops (Ch []) Q zz ({ dst := some d, op := .load E x, type := T, pos := pos, after := after, guard := none } :: rest) k listed (fr l) w := by
  subst hl
  exact ldbrg (hM.blk hp) (by simp) hx hd (by simp) h
theorem rof3 {w : World} {v1 v2 : SlV} {a b : List UInt8} (h1 : tU8.Rd [] w (slv v1) a) (h2 : tU8.Rd [] w (slv v2) b) : ∀ p ∈ [(v1, a), (v2, b)], tU8.Rd [] w (slv p.1) p.2 := fun p hp => by
  simp only [List.mem_cons, List.not_mem_nil, or_false] at hp
  rcases hp with rfl | rfl
  · exact h1
  · exact h2
theorem rof33 {w : World} {v1 v2 v3 : SlV} {a b c : List UInt8} (h1 : tU8.Rd [] w (slv v1) a) (h2 : tU8.Rd [] w (slv v2) b) (h3 : tU8.Rd [] w (slv v3) c) : ∀ p ∈ [(v1, a), (v2, b), (v3, c)], tU8.Rd [] w (slv p.1) p.2 := fun p hp => by
  simp only [List.mem_cons, List.not_mem_nil, or_false] at hp
  rcases hp with rfl | rfl | rfl
  · exact h1
  · exact h2
  · exact h3
def itemH (k v : Hs) : Hs := shaH (3 :: (k.1 ++ v.1))
def forkH (bit : Int) (a b : Hs) : Hs := shaH (4 :: UInt8.ofNat bit.toNat :: (a.1 ++ b.1))
set_option maxHeartbeats 4000000 in
theorem titem_any (k v : Hs) (w0 : World) (hK : Laid w0) : Calls Tryd.prog 109 #[hv k.1, hv v.1] w0 (Ret fun u w' => u = hv (itemH k v).1 ∧ Ch [] w0 w') := by
  have hM := Mem.start w0
  refine enter [hv k.1, hv v.1, undef, undef, undef, undef, undef, undef, undef] Tryd.func109 rfl rfl ?_
  repeat (first | ((with_reducible apply is_ld); first | refine kld hM ?_ | refine kldw hM ?_ | refine kle hM ?_ | refine klew hM ?_) | ((with_reducible apply is_sto); first | (refine kst hM ?_; intro w hM) | (refine kstw hM ?_; intro w hM)) | ((with_reducible apply is_st); refine su ?_) | ((with_reducible apply is_gd); first | refine gt ?_ | refine gf ?_ | refine gu ?_) | ((with_reducible apply is_en); refine en ?_) | (with_reducible apply c_region) | refine ws ?_ | refine x_block_other (by decide) ?_)
  refine kbx hM (fun w b2 hM => ?_)
  refine kbx hM (fun w b3 hM => ?_)
  refine kal hM (fun w b4 hM => ?_)
  have hM : Mem [] w0 w [.cell b4 ((List.replicate 32 (0 : UInt8)).map u8v) 28, .cell b3 (v.1.map u8v) 28, .cell b2 (k.1.map u8v) 28] := hM
  repeat (first | ((with_reducible apply is_ld); first | refine kld hM ?_ | refine kldw hM ?_ | refine kle hM ?_ | refine klew hM ?_) | ((with_reducible apply is_sto); first | (refine kst hM ?_; intro w hM) | (refine kstw hM ?_; intro w hM)) | ((with_reducible apply is_st); refine su ?_) | ((with_reducible apply is_gd); first | refine gt ?_ | refine gf ?_ | refine gu ?_) | ((with_reducible apply is_en); refine en ?_) | (with_reducible apply c_region) | refine ws ?_ | refine x_block_other (by decide) ?_)
  refine kdrl 4 hM (by kernel_rfl) (by kernel_rfl) (by kernel_rfl) (fun w hM => ?_)
  refine wg_val (fun _ _ => r_cut_arr0 rfl) ?_
  refine wg_val (fun _ _ => r_cut_arr0 rfl) ?_
  refine lastg rfl (by kernel_rfl) (fun w hc => ?_)
  have hM := hM.call hc
  refine kbsC (en := eSl) (vs := [slv (some ⟨b2, 0, none⟩, 32, 32), slv (some ⟨b3, 0, none⟩, 32, 32)]) [(some ⟨b2, 0, none⟩, 32, 32), (some ⟨b3, 0, none⟩, 32, 32)] hM (fun w b60 hc hM => ?_)
  refine x_mid rfl hc ?_
  refine lastg rfl (by kernel_rfl) (fun w hc => ?_)
  have hM := hM.call hc
  have hRb := hM.rows8 (ps := [((some ⟨b2, 0, none⟩, 32, 32), k.1), ((some ⟨b3, 0, none⟩, 32, 32), v.1)]) (by (repeat constructor)) (rof3 (hM.cell8 (b := b2) (o := 0) (by (repeat constructor)) (by simp) k.2) (hM.cell8 (b := b3) (o := 0) (by (repeat constructor)) (by simp) v.2))
  have hof := of_any 3 _ _ w (hK.ch hM.ch (by simp)) hRb (by simp)
  rw [show shaOf (3 :: (List.map (fun p : SlV × List UInt8 => p.2) [((some ⟨b2, 0, none⟩, 32, 32), k.1), ((some ⟨b3, 0, none⟩, 32, 32), v.1)]).flatten) = (itemH k v).1 by simp [itemH, shaH]] at hof
  refine ca hof ?_
  rintro _ w2 ⟨rfl, hc2⟩
  have hM := hM.call hc2
  refine x_mid rfl hc2 ?_
  refine lastg rfl (by kernel_rfl) (fun w hc => ?_)
  have hM := hM.call hc
  refine kstw (vs := (itemH k v).1.map u8v) hM (fun w hM => ?_)
  refine x_late rfl rfl ?_
  repeat (first | ((with_reducible apply is_sg); refine sgu ?_) | ((with_reducible apply is_gg); first | refine gtg ?_ | refine gfg ?_ | refine gug ?_) | ((with_reducible apply is_eg); refine eg ?_))
  (intro w hc; have hM := hM.call hc)
  repeat (first | ((with_reducible apply is_ld); first | refine kld hM ?_ | refine kldw hM ?_ | refine kle hM ?_ | refine klew hM ?_) | ((with_reducible apply is_sto); first | (refine kst hM ?_; intro w hM) | (refine kstw hM ?_; intro w hM)) | ((with_reducible apply is_st); refine su ?_) | ((with_reducible apply is_gd); first | refine gt ?_ | refine gf ?_ | refine gu ?_) | ((with_reducible apply is_en); refine en ?_) | (with_reducible apply c_region) | refine ws ?_ | refine x_block_other (by decide) ?_)
  exact koc hM rfl ⟨rfl, hM.ch⟩
set_option maxHeartbeats 4000000 in
theorem ritem_any (k v : Hs) (w0 : World) (hK : True) : Calls Tryd.prog 45 #[hv k.1, hv v.1] w0 (Ret fun u w' => u = hv (itemH k v).1 ∧ Ch [] w0 w') := by
  have hM := Mem.start w0
  refine enter [hv k.1, hv v.1, undef, undef, undef, undef, undef, undef, undef] Tryd.func45 rfl rfl ?_
  repeat (first | ((with_reducible apply is_ld); first | refine kld hM ?_ | refine kldw hM ?_ | refine kle hM ?_ | refine klew hM ?_) | ((with_reducible apply is_sto); first | (refine kst hM ?_; intro w hM) | (refine kstw hM ?_; intro w hM)) | ((with_reducible apply is_st); refine su ?_) | ((with_reducible apply is_gd); first | refine gt ?_ | refine gf ?_ | refine gu ?_) | ((with_reducible apply is_en); refine en ?_) | (with_reducible apply c_region) | refine ws ?_ | refine x_block_other (by decide) ?_)
  refine kbx hM (fun w b2 hM => ?_)
  refine kbx hM (fun w b3 hM => ?_)
  refine kal hM (fun w b4 hM => ?_)
  have hM : Mem [] w0 w [.cell b4 ((List.replicate 32 (0 : UInt8)).map u8v) 28, .cell b3 (v.1.map u8v) 28, .cell b2 (k.1.map u8v) 28] := hM
  repeat (first | ((with_reducible apply is_ld); first | refine kld hM ?_ | refine kldw hM ?_ | refine kle hM ?_ | refine klew hM ?_) | ((with_reducible apply is_sto); first | (refine kst hM ?_; intro w hM) | (refine kstw hM ?_; intro w hM)) | ((with_reducible apply is_st); refine su ?_) | ((with_reducible apply is_gd); first | refine gt ?_ | refine gf ?_ | refine gu ?_) | ((with_reducible apply is_en); refine en ?_) | (with_reducible apply c_region) | refine ws ?_ | refine x_block_other (by decide) ?_)
  refine kdrl 4 hM (by kernel_rfl) (by kernel_rfl) (by kernel_rfl) (fun w hM => ?_)
  refine wg_val (fun _ _ => r_cut_arr0 rfl) ?_
  refine wg_val (fun _ _ => r_cut_arr0 rfl) ?_
  refine lastg rfl (by kernel_rfl) (fun w hc => ?_)
  have hM := hM.call hc
  refine kbsC (en := eSl) (vs := [slv (some ⟨b2, 0, none⟩, 32, 32), slv (some ⟨b3, 0, none⟩, 32, 32)]) [(some ⟨b2, 0, none⟩, 32, 32), (some ⟨b3, 0, none⟩, 32, 32)] hM (fun w b60 hc hM => ?_)
  refine x_mid rfl hc ?_
  refine lastg rfl (by kernel_rfl) (fun w hc => ?_)
  have hM := hM.call hc
  have hRb := hM.rows8 (ps := [((some ⟨b2, 0, none⟩, 32, 32), k.1), ((some ⟨b3, 0, none⟩, 32, 32), v.1)]) (by (repeat constructor)) (rof3 (hM.cell8 (b := b2) (o := 0) (by (repeat constructor)) (by simp) k.2) (hM.cell8 (b := b3) (o := 0) (by (repeat constructor)) (by simp) v.2))
  have hof := (fun q v ls w (_ : True) => rof_any q v ls w) 3 _ _ w hK hRb (by simp)
  rw [show shaOf (3 :: (List.map (fun p : SlV × List UInt8 => p.2) [((some ⟨b2, 0, none⟩, 32, 32), k.1), ((some ⟨b3, 0, none⟩, 32, 32), v.1)]).flatten) = (itemH k v).1 by simp [itemH, shaH]] at hof
  refine ca hof ?_
  rintro _ w2 ⟨rfl, hc2⟩
  have hM := hM.call hc2
  refine x_mid rfl hc2 ?_
  refine lastg rfl (by kernel_rfl) (fun w hc => ?_)
  have hM := hM.call hc
  refine kstw (vs := (itemH k v).1.map u8v) hM (fun w hM => ?_)
  refine x_late rfl rfl ?_
  repeat (first | ((with_reducible apply is_sg); refine sgu ?_) | ((with_reducible apply is_gg); first | refine gtg ?_ | refine gfg ?_ | refine gug ?_) | ((with_reducible apply is_eg); refine eg ?_))
  (intro w hc; have hM := hM.call hc)
  repeat (first | ((with_reducible apply is_ld); first | refine kld hM ?_ | refine kldw hM ?_ | refine kle hM ?_ | refine klew hM ?_) | ((with_reducible apply is_sto); first | (refine kst hM ?_; intro w hM) | (refine kstw hM ?_; intro w hM)) | ((with_reducible apply is_st); refine su ?_) | ((with_reducible apply is_gd); first | refine gt ?_ | refine gf ?_ | refine gu ?_) | ((with_reducible apply is_en); refine en ?_) | (with_reducible apply c_region) | refine ws ?_ | refine x_block_other (by decide) ?_)
  exact koc hM rfl ⟨rfl, hM.ch⟩
set_option maxHeartbeats 4000000 in
theorem tfork_any (i : Int) (h0 : 0 ≤ i) (h1 : i ≤ 255) (k v : Hs) (w0 : World) (hK : Laid w0) : Calls Tryd.prog 112 #[.int .i64 i, hv k.1, hv v.1] w0 (Ret fun u w' => u = hv (forkH i k v).1 ∧ Ch [] w0 w') := by
  have hM := Mem.start w0
  obtain ⟨I, rfl⟩ := Int.eq_ofNat_of_zero_le h0
  have hu : u8v (UInt8.ofNat I) = .int .u8 (I : Int) := by
    unfold u8v
    rw [UInt8.toNat_ofNat', Nat.mod_eq_of_lt (by omega)]
  refine enter [.int .i64 (I : Int), hv k.1, hv v.1, undef, undef, undef, undef, undef, undef, undef, undef, undef, undef, undef] Tryd.func112 rfl rfl ?_
  repeat (first | ((with_reducible apply is_ld); first | refine kld hM ?_ | refine kldw hM ?_ | refine kle hM ?_ | refine klew hM ?_) | ((with_reducible apply is_sto); first | (refine kst hM ?_; intro w hM) | (refine kstw hM ?_; intro w hM)) | ((with_reducible apply is_st); refine su ?_) | ((with_reducible apply is_gd); first | refine gt ?_ | refine gf ?_ | refine gu ?_) | ((with_reducible apply is_en); refine en ?_) | (with_reducible apply c_region) | refine ws ?_ | refine x_block_other (by decide) ?_)
  refine kbx hM (fun w b2 hM => ?_)
  refine kbx hM (fun w b3 hM => ?_)
  refine kal hM (fun w b4 hM => ?_)
  have hM : Mem [] w0 w [.cell b4 ((List.replicate 32 (0 : UInt8)).map u8v) 28, .cell b3 (v.1.map u8v) 28, .cell b2 (k.1.map u8v) 28] := hM
  repeat (first | ((with_reducible apply is_ld); first | refine kld hM ?_ | refine kldw hM ?_ | refine kle hM ?_ | refine klew hM ?_) | ((with_reducible apply is_sto); first | (refine kst hM ?_; intro w hM) | (refine kstw hM ?_; intro w hM)) | ((with_reducible apply is_st); refine su ?_) | ((with_reducible apply is_gd); first | refine gt ?_ | refine gf ?_ | refine gu ?_) | ((with_reducible apply is_en); refine en ?_) | (with_reducible apply c_region) | refine ws ?_ | refine x_block_other (by decide) ?_)
  refine c_ordY ([], []) [b4] (by kernel_rfl) (by kernel_rfl) (by kernel_rfl) (fun w hc hs => ?_)
  have hM := hM.call hc
  (first | refine yn 0 rfl ?_ | refine ynt 0 rfl ?_ | refine ynff 0 rfl ?_); (first | refine yn 1 rfl ?_ | refine ynt 1 rfl ?_ | refine ynff 1 rfl ?_)
  rw [← hu]
  refine ynp 3 rfl (by kernel_rfl) (by kernel_rfl) (fun _ => r_cut_arr0 rfl) rfl ?_
  refine ynp 4 rfl (by kernel_rfl) (by kernel_rfl) (fun _ => r_cut_arr0 rfl) rfl ?_
  refine yk1 2 hM (by kernel_rfl) rfl (fun w h0 hM => ?_)
  refine kbsC (en := eU8) (vs := [u8v (UInt8.ofNat I)]) [UInt8.ofNat I] hM (fun w b59 hc hM => ?_) (hm := by intro v hv; simp at hv; subst hv; rfl)
  refine x_wy (.inl (hc.gy h0)) rfl ?_
  refine yk1 5 hM (by kernel_rfl) rfl (fun w h0 hM => ?_)
  refine kbsC (en := eSl) (vs := [slv (some ⟨b59, 0, none⟩, 1, 1), slv (some ⟨b2, 0, none⟩, 32, 32), slv (some ⟨b3, 0, none⟩, 32, 32)]) [(some ⟨b59, 0, none⟩, 1, 1), (some ⟨b2, 0, none⟩, 32, 32), (some ⟨b3, 0, none⟩, 32, 32)] hM (fun w b60 hc hM => ?_)
  refine x_wy (.inl (hc.gy h0)) rfl ?_
  refine yk1 6 hM (by kernel_rfl) rfl (fun w h0 hM => ?_)
  have hRb := hM.rows8 (ps := [((some ⟨b59, 0, none⟩, 1, 1), [UInt8.ofNat I]), ((some ⟨b2, 0, none⟩, 32, 32), k.1), ((some ⟨b3, 0, none⟩, 32, 32), v.1)]) (by (repeat constructor)) (rof33 (hM.rowRdO (en := eU8) (by (repeat constructor))) (hM.cell8 (b := b2) (o := 0) (by (repeat constructor)) (by simp) k.2) (hM.cell8 (b := b3) (o := 0) (by (repeat constructor)) (by simp) v.2))
  have hof := of_any 4 _ _ w (hK.ch hM.ch (by simp)) hRb (by simp)
  rw [show shaOf (4 :: (List.map (fun p : SlV × List UInt8 => p.2) [((some ⟨b59, 0, none⟩, 1, 1), [UInt8.ofNat I]), ((some ⟨b2, 0, none⟩, 32, 32), k.1), ((some ⟨b3, 0, none⟩, 32, 32), v.1)]).flatten) = (forkH (I : Int) k v).1 by simp [forkH, shaH]] at hof
  refine ca hof ?_
  rintro _ w2 ⟨rfl, hc2⟩
  have hM := hM.call hc2
  refine x_wy (.inl (hc2.gy h0)) rfl ?_
  refine yst (n := 32) (vs := (forkH (I : Int) k v).1.map u8v) 7 (by kernel_rfl) rfl (hM.blk (b := b4) (by (repeat constructor))) (.inr (by simp)) rfl rfl (by simp) (by simp) one_u8 (fun w hB hc => ?_)
  have hM := hM.cellSet hB hc
  refine wy_done (by kernel_rfl) (fun w hc => ?_)
  have hM := hM.call hc
  repeat (first | ((with_reducible apply is_ld); first | refine kld hM ?_ | refine kldw hM ?_ | refine kle hM ?_ | refine klew hM ?_) | ((with_reducible apply is_sto); first | (refine kst hM ?_; intro w hM) | (refine kstw hM ?_; intro w hM)) | ((with_reducible apply is_st); refine su ?_) | ((with_reducible apply is_gd); first | refine gt ?_ | refine gf ?_ | refine gu ?_) | ((with_reducible apply is_en); refine en ?_) | (with_reducible apply c_region) | refine ws ?_ | refine x_block_other (by decide) ?_)
  exact koc hM rfl ⟨rfl, hM.ch⟩
set_option maxHeartbeats 4000000 in
theorem rfork_any (i : Int) (h0 : 0 ≤ i) (h1 : i ≤ 255) (k v : Hs) (w0 : World) (hK : True) : Calls Tryd.prog 47 #[.int .i64 i, hv k.1, hv v.1] w0 (Ret fun u w' => u = hv (forkH i k v).1 ∧ Ch [] w0 w') := by
  have hM := Mem.start w0
  obtain ⟨I, rfl⟩ := Int.eq_ofNat_of_zero_le h0
  have hu : u8v (UInt8.ofNat I) = .int .u8 (I : Int) := by
    unfold u8v
    rw [UInt8.toNat_ofNat', Nat.mod_eq_of_lt (by omega)]
  refine enter [.int .i64 (I : Int), hv k.1, hv v.1, undef, undef, undef, undef, undef, undef, undef, undef, undef, undef, undef] Tryd.func47 rfl rfl ?_
  repeat (first | ((with_reducible apply is_ld); first | refine kld hM ?_ | refine kldw hM ?_ | refine kle hM ?_ | refine klew hM ?_) | ((with_reducible apply is_sto); first | (refine kst hM ?_; intro w hM) | (refine kstw hM ?_; intro w hM)) | ((with_reducible apply is_st); refine su ?_) | ((with_reducible apply is_gd); first | refine gt ?_ | refine gf ?_ | refine gu ?_) | ((with_reducible apply is_en); refine en ?_) | (with_reducible apply c_region) | refine ws ?_ | refine x_block_other (by decide) ?_)
  refine kbx hM (fun w b2 hM => ?_)
  refine kbx hM (fun w b3 hM => ?_)
  refine kal hM (fun w b4 hM => ?_)
  have hM : Mem [] w0 w [.cell b4 ((List.replicate 32 (0 : UInt8)).map u8v) 28, .cell b3 (v.1.map u8v) 28, .cell b2 (k.1.map u8v) 28] := hM
  repeat (first | ((with_reducible apply is_ld); first | refine kld hM ?_ | refine kldw hM ?_ | refine kle hM ?_ | refine klew hM ?_) | ((with_reducible apply is_sto); first | (refine kst hM ?_; intro w hM) | (refine kstw hM ?_; intro w hM)) | ((with_reducible apply is_st); refine su ?_) | ((with_reducible apply is_gd); first | refine gt ?_ | refine gf ?_ | refine gu ?_) | ((with_reducible apply is_en); refine en ?_) | (with_reducible apply c_region) | refine ws ?_ | refine x_block_other (by decide) ?_)
  refine c_ordY ([], []) [b4] (by kernel_rfl) (by kernel_rfl) (by kernel_rfl) (fun w hc hs => ?_)
  have hM := hM.call hc
  (first | refine yn 0 rfl ?_ | refine ynt 0 rfl ?_ | refine ynff 0 rfl ?_); (first | refine yn 1 rfl ?_ | refine ynt 1 rfl ?_ | refine ynff 1 rfl ?_)
  rw [← hu]
  refine ynp 3 rfl (by kernel_rfl) (by kernel_rfl) (fun _ => r_cut_arr0 rfl) rfl ?_
  refine ynp 4 rfl (by kernel_rfl) (by kernel_rfl) (fun _ => r_cut_arr0 rfl) rfl ?_
  refine yk1 2 hM (by kernel_rfl) rfl (fun w h0 hM => ?_)
  refine kbsC (en := eU8) (vs := [u8v (UInt8.ofNat I)]) [UInt8.ofNat I] hM (fun w b59 hc hM => ?_) (hm := by intro v hv; simp at hv; subst hv; rfl)
  refine x_wy (.inl (hc.gy h0)) rfl ?_
  refine yk1 5 hM (by kernel_rfl) rfl (fun w h0 hM => ?_)
  refine kbsC (en := eSl) (vs := [slv (some ⟨b59, 0, none⟩, 1, 1), slv (some ⟨b2, 0, none⟩, 32, 32), slv (some ⟨b3, 0, none⟩, 32, 32)]) [(some ⟨b59, 0, none⟩, 1, 1), (some ⟨b2, 0, none⟩, 32, 32), (some ⟨b3, 0, none⟩, 32, 32)] hM (fun w b60 hc hM => ?_)
  refine x_wy (.inl (hc.gy h0)) rfl ?_
  refine yk1 6 hM (by kernel_rfl) rfl (fun w h0 hM => ?_)
  have hRb := hM.rows8 (ps := [((some ⟨b59, 0, none⟩, 1, 1), [UInt8.ofNat I]), ((some ⟨b2, 0, none⟩, 32, 32), k.1), ((some ⟨b3, 0, none⟩, 32, 32), v.1)]) (by (repeat constructor)) (rof33 (hM.rowRdO (en := eU8) (by (repeat constructor))) (hM.cell8 (b := b2) (o := 0) (by (repeat constructor)) (by simp) k.2) (hM.cell8 (b := b3) (o := 0) (by (repeat constructor)) (by simp) v.2))
  have hof := (fun q v ls w (_ : True) => rof_any q v ls w) 4 _ _ w hK hRb (by simp)
  rw [show shaOf (4 :: (List.map (fun p : SlV × List UInt8 => p.2) [((some ⟨b59, 0, none⟩, 1, 1), [UInt8.ofNat I]), ((some ⟨b2, 0, none⟩, 32, 32), k.1), ((some ⟨b3, 0, none⟩, 32, 32), v.1)]).flatten) = (forkH (I : Int) k v).1 by simp [forkH, shaH]] at hof
  refine ca hof ?_
  rintro _ w2 ⟨rfl, hc2⟩
  have hM := hM.call hc2
  refine x_wy (.inl (hc2.gy h0)) rfl ?_
  refine yst (n := 32) (vs := (forkH (I : Int) k v).1.map u8v) 7 (by kernel_rfl) rfl (hM.blk (b := b4) (by (repeat constructor))) (.inr (by simp)) rfl rfl (by simp) (by simp) one_u8 (fun w hB hc => ?_)
  have hM := hM.cellSet hB hc
  refine wy_done (by kernel_rfl) (fun w hc => ?_)
  have hM := hM.call hc
  repeat (first | ((with_reducible apply is_ld); first | refine kld hM ?_ | refine kldw hM ?_ | refine kle hM ?_ | refine klew hM ?_) | ((with_reducible apply is_sto); first | (refine kst hM ?_; intro w hM) | (refine kstw hM ?_; intro w hM)) | ((with_reducible apply is_st); refine su ?_) | ((with_reducible apply is_gd); first | refine gt ?_ | refine gf ?_ | refine gu ?_) | ((with_reducible apply is_en); refine en ?_) | (with_reducible apply c_region) | refine ws ?_ | refine x_block_other (by decide) ?_)
  exact koc hM rfl ⟨rfl, hM.ch⟩
end Go.Proofs.YtkpkfplcoakfcaaDoor
set_option linter.unusedVariables false
set_option linter.unusedSimpArgs false
namespace Go.Proofs.YtkpkfplcoakfcaaDoor
open Go Go.RowKit Go.Proofs.E
attribute [local irreducible] Go.wpList Go.Code.wp Go.Proofs.E.exec Go.Proofs.E.wpLexG
abbrev eSt : En (Int × Hs) := { f := fun s => .int .i64 s.1 :: s.2.1.map u8v, n := 33, hl := fun s => by simp, h1 := fun s u hu => (List.mem_cons.1 hu).elim (fun h => h ▸ rfl) (fun h => one_u8 u h) }
abbrev pC (sp : Value) (lf : Bool) (k v : Hs) : List Value := sp :: .bool lf :: (k.1.map u8v ++ v.1.map u8v)
def goodSt : Int → List (Int × Hs) → Bool
  | _, [] => true
  | last, s :: r => decide (last < s.1) && decide (s.1 ≤ 255) && goodSt s.1 r
def endB (n : Nat) (k v : Hs) : Bool := decide (n = 0) && (decide (k.1 = zeroH.1) && decide (v.1 = zeroH.1))
def goodP (st : List (Int × Hs)) (lf : Bool) (k v : Hs) : Bool := goodSt (-1) st && (lf || endB st.length k v)
theorem end_cmp (n : Nat) (k v : Hs) : CmpFs Tryd.prog 9999 (.int .i64 (n : Int) :: (k.1.map u8v ++ v.1.map u8v)) (.int .i64 0 :: (zeroH.1.map u8v ++ zeroH.1.map u8v)) (Tryd.prog.fieldsOf 164).toList (endB n k v) := by
  have e : endB n k v = (((n : Int) == 0) && (decide (k.1 = zeroH.1) && (decide (v.1 = zeroH.1) && true))) := by
    unfold endB
    rw [Bool.and_true]
    congr 1
    rw [Bool.eq_iff_iff]
    simp
  rw [e]
  simp only [Program.fieldsOf, Tryd.underlying164]
  exact .cons (by decide) (cmp_int (t := 3)) rfl rfl (.cons (by decide) (cmp_arr8 (t := 28) (e := 5) k.2 zeroH.2) (by simp) (by simp) (.cons (by decide) (cmp_arr8 (t := 28) (e := 5) v.2 zeroH.2) (by simp) (by simp) .nil))
set_option maxHeartbeats 8000000 in
theorem mgood_any (sp : Value) (lf : Bool) (k v : Hs) (st : List (Int × Hs)) (w0 : World) (hR : (Ty.enc eSt).Rd [] w0 sp st) :
    Calls Tryd.prog 107 #[.agg (pC sp lf k v).toArray] w0 (Ret fun u w' => u = .bool (goodP st lf k v) ∧ Ch [] w0 w') := by
  have hM := Mem.start w0
  have hle := hR.le
  obtain ⟨A, c, rfl⟩ := hR.form
  refine enter [.agg (pC (.slice A st.length c) lf k v).toArray, undef, undef, undef, undef, undef, undef, undef, undef, undef, undef, undef, undef, undef, undef, undef, undef, undef, undef, undef, undef, undef, undef, undef, undef, undef, undef, undef, undef, undef, undef, undef, undef, undef, undef, undef, undef, undef, undef] Tryd.func107 rfl rfl ?_
  repeat (first | ((with_reducible apply is_ld); first | refine kld hM ?_ | refine kldw hM ?_ | refine kle hM ?_ | refine klew hM ?_) | ((with_reducible apply is_sto); first | (refine kst hM ?_; intro w hM) | (refine kstw hM ?_; intro w hM)) | ((with_reducible apply is_st); refine su ?_) | ((with_reducible apply is_gd); first | refine gt ?_ | refine gf ?_ | refine gu ?_) | ((with_reducible apply is_en); refine en ?_) | (with_reducible apply c_region) | refine ws ?_ | refine x_block_other (by decide) ?_)
  refine kbx hM (fun w b1 hM => ?_)
  have hM : Mem [] w0 w [.cell b1 (pC (.slice A st.length c) lf k v) 54] := hM
  repeat (first | ((with_reducible apply is_ld); first | refine kld hM ?_ | refine kldw hM ?_ | refine kle hM ?_ | refine klew hM ?_) | ((with_reducible apply is_sto); first | (refine kst hM ?_; intro w hM) | (refine kstw hM ?_; intro w hM)) | ((with_reducible apply is_st); refine su ?_) | ((with_reducible apply is_gd); first | refine gt ?_ | refine gf ?_ | refine gu ?_) | ((with_reducible apply is_en); refine en ?_) | (with_reducible apply c_region) | refine ws ?_ | refine x_block_other (by decide) ?_)
  
  refine c_loop (fun n l w => ∃ (j : Nat) (last : Int), (∃ jj : Nat → Value, l = [jj 0, .pointer (some ⟨b1, 0, none⟩), .bool false, .int .i64 last, jj 4, jj 5, jj 6, .slice A st.length c, .int .i64 (st.length : Int), .int .i64 (j : Int), jj 10, jj 11, jj 12, jj 13, jj 14, jj 15, jj 16, jj 17, jj 18, jj 19, jj 20, jj 21, jj 22, jj 23, jj 24, jj 25, jj 26, jj 27, jj 28, jj 29, jj 30, jj 31, jj 32, jj 33, jj 34, jj 35, jj 36, jj 37, jj 38]) ∧ n + j = st.length ∧ Mem [] w0 w [.cell b1 (pC (.slice A st.length c) lf k v) 54] ∧ goodSt (-1) st = goodSt last (st.drop j)) st.length
    ⟨0, -1, exj rfl, rfl, hM, rfl⟩ ?_
  clear hM
  rintro n l w ⟨j, last, ⟨jj, rfl⟩, hnj, hM, hf⟩
  repeat (first | ((with_reducible apply is_ld); first | refine kld hM ?_ | refine kldw hM ?_ | refine kle hM ?_ | refine klew hM ?_) | ((with_reducible apply is_sto); first | (refine kst hM ?_; intro w hM) | (refine kstw hM ?_; intro w hM)) | ((with_reducible apply is_st); refine su ?_) | ((with_reducible apply is_gd); first | refine gt ?_ | refine gf ?_ | refine gu ?_) | ((with_reducible apply is_en); refine en ?_) | (with_reducible apply c_region) | refine ws ?_ | refine x_block_other (by decide) ?_)
  refine c_cond rfl (fun hj => ?_) (fun hj => ?_)
  · repeat (first | ((with_reducible apply is_ld); first | refine kld hM ?_ | refine kldw hM ?_ | refine kle hM ?_ | refine klew hM ?_) | ((with_reducible apply is_sto); first | (refine kst hM ?_; intro w hM) | (refine kstw hM ?_; intro w hM)) | ((with_reducible apply is_st); refine su ?_) | ((with_reducible apply is_gd); first | refine gt ?_ | refine gf ?_ | refine gu ?_) | ((with_reducible apply is_en); refine en ?_) | (with_reducible apply c_region) | refine ws ?_ | refine x_block_other (by decide) ?_)
    refine kix hR (fun b o x hx hA => ?_)
    rw [Int.toNat_natCast] at hx
    have hd : st.drop j = x :: st.drop (j + 1) := by
      obtain ⟨hlt, he⟩ := List.getElem?_eq_some_iff.1 hx
      rw [List.drop_eq_getElem_cons hlt, he]
    rw [hd, goodSt] at hf
    refine katr hM hA ?_
    refine kal hM (fun w b5 hM => ?_)
    refine kstw (vs := eSt.f x) hM (fun w hM => ?_) (h1 := eSt.h1 x)
    repeat (first | ((with_reducible apply is_ld); first | refine kld hM ?_ | refine kldw hM ?_ | refine kle hM ?_ | refine klew hM ?_) | ((with_reducible apply is_sto); first | (refine kst hM ?_; intro w hM) | (refine kstw hM ?_; intro w hM)) | ((with_reducible apply is_st); refine su ?_) | ((with_reducible apply is_gd); first | refine gt ?_ | refine gf ?_ | refine gu ?_) | ((with_reducible apply is_en); refine en ?_) | (with_reducible apply c_region) | refine ws ?_ | refine x_block_other (by decide) ?_)
    by_cases h1 : x.1 ≤ last
    · rw [decide_eq_true h1]
      repeat (first | ((with_reducible apply is_ld); first | refine kld hM ?_ | refine kldw hM ?_ | refine kle hM ?_ | refine klew hM ?_) | ((with_reducible apply is_sto); first | (refine kst hM ?_; intro w hM) | (refine kstw hM ?_; intro w hM)) | ((with_reducible apply is_st); refine su ?_) | ((with_reducible apply is_gd); first | refine gt ?_ | refine gf ?_ | refine gu ?_) | ((with_reducible apply is_en); refine en ?_) | (with_reducible apply c_region) | refine ws ?_ | refine x_block_other (by decide) ?_)
      refine c_condb rfl (fun _ => ?_) (fun h => by cases h)
      repeat (first | ((with_reducible apply is_ld); first | refine kld hM ?_ | refine kldw hM ?_ | refine kle hM ?_ | refine klew hM ?_) | ((with_reducible apply is_sto); first | (refine kst hM ?_; intro w hM) | (refine kstw hM ?_; intro w hM)) | ((with_reducible apply is_st); refine su ?_) | ((with_reducible apply is_gd); first | refine gt ?_ | refine gf ?_ | refine gu ?_) | ((with_reducible apply is_en); refine en ?_) | (with_reducible apply c_region) | refine ws ?_ | refine x_block_other (by decide) ?_)
      refine out1 rfl ⟨?_, hM.ch⟩
      unfold goodP
      rw [hf, decide_eq_false (by omega : ¬ last < x.1)]
      rfl
    · rw [decide_eq_false h1]
      repeat (first | ((with_reducible apply is_ld); first | refine kld hM ?_ | refine kldw hM ?_ | refine kle hM ?_ | refine klew hM ?_) | ((with_reducible apply is_sto); first | (refine kst hM ?_; intro w hM) | (refine kstw hM ?_; intro w hM)) | ((with_reducible apply is_st); refine su ?_) | ((with_reducible apply is_gd); first | refine gt ?_ | refine gf ?_ | refine gu ?_) | ((with_reducible apply is_en); refine en ?_) | (with_reducible apply c_region) | refine ws ?_ | refine x_block_other (by decide) ?_)
      by_cases h2 : x.1 > 255
      · rw [decide_eq_true h2]
        repeat (first | ((with_reducible apply is_ld); first | refine kld hM ?_ | refine kldw hM ?_ | refine kle hM ?_ | refine klew hM ?_) | ((with_reducible apply is_sto); first | (refine kst hM ?_; intro w hM) | (refine kstw hM ?_; intro w hM)) | ((with_reducible apply is_st); refine su ?_) | ((with_reducible apply is_gd); first | refine gt ?_ | refine gf ?_ | refine gu ?_) | ((with_reducible apply is_en); refine en ?_) | (with_reducible apply c_region) | refine ws ?_ | refine x_block_other (by decide) ?_)
        refine c_condb rfl (fun _ => ?_) (fun h => by cases h)
        repeat (first | ((with_reducible apply is_ld); first | refine kld hM ?_ | refine kldw hM ?_ | refine kle hM ?_ | refine klew hM ?_) | ((with_reducible apply is_sto); first | (refine kst hM ?_; intro w hM) | (refine kstw hM ?_; intro w hM)) | ((with_reducible apply is_st); refine su ?_) | ((with_reducible apply is_gd); first | refine gt ?_ | refine gf ?_ | refine gu ?_) | ((with_reducible apply is_en); refine en ?_) | (with_reducible apply c_region) | refine ws ?_ | refine x_block_other (by decide) ?_)
        refine out1 rfl ⟨?_, hM.ch⟩
        unfold goodP
        rw [hf, decide_eq_false (by omega : ¬ x.1 ≤ 255), Bool.and_false]
        rfl
      · rw [decide_eq_false h2]
        repeat (first | ((with_reducible apply is_ld); first | refine kld hM ?_ | refine kldw hM ?_ | refine kle hM ?_ | refine klew hM ?_) | ((with_reducible apply is_sto); first | (refine kst hM ?_; intro w hM) | (refine kstw hM ?_; intro w hM)) | ((with_reducible apply is_st); refine su ?_) | ((with_reducible apply is_gd); first | refine gt ?_ | refine gf ?_ | refine gu ?_) | ((with_reducible apply is_en); refine en ?_) | (with_reducible apply c_region) | refine ws ?_ | refine x_block_other (by decide) ?_)
        refine c_condb rfl (fun h => by cases h) (fun _ => ?_)
        repeat (first | ((with_reducible apply is_ld); first | refine kld hM ?_ | refine kldw hM ?_ | refine kle hM ?_ | refine klew hM ?_) | ((with_reducible apply is_sto); first | (refine kst hM ?_; intro w hM) | (refine kstw hM ?_; intro w hM)) | ((with_reducible apply is_st); refine su ?_) | ((with_reducible apply is_gd); first | refine gt ?_ | refine gf ?_ | refine gu ?_) | ((with_reducible apply is_en); refine en ?_) | (with_reducible apply c_region) | refine ws ?_ | refine x_block_other (by decide) ?_)
        refine x_goes (n - 1) rfl (by omega) ⟨j + 1, x.1, exj rfl, by omega, hM.sub (by (repeat constructor)), ?_⟩
        rw [hf, decide_eq_true (by omega : last < x.1), decide_eq_true (by omega : x.1 ≤ 255)]
        rfl
  · rw [List.drop_eq_nil_of_le (by omega)] at hf
    have hg : goodP st lf k v = (lf || endB st.length k v) := by
      unfold goodP
      rw [hf]
      rfl
    rw [hg]
    cases lf with
    | true =>
      repeat (first | ((with_reducible apply is_ld); first | refine kld hM ?_ | refine kldw hM ?_ | refine kle hM ?_ | refine klew hM ?_) | ((with_reducible apply is_sto); first | (refine kst hM ?_; intro w hM) | (refine kstw hM ?_; intro w hM)) | ((with_reducible apply is_st); refine su ?_) | ((with_reducible apply is_gd); first | refine gt ?_ | refine gf ?_ | refine gu ?_) | ((with_reducible apply is_en); refine en ?_) | (with_reducible apply c_region) | refine ws ?_ | refine x_block_other (by decide) ?_)
      exact out1 rfl ⟨rfl, hM.ch⟩
    | false =>
      repeat (first | ((with_reducible apply is_ld); first | refine kld hM ?_ | refine kldw hM ?_ | refine kle hM ?_ | refine klew hM ?_ | refine kldh hM ?_ | refine kld hM ?_ (hv := by first | exact hs_get _ _ _ | exact hs_get1 _ _ _ _)) | ((with_reducible apply is_sto); first | (refine kst hM ?_; intro w hM) | (refine kstw hM ?_; intro w hM)) | ((with_reducible apply is_st); refine su ?_) | ((with_reducible apply is_gd); first | refine gt ?_ | refine gf ?_ | refine gu ?_) | ((with_reducible apply is_en); refine en ?_) | (with_reducible apply c_region) | refine ws ?_ | refine x_block_other (by decide) ?_)
      (try ((with_reducible apply is_gd); first | refine gt ?_ | refine gf ?_ | refine gu ?_)); refine wl_val (r_bldS (vs := [(0, .int .i64 (st.length : Int)), (1, hv k.1), (2, hv v.1)]) (.int .i64 (st.length : Int) :: (k.1.map u8v ++ v.1.map u8v)) (z := .int .i64 0 :: List.replicate 64 (.int .u8 0)) (place := (#[(0, 1), (1, 32), (33, 32)][·]?)) (by intro ps; kernel_rfl) rfl (.cons rfl rfl (by simp) (.cons rfl (by simp [hv, Value.cells]) (by simp [spl, Value.cells]) (.cons rfl (by simp [hv, Value.cells]) (by simp [spl, hv, Value.cells]) (.nil (by simp [spl, hv, Value.cells])))))) ?_
      repeat (first | ((with_reducible apply is_ld); first | refine kld hM ?_ | refine kldw hM ?_ | refine kle hM ?_ | refine klew hM ?_ | refine kldh hM ?_ | refine kld hM ?_ (hv := by first | exact hs_get _ _ _ | exact hs_get1 _ _ _ _)) | ((with_reducible apply is_sto); first | (refine kst hM ?_; intro w hM) | (refine kstw hM ?_; intro w hM)) | ((with_reducible apply is_st); refine su ?_) | ((with_reducible apply is_gd); first | refine gt ?_ | refine gf ?_ | refine gu ?_) | ((with_reducible apply is_en); refine en ?_) | (with_reducible apply c_region) | refine ws ?_ | refine x_block_other (by decide) ?_)
      (try ((with_reducible apply is_gd); first | refine gt ?_ | refine gf ?_ | refine gu ?_)); refine wl_val (r_bldS (.int .i64 0 :: (zeroH.1.map u8v ++ zeroH.1.map u8v)) (z := .int .i64 0 :: List.replicate 64 (.int .u8 0)) (place := (#[(0, 1), (1, 32), (33, 32)][·]?)) (by intro ps; kernel_rfl) rfl (.nil rfl)) ?_
      (try ((with_reducible apply is_gd); first | refine gt ?_ | refine gf ?_ | refine gu ?_)); refine wl_val (r_eqlS (by kernel_rfl) (by kernel_rfl) (by kernel_rfl) rfl rfl (end_cmp st.length k v)) ?_
      repeat (first | ((with_reducible apply is_ld); first | refine kld hM ?_ | refine kldw hM ?_ | refine kle hM ?_ | refine klew hM ?_ | refine kldh hM ?_ | refine kld hM ?_ (hv := by first | exact hs_get _ _ _ | exact hs_get1 _ _ _ _)) | ((with_reducible apply is_sto); first | (refine kst hM ?_; intro w hM) | (refine kstw hM ?_; intro w hM)) | ((with_reducible apply is_st); refine su ?_) | ((with_reducible apply is_gd); first | refine gt ?_ | refine gf ?_ | refine gu ?_) | ((with_reducible apply is_en); refine en ?_) | (with_reducible apply c_region) | refine ws ?_ | refine x_block_other (by decide) ?_)
      exact out1 rfl ⟨rfl, hM.ch⟩
set_option maxHeartbeats 8000000 in
theorem rgood12_any (sp : Value) (lf : Bool) (k v : Hs) (st : List (Int × Hs)) (w0 : World) (hR : (Ty.enc eSt).Rd [] w0 sp st) :
    Calls Tryd.prog 115 #[.agg (pC sp lf k v).toArray] w0 (Ret fun u w' => u = .bool (goodP st lf k v) ∧ Ch [] w0 w') := by
  have hM := Mem.start w0
  have hle := hR.le
  obtain ⟨A, c, rfl⟩ := hR.form
  refine enter [.agg (pC (.slice A st.length c) lf k v).toArray, undef, undef, undef, undef, undef, undef, undef, undef, undef, undef, undef, undef, undef, undef, undef, undef, undef, undef, undef, undef, undef, undef, undef, undef, undef, undef, undef, undef, undef, undef, undef, undef, undef, undef, undef, undef, undef, undef, undef, undef, undef, undef, undef, undef, undef, undef] Tryd.func115 rfl rfl ?_
  repeat (first | ((with_reducible apply is_ld); first | refine kld hM ?_ | refine kldw hM ?_ | refine kle hM ?_ | refine klew hM ?_) | ((with_reducible apply is_sto); first | (refine kst hM ?_; intro w hM) | (refine kstw hM ?_; intro w hM)) | ((with_reducible apply is_st); refine su ?_) | ((with_reducible apply is_gd); first | refine gt ?_ | refine gf ?_ | refine gu ?_) | ((with_reducible apply is_en); refine en ?_) | (with_reducible apply c_region) | refine ws ?_ | refine x_block_other (by decide) ?_)
  refine kbx hM (fun w b1 hM => ?_)
  have hM : Mem [] w0 w [.cell b1 (pC (.slice A st.length c) lf k v) 60] := hM
  repeat (first | ((with_reducible apply is_ld); first | refine kld hM ?_ | refine kldw hM ?_ | refine kle hM ?_ | refine klew hM ?_) | ((with_reducible apply is_sto); first | (refine kst hM ?_; intro w hM) | (refine kstw hM ?_; intro w hM)) | ((with_reducible apply is_st); refine su ?_) | ((with_reducible apply is_gd); first | refine gt ?_ | refine gf ?_ | refine gu ?_) | ((with_reducible apply is_en); refine en ?_) | (with_reducible apply c_region) | refine ws ?_ | refine x_block_other (by decide) ?_)
  
  refine c_loop (fun n l w => ∃ (j : Nat) (last : Int), (∃ jj : Nat → Value, l = [jj 0, .pointer (some ⟨b1, 0, none⟩), .bool false, .int .i64 last, jj 4, jj 5, jj 6, jj 7, .slice A st.length c, .int .i64 (st.length : Int), .int .i64 (j : Int), jj 11, jj 12, jj 13, jj 14, jj 15, jj 16, jj 17, jj 18, jj 19, jj 20, jj 21, jj 22, jj 23, jj 24, jj 25, jj 26, jj 27, jj 28, jj 29, jj 30, jj 31, jj 32, jj 33, jj 34, jj 35, jj 36, jj 37, jj 38, jj 39, jj 40, jj 41, jj 42, jj 43, jj 44, jj 45, jj 46]) ∧ n + j = st.length ∧ Mem [] w0 w [.cell b1 (pC (.slice A st.length c) lf k v) 60] ∧ goodSt (-1) st = goodSt last (st.drop j)) st.length
    ⟨0, -1, exj rfl, rfl, hM, rfl⟩ ?_
  clear hM
  rintro n l w ⟨j, last, ⟨jj, rfl⟩, hnj, hM, hf⟩
  repeat (first | ((with_reducible apply is_ld); first | refine kld hM ?_ | refine kldw hM ?_ | refine kle hM ?_ | refine klew hM ?_) | ((with_reducible apply is_sto); first | (refine kst hM ?_; intro w hM) | (refine kstw hM ?_; intro w hM)) | ((with_reducible apply is_st); refine su ?_) | ((with_reducible apply is_gd); first | refine gt ?_ | refine gf ?_ | refine gu ?_) | ((with_reducible apply is_en); refine en ?_) | (with_reducible apply c_region) | refine ws ?_ | refine x_block_other (by decide) ?_)
  refine c_cond rfl (fun hj => ?_) (fun hj => ?_)
  · repeat (first | ((with_reducible apply is_ld); first | refine kld hM ?_ | refine kldw hM ?_ | refine kle hM ?_ | refine klew hM ?_) | ((with_reducible apply is_sto); first | (refine kst hM ?_; intro w hM) | (refine kstw hM ?_; intro w hM)) | ((with_reducible apply is_st); refine su ?_) | ((with_reducible apply is_gd); first | refine gt ?_ | refine gf ?_ | refine gu ?_) | ((with_reducible apply is_en); refine en ?_) | (with_reducible apply c_region) | refine ws ?_ | refine x_block_other (by decide) ?_)
    refine kix hR (fun b o x hx hA => ?_)
    rw [Int.toNat_natCast] at hx
    have hd : st.drop j = x :: st.drop (j + 1) := by
      obtain ⟨hlt, he⟩ := List.getElem?_eq_some_iff.1 hx
      rw [List.drop_eq_getElem_cons hlt, he]
    rw [hd, goodSt] at hf
    refine katr hM hA ?_
    refine kal hM (fun w b5 hM => ?_)
    refine kstw (vs := eSt.f x) hM (fun w hM => ?_) (h1 := eSt.h1 x)
    repeat (first | ((with_reducible apply is_ld); first | refine kld hM ?_ | refine kldw hM ?_ | refine kle hM ?_ | refine klew hM ?_) | ((with_reducible apply is_sto); first | (refine kst hM ?_; intro w hM) | (refine kstw hM ?_; intro w hM)) | ((with_reducible apply is_st); refine su ?_) | ((with_reducible apply is_gd); first | refine gt ?_ | refine gf ?_ | refine gu ?_) | ((with_reducible apply is_en); refine en ?_) | (with_reducible apply c_region) | refine ws ?_ | refine x_block_other (by decide) ?_)
    by_cases h1 : x.1 ≤ last
    · rw [decide_eq_true h1]
      repeat (first | ((with_reducible apply is_ld); first | refine kld hM ?_ | refine kldw hM ?_ | refine kle hM ?_ | refine klew hM ?_) | ((with_reducible apply is_sto); first | (refine kst hM ?_; intro w hM) | (refine kstw hM ?_; intro w hM)) | ((with_reducible apply is_st); refine su ?_) | ((with_reducible apply is_gd); first | refine gt ?_ | refine gf ?_ | refine gu ?_) | ((with_reducible apply is_en); refine en ?_) | (with_reducible apply c_region) | refine ws ?_ | refine x_block_other (by decide) ?_)
      refine c_condb rfl (fun _ => ?_) (fun h => by cases h)
      repeat (first | ((with_reducible apply is_ld); first | refine kld hM ?_ | refine kldw hM ?_ | refine kle hM ?_ | refine klew hM ?_) | ((with_reducible apply is_sto); first | (refine kst hM ?_; intro w hM) | (refine kstw hM ?_; intro w hM)) | ((with_reducible apply is_st); refine su ?_) | ((with_reducible apply is_gd); first | refine gt ?_ | refine gf ?_ | refine gu ?_) | ((with_reducible apply is_en); refine en ?_) | (with_reducible apply c_region) | refine ws ?_ | refine x_block_other (by decide) ?_)
      refine out1 rfl ⟨?_, hM.ch⟩
      unfold goodP
      rw [hf, decide_eq_false (by omega : ¬ last < x.1)]
      rfl
    · rw [decide_eq_false h1]
      repeat (first | ((with_reducible apply is_ld); first | refine kld hM ?_ | refine kldw hM ?_ | refine kle hM ?_ | refine klew hM ?_) | ((with_reducible apply is_sto); first | (refine kst hM ?_; intro w hM) | (refine kstw hM ?_; intro w hM)) | ((with_reducible apply is_st); refine su ?_) | ((with_reducible apply is_gd); first | refine gt ?_ | refine gf ?_ | refine gu ?_) | ((with_reducible apply is_en); refine en ?_) | (with_reducible apply c_region) | refine ws ?_ | refine x_block_other (by decide) ?_)
      by_cases h2 : x.1 > 255
      · rw [decide_eq_true h2]
        repeat (first | ((with_reducible apply is_ld); first | refine kld hM ?_ | refine kldw hM ?_ | refine kle hM ?_ | refine klew hM ?_) | ((with_reducible apply is_sto); first | (refine kst hM ?_; intro w hM) | (refine kstw hM ?_; intro w hM)) | ((with_reducible apply is_st); refine su ?_) | ((with_reducible apply is_gd); first | refine gt ?_ | refine gf ?_ | refine gu ?_) | ((with_reducible apply is_en); refine en ?_) | (with_reducible apply c_region) | refine ws ?_ | refine x_block_other (by decide) ?_)
        refine c_condb rfl (fun _ => ?_) (fun h => by cases h)
        repeat (first | ((with_reducible apply is_ld); first | refine kld hM ?_ | refine kldw hM ?_ | refine kle hM ?_ | refine klew hM ?_) | ((with_reducible apply is_sto); first | (refine kst hM ?_; intro w hM) | (refine kstw hM ?_; intro w hM)) | ((with_reducible apply is_st); refine su ?_) | ((with_reducible apply is_gd); first | refine gt ?_ | refine gf ?_ | refine gu ?_) | ((with_reducible apply is_en); refine en ?_) | (with_reducible apply c_region) | refine ws ?_ | refine x_block_other (by decide) ?_)
        refine out1 rfl ⟨?_, hM.ch⟩
        unfold goodP
        rw [hf, decide_eq_false (by omega : ¬ x.1 ≤ 255), Bool.and_false]
        rfl
      · rw [decide_eq_false h2]
        repeat (first | ((with_reducible apply is_ld); first | refine kld hM ?_ | refine kldw hM ?_ | refine kle hM ?_ | refine klew hM ?_) | ((with_reducible apply is_sto); first | (refine kst hM ?_; intro w hM) | (refine kstw hM ?_; intro w hM)) | ((with_reducible apply is_st); refine su ?_) | ((with_reducible apply is_gd); first | refine gt ?_ | refine gf ?_ | refine gu ?_) | ((with_reducible apply is_en); refine en ?_) | (with_reducible apply c_region) | refine ws ?_ | refine x_block_other (by decide) ?_)
        refine c_condb rfl (fun h => by cases h) (fun _ => ?_)
        repeat (first | ((with_reducible apply is_ld); first | refine kld hM ?_ | refine kldw hM ?_ | refine kle hM ?_ | refine klew hM ?_) | ((with_reducible apply is_sto); first | (refine kst hM ?_; intro w hM) | (refine kstw hM ?_; intro w hM)) | ((with_reducible apply is_st); refine su ?_) | ((with_reducible apply is_gd); first | refine gt ?_ | refine gf ?_ | refine gu ?_) | ((with_reducible apply is_en); refine en ?_) | (with_reducible apply c_region) | refine ws ?_ | refine x_block_other (by decide) ?_)
        refine x_goes (n - 1) rfl (by omega) ⟨j + 1, x.1, exj rfl, by omega, hM.sub (by (repeat constructor)), ?_⟩
        rw [hf, decide_eq_true (by omega : last < x.1), decide_eq_true (by omega : x.1 ≤ 255)]
        rfl
  · rw [List.drop_eq_nil_of_le (by omega)] at hf
    have hg : goodP st lf k v = (lf || endB st.length k v) := by
      unfold goodP
      rw [hf]
      rfl
    rw [hg]
    repeat (first | ((with_reducible apply is_ld); first | refine kld hM ?_ | refine kldw hM ?_ | refine kle hM ?_ | refine klew hM ?_) | ((with_reducible apply is_sto); first | (refine kst hM ?_; intro w hM) | (refine kstw hM ?_; intro w hM)) | ((with_reducible apply is_st); refine su ?_) | ((with_reducible apply is_gd); first | refine gt ?_ | refine gf ?_ | refine gu ?_) | ((with_reducible apply is_en); refine en ?_) | (with_reducible apply c_region) | refine ws ?_ | refine x_block_other (by decide) ?_)
    (try ((with_reducible apply is_gd); first | refine gt ?_ | refine gf ?_ | refine gu ?_)); refine wl_val (r_build_arr0 (e := 5)) ?_
    refine kal hM (fun w b6 hM => ?_)
    refine kstw (vs := zeroH.1.map u8v) hM (fun w hM => ?_)
    cases lf with
    | true =>
      repeat (first | ((with_reducible apply is_ld); first | refine kld hM ?_ | refine kldw hM ?_ | refine kle hM ?_ | refine klew hM ?_) | ((with_reducible apply is_sto); first | (refine kst hM ?_; intro w hM) | (refine kstw hM ?_; intro w hM)) | ((with_reducible apply is_st); refine su ?_) | ((with_reducible apply is_gd); first | refine gt ?_ | refine gf ?_ | refine gu ?_) | ((with_reducible apply is_en); refine en ?_) | (with_reducible apply c_region) | refine ws ?_ | refine x_block_other (by decide) ?_)
      exact out1 rfl ⟨rfl, hM.ch⟩
    | false =>
      repeat (first | ((with_reducible apply is_ld); first | refine kld hM ?_ | refine kldw hM ?_ | refine kle hM ?_ | refine klew hM ?_ | refine kldh hM ?_ | refine kld hM ?_ (hv := by first | exact hs_get _ _ _ | exact hs_get1 _ _ _ _)) | ((with_reducible apply is_sto); first | (refine kst hM ?_; intro w hM) | (refine kstw hM ?_; intro w hM)) | ((with_reducible apply is_st); refine su ?_) | ((with_reducible apply is_gd); first | refine gt ?_ | refine gf ?_ | refine gu ?_) | ((with_reducible apply is_en); refine en ?_) | (with_reducible apply c_region) | refine ws ?_ | refine x_block_other (by decide) ?_)
      unfold endB
      by_cases h0 : st.length = 0
      · rw [decide_eq_true (by omega : (st.length : Int) = 0), decide_eq_true h0]
        repeat (first | ((with_reducible apply is_ld); first | refine kld hM ?_ | refine kldw hM ?_ | refine kle hM ?_ | refine klew hM ?_ | refine kldh hM ?_ | refine kld hM ?_ (hv := by first | exact hs_get _ _ _ | exact hs_get1 _ _ _ _)) | ((with_reducible apply is_sto); first | (refine kst hM ?_; intro w hM) | (refine kstw hM ?_; intro w hM)) | ((with_reducible apply is_st); refine su ?_) | ((with_reducible apply is_gd); first | refine gt ?_ | refine gf ?_ | refine gu ?_) | ((with_reducible apply is_en); refine en ?_) | (with_reducible apply c_region) | refine ws ?_ | refine x_block_other (by decide) ?_)
        (try ((with_reducible apply is_gd); first | refine gt ?_ | refine gf ?_ | refine gu ?_)); refine wl_val (r_eql8 (a := k.1) (b := zeroH.1) (by kernel_rfl) rfl rfl k.2 zeroH.2) ?_
        repeat (first | ((with_reducible apply is_ld); first | refine kld hM ?_ | refine kldw hM ?_ | refine kle hM ?_ | refine klew hM ?_ | refine kldh hM ?_ | refine kld hM ?_ (hv := by first | exact hs_get _ _ _ | exact hs_get1 _ _ _ _)) | ((with_reducible apply is_sto); first | (refine kst hM ?_; intro w hM) | (refine kstw hM ?_; intro w hM)) | ((with_reducible apply is_st); refine su ?_) | ((with_reducible apply is_gd); first | refine gt ?_ | refine gf ?_ | refine gu ?_) | ((with_reducible apply is_en); refine en ?_) | (with_reducible apply c_region) | refine ws ?_ | refine x_block_other (by decide) ?_)
        by_cases h1 : k.1 = zeroH.1
        · rw [decide_eq_true h1]
          repeat (first | ((with_reducible apply is_ld); first | refine kld hM ?_ | refine kldw hM ?_ | refine kle hM ?_ | refine klew hM ?_ | refine kldh hM ?_ | refine kld hM ?_ (hv := by first | exact hs_get _ _ _ | exact hs_get1 _ _ _ _)) | ((with_reducible apply is_sto); first | (refine kst hM ?_; intro w hM) | (refine kstw hM ?_; intro w hM)) | ((with_reducible apply is_st); refine su ?_) | ((with_reducible apply is_gd); first | refine gt ?_ | refine gf ?_ | refine gu ?_) | ((with_reducible apply is_en); refine en ?_) | (with_reducible apply c_region) | refine ws ?_ | refine x_block_other (by decide) ?_)
          (try ((with_reducible apply is_gd); first | refine gt ?_ | refine gf ?_ | refine gu ?_)); refine wl_val (r_eql8 (a := v.1) (b := zeroH.1) (by kernel_rfl) rfl rfl v.2 zeroH.2) ?_
          repeat (first | ((with_reducible apply is_ld); first | refine kld hM ?_ | refine kldw hM ?_ | refine kle hM ?_ | refine klew hM ?_ | refine kldh hM ?_ | refine kld hM ?_ (hv := by first | exact hs_get _ _ _ | exact hs_get1 _ _ _ _)) | ((with_reducible apply is_sto); first | (refine kst hM ?_; intro w hM) | (refine kstw hM ?_; intro w hM)) | ((with_reducible apply is_st); refine su ?_) | ((with_reducible apply is_gd); first | refine gt ?_ | refine gf ?_ | refine gu ?_) | ((with_reducible apply is_en); refine en ?_) | (with_reducible apply c_region) | refine ws ?_ | refine x_block_other (by decide) ?_)
          exact out1 rfl ⟨rfl, hM.ch⟩
        · rw [decide_eq_false h1]
          repeat (first | ((with_reducible apply is_ld); first | refine kld hM ?_ | refine kldw hM ?_ | refine kle hM ?_ | refine klew hM ?_ | refine kldh hM ?_ | refine kld hM ?_ (hv := by first | exact hs_get _ _ _ | exact hs_get1 _ _ _ _)) | ((with_reducible apply is_sto); first | (refine kst hM ?_; intro w hM) | (refine kstw hM ?_; intro w hM)) | ((with_reducible apply is_st); refine su ?_) | ((with_reducible apply is_gd); first | refine gt ?_ | refine gf ?_ | refine gu ?_) | ((with_reducible apply is_en); refine en ?_) | (with_reducible apply c_region) | refine ws ?_ | refine x_block_other (by decide) ?_)
          exact out1 rfl ⟨rfl, hM.ch⟩
      · rw [decide_eq_false (by omega : ¬ (st.length : Int) = 0), decide_eq_false h0]
        repeat (first | ((with_reducible apply is_ld); first | refine kld hM ?_ | refine kldw hM ?_ | refine kle hM ?_ | refine klew hM ?_ | refine kldh hM ?_ | refine kld hM ?_ (hv := by first | exact hs_get _ _ _ | exact hs_get1 _ _ _ _)) | ((with_reducible apply is_sto); first | (refine kst hM ?_; intro w hM) | (refine kstw hM ?_; intro w hM)) | ((with_reducible apply is_st); refine su ?_) | ((with_reducible apply is_gd); first | refine gt ?_ | refine gf ?_ | refine gu ?_) | ((with_reducible apply is_en); refine en ?_) | (with_reducible apply c_region) | refine ws ?_ | refine x_block_other (by decide) ?_)
        exact out1 rfl ⟨rfl, hM.ch⟩
end Go.Proofs.YtkpkfplcoakfcaaDoor
set_option linter.unusedVariables false
set_option linter.unusedSimpArgs false
namespace Go.Proofs.YtkpkfplcoakfcaaDoor
open Go Go.RowKit Go.Proofs.E
attribute [local irreducible] Go.wpList Go.Code.wp Go.Proofs.E.exec Go.Proofs.E.wpLexG
theorem zr_get {α : Type} {xs : List α} {i : Nat} {x : α} (hi : i < xs.length) (hx : xs[xs.length - 1 - i]? = some x) : xs.zipIdx.reverse[i]? = some (x, xs.length - 1 - i) := by
  rw [List.getElem?_reverse (by simpa using hi), List.length_zipIdx, List.getElem?_zipIdx, hx]
  simp
theorem zr_fst {α : Type} (xs : List α) : xs.zipIdx.reverse.map (·.1) = xs.reverse := by
  rw [List.map_reverse]
  simp
theorem zr_pre {α : Type} {xs : List α} {pre : List (α × Nat)} {x : α × Nat} (h : (pre ++ [x]) <+: xs.zipIdx.reverse) : xs.reverse.drop pre.length = x.1 :: xs.reverse.drop (pre.length + 1) ∧ x.1 ∈ xs := by
  obtain ⟨t, ht⟩ := h
  have e : xs.reverse = pre.map (·.1) ++ (x.1 :: t.map (·.1)) := by
    rw [← zr_fst, ← ht]
    simp
  have hl : (pre.map (·.1)).length = pre.length := List.length_map ..
  refine ⟨?_, ?_⟩
  · rw [e, List.drop_append_of_le_length (by omega), List.drop_of_length_le (by omega), List.nil_append, List.drop_append, List.drop_of_length_le (by omega), hl, show pre.length + 1 - pre.length = 1 by omega]
    rfl
  · have : x.1 ∈ xs.reverse := by rw [e]; simp
    simpa using this
theorem row33 (x : Int × Hs) : (eSt.f x).length = 33 := eSt.hl x
set_option maxHeartbeats 8000000 in
theorem back_seq {st : List (Int × Hs)} {v : Value} {w0 : World} (b1 : Nat) (h1 : (Ty.enc eSt).Rd [] w0 v st) :
    SeqM Tryd.prog 9 127 #[.pointer (some ⟨b1, 0, none⟩)] (fun x : (Int × Hs) × Nat => #[.int .i64 (x.2 : Int), .agg (eSt.f x.1).toArray]) st.zipIdx.reverse [] w0 [.cell b1 [v] 52] := by
  intro r Inv Stp w La hM0 hInv hY
  refine callsIn_wide.2 ?_
  have hM := hM0.perm List.perm_append_comm
  suffices h : Calls Tryd.prog 127 #[.func (.yield r) #[] #[], .pointer (some ⟨b1, 0, none⟩)] w (Ret fun _ W' => ∃ La', (Inv st.zipIdx.reverse La' ∨ ∃ pre, Stp pre La') ∧ Mem [] w0 W' (La' ++ [.cell b1 [v] 52])) from
    h.mono fun e w ⟨v, he, h⟩ => ⟨⟨v, he⟩, h⟩
  have hle1 := h1.le
  have hzl : st.zipIdx.reverse.length = st.length := by simp
  obtain ⟨A1, c1, rfl⟩ := h1.form
  refine enter [.func (.yield r) #[] #[], .pointer (some ⟨b1, 0, none⟩), undef, undef, undef, undef, undef, undef, undef, undef, undef, undef, undef, undef, undef, undef, undef, undef, undef] Tryd.func127 rfl rfl ?_
  simp only [List.cons_append, List.nil_append] at hM
  repeat (first | ((with_reducible apply is_ld); first | refine kld hM ?_ | refine kldw hM ?_ | refine kle hM ?_ | refine klew hM ?_) | ((with_reducible apply is_sto); first | (refine kst hM ?_; intro w hM) | (refine kstw hM ?_; intro w hM)) | ((with_reducible apply is_st); refine su ?_) | ((with_reducible apply is_gd); first | refine gt ?_ | refine gf ?_ | refine gu ?_) | ((with_reducible apply is_en); refine en ?_) | (with_reducible apply c_region) | refine ws ?_ | refine x_block_other (by decide) ?_)
  
  refine c_loop (fun k l w => ∃ (i : Nat) (La : List As), (∃ jj : Nat → Value, l = [.func (.yield r) #[] #[], .pointer (some ⟨b1, 0, none⟩), jj 2, .int .i64 ((st.length : Int) - 1 - (i : Int)), jj 4, jj 5, jj 6, jj 7, jj 8, jj 9, jj 10, jj 11, jj 12, jj 13, jj 14, jj 15, jj 16, jj 17, jj 18]) ∧ k + i = st.length ∧ Inv (st.zipIdx.reverse.take i) La ∧ Mem [] w0 w (.cell b1 [.slice A1 st.length c1] 52 :: La)) st.length
    ⟨0, La, exj (by rw [show (st.length : Int) - 1 - ((0 : Nat) : Int) = (st.length : Int) - 1 by omega]; rfl), rfl, hInv, hM⟩ ?_
  clear hM hM0 hInv
  rintro k l w ⟨i, La, ⟨jj, rfl⟩, hki, hInv, hM⟩
  repeat (first | ((with_reducible apply is_ld); first | refine kld hM ?_ | refine kldw hM ?_ | refine kle hM ?_ | refine klew hM ?_) | ((with_reducible apply is_sto); first | (refine kst hM ?_; intro w hM) | (refine kstw hM ?_; intro w hM)) | ((with_reducible apply is_st); refine su ?_) | ((with_reducible apply is_gd); first | refine gt ?_ | refine gf ?_ | refine gu ?_) | ((with_reducible apply is_en); refine en ?_) | (with_reducible apply c_region) | refine ws ?_ | refine x_block_other (by decide) ?_)
  refine c_cond rfl (fun hi => ?_) (fun hi => ?_)
  · have hiu : i < st.length := by omega
    repeat (first | ((with_reducible apply is_ld); first | refine kld hM ?_ | refine kldw hM ?_ | refine kle hM ?_ | refine klew hM ?_) | ((with_reducible apply is_sto); first | (refine kst hM ?_; intro w hM) | (refine kstw hM ?_; intro w hM)) | ((with_reducible apply is_st); refine su ?_) | ((with_reducible apply is_gd); first | refine gt ?_ | refine gf ?_ | refine gu ?_) | ((with_reducible apply is_en); refine en ?_) | refine ws ?_ | refine x_block_other (by decide) ?_)
    obtain ⟨b, o, rfl, hat⟩ := rd_at h1 (fun h => by subst h; simp at hiu)
    obtain ⟨x, hx⟩ : ∃ x, st[st.length - 1 - i]? = some x := ⟨_, List.getElem?_eq_getElem (by omega)⟩
    obtain ⟨hb, _, cs, hcs, hrow⟩ := (hat _ _ hx).mv hM.ch (by simp)
    have hcs' : cs = eSt.f x := hcs
    subst hcs'
    have hget := zr_get hiu hx
    have hsn : st.zipIdx.reverse.take (i + 1) = st.zipIdx.reverse.take i ++ [(x, st.length - 1 - i)] := by rw [List.take_add_one, hget]; rfl
    have hyl := hY (st.zipIdx.reverse.take i) (x, st.length - 1 - i) w La _ (by rw [← hsn]; exact List.take_prefix _ _) hInv (hM.perm (List.perm_append_comm (l₁ := [_]) (l₂ := La)))
    simp only [show ((st.length - 1 - i : Nat) : Int) = (st.length : Int) - 1 - (i : Int) by omega] at hyl
    refine (wpIn_wide (n := 9)).1 (wpIn_region_lit ?_)
    refine li_val (r_move _) ?_
    refine li_val (r_move _) ?_
    refine li_val (r_load_one rfl ((hM.blk (b := b1) (by (repeat constructor))).cell rfl)) ?_
    refine li_val (r_move _) ?_
    refine li_val (r_indexAddr rfl rfl (by omega) (by omega)) ?_
    rw [show ((st.length : Int) - 1 - (i : Int)).toNat = st.length - 1 - i by omega]
    refine li_val (r_load_row rfl hrow (row33 x)) ?_
    refine li_yield rfl rfl hyl ?_
    rintro e w2 (⟨rfl, La2, hI2, hM2⟩ | ⟨rfl, La2, hI2, hM2⟩)
    · refine ⟨_, rfl, ?_⟩
      refine li_val (r_not rfl) ?_
      refine wpListIn_nil ?_
      repeat (first | ((with_reducible apply is_ld); first | refine kld hM ?_ | refine kldw hM ?_ | refine kle hM ?_ | refine klew hM ?_) | ((with_reducible apply is_sto); first | (refine kst hM ?_; intro w hM) | (refine kstw hM ?_; intro w hM)) | ((with_reducible apply is_st); refine su ?_) | ((with_reducible apply is_gd); first | refine gt ?_ | refine gf ?_ | refine gu ?_) | ((with_reducible apply is_en); refine en ?_) | refine ws ?_ | refine x_block_other (by decide) ?_)
      refine c_condb rfl (fun h => by cases h) (fun _ => ?_)
      have hM := hM2.perm List.perm_append_comm
      repeat (first | ((with_reducible apply is_ld); first | refine kld hM ?_ | refine kldw hM ?_ | refine kle hM ?_ | refine klew hM ?_) | ((with_reducible apply is_sto); first | (refine kst hM ?_; intro w hM) | (refine kstw hM ?_; intro w hM)) | ((with_reducible apply is_st); refine su ?_) | ((with_reducible apply is_gd); first | refine gt ?_ | refine gf ?_ | refine gu ?_) | ((with_reducible apply is_en); refine en ?_) | (with_reducible apply c_region) | refine ws ?_ | refine x_block_other (by decide) ?_)
      exact x_goes (k - 1) rfl (by omega) ⟨i + 1, La2, exj (by rw [show (st.length : Int) - 1 - ((i + 1 : Nat) : Int) = (st.length : Int) - 1 - (i : Int) - 1 by omega]; rfl), by omega, by rw [hsn]; exact hI2, hM⟩
    · refine ⟨_, rfl, ?_⟩
      refine li_val (r_not rfl) ?_
      refine wpListIn_nil ?_
      repeat (first | ((with_reducible apply is_ld); first | refine kld hM ?_ | refine kldw hM ?_ | refine kle hM ?_ | refine klew hM ?_) | ((with_reducible apply is_sto); first | (refine kst hM ?_; intro w hM) | (refine kstw hM ?_; intro w hM)) | ((with_reducible apply is_st); refine su ?_) | ((with_reducible apply is_gd); first | refine gt ?_ | refine gf ?_ | refine gu ?_) | ((with_reducible apply is_en); refine en ?_) | refine ws ?_ | refine x_block_other (by decide) ?_)
      refine c_condb rfl (fun _ => ?_) (fun h => by cases h)
      repeat (first | ((with_reducible apply is_ld); first | refine kld hM ?_ | refine kldw hM ?_ | refine kle hM ?_ | refine klew hM ?_) | ((with_reducible apply is_sto); first | (refine kst hM ?_; intro w hM) | (refine kstw hM ?_; intro w hM)) | ((with_reducible apply is_st); refine su ?_) | ((with_reducible apply is_gd); first | refine gt ?_ | refine gf ?_ | refine gu ?_) | ((with_reducible apply is_en); refine en ?_) | (with_reducible apply c_region) | refine ws ?_ | refine x_block_other (by decide) ?_)
      exact out0 rfl ⟨La2, .inr ⟨_, hI2⟩, hM2⟩
  · repeat (first | ((with_reducible apply is_ld); first | refine kld hM ?_ | refine kldw hM ?_ | refine kle hM ?_ | refine klew hM ?_) | ((with_reducible apply is_sto); first | (refine kst hM ?_; intro w hM) | (refine kstw hM ?_; intro w hM)) | ((with_reducible apply is_st); refine su ?_) | ((with_reducible apply is_gd); first | refine gt ?_ | refine gf ?_ | refine gu ?_) | ((with_reducible apply is_en); refine en ?_) | (with_reducible apply c_region) | refine ws ?_ | refine x_block_other (by decide) ?_)
    rw [List.take_of_length_le (by omega)] at hInv
    exact out0 rfl ⟨La, .inl hInv, hM.perm (List.perm_append_comm (l₁ := [_]) (l₂ := La))⟩
theorem back_any (v : Value) (w0 : World) (hv : v.cells.toList = [v]) : Calls Tryd.prog 110 #[v] w0 (Ret fun u w' => ∃ b1, u = .func (.func 127) #[] #[.pointer (some ⟨b1, 0, none⟩)] ∧ Mem [] w0 w' [.cell b1 [v] 52]) := by
  have hM := Mem.start w0
  refine enter [v, undef, undef, undef] Tryd.func110 rfl rfl ?_
  repeat (first | ((with_reducible apply is_ld); first | refine kld hM ?_ | refine kldw hM ?_ | refine kle hM ?_ | refine klew hM ?_) | ((with_reducible apply is_sto); first | (refine kst hM ?_; intro w hM) | (refine kstw hM ?_; intro w hM)) | ((with_reducible apply is_st); refine su ?_) | ((with_reducible apply is_gd); first | refine gt ?_ | refine gf ?_ | refine gu ?_) | ((with_reducible apply is_en); refine en ?_) | (with_reducible apply c_region) | refine ws ?_ | refine x_block_other (by decide) ?_)
  refine kbx (v := v) hM (fun w b1 hM => ?_)
  rw [hv] at hM
  repeat (first | ((with_reducible apply is_ld); first | refine kld hM ?_ | refine kldw hM ?_ | refine kle hM ?_ | refine klew hM ?_) | ((with_reducible apply is_sto); first | (refine kst hM ?_; intro w hM) | (refine kstw hM ?_; intro w hM)) | ((with_reducible apply is_st); refine su ?_) | ((with_reducible apply is_gd); first | refine gt ?_ | refine gf ?_ | refine gu ?_) | ((with_reducible apply is_en); refine en ?_) | (with_reducible apply c_region) | refine ws ?_ | refine x_block_other (by decide) ?_)
  (try ((with_reducible apply is_gd); first | refine gt ?_ | refine gf ?_ | refine gu ?_)); refine wl_val (r_makeFunc (cs := [.tmp 1])) ?_
  repeat (first | ((with_reducible apply is_ld); first | refine kld hM ?_ | refine kldw hM ?_ | refine kle hM ?_ | refine klew hM ?_) | ((with_reducible apply is_sto); first | (refine kst hM ?_; intro w hM) | (refine kstw hM ?_; intro w hM)) | ((with_reducible apply is_st); refine su ?_) | ((with_reducible apply is_gd); first | refine gt ?_ | refine gf ?_ | refine gu ?_) | ((with_reducible apply is_en); refine en ?_) | (with_reducible apply c_region) | refine ws ?_ | refine x_block_other (by decide) ?_)
  exact out1 rfl ⟨b1, rfl, hM⟩
theorem goodSt_mem : ∀ {st : List (Int × Hs)} {last : Int}, goodSt last st = true → -1 ≤ last → ∀ s ∈ st, 0 ≤ s.1 ∧ s.1 ≤ 255
  | [], _, _, _, s, hs => by cases hs
  | x :: r, last, h, hl, s, hs => by
    simp only [goodSt, Bool.and_eq_true, decide_eq_true_eq] at h
    rcases List.mem_cons.1 hs with rfl | hs
    · omega
    · exact goodSt_mem h.2 (by omega) s hs
def stepUp (k : Hs) (s : Int × Hs) (h : Hs) : Hs := if bitZ k s.1 = 0 then forkH s.1 h s.2 else forkH s.1 s.2 h
def climbUp (k pk : Hs) : List (Int × Hs) → Hs → Option Hs
  | [], h => some h
  | s :: r, h => if bitZ pk s.1 = bitZ k s.1 then climbUp k pk r (stepUp k s h) else none
def climbP (k : Hs) (st : List (Int × Hs)) (lf : Bool) (pk pv : Hs) : Option Hs :=
  if goodP st lf pk pv = true then (if lf = true then climbUp k pk st.reverse (itemH pk pv) else some (shaH [5])) else none
def optT (o : Option Hs) : Value := .tuple #[hv (o.getD zeroH).1, .bool o.isSome]
end Go.Proofs.YtkpkfplcoakfcaaDoor
set_option linter.unusedVariables false
set_option linter.unusedSimpArgs false
namespace Go.Proofs.YtkpkfplcoakfcaaDoor
open Go Go.RowKit Go.Proofs.E
attribute [local irreducible] Go.wpList Go.Code.wp Go.Proofs.E.exec Go.Proofs.E.wpLexG
theorem both0 (a h : Hs) : spl (a.1.map u8v ++ a.1.map u8v) 0 (h.1.map u8v) = h.1.map u8v ++ a.1.map u8v := by simp [spl]
theorem both1 (a h : Hs) : spl (a.1.map u8v ++ a.1.map u8v) 32 (h.1.map u8v) = a.1.map u8v ++ h.1.map u8v := by simp [spl]
theorem bit_two (k : Hs) (i : Int) : bitZ k i = 0 ∨ bitZ k i = 1 := by have := bitZ_lt k i; omega
set_option maxHeartbeats 32000000 in
theorem mclimb_any (k : Hs) (sp : Value) (lf : Bool) (pk pv : Hs) (st : List (Int × Hs)) (w0 : World) (hK : Laid w0) (hR : (Ty.enc eSt).Rd [] w0 sp st) :
    Calls Tryd.prog 81 #[hv k.1, .agg (pC sp lf pk pv).toArray] w0 (Ret fun u w' => u = optT (climbP k st lf pk pv) ∧ Ch [] w0 w') := by
  have hM := Mem.start w0
  have hle := hR.le
  obtain ⟨A, c, rfl⟩ := hR.form
  refine enterM [hv k.1, .agg (pC (.slice A st.length c) lf pk pv).toArray, undef, undef, undef, undef, undef, undef, undef, undef, undef, undef, undef, undef, undef, undef, undef, undef, undef, undef, undef, undef, undef, undef, undef, undef, undef, undef, undef, undef, undef, undef, undef, undef, undef, undef, undef, undef, undef, undef, undef, undef, undef, undef, undef, undef, undef, undef, undef, undef, undef, undef, undef, undef, undef, undef, undef, undef, undef] Tryd.func81 rfl rfl ?_
  repeat (first | ((with_reducible apply is_ld); first | refine kld hM ?_ | refine kldw hM ?_ | refine kle hM ?_ | refine klew hM ?_) | ((with_reducible apply is_sto); first | (refine kst hM ?_; intro w hM) | (refine kstw hM ?_; intro w hM)) | ((with_reducible apply is_st); refine su ?_) | ((with_reducible apply is_gd); first | refine gt ?_ | refine gf ?_ | refine gu ?_) | ((with_reducible apply is_en); refine en ?_) | (with_reducible apply c_region) | refine ws ?_ | refine x_block_other (by decide) ?_)
  refine kbx hM (fun w b2 hM => ?_)
  refine kbx hM (fun w b3 hM => ?_)
  refine kal hM (fun w b4 hM => ?_)
  refine kal hM (fun w b5 hM => ?_)
  have hM : Mem [] w0 w [.cell b5 [.bool false] 4, .cell b4 (zeroH.1.map u8v) 28, .cell b3 (pC (.slice A st.length c) lf pk pv) 54, .cell b2 (k.1.map u8v) 28] := hM
  repeat (first | ((with_reducible apply is_ld); first | refine kld hM ?_ | refine kldw hM ?_ | refine kle hM ?_ | refine klew hM ?_ | refine kldh hM ?_ | refine kld hM ?_ (hv := by first | exact hs_get _ _ _ | exact hs_get1 _ _ _ _)) | ((with_reducible apply is_sto); first | (refine kst hM ?_; intro w hM) | (refine kstw hM ?_; intro w hM)) | ((with_reducible apply is_st); refine su ?_) | ((with_reducible apply is_gd); first | refine gt ?_ | refine gf ?_ | refine gu ?_) | ((with_reducible apply is_en); refine en ?_) | (with_reducible apply c_region) | refine ws ?_ | refine x_block_other (by decide) ?_)
  refine kca hM (mgood_any (.slice A st.length c) lf pk pv st w (hR.ch hM.ch)) (fun w hM => ?_)
  repeat (first | ((with_reducible apply is_ld); first | refine kld hM ?_ | refine kldw hM ?_ | refine kle hM ?_ | refine klew hM ?_ | refine kldh hM ?_ | refine kld hM ?_ (hv := by first | exact hs_get _ _ _ | exact hs_get1 _ _ _ _)) | ((with_reducible apply is_sto); first | (refine kst hM ?_; intro w hM) | (refine kstw hM ?_; intro w hM)) | ((with_reducible apply is_st); refine su ?_) | ((with_reducible apply is_gd); first | refine gt ?_ | refine gf ?_ | refine gu ?_) | ((with_reducible apply is_en); refine en ?_) | (with_reducible apply c_region) | refine ws ?_ | refine x_block_other (by decide) ?_)
  unfold climbP
  by_cases hg : goodP st lf pk pv = true
  case neg =>
    rw [Bool.not_eq_true] at hg
    rw [hg]
    refine c_condb rfl (fun _ => ?_) (fun h => by cases h)
    repeat (first | ((with_reducible apply is_ld); first | refine kld hM ?_ | refine kldw hM ?_ | refine kle hM ?_ | refine klew hM ?_ | refine kldh hM ?_ | refine kld hM ?_ (hv := by first | exact hs_get _ _ _ | exact hs_get1 _ _ _ _)) | ((with_reducible apply is_sto); first | (refine kst hM ?_; intro w hM) | (refine kstw hM ?_; intro w hM)) | ((with_reducible apply is_st); refine su ?_) | ((with_reducible apply is_gd); first | refine gt ?_ | refine gf ?_ | refine gu ?_) | ((with_reducible apply is_en); refine en ?_) | (with_reducible apply c_region) | refine ws ?_ | refine x_block_other (by decide) ?_)
    (try ((with_reducible apply is_gd); first | refine gt ?_ | refine gf ?_ | refine gu ?_)); refine wl_val (r_build_arr0 (e := 5)) ?_
    refine kstw (vs := zeroH.1.map u8v) hM (fun w hM => ?_)
    repeat (first | ((with_reducible apply is_ld); first | refine kld hM ?_ | refine kldw hM ?_ | refine kle hM ?_ | refine klew hM ?_ | refine kldh hM ?_ | refine kld hM ?_ (hv := by first | exact hs_get _ _ _ | exact hs_get1 _ _ _ _)) | ((with_reducible apply is_sto); first | (refine kst hM ?_; intro w hM) | (refine kstw hM ?_; intro w hM)) | ((with_reducible apply is_st); refine su ?_) | ((with_reducible apply is_gd); first | refine gt ?_ | refine gf ?_ | refine gu ?_) | ((with_reducible apply is_en); refine en ?_) | (with_reducible apply c_region) | refine ws ?_ | refine x_block_other (by decide) ?_)
    exact post0 (koc22 hM rfl ⟨rfl, hM.ch⟩)
  rw [hg]
  refine c_condb rfl (fun h => by cases h) (fun _ => ?_)
  repeat (first | ((with_reducible apply is_ld); first | refine kld hM ?_ | refine kldw hM ?_ | refine kle hM ?_ | refine klew hM ?_ | refine kldh hM ?_ | refine kld hM ?_ (hv := by first | exact hs_get _ _ _ | exact hs_get1 _ _ _ _)) | ((with_reducible apply is_sto); first | (refine kst hM ?_; intro w hM) | (refine kstw hM ?_; intro w hM)) | ((with_reducible apply is_st); refine su ?_) | ((with_reducible apply is_gd); first | refine gt ?_ | refine gf ?_ | refine gu ?_) | ((with_reducible apply is_en); refine en ?_) | (with_reducible apply c_region) | refine ws ?_ | refine x_block_other (by decide) ?_)
  cases lf with
  | false =>
    refine c_condb rfl (fun _ => ?_) (fun h => by cases h)
    repeat (first | ((with_reducible apply is_ld); first | refine kld hM ?_ | refine kldw hM ?_ | refine kle hM ?_ | refine klew hM ?_ | refine kldh hM ?_ | refine kld hM ?_ (hv := by first | exact hs_get _ _ _ | exact hs_get1 _ _ _ _)) | ((with_reducible apply is_sto); first | (refine kst hM ?_; intro w hM) | (refine kstw hM ?_; intro w hM)) | ((with_reducible apply is_st); refine su ?_) | ((with_reducible apply is_gd); first | refine gt ?_ | refine gf ?_ | refine gu ?_) | ((with_reducible apply is_en); refine en ?_) | (with_reducible apply c_region) | refine ws ?_ | refine x_block_other (by decide) ?_)
    refine kca hM (tnothing_any w (hK.ch hM.ch (by simp))) (fun w hM => ?_)
    repeat (first | ((with_reducible apply is_ld); first | refine kld hM ?_ | refine kldw hM ?_ | refine kle hM ?_ | refine klew hM ?_ | refine kldh hM ?_ | refine kld hM ?_ (hv := by first | exact hs_get _ _ _ | exact hs_get1 _ _ _ _)) | ((with_reducible apply is_sto); first | (refine kst hM ?_; intro w hM) | (refine kstw hM ?_; intro w hM)) | ((with_reducible apply is_st); refine su ?_) | ((with_reducible apply is_gd); first | refine gt ?_ | refine gf ?_ | refine gu ?_) | ((with_reducible apply is_en); refine en ?_) | (with_reducible apply c_region) | refine ws ?_ | refine x_block_other (by decide) ?_)
    exact post0 (koc22 hM rfl ⟨rfl, hM.ch⟩)
  | true =>
    refine c_condb rfl (fun h => by cases h) (fun _ => ?_)
    have hgm := goodSt_mem (show goodSt (-1) st = true by unfold goodP at hg; simpa using hg) (by omega)
    repeat (first | ((with_reducible apply is_ld); first | refine kld hM ?_ | refine kldw hM ?_ | refine kle hM ?_ | refine klew hM ?_ | refine kldh hM ?_ | refine kld hM ?_ (hv := by first | exact hs_get _ _ _ | exact hs_get1 _ _ _ _)) | ((with_reducible apply is_sto); first | (refine kst hM ?_; intro w hM) | (refine kstw hM ?_; intro w hM)) | ((with_reducible apply is_st); refine su ?_) | ((with_reducible apply is_gd); first | refine gt ?_ | refine gf ?_ | refine gu ?_) | ((with_reducible apply is_en); refine en ?_) | (with_reducible apply c_region) | refine ws ?_ | refine x_block_other (by decide) ?_)
    refine kca hM (titem_any pk pv w (hK.ch hM.ch (by simp))) (fun w hM => ?_)
    refine kal hM (fun w b6 hM => ?_)
    refine kstw (vs := (itemH pk pv).1.map u8v) hM (fun w hM => ?_)
    rw [if_pos rfl, if_pos rfl]
    generalize itemH pk pv = h0 at hM ⊢
    repeat (first | ((with_reducible apply is_ld); first | refine kld hM ?_ | refine kldw hM ?_ | refine kle hM ?_ | refine klew hM ?_ | refine kldh hM ?_ | refine kld hM ?_ (hv := by first | exact hs_get _ _ _ | exact hs_get1 _ _ _ _)) | ((with_reducible apply is_sto); first | (refine kst hM ?_; intro w hM) | (refine kstw hM ?_; intro w hM)) | ((with_reducible apply is_st); refine su ?_) | ((with_reducible apply is_gd); first | refine gt ?_ | refine gf ?_ | refine gu ?_) | ((with_reducible apply is_en); refine en ?_) | (with_reducible apply c_region) | refine ws ?_ | refine x_block_other (by decide) ?_)
    refine ca (back_any (.slice A st.length c) w rfl) ?_
    rintro _ w1 ⟨b7, rfl, hN⟩
    have hM := (hM.join hN (by simp [As.plain])).perm List.perm_append_comm
    repeat (first | ((with_reducible apply is_ld); first | refine kld hM ?_ | refine kldw hM ?_ | refine kle hM ?_ | refine klew hM ?_ | refine kldh hM ?_ | refine kld hM ?_ (hv := by first | exact hs_get _ _ _ | exact hs_get1 _ _ _ _)) | ((with_reducible apply is_sto); first | (refine kst hM ?_; intro w hM) | (refine kstw hM ?_; intro w hM)) | ((with_reducible apply is_st); refine su ?_) | ((with_reducible apply is_gd); first | refine gt ?_ | refine gf ?_ | refine gu ?_) | ((with_reducible apply is_en); refine en ?_) | (with_reducible apply c_region) | refine ws ?_ | refine x_block_other (by decide) ?_)
    
    refine c_rangeM2 (e1 := fun x : (Int × Hs) × Nat => .int .i64 (x.2 : Int)) (e2 := fun x : (Int × Hs) × Nat => .agg (eSt.f x.1).toArray) hM rfl (enters_of Tryd.func127 (by kernel_rfl) rfl) (back_seq b7 hR)
      (fun pre La => ∃ h : Hs, La = [.cell b6 (h.1.map u8v) 28, .cell b5 [.bool false] 4, .cell b4 (zeroH.1.map u8v) 28, .cell b3 (pC (.slice A st.length c) true pk pv) 54, .cell b2 (k.1.map u8v) 28] ∧ climbUp k pk st.reverse h0 = climbUp k pk (st.reverse.drop pre.length) h) ⟨h0, rfl, rfl⟩
      (fun cd pre La => cd = .ret ∧ climbUp k pk st.reverse h0 = none ∧ ∃ h : Hs, La = [.cell b5 [.bool false] 4, .cell b4 (zeroH.1.map u8v) 28])
      (fun pre x l La => ∃ (h : Hs) (b8 : Nat), (∃ jj : Nat → Value, l = [jj 0, jj 1, .pointer (some ⟨b2, 0, none⟩), .pointer (some ⟨b3, 0, none⟩), .pointer (some ⟨b4, 0, none⟩), .pointer (some ⟨b5, 0, none⟩), .pointer (some ⟨b6, 0, none⟩), jj 7, .pointer (some ⟨b8, 0, none⟩), jj 9, jj 10, jj 11, jj 12, jj 13, jj 14, jj 15, jj 16, jj 17, jj 18, jj 19, jj 20, jj 21, jj 22, jj 23, jj 24, jj 25, jj 26, jj 27, jj 28, jj 29, jj 30, jj 31, jj 32, jj 33, jj 34, jj 35, jj 36, jj 37, jj 38, jj 39, jj 40, jj 41, jj 42, jj 43, jj 44, jj 45, jj 46, jj 47, jj 48, jj 49, jj 50, jj 51, jj 52, jj 53, jj 54, jj 55, jj 56, jj 57, jj 58]) ∧ La = [.cell b8 (eSt.f x.1) 91, .cell b6 (h.1.map u8v) 28, .cell b5 [.bool false] 4, .cell b4 (zeroH.1.map u8v) 28, .cell b3 (pC (.slice A st.length c) true pk pv) 54, .cell b2 (k.1.map u8v) 28] ∧ climbUp k pk st.reverse h0 = climbUp k pk (st.reverse.drop pre.length) h)
      ?_ ?_ ?_ ?_
    · rintro r pre x w La X K hp ⟨h, rfl, hf⟩ hM hK
      simp only [List.cons_append, List.nil_append] at hM
      refine ci_region (by (repeat (first | exact noOut_round | exact noOut_fls | exact noOut_M | apply noOut_then | apply noOut_block))) rfl ?_
      repeat (first | ((with_reducible apply is_ld); first | refine kld hM ?_ | refine kldw hM ?_ | refine kle hM ?_ | refine klew hM ?_ | refine kldh hM ?_ | refine kld hM ?_ (hv := by first | exact hs_get _ _ _ | exact hs_get1 _ _ _ _)) | ((with_reducible apply is_sto); first | (refine kst hM ?_; intro w hM) | (refine kstw hM ?_; intro w hM)) | ((with_reducible apply is_st); refine su ?_) | ((with_reducible apply is_gd); first | refine gt ?_ | refine gf ?_ | refine gu ?_) | ((with_reducible apply is_en); refine en ?_) | (with_reducible apply c_region) | refine ws ?_ | refine x_block_other (by decide) ?_)
      refine kal hM (fun w b8 hM => ?_)
      refine kstw (vs := eSt.f x.1) hM (fun w hM => ?_) (h1 := eSt.h1 x.1)
      repeat (first | ((with_reducible apply is_ld); first | refine kld hM ?_ | refine kldw hM ?_ | refine kle hM ?_ | refine klew hM ?_ | refine kldh hM ?_ | refine kld hM ?_ (hv := by first | exact hs_get _ _ _ | exact hs_get1 _ _ _ _)) | ((with_reducible apply is_sto); first | (refine kst hM ?_; intro w hM) | (refine kstw hM ?_; intro w hM)) | ((with_reducible apply is_st); refine su ?_) | ((with_reducible apply is_gd); first | refine gt ?_ | refine gf ?_ | refine gu ?_) | ((with_reducible apply is_en); refine en ?_) | (with_reducible apply c_region) | refine ws ?_ | refine x_block_other (by decide) ?_)
      exact hK _ w _ ⟨h, b8, exj rfl, rfl, hf⟩ hM
    · rintro r pre x l w La X hp ⟨h, b8, ⟨jj, rfl⟩, rfl, hf⟩ hM
      obtain ⟨hd, hxm⟩ := zr_pre hp
      rw [hd, climbUp] at hf
      have hx := hgm x.1 hxm
      obtain ⟨⟨xi, xs⟩, xn⟩ := x
      simp only at hf hx hM ⊢
      simp only [List.cons_append, List.nil_append] at hM
      refine wpIn_block ?_
      repeat (first | ((with_reducible apply is_ld); first | refine kld hM ?_ | refine kldw hM ?_ | refine kle hM ?_ | refine klew hM ?_ | refine kldh hM ?_ | refine kld hM ?_ (hv := by first | exact hs_get _ _ _ | exact hs_get1 _ _ _ _)) | ((with_reducible apply is_sto); first | (refine kst hM ?_; intro w hM) | (refine kstw hM ?_; intro w hM)) | ((with_reducible apply is_st); refine su ?_) | ((with_reducible apply is_gd); first | refine gt ?_ | refine gf ?_ | refine gu ?_) | ((with_reducible apply is_en); refine en ?_) | (with_reducible apply c_region) | refine ws ?_ | refine x_block_other (by decide) ?_ | (refine ci_region (by (repeat (first | exact noOut_round | exact noOut_fls | exact noOut_M | apply noOut_then | apply noOut_block))) rfl ?_) )
      refine kca hM (tbit_any k xi w) (fun w hM => ?_)
      repeat (first | ((with_reducible apply is_ld); first | refine kld hM ?_ | refine kldw hM ?_ | refine kle hM ?_ | refine klew hM ?_ | refine kldh hM ?_ | refine kld hM ?_ (hv := by first | exact hs_get _ _ _ | exact hs_get1 _ _ _ _)) | ((with_reducible apply is_sto); first | (refine kst hM ?_; intro w hM) | (refine kstw hM ?_; intro w hM)) | ((with_reducible apply is_st); refine su ?_) | ((with_reducible apply is_gd); first | refine gt ?_ | refine gf ?_ | refine gu ?_) | ((with_reducible apply is_en); refine en ?_) | (with_reducible apply c_region) | refine ws ?_ | refine x_block_other (by decide) ?_ | (refine ci_region (by (repeat (first | exact noOut_round | exact noOut_fls | exact noOut_M | apply noOut_then | apply noOut_block))) rfl ?_) )
      refine kca hM (tbit_any pk xi w) (fun w hM => ?_)
      repeat (first | ((with_reducible apply is_ld); first | refine kld hM ?_ | refine kldw hM ?_ | refine kle hM ?_ | refine klew hM ?_ | refine kldh hM ?_ | refine kld hM ?_ (hv := by first | exact hs_get _ _ _ | exact hs_get1 _ _ _ _)) | ((with_reducible apply is_sto); first | (refine kst hM ?_; intro w hM) | (refine kstw hM ?_; intro w hM)) | ((with_reducible apply is_st); refine su ?_) | ((with_reducible apply is_gd); first | refine gt ?_ | refine gf ?_ | refine gu ?_) | ((with_reducible apply is_en); refine en ?_) | (with_reducible apply c_region) | refine ws ?_ | refine x_block_other (by decide) ?_ | (refine ci_region (by (repeat (first | exact noOut_round | exact noOut_fls | exact noOut_M | apply noOut_then | apply noOut_block))) rfl ?_) )
      by_cases hb : bitZ pk xi = bitZ k xi
      · rw [if_pos hb] at hf
        rw [hb, decide_eq_false (by omega : ¬ (bitZ k xi : Int) ≠ (bitZ k xi : Int))]
        refine ci_condb rfl (fun h => by cases h) (fun _ => ?_)
        repeat (first | ((with_reducible apply is_ld); first | refine kld hM ?_ | refine kldw hM ?_ | refine kle hM ?_ | refine klew hM ?_ | refine kldh hM ?_ | refine kld hM ?_ (hv := by first | exact hs_get _ _ _ | exact hs_get1 _ _ _ _)) | ((with_reducible apply is_sto); first | (refine kst hM ?_; intro w hM) | (refine kstw hM ?_; intro w hM)) | ((with_reducible apply is_st); refine su ?_) | ((with_reducible apply is_gd); first | refine gt ?_ | refine gf ?_ | refine gu ?_) | ((with_reducible apply is_en); refine en ?_) | (with_reducible apply c_region) | refine ws ?_ | refine x_block_other (by decide) ?_ | (refine ci_region (by (repeat (first | exact noOut_round | exact noOut_fls | exact noOut_M | apply noOut_then | apply noOut_block))) rfl ?_) )
        (try ((with_reducible apply is_gd); first | refine gt ?_ | refine gf ?_ | refine gu ?_)); refine wl_val (r_bldS (vs := [(0, hv xs.1), (1, hv xs.1)]) (xs.1.map u8v ++ xs.1.map u8v) (z := List.replicate 64 (.int .u8 0)) (place := fun i => some (i * 32, 32)) (by intro ps; kernel_rfl) rfl (.cons rfl (by simp [hv, Value.cells]) (by simp) (.cons rfl (by simp [hv, Value.cells]) (by simp [spl, hv, Value.cells]) (.nil (by simp [spl, hv, Value.cells]))))) ?_
        refine kal hM (fun w b10 hM => ?_)
        refine kstw (vs := xs.1.map u8v ++ xs.1.map u8v) hM (fun w hM => ?_) (h1 := fun u hu => (List.mem_append.1 hu).elim (one_u8 u) (one_u8 u))
        repeat (first | ((with_reducible apply is_ld); first | refine kld hM ?_ | refine kldw hM ?_ | refine kle hM ?_ | refine klew hM ?_ | refine kldh hM ?_ | refine kld hM ?_ (hv := by first | exact hs_get _ _ _ | exact hs_get1 _ _ _ _)) | ((with_reducible apply is_sto); first | (refine kst hM ?_; intro w hM) | (refine kstw hM ?_; intro w hM)) | ((with_reducible apply is_st); refine su ?_) | ((with_reducible apply is_gd); first | refine gt ?_ | refine gf ?_ | refine gu ?_) | ((with_reducible apply is_en); refine en ?_) | (with_reducible apply c_region) | refine ws ?_ | refine x_block_other (by decide) ?_ | (refine ci_region (by (repeat (first | exact noOut_round | exact noOut_fls | exact noOut_M | apply noOut_then | apply noOut_block))) rfl ?_) )
        have hs : ∃ ha hb' : Hs, stepUp k (xi, xs) h = forkH xi ha hb' ∧ spl (xs.1.map u8v ++ xs.1.map u8v) (0 + ((bitZ k xi : Nat) : Int).toNat * 32) (h.1.map u8v) = ha.1.map u8v ++ hb'.1.map u8v := by
          unfold stepUp
          rcases bit_two k xi with h0 | h0
          · rw [h0, if_pos rfl]
            exact ⟨h, xs, rfl, both0 xs h⟩
          · rw [h0, if_neg (by decide)]
            exact ⟨xs, h, rfl, both1 xs h⟩
        obtain ⟨ha, hb', hs1, hs2⟩ := hs
        have hlt := bitZ_lt k xi
        (try ((with_reducible apply is_gd); first | refine gt ?_ | refine gf ?_ | refine gu ?_)); refine wl_val (r_indexAddr_arr (i := ((bitZ k xi : Nat) : Int)) rfl rfl (by omega) (by omega)) ?_
        refine kstp (vs := h.1.map u8v) hM (fun w hM => ?_) hs2
        repeat (first | ((with_reducible apply is_ld); first | refine kld hM ?_ | refine kldw hM ?_ | refine kle hM ?_ | refine klew hM ?_ | refine kldh hM ?_ | refine kld hM ?_ (hv := by first | exact hs_get _ _ _ | exact hs_get1 _ _ _ _)) | ((with_reducible apply is_sto); first | (refine kst hM ?_; intro w hM) | (refine kstw hM ?_; intro w hM)) | ((with_reducible apply is_st); refine su ?_) | ((with_reducible apply is_gd); first | refine gt ?_ | refine gf ?_ | refine gu ?_) | ((with_reducible apply is_en); refine en ?_) | (with_reducible apply c_region) | refine ws ?_ | refine x_block_other (by decide) ?_ | (refine ci_region (by (repeat (first | exact noOut_round | exact noOut_fls | exact noOut_M | apply noOut_then | apply noOut_block))) rfl ?_) )
        refine kca hM (tfork_any xi hx.1 hx.2 ha hb' w (hK.ch hM.ch (by simp))) (fun w hM => ?_)
        refine kstw (vs := (forkH xi ha hb').1.map u8v) hM (fun w hM => ?_)
        repeat (first | ((with_reducible apply is_ld); first | refine kld hM ?_ | refine kldw hM ?_ | refine kle hM ?_ | refine klew hM ?_ | refine kldh hM ?_ | refine kld hM ?_ (hv := by first | exact hs_get _ _ _ | exact hs_get1 _ _ _ _)) | ((with_reducible apply is_sto); first | (refine kst hM ?_; intro w hM) | (refine kstw hM ?_; intro w hM)) | ((with_reducible apply is_st); refine su ?_) | ((with_reducible apply is_gd); first | refine gt ?_ | refine gf ?_ | refine gu ?_) | ((with_reducible apply is_en); refine en ?_) | (with_reducible apply c_region) | refine ws ?_ | refine x_block_other (by decide) ?_ | (refine ci_region (by (repeat (first | exact noOut_round | exact noOut_fls | exact noOut_M | apply noOut_then | apply noOut_block))) rfl ?_) )
        rw [← hs1] at hM
        refine ⟨[.cell b6 ((stepUp k (xi, xs) h).1.map u8v) 28, .cell b5 [.bool false] 4, .cell b4 (zeroH.1.map u8v) 28, .cell b3 (pC (.slice A st.length c) true pk pv) 54, .cell b2 (k.1.map u8v) 28], ⟨_, rfl, ?_⟩, hM.sub (by (repeat (first | exact Go.Proofs.E.Sub.refl _ | exact Go.Proofs.E.Sub.nil | (apply Go.Proofs.E.Sub.cons; (repeat (first | exact Go.Proofs.E.Pick.here | apply Go.Proofs.E.Pick.there))) | apply Go.Proofs.E.Sub.tail)))⟩
        rw [hf, List.length_append]
        rfl
      · rw [if_neg hb] at hf
        rw [decide_eq_true (by omega : (bitZ pk xi : Int) ≠ (bitZ k xi : Int))]
        refine ci_condb rfl (fun _ => ?_) (fun h => by cases h)
        repeat (first | ((with_reducible apply is_ld); first | refine kld hM ?_ | refine kldw hM ?_ | refine kle hM ?_ | refine klew hM ?_ | refine kldh hM ?_ | refine kld hM ?_ (hv := by first | exact hs_get _ _ _ | exact hs_get1 _ _ _ _)) | ((with_reducible apply is_sto); first | (refine kst hM ?_; intro w hM) | (refine kstw hM ?_; intro w hM)) | ((with_reducible apply is_st); refine su ?_) | ((with_reducible apply is_gd); first | refine gt ?_ | refine gf ?_ | refine gu ?_) | ((with_reducible apply is_en); refine en ?_) | (with_reducible apply c_region) | refine ws ?_ | refine x_block_other (by decide) ?_ | (refine ci_region (by (repeat (first | exact noOut_round | exact noOut_fls | exact noOut_M | apply noOut_then | apply noOut_block))) rfl ?_) )
        (try ((with_reducible apply is_gd); first | refine gt ?_ | refine gf ?_ | refine gu ?_)); refine wl_val (r_build_arr0 (e := 5)) ?_
        refine kstw (vs := zeroH.1.map u8v) hM (fun w hM => ?_)
        repeat (first | ((with_reducible apply is_ld); first | refine kld hM ?_ | refine kldw hM ?_ | refine kle hM ?_ | refine klew hM ?_ | refine kldh hM ?_ | refine kld hM ?_ (hv := by first | exact hs_get _ _ _ | exact hs_get1 _ _ _ _)) | ((with_reducible apply is_sto); first | (refine kst hM ?_; intro w hM) | (refine kstw hM ?_; intro w hM)) | ((with_reducible apply is_st); refine su ?_) | ((with_reducible apply is_gd); first | refine gt ?_ | refine gf ?_ | refine gu ?_) | ((with_reducible apply is_en); refine en ?_) | (with_reducible apply c_region) | refine ws ?_ | refine x_block_other (by decide) ?_ | (refine ci_region (by (repeat (first | exact noOut_round | exact noOut_fls | exact noOut_M | apply noOut_then | apply noOut_block))) rfl ?_) )
        exact ⟨[.cell b5 [.bool false] 4, .cell b4 (zeroH.1.map u8v) 28], ⟨rfl, hf, h, rfl⟩, hM.sub (by (repeat (first | exact Go.Proofs.E.Sub.refl _ | exact Go.Proofs.E.Sub.nil | (apply Go.Proofs.E.Sub.cons; (repeat (first | exact Go.Proofs.E.Pick.here | apply Go.Proofs.E.Pick.there))) | apply Go.Proofs.E.Sub.tail)))⟩
    · rintro D w La ⟨h, rfl, hf⟩ hM
      rw [List.drop_eq_nil_of_le (by simp), climbUp] at hf
      rw [hf]
      simp only [List.cons_append, List.nil_append] at hM
      have hD := hM.head
      change Code.wp _ _ _ _ _
      refine wp_seq ?_
      refine c_regd rfl (noOut_then noOut_M) ?_
      repeat (first | ((with_reducible apply is_ld); first | refine kld hM ?_ | refine kldw hM ?_ | refine kle hM ?_ | refine klew hM ?_ | refine kldh hM ?_ | refine kld hM ?_ (hv := by first | exact hs_get _ _ _ | exact hs_get1 _ _ _ _)) | ((with_reducible apply is_sto); first | (refine kst hM ?_; intro w hM) | (refine kstw hM ?_; intro w hM)) | ((with_reducible apply is_st); refine su ?_) | ((with_reducible apply is_gd); first | refine gt ?_ | refine gf ?_ | refine gu ?_) | ((with_reducible apply is_en); refine en ?_) | (with_reducible apply c_region) | refine ws ?_ | refine x_block_other (by decide) ?_)
      change Code.wp _ _ _ (frd _ _) w
      refine wp_ret ?_
      refine post1 (hM.pick (a := .obj D _) (by (repeat constructor))).head ?_
      have hM := (hM.pick (a := .obj D _) (by (repeat constructor))).putObj (o' := .deferred none)
      exact koc22 hM rfl ⟨rfl, hM.ch⟩
    · rintro D cd pre w La ⟨rfl, hf, h, rfl⟩ hM
      rw [hf]
      simp only [List.cons_append, List.nil_append] at hM
      refine wpIn_ret ?_
      have hD := hM.head
      refine post1 hD ?_
      have hM := hM.putObj (o' := .deferred none)
      exact koc22 hM rfl ⟨rfl, hM.ch⟩
theorem rev_drop {α : Type} {xs : List α} {i : Nat} {x : α} (hi : i < xs.length) (hx : xs[xs.length - 1 - i]? = some x) : xs.reverse.drop i = x :: xs.reverse.drop (i + 1) := by
  have h : xs.reverse[i]? = some x := by rw [List.getElem?_reverse hi]; exact hx
  obtain ⟨hlt, he⟩ := List.getElem?_eq_some_iff.1 h
  rw [List.drop_eq_getElem_cons hlt, he]
set_option maxHeartbeats 32000000 in
theorem rclimb12_any (k : Hs) (sp : Value) (lf : Bool) (pk pv : Hs) (st : List (Int × Hs)) (w0 : World) (hR : (Ty.enc eSt).Rd [] w0 sp st) :
    Calls Tryd.prog 83 #[hv k.1, .agg (pC sp lf pk pv).toArray] w0 (Ret fun u w' => u = optT (climbP k st lf pk pv) ∧ Ch [] w0 w') := by
  have hM := Mem.start w0
  have hle := hR.le
  obtain ⟨A, c, rfl⟩ := hR.form
  refine enter [hv k.1, .agg (pC (.slice A st.length c) lf pk pv).toArray, undef, undef, undef, undef, undef, undef, undef, undef, undef, undef, undef, undef, undef, undef, undef, undef, undef, undef, undef, undef, undef, undef, undef, undef, undef, undef, undef, undef, undef, undef, undef, undef, undef, undef, undef, undef, undef, undef, undef, undef, undef, undef, undef, undef, undef, undef, undef, undef, undef, undef, undef, undef, undef, undef, undef, undef, undef, undef, undef, undef, undef, undef] Tryd.func83 rfl rfl ?_
  repeat (first | ((with_reducible apply is_ld); first | refine kld hM ?_ | refine kldw hM ?_ | refine kle hM ?_ | refine klew hM ?_) | ((with_reducible apply is_sto); first | (refine kst hM ?_; intro w hM) | (refine kstw hM ?_; intro w hM)) | ((with_reducible apply is_st); refine su ?_) | ((with_reducible apply is_gd); first | refine gt ?_ | refine gf ?_ | refine gu ?_) | ((with_reducible apply is_en); refine en ?_) | (with_reducible apply c_region) | refine ws ?_ | refine x_block_other (by decide) ?_)
  refine kbx hM (fun w b2 hM => ?_)
  refine kbx hM (fun w b3 hM => ?_)
  refine kal hM (fun w b4 hM => ?_)
  have hM : Mem [] w0 w [.cell b4 (zeroH.1.map u8v) 28, .cell b3 (pC (.slice A st.length c) lf pk pv) 60, .cell b2 (k.1.map u8v) 28] := hM
  repeat (first | ((with_reducible apply is_ld); first | refine kld hM ?_ | refine kldw hM ?_ | refine kle hM ?_ | refine klew hM ?_ | refine kldh hM ?_ | refine kld hM ?_ (hv := by first | exact hs_get _ _ _ | exact hs_get1 _ _ _ _)) | ((with_reducible apply is_sto); first | (refine kst hM ?_; intro w hM) | (refine kstw hM ?_; intro w hM)) | ((with_reducible apply is_st); refine su ?_) | ((with_reducible apply is_gd); first | refine gt ?_ | refine gf ?_ | refine gu ?_) | ((with_reducible apply is_en); refine en ?_) | (with_reducible apply c_region) | refine ws ?_ | refine x_block_other (by decide) ?_)
  refine kca hM (rgood12_any (.slice A st.length c) lf pk pv st w (hR.ch hM.ch)) (fun w hM => ?_)
  repeat (first | ((with_reducible apply is_ld); first | refine kld hM ?_ | refine kldw hM ?_ | refine kle hM ?_ | refine klew hM ?_ | refine kldh hM ?_ | refine kld hM ?_ (hv := by first | exact hs_get _ _ _ | exact hs_get1 _ _ _ _)) | ((with_reducible apply is_sto); first | (refine kst hM ?_; intro w hM) | (refine kstw hM ?_; intro w hM)) | ((with_reducible apply is_st); refine su ?_) | ((with_reducible apply is_gd); first | refine gt ?_ | refine gf ?_ | refine gu ?_) | ((with_reducible apply is_en); refine en ?_) | (with_reducible apply c_region) | refine ws ?_ | refine x_block_other (by decide) ?_)
  unfold climbP
  by_cases hg : goodP st lf pk pv = true
  case neg =>
    rw [Bool.not_eq_true] at hg
    rw [hg]
    refine c_condb rfl (fun _ => ?_) (fun h => by cases h)
    repeat (first | ((with_reducible apply is_ld); first | refine kld hM ?_ | refine kldw hM ?_ | refine kle hM ?_ | refine klew hM ?_ | refine kldh hM ?_ | refine kld hM ?_ (hv := by first | exact hs_get _ _ _ | exact hs_get1 _ _ _ _)) | ((with_reducible apply is_sto); first | (refine kst hM ?_; intro w hM) | (refine kstw hM ?_; intro w hM)) | ((with_reducible apply is_st); refine su ?_) | ((with_reducible apply is_gd); first | refine gt ?_ | refine gf ?_ | refine gu ?_) | ((with_reducible apply is_en); refine en ?_) | (with_reducible apply c_region) | refine ws ?_ | refine x_block_other (by decide) ?_)
    (try ((with_reducible apply is_gd); first | refine gt ?_ | refine gf ?_ | refine gu ?_)); refine wl_val (r_build_arr0 (e := 5)) ?_
    refine kstw (vs := zeroH.1.map u8v) hM (fun w hM => ?_)
    repeat (first | ((with_reducible apply is_ld); first | refine kld hM ?_ | refine kldw hM ?_ | refine kle hM ?_ | refine klew hM ?_ | refine kldh hM ?_ | refine kld hM ?_ (hv := by first | exact hs_get _ _ _ | exact hs_get1 _ _ _ _)) | ((with_reducible apply is_sto); first | (refine kst hM ?_; intro w hM) | (refine kstw hM ?_; intro w hM)) | ((with_reducible apply is_st); refine su ?_) | ((with_reducible apply is_gd); first | refine gt ?_ | refine gf ?_ | refine gu ?_) | ((with_reducible apply is_en); refine en ?_) | (with_reducible apply c_region) | refine ws ?_ | refine x_block_other (by decide) ?_)
    exact koc2 hM rfl ⟨rfl, hM.ch⟩
  rw [hg]
  refine c_condb rfl (fun h => by cases h) (fun _ => ?_)
  repeat (first | ((with_reducible apply is_ld); first | refine kld hM ?_ | refine kldw hM ?_ | refine kle hM ?_ | refine klew hM ?_ | refine kldh hM ?_ | refine kld hM ?_ (hv := by first | exact hs_get _ _ _ | exact hs_get1 _ _ _ _)) | ((with_reducible apply is_sto); first | (refine kst hM ?_; intro w hM) | (refine kstw hM ?_; intro w hM)) | ((with_reducible apply is_st); refine su ?_) | ((with_reducible apply is_gd); first | refine gt ?_ | refine gf ?_ | refine gu ?_) | ((with_reducible apply is_en); refine en ?_) | (with_reducible apply c_region) | refine ws ?_ | refine x_block_other (by decide) ?_)
  cases lf with
  | false =>
    refine c_condb rfl (fun _ => ?_) (fun h => by cases h)
    repeat (first | ((with_reducible apply is_ld); first | refine kld hM ?_ | refine kldw hM ?_ | refine kle hM ?_ | refine klew hM ?_ | refine kldh hM ?_ | refine kld hM ?_ (hv := by first | exact hs_get _ _ _ | exact hs_get1 _ _ _ _)) | ((with_reducible apply is_sto); first | (refine kst hM ?_; intro w hM) | (refine kstw hM ?_; intro w hM)) | ((with_reducible apply is_st); refine su ?_) | ((with_reducible apply is_gd); first | refine gt ?_ | refine gf ?_ | refine gu ?_) | ((with_reducible apply is_en); refine en ?_) | (with_reducible apply c_region) | refine ws ?_ | refine x_block_other (by decide) ?_)
    refine kca hM (rnothing_any w trivial) (fun w hM => ?_)
    repeat (first | ((with_reducible apply is_ld); first | refine kld hM ?_ | refine kldw hM ?_ | refine kle hM ?_ | refine klew hM ?_ | refine kldh hM ?_ | refine kld hM ?_ (hv := by first | exact hs_get _ _ _ | exact hs_get1 _ _ _ _)) | ((with_reducible apply is_sto); first | (refine kst hM ?_; intro w hM) | (refine kstw hM ?_; intro w hM)) | ((with_reducible apply is_st); refine su ?_) | ((with_reducible apply is_gd); first | refine gt ?_ | refine gf ?_ | refine gu ?_) | ((with_reducible apply is_en); refine en ?_) | (with_reducible apply c_region) | refine ws ?_ | refine x_block_other (by decide) ?_)
    exact koc2 hM rfl ⟨rfl, hM.ch⟩
  | true =>
    refine c_condb rfl (fun h => by cases h) (fun _ => ?_)
    have hgm := goodSt_mem (show goodSt (-1) st = true by unfold goodP at hg; simpa using hg) (by omega)
    repeat (first | ((with_reducible apply is_ld); first | refine kld hM ?_ | refine kldw hM ?_ | refine kle hM ?_ | refine klew hM ?_ | refine kldh hM ?_ | refine kld hM ?_ (hv := by first | exact hs_get _ _ _ | exact hs_get1 _ _ _ _)) | ((with_reducible apply is_sto); first | (refine kst hM ?_; intro w hM) | (refine kstw hM ?_; intro w hM)) | ((with_reducible apply is_st); refine su ?_) | ((with_reducible apply is_gd); first | refine gt ?_ | refine gf ?_ | refine gu ?_) | ((with_reducible apply is_en); refine en ?_) | (with_reducible apply c_region) | refine ws ?_ | refine x_block_other (by decide) ?_)
    refine kca hM (ritem_any pk pv w trivial) (fun w hM => ?_)
    refine kal hM (fun w b6 hM => ?_)
    refine kstw (vs := (itemH pk pv).1.map u8v) hM (fun w hM => ?_)
    rw [if_pos rfl, if_pos rfl]
    generalize itemH pk pv = h0 at hM ⊢
    repeat (first | ((with_reducible apply is_ld); first | refine kld hM ?_ | refine kldw hM ?_ | refine kle hM ?_ | refine klew hM ?_ | refine kldh hM ?_ | refine kld hM ?_ (hv := by first | exact hs_get _ _ _ | exact hs_get1 _ _ _ _)) | ((with_reducible apply is_sto); first | (refine kst hM ?_; intro w hM) | (refine kstw hM ?_; intro w hM)) | ((with_reducible apply is_st); refine su ?_) | ((with_reducible apply is_gd); first | refine gt ?_ | refine gf ?_ | refine gu ?_) | ((with_reducible apply is_en); refine en ?_) | (with_reducible apply c_region) | refine ws ?_ | refine x_block_other (by decide) ?_)
    
    refine c_loop (fun n l w => ∃ (i : Nat) (h : Hs), (∃ jj : Nat → Value, l = [jj 0, jj 1, .pointer (some ⟨b2, 0, none⟩), .pointer (some ⟨b3, 0, none⟩), .pointer (some ⟨b4, 0, none⟩), jj 5, .pointer (some ⟨b6, 0, none⟩), .int .i64 ((st.length : Int) - 1 - (i : Int)), jj 8, jj 9, jj 10, jj 11, jj 12, jj 13, jj 14, jj 15, jj 16, jj 17, jj 18, jj 19, jj 20, jj 21, jj 22, jj 23, jj 24, jj 25, jj 26, jj 27, jj 28, jj 29, jj 30, jj 31, jj 32, jj 33, jj 34, jj 35, jj 36, jj 37, jj 38, jj 39, jj 40, jj 41, jj 42, jj 43, jj 44, jj 45, jj 46, jj 47, jj 48, jj 49, jj 50, jj 51, jj 52, jj 53, jj 54, jj 55, jj 56, jj 57, jj 58, jj 59, jj 60, jj 61, jj 62, jj 63]) ∧ n + i = st.length ∧ Mem [] w0 w [.cell b6 (h.1.map u8v) 28, .cell b4 (zeroH.1.map u8v) 28, .cell b3 (pC (.slice A st.length c) true pk pv) 60, .cell b2 (k.1.map u8v) 28] ∧ climbUp k pk st.reverse h0 = climbUp k pk (st.reverse.drop i) h) st.length
      ⟨0, h0, exj (by rw [show (st.length : Int) - 1 - ((0 : Nat) : Int) = (st.length : Int) - 1 by omega]; rfl), rfl, hM.sub (by (repeat constructor)), rfl⟩ ?_
    clear hM
    rintro n l w ⟨i, h, ⟨jj, rfl⟩, hni, hM, hf⟩
    repeat (first | ((with_reducible apply is_ld); first | refine kld hM ?_ | refine kldw hM ?_ | refine kle hM ?_ | refine klew hM ?_ | refine kldh hM ?_ | refine kld hM ?_ (hv := by first | exact hs_get _ _ _ | exact hs_get1 _ _ _ _)) | ((with_reducible apply is_sto); first | (refine kst hM ?_; intro w hM) | (refine kstw hM ?_; intro w hM)) | ((with_reducible apply is_st); refine su ?_) | ((with_reducible apply is_gd); first | refine gt ?_ | refine gf ?_ | refine gu ?_) | ((with_reducible apply is_en); refine en ?_) | (with_reducible apply c_region) | refine ws ?_ | refine x_block_other (by decide) ?_)
    refine c_cond rfl (fun hi => ?_) (fun hi => ?_)
    · have hiu : i < st.length := by omega
      repeat (first | ((with_reducible apply is_ld); first | refine kld hM ?_ | refine kldw hM ?_ | refine kle hM ?_ | refine klew hM ?_ | refine kldh hM ?_ | refine kld hM ?_ (hv := by first | exact hs_get _ _ _ | exact hs_get1 _ _ _ _)) | ((with_reducible apply is_sto); first | (refine kst hM ?_; intro w hM) | (refine kstw hM ?_; intro w hM)) | ((with_reducible apply is_st); refine su ?_) | ((with_reducible apply is_gd); first | refine gt ?_ | refine gf ?_ | refine gu ?_) | ((with_reducible apply is_en); refine en ?_) | (with_reducible apply c_region) | refine ws ?_ | refine x_block_other (by decide) ?_)
      refine kix hR (fun b o x hx hA => ?_)
      rw [show ((st.length : Int) - 1 - (i : Int)).toNat = st.length - 1 - i by omega] at hx
      rw [rev_drop hiu hx, climbUp] at hf
      have hxx := hgm x (List.mem_of_getElem? hx)
      refine katr hM hA ?_
      obtain ⟨xi, xs⟩ := x
      simp only at hf hxx
      refine kal hM (fun w b8 hM => ?_)
      refine kstw (vs := eSt.f (xi, xs)) hM (fun w hM => ?_) (h1 := eSt.h1 (xi, xs))
      repeat (first | ((with_reducible apply is_ld); first | refine kld hM ?_ | refine kldw hM ?_ | refine kle hM ?_ | refine klew hM ?_ | refine kldh hM ?_ | refine kld hM ?_ (hv := by first | exact hs_get _ _ _ | exact hs_get1 _ _ _ _)) | ((with_reducible apply is_sto); first | (refine kst hM ?_; intro w hM) | (refine kstw hM ?_; intro w hM)) | ((with_reducible apply is_st); refine su ?_) | ((with_reducible apply is_gd); first | refine gt ?_ | refine gf ?_ | refine gu ?_) | ((with_reducible apply is_en); refine en ?_) | (with_reducible apply c_region) | refine ws ?_ | refine x_block_other (by decide) ?_)
      refine kdr hM (by kernel_rfl) (by kernel_rfl) (fun w hM => ?_)
      repeat (first | ((with_reducible apply is_ldg); first | refine kldg hM ?_ | refine kldwg hM ?_ | refine kldhg hM ?_) | ((with_reducible apply is_sg); refine sgu ?_) | ((with_reducible apply is_gg); first | refine gtg ?_ | refine gfg ?_ | refine gug ?_) | ((with_reducible apply is_eg); refine eg ?_))
      refine kcag hM (fun w1 hM => rbit_any k xi w1) ?_
      repeat (first | ((with_reducible apply is_ldg); first | refine kldg hM ?_ | refine kldwg hM ?_ | refine kldhg hM ?_) | ((with_reducible apply is_sg); refine sgu ?_) | ((with_reducible apply is_gg); first | refine gtg ?_ | refine gfg ?_ | refine gug ?_) | ((with_reducible apply is_eg); refine eg ?_))
      refine kcag hM (fun w1 hM => rbit_any pk xi w1) ?_
      repeat (first | ((with_reducible apply is_ldg); first | refine kldg hM ?_ | refine kldwg hM ?_ | refine kldhg hM ?_) | ((with_reducible apply is_sg); refine sgu ?_) | ((with_reducible apply is_gg); first | refine gtg ?_ | refine gfg ?_ | refine gug ?_) | ((with_reducible apply is_eg); refine eg ?_))
      (intro w hc; have hM := hM.call hc)
      repeat (first | ((with_reducible apply is_ld); first | refine kld hM ?_ | refine kldw hM ?_ | refine kle hM ?_ | refine klew hM ?_ | refine kldh hM ?_ | refine kld hM ?_ (hv := by first | exact hs_get _ _ _ | exact hs_get1 _ _ _ _)) | ((with_reducible apply is_sto); first | (refine kst hM ?_; intro w hM) | (refine kstw hM ?_; intro w hM)) | ((with_reducible apply is_st); refine su ?_) | ((with_reducible apply is_gd); first | refine gt ?_ | refine gf ?_ | refine gu ?_) | ((with_reducible apply is_en); refine en ?_) | (with_reducible apply c_region) | refine ws ?_ | refine x_block_other (by decide) ?_)
      by_cases hb : bitZ pk xi = bitZ k xi
      · rw [if_pos hb] at hf
        rw [hb, decide_eq_false (by omega : ¬ (bitZ k xi : Int) ≠ (bitZ k xi : Int))]
        refine c_condb rfl (fun h => by cases h) (fun _ => ?_)
        repeat (first | ((with_reducible apply is_ld); first | refine kld hM ?_ | refine kldw hM ?_ | refine kle hM ?_ | refine klew hM ?_ | refine kldh hM ?_ | refine kld hM ?_ (hv := by first | exact hs_get _ _ _ | exact hs_get1 _ _ _ _)) | ((with_reducible apply is_sto); first | (refine kst hM ?_; intro w hM) | (refine kstw hM ?_; intro w hM)) | ((with_reducible apply is_st); refine su ?_) | ((with_reducible apply is_gd); first | refine gt ?_ | refine gf ?_ | refine gu ?_) | ((with_reducible apply is_en); refine en ?_) | (with_reducible apply c_region) | refine ws ?_ | refine x_block_other (by decide) ?_)
        refine kca hM (rbit_any k xi w) (fun w hM => ?_)
        repeat (first | ((with_reducible apply is_ld); first | refine kld hM ?_ | refine kldw hM ?_ | refine kle hM ?_ | refine klew hM ?_ | refine kldh hM ?_ | refine kld hM ?_ (hv := by first | exact hs_get _ _ _ | exact hs_get1 _ _ _ _)) | ((with_reducible apply is_sto); first | (refine kst hM ?_; intro w hM) | (refine kstw hM ?_; intro w hM)) | ((with_reducible apply is_st); refine su ?_) | ((with_reducible apply is_gd); first | refine gt ?_ | refine gf ?_ | refine gu ?_) | ((with_reducible apply is_en); refine en ?_) | (with_reducible apply c_region) | refine ws ?_ | refine x_block_other (by decide) ?_)
        unfold stepUp at hf
        by_cases hb0 : bitZ k xi = 0
        · rw [if_pos hb0] at hf
          rw [decide_eq_true (by omega : (bitZ k xi : Int) = 0)]
          refine c_condb rfl (fun _ => ?_) (fun h => by cases h)
          repeat (first | ((with_reducible apply is_ld); first | refine kld hM ?_ | refine kldw hM ?_ | refine kle hM ?_ | refine klew hM ?_ | refine kldh hM ?_ | refine kld hM ?_ (hv := by first | exact hs_get _ _ _ | exact hs_get1 _ _ _ _)) | ((with_reducible apply is_sto); first | (refine kst hM ?_; intro w hM) | (refine kstw hM ?_; intro w hM)) | ((with_reducible apply is_st); refine su ?_) | ((with_reducible apply is_gd); first | refine gt ?_ | refine gf ?_ | refine gu ?_) | ((with_reducible apply is_en); refine en ?_) | (with_reducible apply c_region) | refine ws ?_ | refine x_block_other (by decide) ?_)
          refine kca hM (rfork_any xi hxx.1 hxx.2 h xs w trivial) (fun w hM => ?_)
          repeat (first | ((with_reducible apply is_ld); first | refine kld hM ?_ | refine kldw hM ?_ | refine kle hM ?_ | refine klew hM ?_ | refine kldh hM ?_ | refine kld hM ?_ (hv := by first | exact hs_get _ _ _ | exact hs_get1 _ _ _ _)) | ((with_reducible apply is_sto); first | (refine kst hM ?_; intro w hM) | (refine kstw hM ?_; intro w hM)) | ((with_reducible apply is_st); refine su ?_) | ((with_reducible apply is_gd); first | refine gt ?_ | refine gf ?_ | refine gu ?_) | ((with_reducible apply is_en); refine en ?_) | (with_reducible apply c_region) | refine ws ?_ | refine x_block_other (by decide) ?_)
          exact x_goes (n - 1) rfl (by omega) ⟨i + 1, forkH xi h xs, exj (by rw [show (st.length : Int) - 1 - ((i + 1 : Nat) : Int) = (st.length : Int) - 1 - (i : Int) - 1 by omega]; rfl), by omega, hM.sub (by (repeat constructor)), hf⟩
        · rw [if_neg hb0] at hf
          rw [decide_eq_false (by omega : ¬ (bitZ k xi : Int) = 0)]
          refine c_condb rfl (fun h => by cases h) (fun _ => ?_)
          repeat (first | ((with_reducible apply is_ld); first | refine kld hM ?_ | refine kldw hM ?_ | refine kle hM ?_ | refine klew hM ?_ | refine kldh hM ?_ | refine kld hM ?_ (hv := by first | exact hs_get _ _ _ | exact hs_get1 _ _ _ _)) | ((with_reducible apply is_sto); first | (refine kst hM ?_; intro w hM) | (refine kstw hM ?_; intro w hM)) | ((with_reducible apply is_st); refine su ?_) | ((with_reducible apply is_gd); first | refine gt ?_ | refine gf ?_ | refine gu ?_) | ((with_reducible apply is_en); refine en ?_) | (with_reducible apply c_region) | refine ws ?_ | refine x_block_other (by decide) ?_)
          refine kca hM (rfork_any xi hxx.1 hxx.2 xs h w trivial) (fun w hM => ?_)
          repeat (first | ((with_reducible apply is_ld); first | refine kld hM ?_ | refine kldw hM ?_ | refine kle hM ?_ | refine klew hM ?_ | refine kldh hM ?_ | refine kld hM ?_ (hv := by first | exact hs_get _ _ _ | exact hs_get1 _ _ _ _)) | ((with_reducible apply is_sto); first | (refine kst hM ?_; intro w hM) | (refine kstw hM ?_; intro w hM)) | ((with_reducible apply is_st); refine su ?_) | ((with_reducible apply is_gd); first | refine gt ?_ | refine gf ?_ | refine gu ?_) | ((with_reducible apply is_en); refine en ?_) | (with_reducible apply c_region) | refine ws ?_ | refine x_block_other (by decide) ?_)
          exact x_goes (n - 1) rfl (by omega) ⟨i + 1, forkH xi xs h, exj (by rw [show (st.length : Int) - 1 - ((i + 1 : Nat) : Int) = (st.length : Int) - 1 - (i : Int) - 1 by omega]; rfl), by omega, hM.sub (by (repeat constructor)), hf⟩
      · rw [if_neg hb] at hf
        rw [decide_eq_true (by omega : (bitZ k xi : Int) ≠ (bitZ pk xi : Int))]
        refine c_condb rfl (fun _ => ?_) (fun h => by cases h)
        rw [hf]
        repeat (first | ((with_reducible apply is_ld); first | refine kld hM ?_ | refine kldw hM ?_ | refine kle hM ?_ | refine klew hM ?_ | refine kldh hM ?_ | refine kld hM ?_ (hv := by first | exact hs_get _ _ _ | exact hs_get1 _ _ _ _)) | ((with_reducible apply is_sto); first | (refine kst hM ?_; intro w hM) | (refine kstw hM ?_; intro w hM)) | ((with_reducible apply is_st); refine su ?_) | ((with_reducible apply is_gd); first | refine gt ?_ | refine gf ?_ | refine gu ?_) | ((with_reducible apply is_en); refine en ?_) | (with_reducible apply c_region) | refine ws ?_ | refine x_block_other (by decide) ?_)
        (try ((with_reducible apply is_gd); first | refine gt ?_ | refine gf ?_ | refine gu ?_)); refine wl_val (r_build_arr0 (e := 5)) ?_
        refine kstw (vs := zeroH.1.map u8v) hM (fun w hM => ?_)
        repeat (first | ((with_reducible apply is_ld); first | refine kld hM ?_ | refine kldw hM ?_ | refine kle hM ?_ | refine klew hM ?_ | refine kldh hM ?_ | refine kld hM ?_ (hv := by first | exact hs_get _ _ _ | exact hs_get1 _ _ _ _)) | ((with_reducible apply is_sto); first | (refine kst hM ?_; intro w hM) | (refine kstw hM ?_; intro w hM)) | ((with_reducible apply is_st); refine su ?_) | ((with_reducible apply is_gd); first | refine gt ?_ | refine gf ?_ | refine gu ?_) | ((with_reducible apply is_en); refine en ?_) | (with_reducible apply c_region) | refine ws ?_ | refine x_block_other (by decide) ?_)
        exact koc2 hM rfl ⟨rfl, hM.ch⟩
    · rw [List.drop_eq_nil_of_le (by simp; omega), climbUp] at hf
      rw [hf]
      repeat (first | ((with_reducible apply is_ld); first | refine kld hM ?_ | refine kldw hM ?_ | refine kle hM ?_ | refine klew hM ?_ | refine kldh hM ?_ | refine kld hM ?_ (hv := by first | exact hs_get _ _ _ | exact hs_get1 _ _ _ _)) | ((with_reducible apply is_sto); first | (refine kst hM ?_; intro w hM) | (refine kstw hM ?_; intro w hM)) | ((with_reducible apply is_st); refine su ?_) | ((with_reducible apply is_gd); first | refine gt ?_ | refine gf ?_ | refine gu ?_) | ((with_reducible apply is_en); refine en ?_) | (with_reducible apply c_region) | refine ws ?_ | refine x_block_other (by decide) ?_)
      exact koc2 hM rfl ⟨rfl, hM.ch⟩
end Go.Proofs.YtkpkfplcoakfcaaDoor

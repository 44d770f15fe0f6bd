/- Walks: values as bytes (layer 1), both. -/
import Derived.Test.YtkpkfplcoakfcaaDoorInst
import Derived.Test.YtkpkfplcoakfcaaDoorStr1
set_option linter.unusedVariables false
set_option linter.unusedSimpArgs false
namespace Go.Proofs.YtkpkfplcoakfcaaDoor
open Go Go.RowKit Go.Proofs.E
attribute [local irreducible] Go.wpList Go.Code.wp Go.Proofs.E.exec Go.Proofs.E.wpLexG
/-- The bytes of a number, the greatest first. -/
def beN (n : Nat) : List UInt8 := if h : n = 0 then [] else beN (n / 256) ++ [UInt8.ofNat (n % 256)]
decreasing_by omega
def numB (n : Nat) : List UInt8 := if n < 248 then [UInt8.ofNat n] else UInt8.ofNat (247 + (beN n).length) :: beN n
def strB (s : List UInt8) : List UInt8 := numB s.length ++ s
def flagB (f : Bool) : List UInt8 := [if f = true then 1 else 0]
theorem beN_zero : beN 0 = [] := by rw [beN]; rfl
theorem beN_pos {n : Nat} (h : 0 < n) : beN n = beN (n / 256) ++ [UInt8.ofNat (n % 256)] := by rw [beN, dif_neg (by omega)]
theorem beN_len : ∀ (k n : Nat), n < 256 ^ k → (beN n).length ≤ k
  | 0, n, h => by
    have : n = 0 := by simpa using h
    subst this
    rw [beN_zero]
    exact Nat.le_refl _
  | k + 1, n, h => by
    by_cases h0 : n = 0
    · subst h0
      rw [beN_zero]
      exact Nat.zero_le _
    · rw [beN_pos (by omega), List.length_append]
      have := beN_len k (n / 256) (by rw [Nat.pow_succ] at h; exact Nat.div_lt_of_lt_mul (by omega))
      simp
      omega
theorem beN_len8 {n : Nat} (h : n < 2 ^ 64) : (beN n).length ≤ 8 := beN_len 8 n (by simpa using h)
theorem numB_len {n : Nat} (h : n < 2 ^ 64) : (numB n).length ≤ 9 := by
  unfold numB
  split
  · simp
  · have := beN_len8 h
    simp
    omega
theorem u8v_ofNat {n : Nat} (h : n < 256) : u8v (UInt8.ofNat n) = .int .u8 (n : Int) := by
  unfold u8v
  rw [UInt8.toNat_ofNat', Nat.mod_eq_of_lt (by omega)]
theorem u8v_wrap (n : Nat) : Value.int .u8 (IntKind.u8.wrap (n : Int)) = u8v (UInt8.ofNat (n % 256)) := by
  rw [u8v_ofNat (by omega)]
  have : IntKind.u8.wrap (n : Int) = ((n % 256 : Nat) : Int) := by
    unfold IntKind.wrap
    simp [IntKind.bits, IntKind.signed]
  rw [this]
theorem clone8_any {bs : List UInt8} (v : Value) (w0 : World) (hR : (Ty.enc eU8).Rd [] w0 v bs) (hb : bs.length ≤ 70368744177664) :
    Calls Tryd.prog 92 #[v] w0 (Ret fun u w' => Ch [] w0 w' ∧ Go.Proofs.E.Own eU8 w' w0.heap.size 5 u bs) := by
  have hM := Mem.start w0
  obtain ⟨A, c, rfl⟩ := hR.form
  refine enter [.slice A bs.length c, undef, undef, undef, undef, undef, undef, undef] Tryd.func92 rfl rfl ?_
  repeat (first | ((with_reducible apply is_ld); first | refine kld hM ?_ | refine kldw hM ?_ | refine kle hM ?_ | refine klew hM ?_) | ((with_reducible apply is_sto); first | (refine kst hM ?_; intro w hM) | (refine kstw hM ?_; intro w hM)) | ((with_reducible apply is_st); refine su ?_) | ((with_reducible apply is_gd); first | refine gt ?_ | refine gf ?_ | refine gu ?_) | ((with_reducible apply is_en); refine en ?_) | (with_reducible apply c_region) | refine ws ?_ | refine x_block_other (by decide) ?_)
  (try ((with_reducible apply is_gd); first | refine gt ?_ | refine gf ?_ | refine gu ?_)); refine wl_val (r_eqnil) ?_
  repeat (first | ((with_reducible apply is_ld); first | refine kld hM ?_ | refine kldw hM ?_ | refine kle hM ?_ | refine klew hM ?_) | ((with_reducible apply is_sto); first | (refine kst hM ?_; intro w hM) | (refine kstw hM ?_; intro w hM)) | ((with_reducible apply is_st); refine su ?_) | ((with_reducible apply is_gd); first | refine gt ?_ | refine gf ?_ | refine gu ?_) | ((with_reducible apply is_en); refine en ?_) | (with_reducible apply c_region) | refine ws ?_ | refine x_block_other (by decide) ?_)
  cases A with
  | none =>
    refine c_condb rfl (fun _ => ?_) (fun h => by cases h)
    have : bs = [] := by
      cases bs with
      | nil => rfl
      | cons b r =>
        obtain ⟨_, _, _, hv, _, hA⟩ := hR
        obtain ⟨_, _, h, _⟩ := hA (by simp)
        subst h
        cases hv
    subst this
    repeat (first | ((with_reducible apply is_ld); first | refine kld hM ?_ | refine kldw hM ?_ | refine kle hM ?_ | refine klew hM ?_) | ((with_reducible apply is_sto); first | (refine kst hM ?_; intro w hM) | (refine kstw hM ?_; intro w hM)) | ((with_reducible apply is_st); refine su ?_) | ((with_reducible apply is_gd); first | refine gt ?_ | refine gf ?_ | refine gu ?_) | ((with_reducible apply is_en); refine en ?_) | (with_reducible apply c_region) | refine ws ?_ | refine x_block_other (by decide) ?_)
    exact out1 rfl ⟨hM.ch, Go.Proofs.E.Own.nil _ _ _ _⟩
  | some a =>
    refine c_condb rfl (fun h => by cases h) (fun _ => ?_)
    repeat (first | ((with_reducible apply is_ld); first | refine kld hM ?_ | refine kldw hM ?_ | refine kle hM ?_ | refine klew hM ?_) | ((with_reducible apply is_sto); first | (refine kst hM ?_; intro w hM) | (refine kstw hM ?_; intro w hM)) | ((with_reducible apply is_st); refine su ?_) | ((with_reducible apply is_gd); first | refine gt ?_ | refine gf ?_ | refine gu ?_) | ((with_reducible apply is_en); refine en ?_) | (with_reducible apply c_region) | refine ws ?_ | refine x_block_other (by decide) ?_)
    refine kbs (en := eU8) (vs := []) [] hM (fun w b5 hM => ?_)
    repeat (first | ((with_reducible apply is_ld); first | refine kld hM ?_ | refine kldw hM ?_ | refine kle hM ?_ | refine klew hM ?_) | ((with_reducible apply is_sto); first | (refine kst hM ?_; intro w hM) | (refine kstw hM ?_; intro w hM)) | ((with_reducible apply is_st); refine su ?_) | ((with_reducible apply is_gd); first | refine gt ?_ | refine gf ?_ | refine gu ?_) | ((with_reducible apply is_en); refine en ?_) | (with_reducible apply c_region) | refine ws ?_ | refine x_block_other (by decide) ?_)
    refine kap (en := eU8) (ys := bs) hM (hR.ch hM.ch) (fun v7 w hM => ?_) (hb := by simp; omega) (h63 := by simp; omega)
    repeat (first | ((with_reducible apply is_ld); first | refine kld hM ?_ | refine kldw hM ?_ | refine kle hM ?_ | refine klew hM ?_) | ((with_reducible apply is_sto); first | (refine kst hM ?_; intro w hM) | (refine kstw hM ?_; intro w hM)) | ((with_reducible apply is_st); refine su ?_) | ((with_reducible apply is_gd); first | refine gt ?_ | refine gf ?_ | refine gu ?_) | ((with_reducible apply is_en); refine en ?_) | (with_reducible apply c_region) | refine ws ?_ | refine x_block_other (by decide) ?_)
    exact out1 rfl ⟨hM.ch, hM.row (v := v7) (by (repeat constructor))⟩
/-- The program's array of eight after j bytes. -/
theorem arr_set {z X : List Value} {v x : Value} {i : Nat} (hz : z.length = i) : (z ++ x :: X).set i v = z ++ v :: X := by
  subst hz
  rw [List.set_append_right _ _ (Nat.le_refl _), Nat.sub_self]
  rfl
set_option maxHeartbeats 8000000 in
theorem num_any {bs : List UInt8} (v : Value) (n : Nat) (w0 : World) (hR : tU8.Rd [] w0 v bs) (hb : bs.length ≤ 70368744177600) (hn : n < 2 ^ 64) :
    Calls Tryd.prog 61 #[v, .int .u64 (n : Int)] w0 (Ret fun u w' => Ch [] w0 w' ∧ Go.Proofs.E.Own eU8 w' w0.heap.size 5 u (bs ++ numB n)) := by
  have hM := Mem.start w0
  refine enter [v, .int .u64 (n : Int), undef, undef, undef, undef, undef, undef, undef, undef, undef, undef, undef, undef, undef, undef, undef, undef, undef, undef, undef, undef, undef, undef, undef, undef, undef, undef, undef, undef, undef, undef, undef, undef, undef] Tryd.func61 rfl rfl ?_
  repeat (first | ((with_reducible apply is_ld); first | refine kld hM ?_ | refine kldw hM ?_ | refine kle hM ?_ | refine klew hM ?_) | ((with_reducible apply is_sto); first | (refine kst hM ?_; intro w hM) | (refine kstw hM ?_; intro w hM)) | ((with_reducible apply is_st); refine su ?_) | ((with_reducible apply is_gd); first | refine gt ?_ | refine gf ?_ | refine gu ?_) | ((with_reducible apply is_en); refine en ?_) | (with_reducible apply c_region) | refine ws ?_ | refine x_block_other (by decide) ?_)
  refine kcr hM (clone8_any v w0 hR (by omega)) (fun v8 w hM => ?_)
  repeat (first | ((with_reducible apply is_ld); first | refine kld hM ?_ | refine kldw hM ?_ | refine kle hM ?_ | refine klew hM ?_) | ((with_reducible apply is_sto); first | (refine kst hM ?_; intro w hM) | (refine kstw hM ?_; intro w hM)) | ((with_reducible apply is_st); refine su ?_) | ((with_reducible apply is_gd); first | refine gt ?_ | refine gf ?_ | refine gu ?_) | ((with_reducible apply is_en); refine en ?_) | (with_reducible apply c_region) | refine ws ?_ | refine x_block_other (by decide) ?_)
  unfold numB
  by_cases h248 : n < 248
  · rw [decide_eq_true (by omega : (n : Int) < 248), if_pos h248]
    refine c_condb rfl (fun _ => ?_) (fun h => by cases h)
    repeat (first | ((with_reducible apply is_ld); first | refine kld hM ?_ | refine kldw hM ?_ | refine kle hM ?_ | refine klew hM ?_) | ((with_reducible apply is_sto); first | (refine kst hM ?_; intro w hM) | (refine kstw hM ?_; intro w hM)) | ((with_reducible apply is_st); refine su ?_) | ((with_reducible apply is_gd); first | refine gt ?_ | refine gf ?_ | refine gu ?_) | ((with_reducible apply is_en); refine en ?_) | (with_reducible apply c_region) | refine ws ?_ | refine x_block_other (by decide) ?_)
    refine kpu (UInt8.ofNat n) hM (fun _ v15 w hM => ?_) (ha := by show [Value.int .u8 (n : Int)] = [u8v (UInt8.ofNat n)]; rw [u8v_ofNat (by omega)]) (hb := by omega) (h63 := by omega)
    repeat (first | ((with_reducible apply is_ld); first | refine kld hM ?_ | refine kldw hM ?_ | refine kle hM ?_ | refine klew hM ?_) | ((with_reducible apply is_sto); first | (refine kst hM ?_; intro w hM) | (refine kstw hM ?_; intro w hM)) | ((with_reducible apply is_st); refine su ?_) | ((with_reducible apply is_gd); first | refine gt ?_ | refine gf ?_ | refine gu ?_) | ((with_reducible apply is_en); refine en ?_) | (with_reducible apply c_region) | refine ws ?_ | refine x_block_other (by decide) ?_)
    exact out1 rfl ⟨hM.ch, hM.row (v := v15) (by (repeat constructor))⟩
  · rw [decide_eq_false (by omega : ¬ (n : Int) < 248), if_neg h248]
    refine c_condb rfl (fun h => by cases h) (fun _ => ?_)
    repeat (first | ((with_reducible apply is_ld); first | refine kld hM ?_ | refine kldw hM ?_ | refine kle hM ?_ | refine klew hM ?_) | ((with_reducible apply is_sto); first | (refine kst hM ?_; intro w hM) | (refine kstw hM ?_; intro w hM)) | ((with_reducible apply is_st); refine su ?_) | ((with_reducible apply is_gd); first | refine gt ?_ | refine gf ?_ | refine gu ?_) | ((with_reducible apply is_en); refine en ?_) | (with_reducible apply c_region) | refine ws ?_ | refine x_block_other (by decide) ?_)
    refine kal hM (fun w b5 hM => ?_)
    repeat (first | ((with_reducible apply is_ld); first | refine kld hM ?_ | refine kldw hM ?_ | refine kle hM ?_ | refine klew hM ?_) | ((with_reducible apply is_sto); first | (refine kst hM ?_; intro w hM) | (refine kstw hM ?_; intro w hM)) | ((with_reducible apply is_st); refine su ?_) | ((with_reducible apply is_gd); first | refine gt ?_ | refine gf ?_ | refine gu ?_) | ((with_reducible apply is_en); refine en ?_) | (with_reducible apply c_region) | refine ws ?_ | refine x_block_other (by decide) ?_)
    have hM : Mem [] w0 w [.cell b5 ((List.replicate (8 - 0) (0 : UInt8)).map u8v ++ ([] : List UInt8).map u8v) 123, .row eU8 5 v8 bs] := hM
    have hf0 : beN n = beN n ++ [] := by simp
    
    refine c_loop (fun k l w => ∃ (j m : Nat) (X : List UInt8), (∃ jj : Nat → Value, l = [v8, .int .u64 (m : Int), jj 2, jj 3, .slice none 0 0, .pointer (some ⟨b5, 0, none⟩), .int .i64 (8 - (j : Int)), jj 7, jj 8, jj 9, jj 10, jj 11, jj 12, jj 13, jj 14, jj 15, jj 16, jj 17, jj 18, jj 19, jj 20, jj 21, jj 22, jj 23, jj 24, jj 25, jj 26, jj 27, jj 28, jj 29, jj 30, jj 31, jj 32, jj 33, jj 34]) ∧ k + j = 8 ∧ m < 256 ^ k ∧ X.length = j ∧ beN n = beN m ++ X ∧ Mem [] w0 w [.cell b5 ((List.replicate (8 - j) (0 : UInt8)).map u8v ++ X.map u8v) 123, .row eU8 5 v8 bs]) 8
      ⟨0, n, [], exj (by rw [show (8 : Int) - ((0 : Nat) : Int) = 8 by omega]; rfl), rfl, by simpa using hn, rfl, hf0, hM⟩ ?_
    clear hM hf0
    rintro k l w ⟨j, m, X, ⟨jj, rfl⟩, hkj, hmk, hXl, hf, hM⟩
    have hm64 : m < 2 ^ 64 := Nat.lt_of_lt_of_le hmk (Nat.le_trans (Nat.pow_le_pow_right (by omega) (by omega : k ≤ 8)) (by decide))
    repeat (first | ((with_reducible apply is_ld); first | refine kld hM ?_ | refine kldw hM ?_ | refine kle hM ?_ | refine klew hM ?_) | ((with_reducible apply is_sto); first | (refine kst hM ?_; intro w hM) | (refine kstw hM ?_; intro w hM)) | ((with_reducible apply is_st); refine su ?_) | ((with_reducible apply is_gd); first | refine gt ?_ | refine gf ?_ | refine gu ?_) | ((with_reducible apply is_en); refine en ?_) | (with_reducible apply c_region) | refine ws ?_ | refine x_block_other (by decide) ?_)
    refine c_cond rfl (fun hm => ?_) (fun hm => ?_)
    · have hk : 0 < k := by
        rcases Nat.eq_zero_or_pos k with rfl | h
        · simp at hmk
          omega
        · exact h
      obtain ⟨k', rfl⟩ : ∃ k', k = k' + 1 := ⟨k - 1, by omega⟩
      repeat ((fail_if_success (with_reducible apply Go.Proofs.E.is_dst (d := 24))); first | ((with_reducible apply is_ld); first | refine kld hM ?_ | refine kldw hM ?_ | refine kle hM ?_ | refine klew hM ?_) | ((with_reducible apply is_sto); first | (refine kst hM ?_; intro w hM) | (refine kstw hM ?_; intro w hM)) | ((with_reducible apply is_st); refine su ?_) | ((with_reducible apply is_gd); first | refine gt ?_ | refine gf ?_ | refine gu ?_) | ((with_reducible apply is_en); refine en ?_) | (with_reducible apply c_region) | refine ws ?_ | refine x_block_other (by decide) ?_)
      (try ((with_reducible apply is_gd); first | refine gt ?_ | refine gf ?_ | refine gu ?_)); refine wl_val (r_conv rfl) ?_
      rw [u8v_wrap]
      repeat ((fail_if_success (with_reducible apply Go.Proofs.E.is_dst (d := 25))); first | ((with_reducible apply is_ld); first | refine kld hM ?_ | refine kldw hM ?_ | refine kle hM ?_ | refine klew hM ?_) | ((with_reducible apply is_sto); first | (refine kst hM ?_; intro w hM) | (refine kstw hM ?_; intro w hM)) | ((with_reducible apply is_st); refine su ?_) | ((with_reducible apply is_gd); first | refine gt ?_ | refine gf ?_ | refine gu ?_) | ((with_reducible apply is_en); refine en ?_) | (with_reducible apply c_region) | refine ws ?_ | refine x_block_other (by decide) ?_)
      (try ((with_reducible apply is_gd); first | refine gt ?_ | refine gf ?_ | refine gu ?_)); refine wl_val (r_indexAddr_arr (i := (8 : Int) - (j : Int) - 1) rfl rfl (by omega) (by omega)) ?_
      rw [show 8 - j = (8 - (j + 1)) + 1 by omega, List.replicate_succ', List.map_append, List.append_assoc] at hM
      refine kst (v := u8v (UInt8.ofNat (m % 256))) hM (fun w hM => ?_) (hx := by rw [show 0 + ((8 : Int) - (j : Int) - 1).toNat * 1 = 8 - (j + 1) by omega]; rfl) (hf := by simp) (hs := arr_set (by simp))
      repeat (first | ((with_reducible apply is_ld); first | refine kld hM ?_ | refine kldw hM ?_ | refine kle hM ?_ | refine klew hM ?_) | ((with_reducible apply is_sto); first | (refine kst hM ?_; intro w hM) | (refine kstw hM ?_; intro w hM)) | ((with_reducible apply is_st); refine su ?_) | ((with_reducible apply is_gd); first | refine gt ?_ | refine gf ?_ | refine gu ?_) | ((with_reducible apply is_en); refine en ?_) | (with_reducible apply c_region) | refine ws ?_ | refine x_block_other (by decide) ?_)
      have es : ((m : Int)).fdiv (2 ^ min ((8 : Int)).toNat IntKind.u64.bits) = ((m / 256 : Nat) : Int) := by
        rw [show min ((8 : Int)).toNat IntKind.u64.bits = 8 by rfl]
        exact (Int.ofNat_fdiv m 256).symm
      rw [es]
      refine x_goes k' rfl (by omega) ⟨j + 1, m / 256, UInt8.ofNat (m % 256) :: X, exj (by rw [show (8 : Int) - ((j + 1 : Nat) : Int) = 8 - (j : Int) - 1 by omega]; rfl), by omega, Nat.div_lt_of_lt_mul (by rw [Nat.pow_succ] at hmk; omega), by simp [hXl], ?_, hM⟩
      rw [hf, beN_pos (by omega)]
      simp
    · have h0 : m = 0 := by omega
      subst h0
      rw [beN_zero, List.nil_append] at hf
      subst hf
      have hj8 : j ≤ 8 := by omega
      have hj1 : 0 < j := by
        rw [← hXl, beN_pos (by omega)]
        simp
      generalize beN n = X at hM hXl ⊢
      repeat (first | ((with_reducible apply is_ld); first | refine kld hM ?_ | refine kldw hM ?_ | refine kle hM ?_ | refine klew hM ?_) | ((with_reducible apply is_sto); first | (refine kst hM ?_; intro w hM) | (refine kstw hM ?_; intro w hM)) | ((with_reducible apply is_st); refine su ?_) | ((with_reducible apply is_gd); first | refine gt ?_ | refine gf ?_ | refine gu ?_) | ((with_reducible apply is_en); refine en ?_) | (with_reducible apply c_region) | refine ws ?_ | refine x_block_other (by decide) ?_)
      refine c_ordY ([5, 8], [6, 7]) [] (by kernel_rfl) (by kernel_rfl) (by kernel_rfl) (fun w hc hs => ?_)
      have hM := hM.call hc
      (first | refine yn 0 rfl ?_ | refine ynt 0 rfl ?_ | refine ynff 0 rfl ?_); (first | refine yn 1 rfl ?_ | refine ynt 1 rfl ?_ | refine ynff 1 rfl ?_); (first | refine yn 2 rfl ?_ | refine ynt 2 rfl ?_ | refine ynff 2 rfl ?_); (first | refine yn 3 rfl ?_ | refine ynt 3 rfl ?_ | refine ynff 3 rfl ?_)
      rw [show (255 : Int) - (8 - (j : Int)) = ((247 + j : Nat) : Int) by omega, ← u8v_ofNat (by omega : 247 + j < 256)]
      (first | refine yn 6 rfl ?_ | refine ynt 6 rfl ?_ | refine ynff 6 rfl ?_)
      refine ynp 7 rfl (by kernel_rfl) (by kernel_rfl) (fun _ => r_cut_arr (i := (8 : Int) - (j : Int)) rfl rfl (by omega) (by omega)) rfl ?_
      refine yk1 4 hM (by kernel_rfl) rfl (fun w h0 hM => ?_)
      refine kbsC (en := eU8) (vs := [u8v (UInt8.ofNat (247 + j))]) [UInt8.ofNat (247 + j)] hM (fun w b30 hc hM => ?_) (hm := by intro v hv; simp at hv; subst hv; rfl)
      refine x_wy (.inl (hc.gy h0)) rfl ?_
      refine yk1 5 hM (by kernel_rfl) rfl (fun w h0 hM => ?_)
      refine kapC (en := eU8) (v := v8) (ys := [UInt8.ofNat (247 + j)]) hM (hM.rowRdO (en := eU8) (xs := [UInt8.ofNat (247 + j)]) (by (repeat constructor))) (fun v31 w hsz hM => ?_) (hb := by simp; omega) (h63 := by simp; omega)
      refine x_wy (.inr ⟨by decide, Nat.le_trans h0 hsz⟩) rfl ?_
      refine yk1 8 hM (by kernel_rfl) rfl (fun w h0 hM => ?_)
      have hl : 8 - ((8 : Int) - (j : Int)).toNat = j := by omega
      have hRx : tU8.Rd [] w (.slice (some ⟨b5, 0 + ((8 : Int) - (j : Int)).toNat * 1, none⟩) (8 - ((8 : Int) - (j : Int)).toNat) (8 - ((8 : Int) - (j : Int)).toNat)) X := by
        rw [hl]
        refine rd8_range (bs := X) ?_ (hM.blk (b := b5) (by (repeat constructor))).lt (by simp) hXl (by omega)
        have := (hM.blk (b := b5) (by (repeat constructor))).range (0 + ((8 : Int) - (j : Int)).toNat * 1) j
        rw [show 0 + ((8 : Int) - (j : Int)).toNat * 1 = 8 - j by omega, List.drop_left' (by simp), List.take_of_length_le (by simp [hXl])] at this
        rw [show 0 + ((8 : Int) - (j : Int)).toNat * 1 = 8 - j by omega]
        exact this
      refine kapC (en := eU8) (v := v31) (ys := X) hM hRx (fun v34 w hsz hM => ?_) (hb := by simp; omega) (h63 := by simp; omega)
      refine x_wy (.inr ⟨by decide, Nat.le_trans h0 hsz⟩) rfl ?_
      (first | refine yn 9 rfl ?_ | refine ynt 9 rfl ?_ | refine ynff 9 rfl ?_)
      refine wy_done (by kernel_rfl) (fun w hc => ?_)
      have hM := hM.call hc
      repeat (first | ((with_reducible apply is_ld); first | refine kld hM ?_ | refine kldw hM ?_ | refine kle hM ?_ | refine klew hM ?_) | ((with_reducible apply is_sto); first | (refine kst hM ?_; intro w hM) | (refine kstw hM ?_; intro w hM)) | ((with_reducible apply is_st); refine su ?_) | ((with_reducible apply is_gd); first | refine gt ?_ | refine gf ?_ | refine gu ?_) | ((with_reducible apply is_en); refine en ?_) | (with_reducible apply c_region) | refine ws ?_ | refine x_block_other (by decide) ?_)
      rw [hXl]
      have hrow := hM.row (v := v34) (by (repeat constructor))
      rw [List.append_assoc] at hrow
      exact out1 rfl ⟨hM.ch, hrow⟩
set_option maxHeartbeats 8000000 in
theorem rnum_any {bs : List UInt8} (v : Value) (n : Nat) (w0 : World) (hR : tU8.Rd [] w0 v bs) (hb : bs.length ≤ 70368744177600) (hn : n < 2 ^ 64) :
    Calls Tryd.prog 75 #[v, .int .u64 (n : Int)] w0 (Ret fun u w' => Ch [] w0 w' ∧ Go.Proofs.E.Own eU8 w' w0.heap.size 5 u (bs ++ numB n)) := by
  have hM := Mem.start w0
  refine enter [v, .int .u64 (n : Int), undef, undef, undef, undef, undef, undef, undef, undef, undef, undef, undef, undef, undef, undef, undef, undef, undef, undef, undef, undef, undef, undef, undef, undef, undef, undef, undef, undef, undef, undef, undef, undef, undef, undef, undef] Tryd.func75 rfl rfl ?_
  repeat (first | ((with_reducible apply is_ld); first | refine kld hM ?_ | refine kldw hM ?_ | refine kle hM ?_ | refine klew hM ?_) | ((with_reducible apply is_sto); first | (refine kst hM ?_; intro w hM) | (refine kstw hM ?_; intro w hM)) | ((with_reducible apply is_st); refine su ?_) | ((with_reducible apply is_gd); first | refine gt ?_ | refine gf ?_ | refine gu ?_) | ((with_reducible apply is_en); refine en ?_) | (with_reducible apply c_region) | refine ws ?_ | refine x_block_other (by decide) ?_)
  refine kbs (en := eU8) (vs := []) [] hM (fun w b8 hM => ?_)
  repeat (first | ((with_reducible apply is_ld); first | refine kld hM ?_ | refine kldw hM ?_ | refine kle hM ?_ | refine klew hM ?_) | ((with_reducible apply is_sto); first | (refine kst hM ?_; intro w hM) | (refine kstw hM ?_; intro w hM)) | ((with_reducible apply is_st); refine su ?_) | ((with_reducible apply is_gd); first | refine gt ?_ | refine gf ?_ | refine gu ?_) | ((with_reducible apply is_en); refine en ?_) | (with_reducible apply c_region) | refine ws ?_ | refine x_block_other (by decide) ?_)
  refine kap (en := eU8) (ys := bs) hM (hR.ch hM.ch) (fun v8 w hM => ?_) (hb := by simp; omega) (h63 := by simp; omega)
  rw [List.nil_append] at hM
  repeat (first | ((with_reducible apply is_ld); first | refine kld hM ?_ | refine kldw hM ?_ | refine kle hM ?_ | refine klew hM ?_) | ((with_reducible apply is_sto); first | (refine kst hM ?_; intro w hM) | (refine kstw hM ?_; intro w hM)) | ((with_reducible apply is_st); refine su ?_) | ((with_reducible apply is_gd); first | refine gt ?_ | refine gf ?_ | refine gu ?_) | ((with_reducible apply is_en); refine en ?_) | (with_reducible apply c_region) | refine ws ?_ | refine x_block_other (by decide) ?_)
  unfold numB
  by_cases h248 : n < 248
  · rw [decide_eq_true (by omega : (n : Int) < 248), if_pos h248]
    refine c_condb rfl (fun _ => ?_) (fun h => by cases h)
    repeat (first | ((with_reducible apply is_ld); first | refine kld hM ?_ | refine kldw hM ?_ | refine kle hM ?_ | refine klew hM ?_) | ((with_reducible apply is_sto); first | (refine kst hM ?_; intro w hM) | (refine kstw hM ?_; intro w hM)) | ((with_reducible apply is_st); refine su ?_) | ((with_reducible apply is_gd); first | refine gt ?_ | refine gf ?_ | refine gu ?_) | ((with_reducible apply is_en); refine en ?_) | (with_reducible apply c_region) | refine ws ?_ | refine x_block_other (by decide) ?_)
    refine kpu (UInt8.ofNat n) hM (fun _ v15 w hM => ?_) (ha := by show [Value.int .u8 (n : Int)] = [u8v (UInt8.ofNat n)]; rw [u8v_ofNat (by omega)]) (hb := by omega) (h63 := by omega)
    repeat (first | ((with_reducible apply is_ld); first | refine kld hM ?_ | refine kldw hM ?_ | refine kle hM ?_ | refine klew hM ?_) | ((with_reducible apply is_sto); first | (refine kst hM ?_; intro w hM) | (refine kstw hM ?_; intro w hM)) | ((with_reducible apply is_st); refine su ?_) | ((with_reducible apply is_gd); first | refine gt ?_ | refine gf ?_ | refine gu ?_) | ((with_reducible apply is_en); refine en ?_) | (with_reducible apply c_region) | refine ws ?_ | refine x_block_other (by decide) ?_)
    exact out1 rfl ⟨hM.ch, hM.row (v := v15) (by (repeat constructor))⟩
  · rw [decide_eq_false (by omega : ¬ (n : Int) < 248), if_neg h248]
    refine c_condb rfl (fun h => by cases h) (fun _ => ?_)
    repeat (first | ((with_reducible apply is_ld); first | refine kld hM ?_ | refine kldw hM ?_ | refine kle hM ?_ | refine klew hM ?_) | ((with_reducible apply is_sto); first | (refine kst hM ?_; intro w hM) | (refine kstw hM ?_; intro w hM)) | ((with_reducible apply is_st); refine su ?_) | ((with_reducible apply is_gd); first | refine gt ?_ | refine gf ?_ | refine gu ?_) | ((with_reducible apply is_en); refine en ?_) | (with_reducible apply c_region) | refine ws ?_ | refine x_block_other (by decide) ?_)
    have hM := hM.nilRow eU8 5
    have hf0 : beN n = beN n ++ [] := by simp
    
    refine c_loop (fun k l w => ∃ (j m : Nat) (v6 : Value) (X : List UInt8), (∃ jj : Nat → Value, l = [jj 0, .int .u64 (n : Int), jj 2, jj 3, jj 4, v8, v6, .int .u64 (m : Int), jj 8, jj 9, jj 10, jj 11, jj 12, jj 13, jj 14, jj 15, jj 16, jj 17, jj 18, jj 19, jj 20, jj 21, jj 22, jj 23, jj 24, jj 25, jj 26, jj 27, jj 28, jj 29, jj 30, jj 31, jj 32, jj 33, jj 34, jj 35, jj 36]) ∧ k + j = 8 ∧ m < 256 ^ k ∧ X.length = j ∧ beN n = beN m ++ X ∧ Mem [] w0 w [.row eU8 5 v6 X, .row eU8 5 v8 bs]) 8
      ⟨0, n, _, [], exj rfl, rfl, by simpa using hn, rfl, hf0, hM.sub (by (repeat constructor))⟩ ?_
    clear hM hf0
    rintro k l w ⟨j, m, v6, X, ⟨jj, rfl⟩, hkj, hmk, hXl, hf, hM⟩
    have hm64 : m < 2 ^ 64 := Nat.lt_of_lt_of_le hmk (Nat.le_trans (Nat.pow_le_pow_right (by omega) (by omega : k ≤ 8)) (by decide))
    obtain ⟨A6, c6, hv6, _⟩ := (hM.row0 (v := v6) (by (repeat constructor))).form
    subst hv6
    repeat (first | ((with_reducible apply is_ld); first | refine kld hM ?_ | refine kldw hM ?_ | refine kle hM ?_ | refine klew hM ?_) | ((with_reducible apply is_sto); first | (refine kst hM ?_; intro w hM) | (refine kstw hM ?_; intro w hM)) | ((with_reducible apply is_st); refine su ?_) | ((with_reducible apply is_gd); first | refine gt ?_ | refine gf ?_ | refine gu ?_) | ((with_reducible apply is_en); refine en ?_) | (with_reducible apply c_region) | refine ws ?_ | refine x_block_other (by decide) ?_)
    refine c_cond rfl (fun hm => ?_) (fun hm => ?_)
    · have hk : 0 < k := by
        rcases Nat.eq_zero_or_pos k with rfl | h
        · simp at hmk
          omega
        · exact h
      obtain ⟨k', rfl⟩ : ∃ k', k = k' + 1 := ⟨k - 1, by omega⟩
      repeat ((fail_if_success (with_reducible apply Go.Proofs.E.is_dst (d := 24))); first | ((with_reducible apply is_ld); first | refine kld hM ?_ | refine kldw hM ?_ | refine kle hM ?_ | refine klew hM ?_) | ((with_reducible apply is_sto); first | (refine kst hM ?_; intro w hM) | (refine kstw hM ?_; intro w hM)) | ((with_reducible apply is_st); refine su ?_) | ((with_reducible apply is_gd); first | refine gt ?_ | refine gf ?_ | refine gu ?_) | ((with_reducible apply is_en); refine en ?_) | (with_reducible apply c_region) | refine ws ?_ | refine x_block_other (by decide) ?_)
      (try ((with_reducible apply is_gd); first | refine gt ?_ | refine gf ?_ | refine gu ?_)); refine wl_val (r_conv rfl) ?_
      rw [u8v_wrap]
      refine kbs (en := eU8) (vs := [u8v (UInt8.ofNat (m % 256))]) [UInt8.ofNat (m % 256)] hM (fun w b25 hM => ?_) (hm := by intro v hv; simp at hv; subst hv; rfl)
      repeat (first | ((with_reducible apply is_ld); first | refine kld hM ?_ | refine kldw hM ?_ | refine kle hM ?_ | refine klew hM ?_) | ((with_reducible apply is_sto); first | (refine kst hM ?_; intro w hM) | (refine kstw hM ?_; intro w hM)) | ((with_reducible apply is_st); refine su ?_) | ((with_reducible apply is_gd); first | refine gt ?_ | refine gf ?_ | refine gu ?_) | ((with_reducible apply is_en); refine en ?_) | (with_reducible apply c_region) | refine ws ?_ | refine x_block_other (by decide) ?_)
      refine kap (en := eU8) (v := .slice (some ⟨b25, 0, none⟩) 1 1) (ys := X) hM (hM.rowRdO (en := eU8) (xs := X) (by (repeat constructor))) (fun v27 w hM => ?_) (hb := by simp; omega) (h63 := by simp; omega)
      obtain ⟨A7, c7, hv7, _⟩ := (hM.row0 (v := v27) (by (repeat constructor))).form
      subst hv7
      repeat (first | ((with_reducible apply is_ld); first | refine kld hM ?_ | refine kldw hM ?_ | refine kle hM ?_ | refine klew hM ?_) | ((with_reducible apply is_sto); first | (refine kst hM ?_; intro w hM) | (refine kstw hM ?_; intro w hM)) | ((with_reducible apply is_st); refine su ?_) | ((with_reducible apply is_gd); first | refine gt ?_ | refine gf ?_ | refine gu ?_) | ((with_reducible apply is_en); refine en ?_) | (with_reducible apply c_region) | refine ws ?_ | refine x_block_other (by decide) ?_)
      have es : ((m : Int)).fdiv (2 ^ min ((8 : Int)).toNat IntKind.u64.bits) = ((m / 256 : Nat) : Int) := by
        rw [show min ((8 : Int)).toNat IntKind.u64.bits = 8 by rfl]
        exact (Int.ofNat_fdiv m 256).symm
      rw [es]
      refine x_goes k' rfl (by omega) ⟨j + 1, m / 256, _, UInt8.ofNat (m % 256) :: X, exj rfl, by omega, Nat.div_lt_of_lt_mul (by rw [Nat.pow_succ] at hmk; omega), by simp [hXl], ?_, hM.sub (by (repeat constructor))⟩
      rw [hf, beN_pos (by omega)]
      simp
    · have h0 : m = 0 := by omega
      subst h0
      rw [beN_zero, List.nil_append] at hf
      subst hf
      have hj8 : j ≤ 8 := by omega
      generalize beN n = X at hM hXl ⊢
      repeat ((fail_if_success (with_reducible apply Go.Proofs.E.is_dst (d := 32))); first | ((with_reducible apply is_ld); first | refine kld hM ?_ | refine kldw hM ?_ | refine kle hM ?_ | refine klew hM ?_) | ((with_reducible apply is_sto); first | (refine kst hM ?_; intro w hM) | (refine kstw hM ?_; intro w hM)) | ((with_reducible apply is_st); refine su ?_) | ((with_reducible apply is_gd); first | refine gt ?_ | refine gf ?_ | refine gu ?_) | ((with_reducible apply is_en); refine en ?_) | (with_reducible apply c_region) | refine ws ?_ | refine x_block_other (by decide) ?_)
      (try ((with_reducible apply is_gd); first | refine gt ?_ | refine gf ?_ | refine gu ?_)); refine wl_val (r_convw (lo := 0) (hi := 255) rfl rfl (by omega) (by omega)) ?_
      rw [show (247 : Int) + (X.length : Int) = ((247 + X.length : Nat) : Int) by omega, ← u8v_ofNat (by omega : 247 + X.length < 256)]
      repeat (first | ((with_reducible apply is_ld); first | refine kld hM ?_ | refine kldw hM ?_ | refine kle hM ?_ | refine klew hM ?_) | ((with_reducible apply is_sto); first | (refine kst hM ?_; intro w hM) | (refine kstw hM ?_; intro w hM)) | ((with_reducible apply is_st); refine su ?_) | ((with_reducible apply is_gd); first | refine gt ?_ | refine gf ?_ | refine gu ?_) | ((with_reducible apply is_en); refine en ?_) | (with_reducible apply c_region) | refine ws ?_ | refine x_block_other (by decide) ?_)
      refine kpu (UInt8.ofNat (247 + X.length)) hM (fun _ v34 w hM => ?_) (v := v8) (hb := by omega) (h63 := by omega)
      repeat (first | ((with_reducible apply is_ld); first | refine kld hM ?_ | refine kldw hM ?_ | refine kle hM ?_ | refine klew hM ?_) | ((with_reducible apply is_sto); first | (refine kst hM ?_; intro w hM) | (refine kstw hM ?_; intro w hM)) | ((with_reducible apply is_st); refine su ?_) | ((with_reducible apply is_gd); first | refine gt ?_ | refine gf ?_ | refine gu ?_) | ((with_reducible apply is_en); refine en ?_) | (with_reducible apply c_region) | refine ws ?_ | refine x_block_other (by decide) ?_)
      refine kap (en := eU8) (v := v34) (ys := X) hM (hM.rowRdO (en := eU8) (xs := X) (by (repeat constructor))) (fun v36 w hM => ?_) (hb := by simp; omega) (h63 := by simp; omega)
      repeat (first | ((with_reducible apply is_ld); first | refine kld hM ?_ | refine kldw hM ?_ | refine kle hM ?_ | refine klew hM ?_) | ((with_reducible apply is_sto); first | (refine kst hM ?_; intro w hM) | (refine kstw hM ?_; intro w hM)) | ((with_reducible apply is_st); refine su ?_) | ((with_reducible apply is_gd); first | refine gt ?_ | refine gf ?_ | refine gu ?_) | ((with_reducible apply is_en); refine en ?_) | (with_reducible apply c_region) | refine ws ?_ | refine x_block_other (by decide) ?_)
      have hrow := hM.row (v := v36) (by (repeat constructor))
      rw [List.append_assoc] at hrow
      exact out1 rfl ⟨hM.ch, hrow⟩
theorem flag_any {bs : List UInt8} (v : Value) (f : Bool) (w0 : World) (hR : tU8.Rd [] w0 v bs) (hb : bs.length ≤ 70368744177600) :
    Calls Tryd.prog 99 #[v, .bool f] w0 (Ret fun u w' => Ch [] w0 w' ∧ Go.Proofs.E.Own eU8 w' w0.heap.size 5 u (bs ++ flagB f)) := by
  have hM := Mem.start w0
  refine enter [v, .bool f, undef, undef, undef, undef, undef, undef, undef, undef, undef, undef] Tryd.func99 rfl rfl ?_
  repeat (first | ((with_reducible apply is_ld); first | refine kld hM ?_ | refine kldw hM ?_ | refine kle hM ?_ | refine klew hM ?_) | ((with_reducible apply is_sto); first | (refine kst hM ?_; intro w hM) | (refine kstw hM ?_; intro w hM)) | ((with_reducible apply is_st); refine su ?_) | ((with_reducible apply is_gd); first | refine gt ?_ | refine gf ?_ | refine gu ?_) | ((with_reducible apply is_en); refine en ?_) | (with_reducible apply c_region) | refine ws ?_ | refine x_block_other (by decide) ?_)
  cases f with
  | true =>
    refine c_condb rfl (fun _ => ?_) (fun h => by cases h)
    repeat (first | ((with_reducible apply is_ld); first | refine kld hM ?_ | refine kldw hM ?_ | refine kle hM ?_ | refine klew hM ?_) | ((with_reducible apply is_sto); first | (refine kst hM ?_; intro w hM) | (refine kstw hM ?_; intro w hM)) | ((with_reducible apply is_st); refine su ?_) | ((with_reducible apply is_gd); first | refine gt ?_ | refine gf ?_ | refine gu ?_) | ((with_reducible apply is_en); refine en ?_) | (with_reducible apply c_region) | refine ws ?_ | refine x_block_other (by decide) ?_)
    refine kcr hM (clone8_any v w0 hR (by omega)) (fun v8 w hM => ?_)
    repeat (first | ((with_reducible apply is_ld); first | refine kld hM ?_ | refine kldw hM ?_ | refine kle hM ?_ | refine klew hM ?_) | ((with_reducible apply is_sto); first | (refine kst hM ?_; intro w hM) | (refine kstw hM ?_; intro w hM)) | ((with_reducible apply is_st); refine su ?_) | ((with_reducible apply is_gd); first | refine gt ?_ | refine gf ?_ | refine gu ?_) | ((with_reducible apply is_en); refine en ?_) | (with_reducible apply c_region) | refine ws ?_ | refine x_block_other (by decide) ?_)
    refine kpu (1 : UInt8) hM (fun _ v11 w hM => ?_) (v := v8) (hb := by omega) (h63 := by omega)
    repeat (first | ((with_reducible apply is_ld); first | refine kld hM ?_ | refine kldw hM ?_ | refine kle hM ?_ | refine klew hM ?_) | ((with_reducible apply is_sto); first | (refine kst hM ?_; intro w hM) | (refine kstw hM ?_; intro w hM)) | ((with_reducible apply is_st); refine su ?_) | ((with_reducible apply is_gd); first | refine gt ?_ | refine gf ?_ | refine gu ?_) | ((with_reducible apply is_en); refine en ?_) | (with_reducible apply c_region) | refine ws ?_ | refine x_block_other (by decide) ?_)
    exact out1 rfl ⟨hM.ch, hM.row (v := v11) (by (repeat constructor))⟩
  | false =>
    refine c_condb rfl (fun h => by cases h) (fun _ => ?_)
    repeat (first | ((with_reducible apply is_ld); first | refine kld hM ?_ | refine kldw hM ?_ | refine kle hM ?_ | refine klew hM ?_) | ((with_reducible apply is_sto); first | (refine kst hM ?_; intro w hM) | (refine kstw hM ?_; intro w hM)) | ((with_reducible apply is_st); refine su ?_) | ((with_reducible apply is_gd); first | refine gt ?_ | refine gf ?_ | refine gu ?_) | ((with_reducible apply is_en); refine en ?_) | (with_reducible apply c_region) | refine ws ?_ | refine x_block_other (by decide) ?_)
    refine kcr hM (clone8_any v w0 hR (by omega)) (fun v8 w hM => ?_)
    repeat (first | ((with_reducible apply is_ld); first | refine kld hM ?_ | refine kldw hM ?_ | refine kle hM ?_ | refine klew hM ?_) | ((with_reducible apply is_sto); first | (refine kst hM ?_; intro w hM) | (refine kstw hM ?_; intro w hM)) | ((with_reducible apply is_st); refine su ?_) | ((with_reducible apply is_gd); first | refine gt ?_ | refine gf ?_ | refine gu ?_) | ((with_reducible apply is_en); refine en ?_) | (with_reducible apply c_region) | refine ws ?_ | refine x_block_other (by decide) ?_)
    refine kpu (0 : UInt8) hM (fun _ v11 w hM => ?_) (v := v8) (hb := by omega) (h63 := by omega)
    repeat (first | ((with_reducible apply is_ld); first | refine kld hM ?_ | refine kldw hM ?_ | refine kle hM ?_ | refine klew hM ?_) | ((with_reducible apply is_sto); first | (refine kst hM ?_; intro w hM) | (refine kstw hM ?_; intro w hM)) | ((with_reducible apply is_st); refine su ?_) | ((with_reducible apply is_gd); first | refine gt ?_ | refine gf ?_ | refine gu ?_) | ((with_reducible apply is_en); refine en ?_) | (with_reducible apply c_region) | refine ws ?_ | refine x_block_other (by decide) ?_)
    exact out1 rfl ⟨hM.ch, hM.row (v := v11) (by (repeat constructor))⟩
theorem rflag_any {bs : List UInt8} (v : Value) (f : Bool) (w0 : World) (hR : tU8.Rd [] w0 v bs) (hb : bs.length ≤ 70368744177600) :
    Calls Tryd.prog 74 #[v, .bool f] w0 (Ret fun u w' => Ch [] w0 w' ∧ Go.Proofs.E.Own eU8 w' w0.heap.size 5 u (bs ++ flagB f)) := by
  have hM := Mem.start w0
  refine enter [v, .bool f, undef, undef, undef, undef, undef, undef, undef, undef, undef, undef, undef, undef, undef, undef] Tryd.func74 rfl rfl ?_
  repeat (first | ((with_reducible apply is_ld); first | refine kld hM ?_ | refine kldw hM ?_ | refine kle hM ?_ | refine klew hM ?_) | ((with_reducible apply is_sto); first | (refine kst hM ?_; intro w hM) | (refine kstw hM ?_; intro w hM)) | ((with_reducible apply is_st); refine su ?_) | ((with_reducible apply is_gd); first | refine gt ?_ | refine gf ?_ | refine gu ?_) | ((with_reducible apply is_en); refine en ?_) | (with_reducible apply c_region) | refine ws ?_ | refine x_block_other (by decide) ?_)
  cases f with
  | true =>
    refine c_condb rfl (fun _ => ?_) (fun h => by cases h)
    repeat (first | ((with_reducible apply is_ld); first | refine kld hM ?_ | refine kldw hM ?_ | refine kle hM ?_ | refine klew hM ?_) | ((with_reducible apply is_sto); first | (refine kst hM ?_; intro w hM) | (refine kstw hM ?_; intro w hM)) | ((with_reducible apply is_st); refine su ?_) | ((with_reducible apply is_gd); first | refine gt ?_ | refine gf ?_ | refine gu ?_) | ((with_reducible apply is_en); refine en ?_) | (with_reducible apply c_region) | refine ws ?_ | refine x_block_other (by decide) ?_)
    refine kbs (en := eU8) (vs := []) [] hM (fun w b6 hM => ?_)
    repeat (first | ((with_reducible apply is_ld); first | refine kld hM ?_ | refine kldw hM ?_ | refine kle hM ?_ | refine klew hM ?_) | ((with_reducible apply is_sto); first | (refine kst hM ?_; intro w hM) | (refine kstw hM ?_; intro w hM)) | ((with_reducible apply is_st); refine su ?_) | ((with_reducible apply is_gd); first | refine gt ?_ | refine gf ?_ | refine gu ?_) | ((with_reducible apply is_en); refine en ?_) | (with_reducible apply c_region) | refine ws ?_ | refine x_block_other (by decide) ?_)
    refine kap (en := eU8) (ys := bs) hM (hR.ch hM.ch) (fun v8 w hM => ?_) (hb := by simp; omega) (h63 := by simp; omega)
    rw [List.nil_append] at hM
    repeat (first | ((with_reducible apply is_ld); first | refine kld hM ?_ | refine kldw hM ?_ | refine kle hM ?_ | refine klew hM ?_) | ((with_reducible apply is_sto); first | (refine kst hM ?_; intro w hM) | (refine kstw hM ?_; intro w hM)) | ((with_reducible apply is_st); refine su ?_) | ((with_reducible apply is_gd); first | refine gt ?_ | refine gf ?_ | refine gu ?_) | ((with_reducible apply is_en); refine en ?_) | (with_reducible apply c_region) | refine ws ?_ | refine x_block_other (by decide) ?_)
    refine kpu (1 : UInt8) hM (fun _ v11 w hM => ?_) (v := v8) (hb := by omega) (h63 := by omega)
    repeat (first | ((with_reducible apply is_ld); first | refine kld hM ?_ | refine kldw hM ?_ | refine kle hM ?_ | refine klew hM ?_) | ((with_reducible apply is_sto); first | (refine kst hM ?_; intro w hM) | (refine kstw hM ?_; intro w hM)) | ((with_reducible apply is_st); refine su ?_) | ((with_reducible apply is_gd); first | refine gt ?_ | refine gf ?_ | refine gu ?_) | ((with_reducible apply is_en); refine en ?_) | (with_reducible apply c_region) | refine ws ?_ | refine x_block_other (by decide) ?_)
    exact out1 rfl ⟨hM.ch, hM.row (v := v11) (by (repeat constructor))⟩
  | false =>
    refine c_condb rfl (fun h => by cases h) (fun _ => ?_)
    repeat (first | ((with_reducible apply is_ld); first | refine kld hM ?_ | refine kldw hM ?_ | refine kle hM ?_ | refine klew hM ?_) | ((with_reducible apply is_sto); first | (refine kst hM ?_; intro w hM) | (refine kstw hM ?_; intro w hM)) | ((with_reducible apply is_st); refine su ?_) | ((with_reducible apply is_gd); first | refine gt ?_ | refine gf ?_ | refine gu ?_) | ((with_reducible apply is_en); refine en ?_) | (with_reducible apply c_region) | refine ws ?_ | refine x_block_other (by decide) ?_)
    refine kbs (en := eU8) (vs := []) [] hM (fun w b6 hM => ?_)
    repeat (first | ((with_reducible apply is_ld); first | refine kld hM ?_ | refine kldw hM ?_ | refine kle hM ?_ | refine klew hM ?_) | ((with_reducible apply is_sto); first | (refine kst hM ?_; intro w hM) | (refine kstw hM ?_; intro w hM)) | ((with_reducible apply is_st); refine su ?_) | ((with_reducible apply is_gd); first | refine gt ?_ | refine gf ?_ | refine gu ?_) | ((with_reducible apply is_en); refine en ?_) | (with_reducible apply c_region) | refine ws ?_ | refine x_block_other (by decide) ?_)
    refine kap (en := eU8) (ys := bs) hM (hR.ch hM.ch) (fun v8 w hM => ?_) (hb := by simp; omega) (h63 := by simp; omega)
    rw [List.nil_append] at hM
    repeat (first | ((with_reducible apply is_ld); first | refine kld hM ?_ | refine kldw hM ?_ | refine kle hM ?_ | refine klew hM ?_) | ((with_reducible apply is_sto); first | (refine kst hM ?_; intro w hM) | (refine kstw hM ?_; intro w hM)) | ((with_reducible apply is_st); refine su ?_) | ((with_reducible apply is_gd); first | refine gt ?_ | refine gf ?_ | refine gu ?_) | ((with_reducible apply is_en); refine en ?_) | (with_reducible apply c_region) | refine ws ?_ | refine x_block_other (by decide) ?_)
    refine kpu (0 : UInt8) hM (fun _ v11 w hM => ?_) (v := v8) (hb := by omega) (h63 := by omega)
    repeat (first | ((with_reducible apply is_ld); first | refine kld hM ?_ | refine kldw hM ?_ | refine kle hM ?_ | refine klew hM ?_) | ((with_reducible apply is_sto); first | (refine kst hM ?_; intro w hM) | (refine kstw hM ?_; intro w hM)) | ((with_reducible apply is_st); refine su ?_) | ((with_reducible apply is_gd); first | refine gt ?_ | refine gf ?_ | refine gu ?_) | ((with_reducible apply is_en); refine en ?_) | (with_reducible apply c_region) | refine ws ?_ | refine x_block_other (by decide) ?_)
    exact out1 rfl ⟨hM.ch, hM.row (v := v11) (by (repeat constructor))⟩
theorem str_any {bs : List UInt8} (v : Value) (s : List UInt8) (w0 : World) (hR : tU8.Rd [] w0 v bs) (hb : bs.length ≤ 70368744177600) (hs : s.length ≤ 70368744177600) :
    Calls Tryd.prog 59 #[v, .string (bst s)] w0 (Ret fun u w' => Ch [] w0 w' ∧ Go.Proofs.E.Own eU8 w' w0.heap.size 5 u (bs ++ strB s)) := by
  have hM := Mem.start w0
  refine enter [v, .string (bst s), undef, undef, undef, undef, undef, undef, undef, undef, undef, undef] Tryd.func59 rfl rfl ?_
  repeat ((fail_if_success (with_reducible apply Go.Proofs.E.is_dst (d := 8))); first | ((with_reducible apply is_ld); first | refine kld hM ?_ | refine kldw hM ?_ | refine kle hM ?_ | refine klew hM ?_) | ((with_reducible apply is_sto); first | (refine kst hM ?_; intro w hM) | (refine kstw hM ?_; intro w hM)) | ((with_reducible apply is_st); refine su ?_) | ((with_reducible apply is_gd); first | refine gt ?_ | refine gf ?_ | refine gu ?_) | ((with_reducible apply is_en); refine en ?_) | (with_reducible apply c_region) | refine ws ?_ | refine x_block_other (by decide) ?_)
  simp only [bst_size]
  repeat (first | ((with_reducible apply is_ld); first | refine kld hM ?_ | refine kldw hM ?_ | refine kle hM ?_ | refine klew hM ?_) | ((with_reducible apply is_sto); first | (refine kst hM ?_; intro w hM) | (refine kstw hM ?_; intro w hM)) | ((with_reducible apply is_st); refine su ?_) | ((with_reducible apply is_gd); first | refine gt ?_ | refine gf ?_ | refine gu ?_) | ((with_reducible apply is_en); refine en ?_) | (with_reducible apply c_region) | refine ws ?_ | refine x_block_other (by decide) ?_)
  have hn := numB_len (n := s.length) (by omega)
  refine kcr hM (num_any v s.length w0 hR hb (by omega)) (fun v8 w hM => ?_)
  repeat (first | ((with_reducible apply is_ld); first | refine kld hM ?_ | refine kldw hM ?_ | refine kle hM ?_ | refine klew hM ?_) | ((with_reducible apply is_sto); first | (refine kst hM ?_; intro w hM) | (refine kstw hM ?_; intro w hM)) | ((with_reducible apply is_st); refine su ?_) | ((with_reducible apply is_gd); first | refine gt ?_ | refine gf ?_ | refine gu ?_) | ((with_reducible apply is_en); refine en ?_) | (with_reducible apply c_region) | refine ws ?_ | refine x_block_other (by decide) ?_)
  refine kapS (s := s) hM (fun v10 w _ hM => ?_) (hb := by simp; omega)
  repeat (first | ((with_reducible apply is_ld); first | refine kld hM ?_ | refine kldw hM ?_ | refine kle hM ?_ | refine klew hM ?_) | ((with_reducible apply is_sto); first | (refine kst hM ?_; intro w hM) | (refine kstw hM ?_; intro w hM)) | ((with_reducible apply is_st); refine su ?_) | ((with_reducible apply is_gd); first | refine gt ?_ | refine gf ?_ | refine gu ?_) | ((with_reducible apply is_en); refine en ?_) | (with_reducible apply c_region) | refine ws ?_ | refine x_block_other (by decide) ?_)
  have hrow := hM.row (v := v10) (by (repeat constructor))
  rw [List.append_assoc] at hrow
  exact out1 rfl ⟨hM.ch, hrow⟩
theorem rstr_any {bs : List UInt8} (v : Value) (s : List UInt8) (w0 : World) (hR : tU8.Rd [] w0 v bs) (hb : bs.length ≤ 70368744177600) (hs : s.length ≤ 70368744177600) :
    Calls Tryd.prog 76 #[v, .string (bst s)] w0 (Ret fun u w' => Ch [] w0 w' ∧ Go.Proofs.E.Own eU8 w' w0.heap.size 5 u (bs ++ strB s)) := by
  have hM := Mem.start w0
  refine enter [v, .string (bst s), undef, undef, undef, undef, undef, undef, undef, undef, undef, undef] Tryd.func76 rfl rfl ?_
  repeat ((fail_if_success (with_reducible apply Go.Proofs.E.is_dst (d := 8))); first | ((with_reducible apply is_ld); first | refine kld hM ?_ | refine kldw hM ?_ | refine kle hM ?_ | refine klew hM ?_) | ((with_reducible apply is_sto); first | (refine kst hM ?_; intro w hM) | (refine kstw hM ?_; intro w hM)) | ((with_reducible apply is_st); refine su ?_) | ((with_reducible apply is_gd); first | refine gt ?_ | refine gf ?_ | refine gu ?_) | ((with_reducible apply is_en); refine en ?_) | (with_reducible apply c_region) | refine ws ?_ | refine x_block_other (by decide) ?_)
  simp only [bst_size]
  repeat (first | ((with_reducible apply is_ld); first | refine kld hM ?_ | refine kldw hM ?_ | refine kle hM ?_ | refine klew hM ?_) | ((with_reducible apply is_sto); first | (refine kst hM ?_; intro w hM) | (refine kstw hM ?_; intro w hM)) | ((with_reducible apply is_st); refine su ?_) | ((with_reducible apply is_gd); first | refine gt ?_ | refine gf ?_ | refine gu ?_) | ((with_reducible apply is_en); refine en ?_) | (with_reducible apply c_region) | refine ws ?_ | refine x_block_other (by decide) ?_)
  have hn := numB_len (n := s.length) (by omega)
  refine kcr hM (rnum_any v s.length w0 hR hb (by omega)) (fun v8 w hM => ?_)
  repeat (first | ((with_reducible apply is_ld); first | refine kld hM ?_ | refine kldw hM ?_ | refine kle hM ?_ | refine klew hM ?_) | ((with_reducible apply is_sto); first | (refine kst hM ?_; intro w hM) | (refine kstw hM ?_; intro w hM)) | ((with_reducible apply is_st); refine su ?_) | ((with_reducible apply is_gd); first | refine gt ?_ | refine gf ?_ | refine gu ?_) | ((with_reducible apply is_en); refine en ?_) | (with_reducible apply c_region) | refine ws ?_ | refine x_block_other (by decide) ?_)
  refine kapS (s := s) hM (fun v10 w _ hM => ?_) (hb := by simp; omega)
  repeat (first | ((with_reducible apply is_ld); first | refine kld hM ?_ | refine kldw hM ?_ | refine kle hM ?_ | refine klew hM ?_) | ((with_reducible apply is_sto); first | (refine kst hM ?_; intro w hM) | (refine kstw hM ?_; intro w hM)) | ((with_reducible apply is_st); refine su ?_) | ((with_reducible apply is_gd); first | refine gt ?_ | refine gf ?_ | refine gu ?_) | ((with_reducible apply is_en); refine en ?_) | (with_reducible apply c_region) | refine ws ?_ | refine x_block_other (by decide) ?_)
  have hrow := hM.row (v := v10) (by (repeat constructor))
  rw [List.append_assoc] at hrow
  exact out1 rfl ⟨hM.ch, hrow⟩
end Go.Proofs.YtkpkfplcoakfcaaDoor

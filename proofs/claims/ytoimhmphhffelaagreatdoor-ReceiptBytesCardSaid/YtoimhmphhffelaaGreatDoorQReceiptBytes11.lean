/- Walks: values as bytes (layer 1), both.
   Walks: a record's bytes, both.
   Walks: whether pairs and reads may be, both. -/
import Derived.Test.YtoimhmphhffelaaGreatDoorQReceiptBytes01
import Derived.Test.YtoimhmphhffelaaGreatDoorQReceiptBytes10
set_option linter.unusedVariables false
set_option linter.unusedSimpArgs false
namespace Go.Proofs.YtoimhmphhffelaaGreatDoor
open Go Go.RowKit Go.Proofs.E
attribute [local irreducible] Go.wpList Go.Code.wp Go.Proofs.E.exec Go.Proofs.E.wpLexG
/-- The bytes of a number, the greatest first. -/
def beN (n : Nat) : List UInt8 := if h : n = 0 then [] else beN (n / 256) ++ [UInt8.ofNat (n % 256)]
decreasing_by omega
def numB (n : Nat) : List UInt8 := if n < 248 then [UInt8.ofNat n] else UInt8.ofNat (247 + (beN n).length) :: beN n
def strB (s : List UInt8) : List UInt8 := numB s.length ++ s
def flagB (f : Bool) : List UInt8 := [if f = true then 1 else 0]
theorem beN_zero : beN 0 = [] := by rw [beN]; rfl
theorem beN_pos {n : Nat} (h : 0 < n) : beN n = beN (n / 256) ++ [UInt8.ofNat (n % 256)] := by rw [beN, dif_neg (by omega)]
theorem beN_len : ∀ (k n : Nat), n < 256 ^ k → (beN n).length ≤ k
  | 0, n, h => by
    have : n = 0 := by simpa using h
    subst this
    rw [beN_zero]
    exact Nat.le_refl _
  | k + 1, n, h => by
    by_cases h0 : n = 0
    · subst h0
      rw [beN_zero]
      exact Nat.zero_le _
    · rw [beN_pos (by omega), List.length_append]
      have := beN_len k (n / 256) (by rw [Nat.pow_succ] at h; exact Nat.div_lt_of_lt_mul (by omega))
      simp
      omega
theorem beN_len8 {n : Nat} (h : n < 2 ^ 64) : (beN n).length ≤ 8 := beN_len 8 n (by simpa using h)
theorem numB_len {n : Nat} (h : n < 2 ^ 64) : (numB n).length ≤ 9 := by
  unfold numB
  split
  · simp
  · have := beN_len8 h
    simp
    omega
theorem u8v_ofNat {n : Nat} (h : n < 256) : u8v (UInt8.ofNat n) = .int .u8 (n : Int) := by
  unfold u8v
  rw [UInt8.toNat_ofNat', Nat.mod_eq_of_lt (by omega)]
theorem u8v_wrap (n : Nat) : Value.int .u8 (IntKind.u8.wrap (n : Int)) = u8v (UInt8.ofNat (n % 256)) := by
  rw [u8v_ofNat (by omega)]
  have : IntKind.u8.wrap (n : Int) = ((n % 256 : Nat) : Int) := by
    unfold IntKind.wrap
    simp [IntKind.bits, IntKind.signed]
  rw [this]
theorem clone8_any {bs : List UInt8} (v : Value) (w0 : World) (hR : (Ty.enc eU8).Rd [] w0 v bs) (hb : bs.length ≤ 70368744177664) :
    Calls Tryz.prog 120 #[v] w0 (Ret fun u w' => Ch [] w0 w' ∧ Go.Proofs.E.Own eU8 w' w0.heap.size 5 u bs) := by
  have hM := Mem.start w0
  obtain ⟨A, c, rfl⟩ := hR.form
  refine enter [.slice A bs.length c, undef, undef, undef, undef, undef, undef, undef] Tryz.func120 rfl rfl ?_
  repeat (first | refine gw ?_ | (refine ks ?_; intro w hM))
  (try ((with_reducible apply is_gd); first | refine gt ?_ | refine gf ?_ | refine gu ?_)); refine wl_val (r_eqnil) ?_
  repeat (first | refine gw ?_ | (refine ks ?_; intro w hM))
  cases A with
  | none =>
    refine c_condb rfl (fun _ => ?_) (fun h => by cases h)
    have : bs = [] := by
      cases bs with
      | nil => rfl
      | cons b r =>
        obtain ⟨_, _, _, hv, _, hA⟩ := hR
        obtain ⟨_, _, h, _⟩ := hA (by simp)
        subst h
        cases hv
    subst this
    repeat (first | refine gw ?_ | (refine ks ?_; intro w hM))
    exact out1 rfl ⟨hM.ch, Go.Proofs.E.Own.nil _ _ _ _⟩
  | some a =>
    refine c_condb rfl (fun h => by cases h) (fun _ => ?_)
    repeat (first | refine gw ?_ | (refine ks ?_; intro w hM))
    refine kbs (en := eU8) (vs := []) [] hM (fun w b5 hM => ?_)
    repeat (first | refine gw ?_ | (refine ks ?_; intro w hM))
    refine kap (en := eU8) (ys := bs) hM (hR.ch hM.ch) (fun v7 w hM => ?_) (hb := by simp; omega) (h63 := by simp; omega)
    repeat (first | refine gw ?_ | (refine ks ?_; intro w hM))
    exact out1 rfl ⟨hM.ch, hM.row (v := v7) (by (repeat constructor))⟩
/-- The program's array of eight after j bytes. -/
theorem arr_set {z X : List Value} {v x : Value} {i : Nat} (hz : z.length = i) : (z ++ x :: X).set i v = z ++ v :: X := by
  subst hz
  rw [List.set_append_right _ _ (Nat.le_refl _), Nat.sub_self]
  rfl
set_option maxHeartbeats 8000000 in
theorem num_any {bs : List UInt8} (v : Value) (n : Nat) (w0 : World) (hR : tU8.Rd [] w0 v bs) (hb : bs.length ≤ 70368744177600) (hn : n < 2 ^ 64) :
    Calls Tryz.prog 52 #[v, .int .u64 (n : Int)] w0 (Ret fun u w' => Ch [] w0 w' ∧ Go.Proofs.E.Own eU8 w' w0.heap.size 5 u (bs ++ numB n)) := by
  have hM := Mem.start w0
  refine enter [v, .int .u64 (n : Int), undef, undef, undef, undef, undef, undef, undef, undef, undef, undef, undef, undef, undef, undef, undef, undef, undef, undef, undef, undef, undef, undef, undef, undef, undef, undef, undef, undef, undef, undef, undef, undef, undef] Tryz.func52 rfl rfl ?_
  repeat (first | refine gw ?_ | (refine ks ?_; intro w hM))
  refine kcr hM (clone8_any v w0 hR (by omega)) (fun v8 w hM => ?_)
  repeat (first | refine gw ?_ | (refine ks ?_; intro w hM))
  unfold numB
  by_cases h248 : n < 248
  · rw [decide_eq_true (by omega : (n : Int) < 248), if_pos h248]
    refine c_condb rfl (fun _ => ?_) (fun h => by cases h)
    repeat (first | refine gw ?_ | (refine ks ?_; intro w hM))
    refine kpu (UInt8.ofNat n) hM (fun _ v15 w hM => ?_) (ha := by show [Value.int .u8 (n : Int)] = [u8v (UInt8.ofNat n)]; rw [u8v_ofNat (by omega)]) (hb := by omega) (h63 := by omega)
    repeat (first | refine gw ?_ | (refine ks ?_; intro w hM))
    exact out1 rfl ⟨hM.ch, hM.row (v := v15) (by (repeat constructor))⟩
  · rw [decide_eq_false (by omega : ¬ (n : Int) < 248), if_neg h248]
    refine c_condb rfl (fun h => by cases h) (fun _ => ?_)
    repeat (first | refine gw ?_ | (refine ks ?_; intro w hM))
    refine kal hM (fun w b5 hM => ?_)
    repeat (first | refine gw ?_ | (refine ks ?_; intro w hM))
    have hM : Mem [] w0 w [.cell b5 ((List.replicate (8 - 0) (0 : UInt8)).map u8v ++ ([] : List UInt8).map u8v) 138, .row eU8 5 v8 bs] := hM
    have hf0 : beN n = beN n ++ [] := by simp
    
    refine c_loop (fun k l w => ∃ (j m : Nat) (X : List UInt8), (∃ jj : Nat → Value, l = [v8, .int .u64 (m : Int), jj 2, jj 3, .slice none 0 0, .pointer (some ⟨b5, 0, none⟩), .int .i64 (8 - (j : Int)), jj 7, jj 8, jj 9, jj 10, jj 11, jj 12, jj 13, jj 14, jj 15, jj 16, jj 17, jj 18, jj 19, jj 20, jj 21, jj 22, jj 23, jj 24, jj 25, jj 26, jj 27, jj 28, jj 29, jj 30, jj 31, jj 32, jj 33, jj 34]) ∧ k + j = 8 ∧ m < 256 ^ k ∧ X.length = j ∧ beN n = beN m ++ X ∧ Mem [] w0 w [.cell b5 ((List.replicate (8 - j) (0 : UInt8)).map u8v ++ X.map u8v) 138, .row eU8 5 v8 bs]) 8
      ⟨0, n, [], exj (by rw [show (8 : Int) - ((0 : Nat) : Int) = 8 by omega]; rfl), rfl, by simpa using hn, rfl, hf0, hM⟩ ?_
    clear hM hf0
    rintro k l w ⟨j, m, X, ⟨jj, rfl⟩, hkj, hmk, hXl, hf, hM⟩
    have hm64 : m < 2 ^ 64 := Nat.lt_of_lt_of_le hmk (Nat.le_trans (Nat.pow_le_pow_right (by omega) (by omega : k ≤ 8)) (by decide))
    repeat (first | refine gw ?_ | (refine ks ?_; intro w hM))
    refine c_cond rfl (fun hm => ?_) (fun hm => ?_)
    · have hk : 0 < k := by
        rcases Nat.eq_zero_or_pos k with rfl | h
        · simp at hmk
          omega
        · exact h
      obtain ⟨k', rfl⟩ : ∃ k', k = k' + 1 := ⟨k - 1, by omega⟩
      repeat ((fail_if_success (with_reducible apply Go.Proofs.E.is_dst (d := 24))); first | ((with_reducible apply is_ld); first | refine kld hM ?_ | refine kldw hM ?_ | refine kle hM ?_ | refine klew hM ?_) | ((with_reducible apply is_sto); first | (refine kst hM ?_; intro w hM) | (refine kstw hM ?_; intro w hM)) | ((with_reducible apply is_st); refine su ?_) | ((with_reducible apply is_gd); first | refine gt ?_ | refine gf ?_ | refine gu ?_) | ((with_reducible apply is_en); refine en ?_) | (with_reducible apply c_region) | refine ws ?_ | refine x_block_other (by decide) ?_)
      (try ((with_reducible apply is_gd); first | refine gt ?_ | refine gf ?_ | refine gu ?_)); refine wl_val (r_conv rfl) ?_
      rw [u8v_wrap]
      repeat ((fail_if_success (with_reducible apply Go.Proofs.E.is_dst (d := 25))); first | ((with_reducible apply is_ld); first | refine kld hM ?_ | refine kldw hM ?_ | refine kle hM ?_ | refine klew hM ?_) | ((with_reducible apply is_sto); first | (refine kst hM ?_; intro w hM) | (refine kstw hM ?_; intro w hM)) | ((with_reducible apply is_st); refine su ?_) | ((with_reducible apply is_gd); first | refine gt ?_ | refine gf ?_ | refine gu ?_) | ((with_reducible apply is_en); refine en ?_) | (with_reducible apply c_region) | refine ws ?_ | refine x_block_other (by decide) ?_)
      (try ((with_reducible apply is_gd); first | refine gt ?_ | refine gf ?_ | refine gu ?_)); refine wl_val (r_indexAddr_arr (i := (8 : Int) - (j : Int) - 1) rfl rfl (by omega) (by omega)) ?_
      rw [show 8 - j = (8 - (j + 1)) + 1 by omega, List.replicate_succ', List.map_append, List.append_assoc] at hM
      refine kst (v := u8v (UInt8.ofNat (m % 256))) hM (fun w hM => ?_) (hx := by rw [show 0 + ((8 : Int) - (j : Int) - 1).toNat * 1 = 8 - (j + 1) by omega]; rfl) (hf := by simp) (hs := arr_set (by simp))
      repeat (first | refine gw ?_ | (refine ks ?_; intro w hM))
      have es : ((m : Int)).fdiv (2 ^ min ((8 : Int)).toNat IntKind.u64.bits) = ((m / 256 : Nat) : Int) := by
        rw [show min ((8 : Int)).toNat IntKind.u64.bits = 8 by rfl]
        exact (Int.ofNat_fdiv m 256).symm
      rw [es]
      refine x_goes k' rfl (by omega) ⟨j + 1, m / 256, UInt8.ofNat (m % 256) :: X, exj (by rw [show (8 : Int) - ((j + 1 : Nat) : Int) = 8 - (j : Int) - 1 by omega]; rfl), by omega, Nat.div_lt_of_lt_mul (by rw [Nat.pow_succ] at hmk; omega), by simp [hXl], ?_, hM⟩
      rw [hf, beN_pos (by omega)]
      simp
    · have h0 : m = 0 := by omega
      subst h0
      rw [beN_zero, List.nil_append] at hf
      subst hf
      have hj8 : j ≤ 8 := by omega
      have hj1 : 0 < j := by
        rw [← hXl, beN_pos (by omega)]
        simp
      generalize beN n = X at hM hXl ⊢
      repeat (first | refine gw ?_ | (refine ks ?_; intro w hM))
      refine c_ordY ([5, 8], [6, 7]) [] (by kernel_rfl) (by kernel_rfl) (by kernel_rfl) (fun w hc hs => ?_)
      have hM := hM.call hc
      (first | refine yn 0 rfl ?_ | refine ynt 0 rfl ?_ | refine ynff 0 rfl ?_); (first | refine yn 1 rfl ?_ | refine ynt 1 rfl ?_ | refine ynff 1 rfl ?_); (first | refine yn 2 rfl ?_ | refine ynt 2 rfl ?_ | refine ynff 2 rfl ?_); (first | refine yn 3 rfl ?_ | refine ynt 3 rfl ?_ | refine ynff 3 rfl ?_)
      rw [show (255 : Int) - (8 - (j : Int)) = ((247 + j : Nat) : Int) by omega, ← u8v_ofNat (by omega : 247 + j < 256)]
      (first | refine yn 6 rfl ?_ | refine ynt 6 rfl ?_ | refine ynff 6 rfl ?_)
      refine ynp 7 rfl (by kernel_rfl) (by kernel_rfl) (fun _ => r_cut_arr (i := (8 : Int) - (j : Int)) rfl rfl (by omega) (by omega)) rfl ?_
      refine yk1 4 hM (by kernel_rfl) rfl (fun w h0 hM => ?_)
      refine kbsC (en := eU8) (vs := [u8v (UInt8.ofNat (247 + j))]) [UInt8.ofNat (247 + j)] hM (fun w b30 hc hM => ?_) (hm := by intro v hv; simp at hv; subst hv; rfl)
      refine x_wy (.inl (hc.gy h0)) rfl ?_
      refine yk1 5 hM (by kernel_rfl) rfl (fun w h0 hM => ?_)
      refine kapC (en := eU8) (v := v8) (ys := [UInt8.ofNat (247 + j)]) hM (hM.rowRdO (en := eU8) (xs := [UInt8.ofNat (247 + j)]) (by (repeat constructor))) (fun v31 w hsz hM => ?_) (hb := by simp; omega) (h63 := by simp; omega)
      refine x_wy (.inr ⟨by decide, Nat.le_trans h0 hsz⟩) rfl ?_
      refine yk1 8 hM (by kernel_rfl) rfl (fun w h0 hM => ?_)
      have hl : 8 - ((8 : Int) - (j : Int)).toNat = j := by omega
      have hRx : tU8.Rd [] w (.slice (some ⟨b5, 0 + ((8 : Int) - (j : Int)).toNat * 1, none⟩) (8 - ((8 : Int) - (j : Int)).toNat) (8 - ((8 : Int) - (j : Int)).toNat)) X := by
        rw [hl]
        refine rd8_range (bs := X) ?_ (hM.blk (b := b5) (by (repeat constructor))).lt (by simp) hXl (by omega)
        have := (hM.blk (b := b5) (by (repeat constructor))).range (0 + ((8 : Int) - (j : Int)).toNat * 1) j
        rw [show 0 + ((8 : Int) - (j : Int)).toNat * 1 = 8 - j by omega, List.drop_left' (by simp), List.take_of_length_le (by simp [hXl])] at this
        rw [show 0 + ((8 : Int) - (j : Int)).toNat * 1 = 8 - j by omega]
        exact this
      refine kapC (en := eU8) (v := v31) (ys := X) hM hRx (fun v34 w hsz hM => ?_) (hb := by simp; omega) (h63 := by simp; omega)
      refine x_wy (.inr ⟨by decide, Nat.le_trans h0 hsz⟩) rfl ?_
      (first | refine yn 9 rfl ?_ | refine ynt 9 rfl ?_ | refine ynff 9 rfl ?_)
      refine wy_done (by kernel_rfl) (fun w hc => ?_)
      have hM := hM.call hc
      repeat (first | refine gw ?_ | (refine ks ?_; intro w hM))
      rw [hXl]
      have hrow := hM.row (v := v34) (by (repeat constructor))
      rw [List.append_assoc] at hrow
      exact out1 rfl ⟨hM.ch, hrow⟩
set_option maxHeartbeats 8000000 in
theorem rnum_any {bs : List UInt8} (v : Value) (n : Nat) (w0 : World) (hR : tU8.Rd [] w0 v bs) (hb : bs.length ≤ 70368744177600) (hn : n < 2 ^ 64) :
    Calls Tryz.prog 55 #[v, .int .u64 (n : Int)] w0 (Ret fun u w' => Ch [] w0 w' ∧ Go.Proofs.E.Own eU8 w' w0.heap.size 5 u (bs ++ numB n)) := by
  have hM := Mem.start w0
  refine enter [v, .int .u64 (n : Int), undef, undef, undef, undef, undef, undef, undef, undef, undef, undef, undef, undef, undef, undef, undef, undef, undef, undef, undef, undef, undef, undef, undef, undef, undef, undef, undef, undef, undef, undef, undef, undef, undef, undef, undef] Tryz.func55 rfl rfl ?_
  repeat (first | refine gw ?_ | (refine ks ?_; intro w hM))
  refine kbs (en := eU8) (vs := []) [] hM (fun w b8 hM => ?_)
  repeat (first | refine gw ?_ | (refine ks ?_; intro w hM))
  refine kap (en := eU8) (ys := bs) hM (hR.ch hM.ch) (fun v8 w hM => ?_) (hb := by simp; omega) (h63 := by simp; omega)
  rw [List.nil_append] at hM
  repeat (first | refine gw ?_ | (refine ks ?_; intro w hM))
  unfold numB
  by_cases h248 : n < 248
  · rw [decide_eq_true (by omega : (n : Int) < 248), if_pos h248]
    refine c_condb rfl (fun _ => ?_) (fun h => by cases h)
    repeat (first | refine gw ?_ | (refine ks ?_; intro w hM))
    refine kpu (UInt8.ofNat n) hM (fun _ v15 w hM => ?_) (ha := by show [Value.int .u8 (n : Int)] = [u8v (UInt8.ofNat n)]; rw [u8v_ofNat (by omega)]) (hb := by omega) (h63 := by omega)
    repeat (first | refine gw ?_ | (refine ks ?_; intro w hM))
    exact out1 rfl ⟨hM.ch, hM.row (v := v15) (by (repeat constructor))⟩
  · rw [decide_eq_false (by omega : ¬ (n : Int) < 248), if_neg h248]
    refine c_condb rfl (fun h => by cases h) (fun _ => ?_)
    repeat (first | refine gw ?_ | (refine ks ?_; intro w hM))
    have hM := hM.nilRow eU8 5
    have hf0 : beN n = beN n ++ [] := by simp
    
    refine c_loop (fun k l w => ∃ (j m : Nat) (v6 : Value) (X : List UInt8), (∃ jj : Nat → Value, l = [jj 0, .int .u64 (n : Int), jj 2, jj 3, jj 4, v8, v6, .int .u64 (m : Int), jj 8, jj 9, jj 10, jj 11, jj 12, jj 13, jj 14, jj 15, jj 16, jj 17, jj 18, jj 19, jj 20, jj 21, jj 22, jj 23, jj 24, jj 25, jj 26, jj 27, jj 28, jj 29, jj 30, jj 31, jj 32, jj 33, jj 34, jj 35, jj 36]) ∧ k + j = 8 ∧ m < 256 ^ k ∧ X.length = j ∧ beN n = beN m ++ X ∧ Mem [] w0 w [.row eU8 5 v6 X, .row eU8 5 v8 bs]) 8
      ⟨0, n, _, [], exj rfl, rfl, by simpa using hn, rfl, hf0, hM.sub (by (repeat constructor))⟩ ?_
    clear hM hf0
    rintro k l w ⟨j, m, v6, X, ⟨jj, rfl⟩, hkj, hmk, hXl, hf, hM⟩
    have hm64 : m < 2 ^ 64 := Nat.lt_of_lt_of_le hmk (Nat.le_trans (Nat.pow_le_pow_right (by omega) (by omega : k ≤ 8)) (by decide))
    obtain ⟨A6, c6, hv6, _⟩ := (hM.row0 (v := v6) (by (repeat constructor))).form
    subst hv6
    repeat (first | refine gw ?_ | (refine ks ?_; intro w hM))
    refine c_cond rfl (fun hm => ?_) (fun hm => ?_)
    · have hk : 0 < k := by
        rcases Nat.eq_zero_or_pos k with rfl | h
        · simp at hmk
          omega
        · exact h
      obtain ⟨k', rfl⟩ : ∃ k', k = k' + 1 := ⟨k - 1, by omega⟩
      repeat ((fail_if_success (with_reducible apply Go.Proofs.E.is_dst (d := 24))); first | ((with_reducible apply is_ld); first | refine kld hM ?_ | refine kldw hM ?_ | refine kle hM ?_ | refine klew hM ?_) | ((with_reducible apply is_sto); first | (refine kst hM ?_; intro w hM) | (refine kstw hM ?_; intro w hM)) | ((with_reducible apply is_st); refine su ?_) | ((with_reducible apply is_gd); first | refine gt ?_ | refine gf ?_ | refine gu ?_) | ((with_reducible apply is_en); refine en ?_) | (with_reducible apply c_region) | refine ws ?_ | refine x_block_other (by decide) ?_)
      (try ((with_reducible apply is_gd); first | refine gt ?_ | refine gf ?_ | refine gu ?_)); refine wl_val (r_conv rfl) ?_
      rw [u8v_wrap]
      refine kbs (en := eU8) (vs := [u8v (UInt8.ofNat (m % 256))]) [UInt8.ofNat (m % 256)] hM (fun w b25 hM => ?_) (hm := by intro v hv; simp at hv; subst hv; rfl)
      repeat (first | refine gw ?_ | (refine ks ?_; intro w hM))
      refine kap (en := eU8) (v := .slice (some ⟨b25, 0, none⟩) 1 1) (ys := X) hM (hM.rowRdO (en := eU8) (xs := X) (by (repeat constructor))) (fun v27 w hM => ?_) (hb := by simp; omega) (h63 := by simp; omega)
      obtain ⟨A7, c7, hv7, _⟩ := (hM.row0 (v := v27) (by (repeat constructor))).form
      subst hv7
      repeat (first | refine gw ?_ | (refine ks ?_; intro w hM))
      have es : ((m : Int)).fdiv (2 ^ min ((8 : Int)).toNat IntKind.u64.bits) = ((m / 256 : Nat) : Int) := by
        rw [show min ((8 : Int)).toNat IntKind.u64.bits = 8 by rfl]
        exact (Int.ofNat_fdiv m 256).symm
      rw [es]
      refine x_goes k' rfl (by omega) ⟨j + 1, m / 256, _, UInt8.ofNat (m % 256) :: X, exj rfl, by omega, Nat.div_lt_of_lt_mul (by rw [Nat.pow_succ] at hmk; omega), by simp [hXl], ?_, hM.sub (by (repeat constructor))⟩
      rw [hf, beN_pos (by omega)]
      simp
    · have h0 : m = 0 := by omega
      subst h0
      rw [beN_zero, List.nil_append] at hf
      subst hf
      have hj8 : j ≤ 8 := by omega
      generalize beN n = X at hM hXl ⊢
      repeat ((fail_if_success (with_reducible apply Go.Proofs.E.is_dst (d := 32))); first | ((with_reducible apply is_ld); first | refine kld hM ?_ | refine kldw hM ?_ | refine kle hM ?_ | refine klew hM ?_) | ((with_reducible apply is_sto); first | (refine kst hM ?_; intro w hM) | (refine kstw hM ?_; intro w hM)) | ((with_reducible apply is_st); refine su ?_) | ((with_reducible apply is_gd); first | refine gt ?_ | refine gf ?_ | refine gu ?_) | ((with_reducible apply is_en); refine en ?_) | (with_reducible apply c_region) | refine ws ?_ | refine x_block_other (by decide) ?_)
      (try ((with_reducible apply is_gd); first | refine gt ?_ | refine gf ?_ | refine gu ?_)); refine wl_val (r_convw (lo := 0) (hi := 255) rfl rfl (by omega) (by omega)) ?_
      rw [show (247 : Int) + (X.length : Int) = ((247 + X.length : Nat) : Int) by omega, ← u8v_ofNat (by omega : 247 + X.length < 256)]
      repeat (first | refine gw ?_ | (refine ks ?_; intro w hM))
      refine kpu (UInt8.ofNat (247 + X.length)) hM (fun _ v34 w hM => ?_) (v := v8) (hb := by omega) (h63 := by omega)
      repeat (first | refine gw ?_ | (refine ks ?_; intro w hM))
      refine kap (en := eU8) (v := v34) (ys := X) hM (hM.rowRdO (en := eU8) (xs := X) (by (repeat constructor))) (fun v36 w hM => ?_) (hb := by simp; omega) (h63 := by simp; omega)
      repeat (first | refine gw ?_ | (refine ks ?_; intro w hM))
      have hrow := hM.row (v := v36) (by (repeat constructor))
      rw [List.append_assoc] at hrow
      exact out1 rfl ⟨hM.ch, hrow⟩
theorem flag_any {bs : List UInt8} (v : Value) (f : Bool) (w0 : World) (hR : tU8.Rd [] w0 v bs) (hb : bs.length ≤ 70368744177600) :
    Calls Tryz.prog 152 #[v, .bool f] w0 (Ret fun u w' => Ch [] w0 w' ∧ Go.Proofs.E.Own eU8 w' w0.heap.size 5 u (bs ++ flagB f)) := by
  have hM := Mem.start w0
  refine enter [v, .bool f, undef, undef, undef, undef, undef, undef, undef, undef, undef, undef] Tryz.func152 rfl rfl ?_
  repeat (first | refine gw ?_ | (refine ks ?_; intro w hM))
  cases f with
  | true =>
    refine c_condb rfl (fun _ => ?_) (fun h => by cases h)
    repeat (first | refine gw ?_ | (refine ks ?_; intro w hM))
    refine kcr hM (clone8_any v w0 hR (by omega)) (fun v8 w hM => ?_)
    repeat (first | refine gw ?_ | (refine ks ?_; intro w hM))
    refine kpu (1 : UInt8) hM (fun _ v11 w hM => ?_) (v := v8) (hb := by omega) (h63 := by omega)
    repeat (first | refine gw ?_ | (refine ks ?_; intro w hM))
    exact out1 rfl ⟨hM.ch, hM.row (v := v11) (by (repeat constructor))⟩
  | false =>
    refine c_condb rfl (fun h => by cases h) (fun _ => ?_)
    repeat (first | refine gw ?_ | (refine ks ?_; intro w hM))
    refine kcr hM (clone8_any v w0 hR (by omega)) (fun v8 w hM => ?_)
    repeat (first | refine gw ?_ | (refine ks ?_; intro w hM))
    refine kpu (0 : UInt8) hM (fun _ v11 w hM => ?_) (v := v8) (hb := by omega) (h63 := by omega)
    repeat (first | refine gw ?_ | (refine ks ?_; intro w hM))
    exact out1 rfl ⟨hM.ch, hM.row (v := v11) (by (repeat constructor))⟩
theorem rflag_any {bs : List UInt8} (v : Value) (f : Bool) (w0 : World) (hR : tU8.Rd [] w0 v bs) (hb : bs.length ≤ 70368744177600) :
    Calls Tryz.prog 160 #[v, .bool f] w0 (Ret fun u w' => Ch [] w0 w' ∧ Go.Proofs.E.Own eU8 w' w0.heap.size 5 u (bs ++ flagB f)) := by
  have hM := Mem.start w0
  refine enter [v, .bool f, undef, undef, undef, undef, undef, undef, undef, undef, undef, undef, undef, undef, undef, undef] Tryz.func160 rfl rfl ?_
  repeat (first | refine gw ?_ | (refine ks ?_; intro w hM))
  cases f with
  | true =>
    refine c_condb rfl (fun _ => ?_) (fun h => by cases h)
    repeat (first | refine gw ?_ | (refine ks ?_; intro w hM))
    refine kbs (en := eU8) (vs := []) [] hM (fun w b6 hM => ?_)
    repeat (first | refine gw ?_ | (refine ks ?_; intro w hM))
    refine kap (en := eU8) (ys := bs) hM (hR.ch hM.ch) (fun v8 w hM => ?_) (hb := by simp; omega) (h63 := by simp; omega)
    rw [List.nil_append] at hM
    repeat (first | refine gw ?_ | (refine ks ?_; intro w hM))
    refine kpu (1 : UInt8) hM (fun _ v11 w hM => ?_) (v := v8) (hb := by omega) (h63 := by omega)
    repeat (first | refine gw ?_ | (refine ks ?_; intro w hM))
    exact out1 rfl ⟨hM.ch, hM.row (v := v11) (by (repeat constructor))⟩
  | false =>
    refine c_condb rfl (fun h => by cases h) (fun _ => ?_)
    repeat (first | refine gw ?_ | (refine ks ?_; intro w hM))
    refine kbs (en := eU8) (vs := []) [] hM (fun w b6 hM => ?_)
    repeat (first | refine gw ?_ | (refine ks ?_; intro w hM))
    refine kap (en := eU8) (ys := bs) hM (hR.ch hM.ch) (fun v8 w hM => ?_) (hb := by simp; omega) (h63 := by simp; omega)
    rw [List.nil_append] at hM
    repeat (first | refine gw ?_ | (refine ks ?_; intro w hM))
    refine kpu (0 : UInt8) hM (fun _ v11 w hM => ?_) (v := v8) (hb := by omega) (h63 := by omega)
    repeat (first | refine gw ?_ | (refine ks ?_; intro w hM))
    exact out1 rfl ⟨hM.ch, hM.row (v := v11) (by (repeat constructor))⟩
theorem str_any {bs : List UInt8} (v : Value) (s : List UInt8) (w0 : World) (hR : tU8.Rd [] w0 v bs) (hb : bs.length ≤ 70368744177600) (hs : s.length ≤ 70368744177600) :
    Calls Tryz.prog 50 #[v, .string (bst s)] w0 (Ret fun u w' => Ch [] w0 w' ∧ Go.Proofs.E.Own eU8 w' w0.heap.size 5 u (bs ++ strB s)) := by
  have hM := Mem.start w0
  refine enter [v, .string (bst s), undef, undef, undef, undef, undef, undef, undef, undef, undef, undef] Tryz.func50 rfl rfl ?_
  repeat ((fail_if_success (with_reducible apply Go.Proofs.E.is_dst (d := 8))); first | ((with_reducible apply is_ld); first | refine kld hM ?_ | refine kldw hM ?_ | refine kle hM ?_ | refine klew hM ?_) | ((with_reducible apply is_sto); first | (refine kst hM ?_; intro w hM) | (refine kstw hM ?_; intro w hM)) | ((with_reducible apply is_st); refine su ?_) | ((with_reducible apply is_gd); first | refine gt ?_ | refine gf ?_ | refine gu ?_) | ((with_reducible apply is_en); refine en ?_) | (with_reducible apply c_region) | refine ws ?_ | refine x_block_other (by decide) ?_)
  simp only [bst_size]
  repeat (first | refine gw ?_ | (refine ks ?_; intro w hM))
  have hn := numB_len (n := s.length) (by omega)
  refine kcr hM (num_any v s.length w0 hR hb (by omega)) (fun v8 w hM => ?_)
  repeat (first | refine gw ?_ | (refine ks ?_; intro w hM))
  refine kapS (s := s) hM (fun v10 w _ hM => ?_) (hb := by simp; omega)
  repeat (first | refine gw ?_ | (refine ks ?_; intro w hM))
  have hrow := hM.row (v := v10) (by (repeat constructor))
  rw [List.append_assoc] at hrow
  exact out1 rfl ⟨hM.ch, hrow⟩
theorem rstr_any {bs : List UInt8} (v : Value) (s : List UInt8) (w0 : World) (hR : tU8.Rd [] w0 v bs) (hb : bs.length ≤ 70368744177600) (hs : s.length ≤ 70368744177600) :
    Calls Tryz.prog 53 #[v, .string (bst s)] w0 (Ret fun u w' => Ch [] w0 w' ∧ Go.Proofs.E.Own eU8 w' w0.heap.size 5 u (bs ++ strB s)) := by
  have hM := Mem.start w0
  refine enter [v, .string (bst s), undef, undef, undef, undef, undef, undef, undef, undef, undef, undef] Tryz.func53 rfl rfl ?_
  repeat ((fail_if_success (with_reducible apply Go.Proofs.E.is_dst (d := 8))); first | ((with_reducible apply is_ld); first | refine kld hM ?_ | refine kldw hM ?_ | refine kle hM ?_ | refine klew hM ?_) | ((with_reducible apply is_sto); first | (refine kst hM ?_; intro w hM) | (refine kstw hM ?_; intro w hM)) | ((with_reducible apply is_st); refine su ?_) | ((with_reducible apply is_gd); first | refine gt ?_ | refine gf ?_ | refine gu ?_) | ((with_reducible apply is_en); refine en ?_) | (with_reducible apply c_region) | refine ws ?_ | refine x_block_other (by decide) ?_)
  simp only [bst_size]
  repeat (first | refine gw ?_ | (refine ks ?_; intro w hM))
  have hn := numB_len (n := s.length) (by omega)
  refine kcr hM (rnum_any v s.length w0 hR hb (by omega)) (fun v8 w hM => ?_)
  repeat (first | refine gw ?_ | (refine ks ?_; intro w hM))
  refine kapS (s := s) hM (fun v10 w _ hM => ?_) (hb := by simp; omega)
  repeat (first | refine gw ?_ | (refine ks ?_; intro w hM))
  have hrow := hM.row (v := v10) (by (repeat constructor))
  rw [List.append_assoc] at hrow
  exact out1 rfl ⟨hM.ch, hrow⟩
end Go.Proofs.YtoimhmphhffelaaGreatDoor
set_option linter.unusedVariables false
set_option linter.unusedSimpArgs false
namespace Go.Proofs.YtoimhmphhffelaaGreatDoor
open Go Go.RowKit Go.Proofs.E
attribute [local irreducible] Go.wpList Go.Code.wp Go.Proofs.E.exec Go.Proofs.E.wpLexG
abbrev Bs := List UInt8
abbrev Pr := Bs × Bs × Bool
abbrev ePr : En Pr := { f := fun p => [.string (bst p.1), .string (bst p.2.1), .bool p.2.2], n := 3, hl := fun _ => rfl, h1 := fun _ u hu => by simp at hu; rcases hu with rfl | rfl | rfl <;> rfl }
abbrev RR := Bool × Bs × Bs × SlV
abbrev eRr : En RR := { f := fun r => [.bool r.1, .string (bst r.2.1), .string (bst r.2.2.1), slv r.2.2.2], n := 4, hl := fun _ => rfl, h1 := fun _ u hu => by simp at hu; rcases hu with rfl | rfl | rfl | rfl <;> rfl }
abbrev eNat : En Nat := { f := fun n => [.int .i64 (n : Int)], n := 1, hl := fun _ => rfl, h1 := fun _ u hu => by simp at hu; subst hu; rfl }
abbrev rC (ses snap : Int) (strict : Bool) (vr vw : Value) : List Value := [.int .i64 ses, .int .i64 snap, .bool strict, vr, vw]
def pairB (p : Pr) : Bs := strB p.1 ++ strB p.2.1
def readB (u : RR × List Pr) : Bs := flagB u.1.1 ++ (strB u.1.2.1 ++ ((if u.1.1 = true then strB u.1.2.2.1 else []) ++ (numB u.2.length ++ u.2.flatMap pairB)))
def writeB (p : Pr) : Bs := strB p.1 ++ (flagB p.2.2 ++ (if p.2.2 = true then [] else strB p.2.1))
def recB (ses snap : Nat) (strict : Bool) (us : List (RR × List Pr)) (wz : List Pr) : Bs :=
  numB ses ++ (numB snap ++ (flagB strict ++ (numB us.length ++ (us.flatMap readB ++ (numB wz.length ++ wz.flatMap writeB)))))
def SmallP (p : Pr) : Prop := p.1.length ≤ 300 ∧ p.2.1.length ≤ 300
def SmallR (us : List (RR × List Pr)) (wz : List Pr) : Prop :=
  us.length ≤ 100 ∧ wz.length ≤ 100 ∧ (∀ u ∈ us, u.1.2.1.length ≤ 300 ∧ u.1.2.2.1.length ≤ 300 ∧ u.2.length ≤ 300 ∧ ∀ p ∈ u.2, SmallP p) ∧ ∀ p ∈ wz, SmallP p
theorem flat_le {α : Type} {f : α → Bs} {C : Nat} : ∀ (l : List α), (∀ x ∈ l, (f x).length ≤ C) → (l.flatMap f).length ≤ l.length * C
  | [], _ => by simp
  | x :: l, h => by
    have h1 := h x (by simp)
    have h2 := flat_le l (fun y hy => h y (by simp [hy]))
    rw [List.flatMap_cons, List.length_append, List.length_cons, Nat.succ_mul]
    omega
theorem strB_len {s : Bs} (h : s.length ≤ 300) : (strB s).length ≤ 309 := by
  unfold strB
  have := numB_len (n := s.length) (by omega)
  rw [List.length_append]
  omega
theorem pairB_len {p : Pr} (h : SmallP p) : (pairB p).length ≤ 618 := by
  unfold pairB
  have h1 := strB_len h.1
  have h2 := strB_len h.2
  rw [List.length_append]
  omega
theorem flagB_len (f : Bool) : (flagB f).length = 1 := rfl
theorem writeB_len {p : Pr} (h : SmallP p) : (writeB p).length ≤ 619 := by
  unfold writeB
  have h1 := strB_len h.1
  have h2 := strB_len h.2
  rw [List.length_append, List.length_append, flagB_len]
  split
  · simp
    omega
  · omega
theorem readB_len {u : RR × List Pr} (h : u.1.2.1.length ≤ 300 ∧ u.1.2.2.1.length ≤ 300 ∧ u.2.length ≤ 300 ∧ ∀ p ∈ u.2, SmallP p) : (readB u).length ≤ 186500 := by
  unfold readB
  have h1 := strB_len h.1
  have h2 := strB_len h.2.1
  have h3 := numB_len (n := u.2.length) (by omega)
  have h4 := flat_le (f := pairB) (C := 618) u.2 (fun p hp => pairB_len (h.2.2.2 p hp))
  have h5 : u.2.length * 618 ≤ 300 * 618 := Nat.mul_le_mul_right _ h.2.2.1
  rw [List.length_append, List.length_append, List.length_append, List.length_append, flagB_len]
  split
  · omega
  · simp only [List.length_nil]
    omega
theorem take_flat {α : Type} {f : α → Bs} {l : List α} {j : Nat} {x : α} (h : l[j]? = some x) : (l.take (j + 1)).flatMap f = (l.take j).flatMap f ++ f x := by
  rw [List.take_add_one, h, List.flatMap_append]
  simp
theorem take_le {α : Type} {f : α → Bs} {l : List α} {C N : Nat} (j : Nat) (h : ∀ x ∈ l, (f x).length ≤ C) (hN : l.length ≤ N) : ((l.take j).flatMap f).length ≤ N * C := by
  have h1 := flat_le (f := f) (C := C) (l.take j) (fun x hx => h x (List.mem_of_mem_take hx))
  have h2 : (l.take j).length ≤ l.length := by rw [List.length_take]; omega
  exact Nat.le_trans h1 (Nat.mul_le_mul_right _ (by omega))
set_option maxHeartbeats 4000000 in
theorem nums_any {bs : Bs} (v vx : Value) (xs : List Nat) (w0 : World) (hR : tU8.Rd [] w0 v bs) (hX : (Ty.enc eNat).Rd [] w0 vx xs) (hb : bs.length ≤ 70368744000000) (hx : ∀ x ∈ xs, x < 2 ^ 63) (hl : xs.length ≤ 10) (h0 : 0 < xs.length) :
    Calls Tryz.prog 153 #[v, vx] w0 (Ret fun u w' => Ch [] w0 w' ∧ Go.Proofs.E.Own eU8 w' w0.heap.size 5 u (bs ++ xs.flatMap numB)) := by
  have hM := Mem.start w0
  obtain ⟨A, c, rfl⟩ := hX.form
  refine enter [v, .slice A xs.length c, undef, undef, undef, undef, undef, undef, undef, undef, undef, undef, undef, undef, undef, undef, undef, undef, undef] Tryz.func153 rfl rfl ?_
  repeat (first | refine gw ?_ | (refine ks ?_; intro w hM))
  
  refine c_loop (fun n l w => ∃ (j : Nat) (v' : Value) (L : List As), (∃ jj : Nat → Value, l = [v', jj 1, jj 2, jj 3, jj 4, jj 5, jj 6, .slice A xs.length c, .int .i64 (xs.length : Int), .int .i64 (j : Int), jj 10, jj 11, jj 12, jj 13, jj 14, jj 15, jj 16, jj 17, jj 18]) ∧ n + j = xs.length ∧ Mem [] w0 w L ∧ tU8.Rd [] w v' (bs ++ (xs.take j).flatMap numB) ∧ (j = 0 ∧ v' = v ∨ ∃ L', L = .row eU8 5 v' (bs ++ (xs.take j).flatMap numB) :: L')) xs.length
    ⟨0, v, [], exj rfl, rfl, hM, by simpa using hR, .inl ⟨rfl, rfl⟩⟩ ?_
  clear hM
  rintro n l w ⟨j, v', L, ⟨jj, rfl⟩, hnj, hM, hR', hL⟩
  have hbl := take_le (f := numB) (l := xs) (C := 9) (N := 10) j (fun x hx' => numB_len (Nat.lt_of_lt_of_le (hx x hx') (by decide))) hl
  repeat (first | refine gw ?_ | (refine ks ?_; intro w hM))
  refine c_cond rfl (fun hj => ?_) (fun hj => ?_)
  · repeat (first | refine gw ?_ | (refine ks ?_; intro w hM))
    refine kix hX (fun b o x hx' hA => ?_)
    rw [Int.toNat_natCast] at hx'
    have hxx := hx x (List.mem_of_getElem? hx')
    refine kat hM hA ?_
    repeat (first | refine gw ?_ | (refine ks ?_; intro w hM))
    refine kcr hM (num_any v' x w hR' (by rw [List.length_append]; omega) (by omega)) (fun v16 w hM => ?_)
    repeat (first | refine gw ?_ | (refine ks ?_; intro w hM))
    rw [List.append_assoc, ← take_flat hx'] at hM
    exact x_goes (n - 1) rfl (by omega) ⟨j + 1, v16, _, exj rfl, by omega, hM, hM.rowRdO (by (repeat constructor)), .inr ⟨_, rfl⟩⟩
  · rw [List.take_of_length_le (by omega)] at hR' hL
    repeat (first | refine gw ?_ | (refine ks ?_; intro w hM))
    rcases hL with ⟨h, _⟩ | ⟨L', rfl⟩
    · omega
    · exact out1 rfl ⟨hM.ch, hM.row (v := v') (by (repeat constructor))⟩
set_option maxHeartbeats 4000000 in
theorem texts_any {bs : Bs} (v vx : Value) (xs : List Bs) (w0 : World) (hR : tU8.Rd [] w0 v bs) (hX : (Ty.enc eBs).Rd [] w0 vx xs) (hb : bs.length ≤ 70368744000000) (hx : ∀ x ∈ xs, x.length ≤ 300) (hl : xs.length ≤ 10) (h0 : 0 < xs.length) :
    Calls Tryz.prog 154 #[v, vx] w0 (Ret fun u w' => Ch [] w0 w' ∧ Go.Proofs.E.Own eU8 w' w0.heap.size 5 u (bs ++ xs.flatMap strB)) := by
  have hM := Mem.start w0
  obtain ⟨A, c, rfl⟩ := hX.form
  refine enter [v, .slice A xs.length c, undef, undef, undef, undef, undef, undef, undef, undef, undef, undef, undef, undef, undef, undef, undef, undef] Tryz.func154 rfl rfl ?_
  repeat (first | refine gw ?_ | (refine ks ?_; intro w hM))
  
  refine c_loop (fun n l w => ∃ (j : Nat) (v' : Value) (L : List As), (∃ jj : Nat → Value, l = [v', jj 1, jj 2, jj 3, jj 4, jj 5, jj 6, .slice A xs.length c, .int .i64 (xs.length : Int), .int .i64 (j : Int), jj 10, jj 11, jj 12, jj 13, jj 14, jj 15, jj 16, jj 17]) ∧ n + j = xs.length ∧ Mem [] w0 w L ∧ tU8.Rd [] w v' (bs ++ (xs.take j).flatMap strB) ∧ (j = 0 ∧ v' = v ∨ ∃ L', L = .row eU8 5 v' (bs ++ (xs.take j).flatMap strB) :: L')) xs.length
    ⟨0, v, [], exj rfl, rfl, hM, by simpa using hR, .inl ⟨rfl, rfl⟩⟩ ?_
  clear hM
  rintro n l w ⟨j, v', L, ⟨jj, rfl⟩, hnj, hM, hR', hL⟩
  have hbl := take_le (f := strB) (l := xs) (C := 309) (N := 10) j (fun x hx' => strB_len (hx x hx')) hl
  repeat (first | refine gw ?_ | (refine ks ?_; intro w hM))
  refine c_cond rfl (fun hj => ?_) (fun hj => ?_)
  · repeat (first | refine gw ?_ | (refine ks ?_; intro w hM))
    refine kix hX (fun b o x hx' hA => ?_)
    rw [Int.toNat_natCast] at hx'
    have hxx := hx x (List.mem_of_getElem? hx')
    refine kat hM hA ?_
    repeat (first | refine gw ?_ | (refine ks ?_; intro w hM))
    refine kcr hM (str_any v' x w hR' (by rw [List.length_append]; omega) (by omega)) (fun v16 w hM => ?_)
    repeat (first | refine gw ?_ | (refine ks ?_; intro w hM))
    rw [List.append_assoc, ← take_flat hx'] at hM
    exact x_goes (n - 1) rfl (by omega) ⟨j + 1, v16, _, exj rfl, by omega, hM, hM.rowRdO (by (repeat constructor)), .inr ⟨_, rfl⟩⟩
  · rw [List.take_of_length_le (by omega)] at hR' hL
    repeat (first | refine gw ?_ | (refine ks ?_; intro w hM))
    rcases hL with ⟨h, _⟩ | ⟨L', rfl⟩
    · omega
    · exact out1 rfl ⟨hM.ch, hM.row (v := v') (by (repeat constructor))⟩
set_option maxRecDepth 100000 in
set_option maxHeartbeats 32000000 in
theorem written_any (ses snap : Nat) (strict : Bool) (vr vw : Value) (us : List (RR × List Pr)) (wz : List Pr) (w0 : World) (hR : (Ty.enc eRr).Rd [] w0 vr (us.map (fun u : RR × List Pr => u.1))) (hU : ∀ u ∈ us, (Ty.enc ePr).Rd [] w0 (slv u.1.2.2.2) u.2) (hW : (Ty.enc ePr).Rd [] w0 vw wz) (hS : SmallR us wz) (h1 : ses < 2 ^ 63) (h2 : snap < 2 ^ 63) :
    Calls Tryz.prog 114 #[.agg (rC ses snap strict vr vw).toArray] w0 (Ret fun u w' => Ch [] w0 w' ∧ Go.Proofs.E.Own eU8 w' w0.heap.size 5 u (recB ses snap strict us wz)) := by
  have hM := Mem.start w0
  obtain ⟨A, c, rfl⟩ := hR.form
  obtain ⟨A2, c2, rfl⟩ := hW.form
  obtain ⟨hs1, hs2, hs3, hs4⟩ := hS
  simp only [List.length_map] at hR ⊢
  have n1 := numB_len (n := ses) (by omega)
  have n2 := numB_len (n := snap) (by omega)
  have n3 := numB_len (n := us.length) (by omega)
  have n4 := numB_len (n := wz.length) (by omega)
  refine enter [.agg (rC ses snap strict (.slice A us.length c) (.slice A2 wz.length c2)).toArray, undef, undef, undef, undef, undef, undef, undef, undef, undef, undef, undef, undef, undef, undef, undef, undef, undef, undef, undef, undef, undef, undef, undef, undef, undef, undef, undef, undef, undef, undef, undef, undef, undef, undef, undef, undef, undef, undef, undef, undef, undef, undef, undef, undef, undef, undef, undef, undef, undef, undef, undef, undef, undef, undef, undef, undef, undef, undef, undef, undef, undef, undef, undef, undef, undef, undef, undef, undef, undef, undef, undef, undef, undef, undef, undef, undef, undef, undef, undef, undef, undef, undef, undef, undef, undef, undef, undef, undef, undef, undef, undef, undef, undef, undef, undef, undef, undef, undef, undef] Tryz.func114 rfl rfl ?_
  repeat (first | refine gw ?_ | (refine ks ?_; intro w hM))
  refine kbx hM (fun w b1 hM => ?_)
  have hM : Mem [] w0 w [.cell b1 (rC ses snap strict (.slice A us.length c) (.slice A2 wz.length c2)) 25] := hM
  repeat (first | refine gw ?_ | (refine ks ?_; intro w hM))
  refine c_ordY ([], []) [] (by kernel_rfl) (by kernel_rfl) (by kernel_rfl) (fun w hc hs => ?_)
  have hM := hM.call hc
  have hl1 := Blk.lt (hM.blk (b := b1) (by (repeat constructor)))
  (first | refine yn 0 rfl ?_ | refine ynt 0 rfl ?_ | refine ynff 0 rfl ?_)
  refine ynl 1 rfl (hM.blk (b := b1) (by (repeat constructor))) (by omega) (by simp) rfl rfl ?_
  (first | refine yn 2 rfl ?_ | refine ynt 2 rfl ?_ | refine ynff 2 rfl ?_)
  refine ynl 3 rfl (hM.blk (b := b1) (by (repeat constructor))) (by omega) (by simp) rfl rfl ?_
  (first | refine yn 6 rfl ?_ | refine ynt 6 rfl ?_ | refine ynff 6 rfl ?_)
  refine ynl 7 rfl (hM.blk (b := b1) (by (repeat constructor))) (by omega) (by simp) rfl rfl ?_
  refine yk1 4 hM (by kernel_rfl) rfl (fun w h0 hM => ?_)
  refine kbsC (en := eNat) (vs := [.int .i64 (ses : Int), .int .i64 (snap : Int)]) [ses, snap] hM (fun w b14 hc hM => ?_)
  refine x_wy (.inl (hc.gy h0)) rfl ?_
  refine yk1 5 hM (by kernel_rfl) rfl (fun w h0 hM => ?_)
  refine ca (nums_any (.slice none 0 0) _ [ses, snap] w (Ty.Rd.nil _ _ _ _ _) (hM.rowRdO (en := eNat) (xs := [ses, snap]) (by (repeat constructor))) (by simp) (by simp; omega) (by simp) (by simp)) ?_
  rintro v15 w2 ⟨hc, hO⟩
  have hM := hM.got hc hO
  rw [show ([] : Bs) ++ [ses, snap].flatMap numB = numB ses ++ numB snap by simp] at hM
  refine x_wy (.inl (hc.gy h0)) rfl ?_
  refine yk1 8 hM (by kernel_rfl) rfl (fun w h0 hM => ?_)
  refine ca (flag_any v15 strict w (hM.rowRdO (en := eU8) (by (repeat constructor))) (by rw [List.length_append]; omega)) ?_
  rintro v18 w2 ⟨hc, hO⟩
  have hM := hM.got hc hO
  refine x_wy (.inl (hc.gy h0)) rfl ?_
  (first | refine yn 9 rfl ?_ | refine ynt 9 rfl ?_ | refine ynff 9 rfl ?_)
  refine wy_done (by kernel_rfl) (fun w hc => ?_)
  have hM := hM.call hc
  repeat (first | refine gw ?_ | (refine ks ?_; intro w hM))
  refine kbs (en := eNat) (vs := [.int .i64 (us.length : Int)]) [us.length] hM (fun w b23 hM => ?_)
  refine ca (nums_any v18 _ [us.length] w (hM.rowRdO (en := eU8) (v := v18) (by (repeat constructor))) (hM.rowRdO (en := eNat) (xs := [us.length]) (by (repeat constructor))) (by rw [List.length_append, List.length_append, flagB_len]; omega) (by simp; omega) (by simp) (by simp)) ?_
  rintro v24 w2 ⟨hc, hO⟩
  have hM := hM.got hc hO
  obtain ⟨pre, hpre⟩ : ∃ pre, numB ses ++ numB snap ++ flagB strict ++ [us.length].flatMap numB = pre := ⟨_, rfl⟩
  have hpl : pre.length ≤ 40 := by
    rw [← hpre]
    simp only [List.length_append, flagB_len, List.flatMap_cons, List.flatMap_nil, List.length_nil]
    omega
  rw [hpre] at hM
  have hM := hM.sub (M := [.row eU8 5 v24 pre, .cell b1 (rC ses snap strict (.slice A us.length c) (.slice A2 wz.length c2)) 25]) (by (repeat constructor))
  repeat (first | refine gw ?_ | (refine ks ?_; intro w hM))
  
  refine c_loop (fun n l w => ∃ (j : Nat) (v : Value), (∃ jj : Nat → Value, l = [jj 0, .pointer (some ⟨b1, 0, none⟩), .slice none 0 0, v, jj 4, jj 5, jj 6, jj 7, jj 8, jj 9, jj 10, jj 11, jj 12, jj 13, jj 14, jj 15, jj 16, jj 17, jj 18, jj 19, jj 20, jj 21, jj 22, jj 23, jj 24, jj 25, .slice A us.length c, .int .i64 (us.length : Int), .int .i64 (j : Int), jj 29, jj 30, jj 31, jj 32, jj 33, jj 34, jj 35, jj 36, jj 37, jj 38, jj 39, jj 40, jj 41, jj 42, jj 43, jj 44, jj 45, jj 46, jj 47, jj 48, jj 49, jj 50, jj 51, jj 52, jj 53, jj 54, jj 55, jj 56, jj 57, jj 58, jj 59, jj 60, jj 61, jj 62, jj 63, jj 64, jj 65, jj 66, jj 67, jj 68, jj 69, jj 70, jj 71, jj 72, jj 73, jj 74, jj 75, jj 76, jj 77, jj 78, jj 79, jj 80, jj 81, jj 82, jj 83, jj 84, jj 85, jj 86, jj 87, jj 88, jj 89, jj 90, jj 91, jj 92, jj 93, jj 94, jj 95, jj 96, jj 97, jj 98, jj 99]) ∧ n + j = us.length ∧ Mem [] w0 w [.row eU8 5 v (pre ++ (us.take j).flatMap readB), .cell b1 (rC ses snap strict (.slice A us.length c) (.slice A2 wz.length c2)) 25]) us.length
    ⟨0, v24, exj rfl, rfl, by simpa using hM⟩ ?_
  clear hM
  rintro n l w ⟨j, v, ⟨jj, rfl⟩, hnj, hM⟩
  have hbl := take_le (f := readB) (l := us) (C := 186500) (N := 100) j (fun u hu => readB_len (hs3 u hu)) hs1
  repeat (first | refine gw ?_ | (refine ks ?_; intro w hM))
  refine c_cond rfl (fun hj => ?_) (fun hj => ?_)
  · repeat (first | refine gw ?_ | (refine ks ?_; intro w hM))
    refine kix hR (fun b o x hx hA => ?_) (h1 := by simp; omega)
    rw [Int.toNat_natCast, List.getElem?_map] at hx
    obtain ⟨u, hu, rfl⟩ := Option.map_eq_some_iff.1 hx
    have hum := List.mem_of_getElem? hu
    obtain ⟨⟨sc, key, to, vp⟩, ps⟩ := u
    have hsu := hs3 _ hum
    have hps := hU _ hum
    simp only at hsu hps hA
    have hvl : vp.2.1 = ps.length := by
      obtain ⟨A, c, h⟩ := hps.form
      unfold slv at h
      injection h
    obtain ⟨A3, n3, c3⟩ := vp
    simp only at hvl
    subst hvl
    have hpn := numB_len (n := ps.length) (by omega)
    have hkl := strB_len hsu.1
    have htl := strB_len hsu.2.1
    refine katr hM hA ?_
    refine kal hM (fun w b5 hM => ?_)
    refine kstw (vs := eRr.f (sc, key, to, (A3, ps.length, c3))) hM (fun w hM => ?_) (h1 := eRr.h1 (sc, key, to, (A3, ps.length, c3)))
    repeat (first | refine gw ?_ | (refine ks ?_; intro w hM))
    refine c_ordY ([], []) [] (by kernel_rfl) (by kernel_rfl) (by kernel_rfl) (fun w hc hs => ?_)
    have hM := hM.call hc
    have hl5 := Blk.lt (hM.blk (b := b5) (by (repeat constructor)))
    (first | refine yn 0 rfl ?_ | refine ynt 0 rfl ?_ | refine ynff 0 rfl ?_); (first | refine yn 1 rfl ?_ | refine ynt 1 rfl ?_ | refine ynff 1 rfl ?_)
    refine ynl 2 rfl (hM.blk (b := b5) (by (repeat constructor))) (by omega) (by simp) rfl rfl ?_
    (first | refine yn 4 rfl ?_ | refine ynt 4 rfl ?_ | refine ynff 4 rfl ?_)
    refine ynl 5 rfl (hM.blk (b := b5) (by (repeat constructor))) (by omega) (by simp) rfl rfl ?_
    refine wy_cont (X := Value × Nat) (fun x N w => Mem [] w0 w [.row eU8 5 x.1 (pre ++ (us.take j).flatMap readB ++ flagB sc), .row eBs 9 (.slice (some ⟨x.2, 0, none⟩) 1 1) [key], .cell b5 (eRr.f (sc, key, to, (A3, ps.length, c3))) 135, .cell b1 (rC ses snap strict (.slice A us.length c) (.slice A2 wz.length c2)) 25])
      (fun x l => (l.set 35 x.1).set 38 (.slice (some ⟨x.2, 0, none⟩) 1 1)) #[true, true, true, true, true, true, true, false, false] (fuel := 2) (fun hk => ?_) ?_
    · skip
      refine yk2 3 6 hM (by kernel_rfl) rfl rfl (fun w h0 hM => ?_) (fun w h0 hM => ?_)
      · skip
        refine ca (flag_any v sc w (hM.rowRdO (en := eU8) (v := v) (by (repeat constructor))) (by rw [List.length_append]; omega)) ?_
        rintro v35 w2 ⟨hc, hO⟩
        have hM := hM.got hc hO
        refine x_wy (.inl (hc.gy h0)) rfl ?_
        refine yk1 6 hM (by kernel_rfl) rfl (fun w h0 hM => ?_)
        refine kbsC (en := eBs) (vs := [.string (bst key)]) [key] hM (fun w b38 hc hM => ?_)
        refine x_wy (.inl (hc.gy h0)) rfl ?_
        exact hk (v35, b38) _ _ _ (by kernel_rfl) rfl (hM.sub (by (repeat constructor)))
      · skip
        refine kbsC (en := eBs) (vs := [.string (bst key)]) [key] hM (fun w b38 hc hM => ?_)
        refine x_wy (.inl (hc.gy h0)) rfl ?_
        refine yk1 3 hM (by kernel_rfl) rfl (fun w h0 hM => ?_)
        refine ca (flag_any v sc w (hM.rowRdO (en := eU8) (v := v) (by (repeat constructor))) (by rw [List.length_append]; omega)) ?_
        rintro v35 w2 ⟨hc, hO⟩
        have hM := hM.got hc hO
        refine x_wy (.inl (hc.gy h0)) rfl ?_
        exact hk (v35, b38) _ _ _ (by kernel_rfl) rfl (hM.sub (by (repeat constructor)))
    clear hM
    rintro ⟨v35, b38⟩ w hM
    simp only at hM
    refine wy_nf ?_
    refine yk1 7 hM (by kernel_rfl) rfl (fun w h0 hM => ?_)
    refine ca (texts_any v35 _ [key] w (hM.rowRdO (en := eU8) (v := v35) (by (repeat constructor))) (hM.rowRdO (en := eBs) (xs := [key]) (by (repeat constructor))) (by rw [List.length_append, List.length_append, flagB_len]; omega) (by simpa using hsu.1) (by simp) (by simp)) ?_
    rintro v39 w2 ⟨hc, hO⟩
    have hM := hM.got hc hO
    rw [show [key].flatMap strB = strB key by simp] at hM
    refine x_wy (.inl (hc.gy h0)) rfl ?_
    (first | refine yn 8 rfl ?_ | refine ynt 8 rfl ?_ | refine ynff 8 rfl ?_)
    refine wy_done (by kernel_rfl) (fun w hc => ?_)
    have hM := hM.call hc
    have hM := hM.sub (M := [.row eU8 5 v39 (pre ++ (us.take j).flatMap readB ++ flagB sc ++ strB key), .cell b5 (eRr.f (sc, key, to, (A3, ps.length, c3))) 135, .cell b1 (rC ses snap strict (.slice A us.length c) (.slice A2 wz.length c2)) 25]) (by (repeat constructor))
    repeat (first | refine gw ?_ | (refine ks ?_; intro w hM))
    cases sc with
    | true =>
      refine c_condb rfl (fun _ => ?_) (fun h => by cases h)
      repeat (first | refine gw ?_ | (refine ks ?_; intro w hM))
      refine kbs (en := eBs) (vs := [.string (bst to)]) [to] hM (fun w b45 hM => ?_)
      refine ca (texts_any v39 _ [to] w (hM.rowRdO (en := eU8) (v := v39) (by (repeat constructor))) (hM.rowRdO (en := eBs) (xs := [to]) (by (repeat constructor))) (by simp only [List.length_append, flagB_len]; omega) (by simpa using hsu.2.1) (by simp) (by simp)) ?_
      rintro v46 w2 ⟨hc, hO⟩
      have hM := hM.got hc hO
      rw [show [to].flatMap strB = strB to by simp] at hM
      repeat (first | refine gw ?_ | (refine ks ?_; intro w hM))
      refine kbs (en := eNat) (vs := [.int .i64 (ps.length : Int)]) [ps.length] hM (fun w b51 hM => ?_)
      refine ca (nums_any v46 _ [ps.length] w (hM.rowRdO (en := eU8) (v := v46) (by (repeat constructor))) (hM.rowRdO (en := eNat) (xs := [ps.length]) (by (repeat constructor))) (by simp only [List.length_append, flagB_len]; omega) (by simp; omega) (by simp) (by simp)) ?_
      rintro v52 w2 ⟨hc, hO⟩
      have hM := hM.got hc hO
      rw [show [ps.length].flatMap numB = numB ps.length by simp] at hM
      obtain ⟨Q, hQ⟩ : ∃ Q, pre ++ (us.take j).flatMap readB ++ flagB true ++ strB key ++ strB to ++ numB ps.length = Q := ⟨_, rfl⟩
      have hQl : Q.length ≤ 18651000 := by
        rw [← hQ]
        simp only [List.length_append, flagB_len]
        omega
      rw [hQ] at hM
      have hM := hM.sub (M := [.row eU8 5 v52 Q, .cell b5 (eRr.f (true, key, to, (A3, ps.length, c3))) 135, .cell b1 (rC ses snap strict (.slice A us.length c) (.slice A2 wz.length c2)) 25]) (by (repeat constructor))
      repeat (first | refine gw ?_ | (refine ks ?_; intro w hM))
      
      refine c_loop (fun n l w => ∃ (i : Nat) (v : Value), (∃ jj : Nat → Value, l = [jj 0, .pointer (some ⟨b1, 0, none⟩), .slice none 0 0, v, jj 4, .pointer (some ⟨b5, 0, none⟩), jj 6, jj 7, jj 8, jj 9, jj 10, jj 11, jj 12, jj 13, jj 14, jj 15, jj 16, jj 17, jj 18, jj 19, jj 20, jj 21, jj 22, jj 23, jj 24, jj 25, .slice A us.length c, .int .i64 (us.length : Int), .int .i64 (j : Int), jj 29, jj 30, jj 31, jj 32, jj 33, jj 34, jj 35, jj 36, jj 37, jj 38, jj 39, jj 40, jj 41, jj 42, jj 43, jj 44, jj 45, jj 46, jj 47, jj 48, jj 49, jj 50, jj 51, jj 52, jj 53, .slice A3 ps.length c3, .int .i64 (ps.length : Int), .int .i64 (i : Int), jj 57, jj 58, jj 59, jj 60, jj 61, jj 62, jj 63, jj 64, jj 65, jj 66, jj 67, jj 68, jj 69, jj 70, jj 71, jj 72, jj 73, jj 74, jj 75, jj 76, jj 77, jj 78, jj 79, jj 80, jj 81, jj 82, jj 83, jj 84, jj 85, jj 86, jj 87, jj 88, jj 89, jj 90, jj 91, jj 92, jj 93, jj 94, jj 95, jj 96, jj 97, jj 98, jj 99]) ∧ n + i = ps.length ∧ Mem [] w0 w [.row eU8 5 v (Q ++ (ps.take i).flatMap pairB), .cell b5 (eRr.f (true, key, to, (A3, ps.length, c3))) 135, .cell b1 (rC ses snap strict (.slice A us.length c) (.slice A2 wz.length c2)) 25]) ps.length
        ⟨0, v52, exj rfl, rfl, by simpa using hM⟩ ?_
      clear hM
      rintro n2 l w ⟨i, v, ⟨jj, rfl⟩, hni, hM⟩
      have hpl := take_le (f := pairB) (l := ps) (C := 618) (N := 300) i (fun p hp => pairB_len (hsu.2.2.2 p hp)) hsu.2.2.1
      repeat (first | refine gw ?_ | (refine ks ?_; intro w hM))
      refine c_cond rfl (fun hi => ?_) (fun hi => ?_)
      · repeat (first | refine gw ?_ | (refine ks ?_; intro w hM))
        refine kix hps (fun b o p hp hA => ?_)
        rw [Int.toNat_natCast] at hp
        have hsp := hsu.2.2.2 p (List.mem_of_getElem? hp)
        obtain ⟨pk, pv, pd⟩ := p
        have hk1 : (strB pk).length ≤ 309 := strB_len hsp.1
        have hv1 : (strB pv).length ≤ 309 := strB_len hsp.2
        refine katr hM hA ?_
        refine kal hM (fun w b7 hM => ?_)
        refine kstw (vs := ePr.f (pk, pv, pd)) hM (fun w hM => ?_) (h1 := ePr.h1 (pk, pv, pd))
        repeat (first | refine gw ?_ | (refine ks ?_; intro w hM))
        refine kbs (en := eBs) (vs := [.string (bst pk), .string (bst pv)]) [pk, pv] hM (fun w b65 hM => ?_)
        refine ca (texts_any v _ [pk, pv] w (hM.rowRdO (en := eU8) (v := v) (by (repeat constructor))) (hM.rowRdO (en := eBs) (xs := [pk, pv]) (by (repeat constructor))) (by rw [List.length_append]; omega) (by simp; exact hsp) (by simp) (by simp)) ?_
        rintro v66 w2 ⟨hc, hO⟩
        have hM := hM.got hc hO
        rw [show [pk, pv].flatMap strB = pairB (pk, pv, pd) by simp [pairB]] at hM
        repeat (first | refine gw ?_ | (refine ks ?_; intro w hM))
        rw [List.append_assoc, ← take_flat hp] at hM
        exact x_goes (n2 - 1) rfl (by omega) ⟨i + 1, v66, exj rfl, by omega, hM.sub (by (repeat constructor))⟩
      · rw [List.take_of_length_le (by omega)] at hM
        repeat (first | refine gw ?_ | (refine ks ?_; intro w hM))
        have he : Q ++ ps.flatMap pairB = pre ++ (us.take (j + 1)).flatMap readB := by
          rw [take_flat hu, ← hQ]
          simp [readB, List.append_assoc]
        rw [he] at hM
        exact x_goes (n - 1) rfl (by omega) ⟨j + 1, v, exj rfl, by omega, hM.sub (by (repeat constructor))⟩
    | false =>
      refine c_condb rfl (fun h => by cases h) (fun _ => ?_)
      repeat (first | refine gw ?_ | (refine ks ?_; intro w hM))
      refine kbs (en := eNat) (vs := [.int .i64 (ps.length : Int)]) [ps.length] hM (fun w b51 hM => ?_)
      refine ca (nums_any v39 _ [ps.length] w (hM.rowRdO (en := eU8) (v := v39) (by (repeat constructor))) (hM.rowRdO (en := eNat) (xs := [ps.length]) (by (repeat constructor))) (by simp only [List.length_append, flagB_len]; omega) (by simp; omega) (by simp) (by simp)) ?_
      rintro v52 w2 ⟨hc, hO⟩
      have hM := hM.got hc hO
      rw [show [ps.length].flatMap numB = numB ps.length by simp] at hM
      obtain ⟨Q, hQ⟩ : ∃ Q, pre ++ (us.take j).flatMap readB ++ flagB false ++ strB key ++ numB ps.length = Q := ⟨_, rfl⟩
      have hQl : Q.length ≤ 18651000 := by
        rw [← hQ]
        simp only [List.length_append, flagB_len]
        omega
      rw [hQ] at hM
      have hM := hM.sub (M := [.row eU8 5 v52 Q, .cell b5 (eRr.f (false, key, to, (A3, ps.length, c3))) 135, .cell b1 (rC ses snap strict (.slice A us.length c) (.slice A2 wz.length c2)) 25]) (by (repeat constructor))
      repeat (first | refine gw ?_ | (refine ks ?_; intro w hM))
      
      refine c_loop (fun n l w => ∃ (i : Nat) (v : Value), (∃ jj : Nat → Value, l = [jj 0, .pointer (some ⟨b1, 0, none⟩), .slice none 0 0, v, jj 4, .pointer (some ⟨b5, 0, none⟩), jj 6, jj 7, jj 8, jj 9, jj 10, jj 11, jj 12, jj 13, jj 14, jj 15, jj 16, jj 17, jj 18, jj 19, jj 20, jj 21, jj 22, jj 23, jj 24, jj 25, .slice A us.length c, .int .i64 (us.length : Int), .int .i64 (j : Int), jj 29, jj 30, jj 31, jj 32, jj 33, jj 34, jj 35, jj 36, jj 37, jj 38, jj 39, jj 40, jj 41, jj 42, jj 43, jj 44, jj 45, jj 46, jj 47, jj 48, jj 49, jj 50, jj 51, jj 52, jj 53, .slice A3 ps.length c3, .int .i64 (ps.length : Int), .int .i64 (i : Int), jj 57, jj 58, jj 59, jj 60, jj 61, jj 62, jj 63, jj 64, jj 65, jj 66, jj 67, jj 68, jj 69, jj 70, jj 71, jj 72, jj 73, jj 74, jj 75, jj 76, jj 77, jj 78, jj 79, jj 80, jj 81, jj 82, jj 83, jj 84, jj 85, jj 86, jj 87, jj 88, jj 89, jj 90, jj 91, jj 92, jj 93, jj 94, jj 95, jj 96, jj 97, jj 98, jj 99]) ∧ n + i = ps.length ∧ Mem [] w0 w [.row eU8 5 v (Q ++ (ps.take i).flatMap pairB), .cell b5 (eRr.f (false, key, to, (A3, ps.length, c3))) 135, .cell b1 (rC ses snap strict (.slice A us.length c) (.slice A2 wz.length c2)) 25]) ps.length
        ⟨0, v52, exj rfl, rfl, by simpa using hM⟩ ?_
      clear hM
      rintro n2 l w ⟨i, v, ⟨jj, rfl⟩, hni, hM⟩
      have hpl := take_le (f := pairB) (l := ps) (C := 618) (N := 300) i (fun p hp => pairB_len (hsu.2.2.2 p hp)) hsu.2.2.1
      repeat (first | refine gw ?_ | (refine ks ?_; intro w hM))
      refine c_cond rfl (fun hi => ?_) (fun hi => ?_)
      · repeat (first | refine gw ?_ | (refine ks ?_; intro w hM))
        refine kix hps (fun b o p hp hA => ?_)
        rw [Int.toNat_natCast] at hp
        have hsp := hsu.2.2.2 p (List.mem_of_getElem? hp)
        obtain ⟨pk, pv, pd⟩ := p
        have hk1 : (strB pk).length ≤ 309 := strB_len hsp.1
        have hv1 : (strB pv).length ≤ 309 := strB_len hsp.2
        refine katr hM hA ?_
        refine kal hM (fun w b7 hM => ?_)
        refine kstw (vs := ePr.f (pk, pv, pd)) hM (fun w hM => ?_) (h1 := ePr.h1 (pk, pv, pd))
        repeat (first | refine gw ?_ | (refine ks ?_; intro w hM))
        refine kbs (en := eBs) (vs := [.string (bst pk), .string (bst pv)]) [pk, pv] hM (fun w b65 hM => ?_)
        refine ca (texts_any v _ [pk, pv] w (hM.rowRdO (en := eU8) (v := v) (by (repeat constructor))) (hM.rowRdO (en := eBs) (xs := [pk, pv]) (by (repeat constructor))) (by rw [List.length_append]; omega) (by simp; exact hsp) (by simp) (by simp)) ?_
        rintro v66 w2 ⟨hc, hO⟩
        have hM := hM.got hc hO
        rw [show [pk, pv].flatMap strB = pairB (pk, pv, pd) by simp [pairB]] at hM
        repeat (first | refine gw ?_ | (refine ks ?_; intro w hM))
        rw [List.append_assoc, ← take_flat hp] at hM
        exact x_goes (n2 - 1) rfl (by omega) ⟨i + 1, v66, exj rfl, by omega, hM.sub (by (repeat constructor))⟩
      · rw [List.take_of_length_le (by omega)] at hM
        repeat (first | refine gw ?_ | (refine ks ?_; intro w hM))
        have he : Q ++ ps.flatMap pairB = pre ++ (us.take (j + 1)).flatMap readB := by
          rw [take_flat hu, ← hQ]
          simp [readB, List.append_assoc]
        rw [he] at hM
        exact x_goes (n - 1) rfl (by omega) ⟨j + 1, v, exj rfl, by omega, hM.sub (by (repeat constructor))⟩
  · rw [List.take_of_length_le (by omega)] at hM hbl
    repeat (first | refine gw ?_ | (refine ks ?_; intro w hM))
    refine kbs (en := eNat) (vs := [.int .i64 (wz.length : Int)]) [wz.length] hM (fun w b51 hM => ?_)
    refine ca (nums_any v _ [wz.length] w (hM.rowRdO (en := eU8) (v := v) (by (repeat constructor))) (hM.rowRdO (en := eNat) (xs := [wz.length]) (by (repeat constructor))) (by simp only [List.length_append, flagB_len]; omega) (by simp; omega) (by simp) (by simp)) ?_
    rintro v52 w2 ⟨hc, hO⟩
    have hM := hM.got hc hO
    rw [show [wz.length].flatMap numB = numB wz.length by simp] at hM
    obtain ⟨Q, hQ⟩ : ∃ Q, pre ++ us.flatMap readB ++ numB wz.length = Q := ⟨_, rfl⟩
    have hQl : Q.length ≤ 18651000 := by
      rw [← hQ]
      simp only [List.length_append]
      omega
    rw [hQ] at hM
    have hM := hM.sub (M := [.row eU8 5 v52 Q, .cell b1 (rC ses snap strict (.slice A us.length c) (.slice A2 wz.length c2)) 25]) (by (repeat constructor))
    repeat (first | refine gw ?_ | (refine ks ?_; intro w hM))
    
    refine c_loop (fun n l w => ∃ (i : Nat) (v : Value), (∃ jj : Nat → Value, l = [jj 0, .pointer (some ⟨b1, 0, none⟩), .slice none 0 0, v, jj 4, jj 5, jj 6, jj 7, jj 8, jj 9, jj 10, jj 11, jj 12, jj 13, jj 14, jj 15, jj 16, jj 17, jj 18, jj 19, jj 20, jj 21, jj 22, jj 23, jj 24, jj 25, jj 26, jj 27, jj 28, jj 29, jj 30, jj 31, jj 32, jj 33, jj 34, jj 35, jj 36, jj 37, jj 38, jj 39, jj 40, jj 41, jj 42, jj 43, jj 44, jj 45, jj 46, jj 47, jj 48, jj 49, jj 50, jj 51, jj 52, jj 53, jj 54, jj 55, jj 56, jj 57, jj 58, jj 59, jj 60, jj 61, jj 62, jj 63, jj 64, jj 65, jj 66, jj 67, jj 68, jj 69, jj 70, jj 71, jj 72, jj 73, jj 74, jj 75, .slice A2 wz.length c2, .int .i64 (wz.length : Int), .int .i64 (i : Int), jj 79, jj 80, jj 81, jj 82, jj 83, jj 84, jj 85, jj 86, jj 87, jj 88, jj 89, jj 90, jj 91, jj 92, jj 93, jj 94, jj 95, jj 96, jj 97, jj 98, jj 99]) ∧ n + i = wz.length ∧ Mem [] w0 w [.row eU8 5 v (Q ++ (wz.take i).flatMap writeB), .cell b1 (rC ses snap strict (.slice A us.length c) (.slice A2 wz.length c2)) 25]) wz.length
      ⟨0, v52, exj rfl, rfl, by simpa using hM⟩ ?_
    clear hM
    rintro n2 l w ⟨i, v, ⟨jj, rfl⟩, hni, hM⟩
    have hpl := take_le (f := writeB) (l := wz) (C := 619) (N := 100) i (fun p hp => writeB_len (hs4 p hp)) hs2
    repeat (first | refine gw ?_ | (refine ks ?_; intro w hM))
    refine c_cond rfl (fun hi => ?_) (fun hi => ?_)
    · repeat (first | refine gw ?_ | (refine ks ?_; intro w hM))
      refine kix hW (fun b o p hp hA => ?_)
      rw [Int.toNat_natCast] at hp
      have hsp := hs4 p (List.mem_of_getElem? hp)
      obtain ⟨pk, pv, pd⟩ := p
      have hk1 : (strB pk).length ≤ 309 := strB_len hsp.1
      have hv1 : (strB pv).length ≤ 309 := strB_len hsp.2
      refine katr hM hA ?_
      refine kal hM (fun w b9 hM => ?_)
      refine kstw (vs := ePr.f (pk, pv, pd)) hM (fun w hM => ?_) (h1 := ePr.h1 (pk, pv, pd))
      repeat (first | refine gw ?_ | (refine ks ?_; intro w hM))
      refine c_ordY ([], []) [] (by kernel_rfl) (by kernel_rfl) (by kernel_rfl) (fun w hc hs => ?_)
      have hM := hM.call hc
      have hl9 := Blk.lt (hM.blk (b := b9) (by (repeat constructor)))
      (first | refine yn 0 rfl ?_ | refine ynt 0 rfl ?_ | refine ynff 0 rfl ?_); (first | refine yn 1 rfl ?_ | refine ynt 1 rfl ?_ | refine ynff 1 rfl ?_)
      refine ynl 2 rfl (hM.blk (b := b9) (by (repeat constructor))) (by omega) (by simp) rfl rfl ?_
      (first | refine yn 5 rfl ?_ | refine ynt 5 rfl ?_ | refine ynff 5 rfl ?_)
      refine ynl 6 rfl (hM.blk (b := b9) (by (repeat constructor))) (by omega) (by simp) rfl rfl ?_
      refine yk1 3 hM (by kernel_rfl) rfl (fun w h0 hM => ?_)
      refine kbsC (en := eBs) (vs := [.string (bst pk)]) [pk] hM (fun w b85 hc hM => ?_)
      refine x_wy (.inl (hc.gy h0)) rfl ?_
      refine yk1 4 hM (by kernel_rfl) rfl (fun w h0 hM => ?_)
      refine ca (texts_any v _ [pk] w (hM.rowRdO (en := eU8) (v := v) (by (repeat constructor))) (hM.rowRdO (en := eBs) (xs := [pk]) (by (repeat constructor))) (by rw [List.length_append]; omega) (by simpa using hsp.1) (by simp) (by simp)) ?_
      rintro v86 w2 ⟨hc, hO⟩
      have hM := hM.got hc hO
      rw [show [pk].flatMap strB = strB pk by simp] at hM
      refine x_wy (.inl (hc.gy h0)) rfl ?_
      refine yk1 7 hM (by kernel_rfl) rfl (fun w h0 hM => ?_)
      refine ca (flag_any v86 pd w (hM.rowRdO (en := eU8) (v := v86) (by (repeat constructor))) (by rw [List.length_append, List.length_append]; omega)) ?_
      rintro v89 w2 ⟨hc, hO⟩
      have hM := hM.got hc hO
      refine x_wy (.inl (hc.gy h0)) rfl ?_
      (first | refine yn 8 rfl ?_ | refine ynt 8 rfl ?_ | refine ynff 8 rfl ?_)
      refine wy_done (by kernel_rfl) (fun w hc => ?_)
      have hM := hM.call hc
      repeat (first | refine gw ?_ | (refine ks ?_; intro w hM))
      cases pd with
      | true =>
        refine c_condb rfl (fun h => by cases h) (fun _ => ?_)
        repeat (first | refine gw ?_ | (refine ks ?_; intro w hM))
        have he : Q ++ (wz.take i).flatMap writeB ++ strB pk ++ flagB true = Q ++ (wz.take (i + 1)).flatMap writeB := by
          rw [take_flat hp]
          simp [writeB, List.append_assoc]
        rw [he] at hM
        exact x_goes (n2 - 1) rfl (by omega) ⟨i + 1, v89, exj rfl, by omega, hM.sub (by (repeat constructor))⟩
      | false =>
        refine c_condb rfl (fun _ => ?_) (fun h => by cases h)
        repeat (first | refine gw ?_ | (refine ks ?_; intro w hM))
        refine kbs (en := eBs) (vs := [.string (bst pv)]) [pv] hM (fun w b45 hM => ?_)
        refine ca (texts_any v89 _ [pv] w (hM.rowRdO (en := eU8) (v := v89) (by (repeat constructor))) (hM.rowRdO (en := eBs) (xs := [pv]) (by (repeat constructor))) (by simp only [List.length_append, flagB_len]; omega) (by simpa using hsp.2) (by simp) (by simp)) ?_
        rintro v97 w2 ⟨hc, hO⟩
        have hM := hM.got hc hO
        rw [show [pv].flatMap strB = strB pv by simp] at hM
        repeat (first | refine gw ?_ | (refine ks ?_; intro w hM))
        have he : Q ++ (wz.take i).flatMap writeB ++ strB pk ++ flagB false ++ strB pv = Q ++ (wz.take (i + 1)).flatMap writeB := by
          rw [take_flat hp]
          simp [writeB, List.append_assoc]
        rw [he] at hM
        exact x_goes (n2 - 1) rfl (by omega) ⟨i + 1, v97, exj rfl, by omega, hM.sub (by (repeat constructor))⟩
    · rw [List.take_of_length_le (by omega)] at hM
      repeat (first | refine gw ?_ | (refine ks ?_; intro w hM))
      have hrow := hM.row (v := v) (by (repeat constructor))
      have he : Q ++ wz.flatMap writeB = recB ses snap strict us wz := by
        rw [← hQ, ← hpre]
        simp [recB, List.append_assoc]
      rw [he] at hrow
      exact out1 rfl ⟨hM.ch, hrow⟩
set_option maxRecDepth 100000 in
set_option maxHeartbeats 32000000 in
theorem rbytes16_any (ses snap : Nat) (strict : Bool) (vr vw : Value) (us : List (RR × List Pr)) (wz : List Pr) (w0 : World) (hR : (Ty.enc eRr).Rd [] w0 vr (us.map (fun u : RR × List Pr => u.1))) (hU : ∀ u ∈ us, (Ty.enc ePr).Rd [] w0 (slv u.1.2.2.2) u.2) (hW : (Ty.enc ePr).Rd [] w0 vw wz) (hS : SmallR us wz) (h1 : ses < 2 ^ 63) (h2 : snap < 2 ^ 63) :
    Calls Tryz.prog 122 #[.agg (rC ses snap strict vr vw).toArray] w0 (Ret fun u w' => Ch [] w0 w' ∧ Go.Proofs.E.Own eU8 w' w0.heap.size 5 u (recB ses snap strict us wz)) := by
  have hM := Mem.start w0
  obtain ⟨A, c, rfl⟩ := hR.form
  obtain ⟨A2, c2, rfl⟩ := hW.form
  obtain ⟨hs1, hs2, hs3, hs4⟩ := hS
  simp only [List.length_map] at hR ⊢
  have n1 := numB_len (n := ses) (by omega)
  have n2 := numB_len (n := snap) (by omega)
  have n3 := numB_len (n := us.length) (by omega)
  have n4 := numB_len (n := wz.length) (by omega)
  refine enter [.agg (rC ses snap strict (.slice A us.length c) (.slice A2 wz.length c2)).toArray, undef, undef, undef, undef, undef, undef, undef, undef, undef, undef, undef, undef, undef, undef, undef, undef, undef, undef, undef, undef, undef, undef, undef, undef, undef, undef, undef, undef, undef, undef, undef, undef, undef, undef, undef, undef, undef, undef, undef, undef, undef, undef, undef, undef, undef, undef, undef, undef, undef, undef, undef, undef, undef, undef, undef, undef, undef, undef, undef, undef, undef, undef, undef, undef, undef, undef, undef, undef, undef, undef, undef, undef, undef, undef, undef, undef, undef, undef, undef, undef, undef, undef, undef, undef, undef, undef, undef, undef, undef, undef, undef, undef, undef, undef, undef, undef, undef] Tryz.func122 rfl rfl ?_
  repeat (first | refine gw ?_ | (refine ks ?_; intro w hM))
  refine kbx hM (fun w b1 hM => ?_)
  have hM : Mem [] w0 w [.cell b1 (rC ses snap strict (.slice A us.length c) (.slice A2 wz.length c2)) 25] := hM
  repeat (first | refine gw ?_ | (refine ks ?_; intro w hM))
  refine c_ordY ([], []) [] (by kernel_rfl) (by kernel_rfl) (by kernel_rfl) (fun w hc hs => ?_)
  have hM := hM.call hc
  have hl1 := Blk.lt (hM.blk (b := b1) (by (repeat constructor)))
  (first | refine yn 0 rfl ?_ | refine ynt 0 rfl ?_ | refine ynff 0 rfl ?_)
  refine ynl 1 rfl (hM.blk (b := b1) (by (repeat constructor))) (by omega) (by simp) rfl rfl ?_
  (first | refine yn 2 rfl ?_ | refine ynt 2 rfl ?_ | refine ynff 2 rfl ?_); (first | refine yn 4 rfl ?_ | refine ynt 4 rfl ?_ | refine ynff 4 rfl ?_)
  refine ynl 5 rfl (hM.blk (b := b1) (by (repeat constructor))) (by omega) (by simp) rfl rfl ?_
  (first | refine yn 6 rfl ?_ | refine ynt 6 rfl ?_ | refine ynff 6 rfl ?_); (first | refine yn 8 rfl ?_ | refine ynt 8 rfl ?_ | refine ynff 8 rfl ?_)
  refine ynl 9 rfl (hM.blk (b := b1) (by (repeat constructor))) (by omega) (by simp) rfl rfl ?_
  refine yk1 3 hM (by kernel_rfl) rfl (fun w h0 hM => ?_)
  refine ca (rnum_any (.slice none 0 0) ses w (Ty.Rd.nil _ _ _ _ _) (by simp) (by omega)) ?_
  rintro v15 w2 ⟨hc, hO⟩
  have hM := hM.got hc hO
  refine x_wy (.inl (hc.gy h0)) rfl ?_
  refine yk1 7 hM (by kernel_rfl) rfl (fun w h0 hM => ?_)
  refine ca (rnum_any v15 snap w (hM.rowRdO (en := eU8) (v := v15) (by (repeat constructor))) (by simp only [List.length_append, List.length_nil]; omega) (by omega)) ?_
  rintro v17 w2 ⟨hc, hO⟩
  have hM := hM.got hc hO
  refine x_wy (.inl (hc.gy h0)) rfl ?_
  refine yk1 10 hM (by kernel_rfl) rfl (fun w h0 hM => ?_)
  refine ca (rflag_any v17 strict w (hM.rowRdO (en := eU8) (v := v17) (by (repeat constructor))) (by simp only [List.length_append, List.length_nil]; omega)) ?_
  rintro v18 w2 ⟨hc, hO⟩
  have hM := hM.got hc hO
  rw [List.nil_append] at hM
  refine x_wy (.inl (hc.gy h0)) rfl ?_
  (first | refine yn 11 rfl ?_ | refine ynt 11 rfl ?_ | refine ynff 11 rfl ?_)
  refine wy_done (by kernel_rfl) (fun w hc => ?_)
  have hM := hM.call hc
  repeat (first | refine gw ?_ | (refine ks ?_; intro w hM))
  refine kcr hM (rnum_any v18 us.length w (hM.rowRdO (en := eU8) (v := v18) (by (repeat constructor))) (by simp only [List.length_append, flagB_len]; omega) (by omega)) (fun v24 w hM => ?_)
  obtain ⟨pre, hpre⟩ : ∃ pre, numB ses ++ numB snap ++ flagB strict ++ numB us.length = pre := ⟨_, rfl⟩
  have hpl : pre.length ≤ 40 := by
    rw [← hpre]
    simp only [List.length_append, flagB_len]
    omega
  rw [hpre] at hM
  have hM := hM.sub (M := [.row eU8 5 v24 pre, .cell b1 (rC ses snap strict (.slice A us.length c) (.slice A2 wz.length c2)) 25]) (by (repeat constructor))
  repeat (first | refine gw ?_ | (refine ks ?_; intro w hM))
  
  refine c_loop (fun n l w => ∃ (j : Nat) (v : Value), (∃ jj : Nat → Value, l = [jj 0, .pointer (some ⟨b1, 0, none⟩), .slice none 0 0, v, jj 4, jj 5, jj 6, jj 7, jj 8, jj 9, jj 10, jj 11, jj 12, jj 13, jj 14, jj 15, jj 16, jj 17, jj 18, jj 19, jj 20, jj 21, jj 22, jj 23, jj 24, jj 25, jj 26, jj 27, .slice A us.length c, .int .i64 (us.length : Int), .int .i64 (j : Int), jj 31, jj 32, jj 33, jj 34, jj 35, jj 36, jj 37, jj 38, jj 39, jj 40, jj 41, jj 42, jj 43, jj 44, jj 45, jj 46, jj 47, jj 48, jj 49, jj 50, jj 51, jj 52, jj 53, jj 54, jj 55, jj 56, jj 57, jj 58, jj 59, jj 60, jj 61, jj 62, jj 63, jj 64, jj 65, jj 66, jj 67, jj 68, jj 69, jj 70, jj 71, jj 72, jj 73, jj 74, jj 75, jj 76, jj 77, jj 78, jj 79, jj 80, jj 81, jj 82, jj 83, jj 84, jj 85, jj 86, jj 87, jj 88, jj 89, jj 90, jj 91, jj 92, jj 93, jj 94, jj 95, jj 96, jj 97]) ∧ n + j = us.length ∧ Mem [] w0 w [.row eU8 5 v (pre ++ (us.take j).flatMap readB), .cell b1 (rC ses snap strict (.slice A us.length c) (.slice A2 wz.length c2)) 25]) us.length
    ⟨0, v24, exj rfl, rfl, by simpa using hM⟩ ?_
  clear hM
  rintro n l w ⟨j, v, ⟨jj, rfl⟩, hnj, hM⟩
  have hbl := take_le (f := readB) (l := us) (C := 186500) (N := 100) j (fun u hu => readB_len (hs3 u hu)) hs1
  repeat (first | refine gw ?_ | (refine ks ?_; intro w hM))
  refine c_cond rfl (fun hj => ?_) (fun hj => ?_)
  · repeat (first | refine gw ?_ | (refine ks ?_; intro w hM))
    refine kix hR (fun b o x hx hA => ?_) (h1 := by simp; omega)
    rw [Int.toNat_natCast, List.getElem?_map] at hx
    obtain ⟨u, hu, rfl⟩ := Option.map_eq_some_iff.1 hx
    have hum := List.mem_of_getElem? hu
    obtain ⟨⟨sc, key, to, vp⟩, ps⟩ := u
    have hsu := hs3 _ hum
    have hps := hU _ hum
    simp only at hsu hps hA
    have hvl : vp.2.1 = ps.length := by
      obtain ⟨A, c, h⟩ := hps.form
      unfold slv at h
      injection h
    obtain ⟨A3, n3, c3⟩ := vp
    simp only at hvl
    subst hvl
    have hpn := numB_len (n := ps.length) (by omega)
    have hkl := strB_len hsu.1
    have htl := strB_len hsu.2.1
    refine katr hM hA ?_
    refine kal hM (fun w b5 hM => ?_)
    refine kstw (vs := eRr.f (sc, key, to, (A3, ps.length, c3))) hM (fun w hM => ?_) (h1 := eRr.h1 (sc, key, to, (A3, ps.length, c3)))
    repeat (first | refine gw ?_ | (refine ks ?_; intro w hM))
    refine c_ordY ([], []) [] (by kernel_rfl) (by kernel_rfl) (by kernel_rfl) (fun w hc hs => ?_)
    have hM := hM.call hc
    have hl5 := Blk.lt (hM.blk (b := b5) (by (repeat constructor)))
    (first | refine yn 0 rfl ?_ | refine ynt 0 rfl ?_ | refine ynff 0 rfl ?_); (first | refine yn 1 rfl ?_ | refine ynt 1 rfl ?_ | refine ynff 1 rfl ?_)
    refine ynl 2 rfl (hM.blk (b := b5) (by (repeat constructor))) (by omega) (by simp) rfl rfl ?_
    (first | refine yn 4 rfl ?_ | refine ynt 4 rfl ?_ | refine ynff 4 rfl ?_)
    refine ynl 5 rfl (hM.blk (b := b5) (by (repeat constructor))) (by omega) (by simp) rfl rfl ?_
    refine yk1 3 hM (by kernel_rfl) rfl (fun w h0 hM => ?_)
    refine ca (rflag_any v sc w (hM.rowRdO (en := eU8) (v := v) (by (repeat constructor))) (by rw [List.length_append]; omega)) ?_
    rintro v35 w2 ⟨hc, hO⟩
    have hM := hM.got hc hO
    refine x_wy (.inl (hc.gy h0)) rfl ?_
    refine yk1 6 hM (by kernel_rfl) rfl (fun w h0 hM => ?_)
    refine ca (rstr_any v35 key w (hM.rowRdO (en := eU8) (v := v35) (by (repeat constructor))) (by rw [List.length_append, List.length_append, flagB_len]; omega) (by have := hsu.1; omega)) ?_
    rintro v39 w2 ⟨hc, hO⟩
    have hM := hM.got hc hO
    refine x_wy (.inl (hc.gy h0)) rfl ?_
    (first | refine yn 7 rfl ?_ | refine ynt 7 rfl ?_ | refine ynff 7 rfl ?_)
    refine wy_done (by kernel_rfl) (fun w hc => ?_)
    have hM := hM.call hc
    have hM := hM.sub (M := [.row eU8 5 v39 (pre ++ (us.take j).flatMap readB ++ flagB sc ++ strB key), .cell b5 (eRr.f (sc, key, to, (A3, ps.length, c3))) 135, .cell b1 (rC ses snap strict (.slice A us.length c) (.slice A2 wz.length c2)) 25]) (by (repeat constructor))
    repeat (first | refine gw ?_ | (refine ks ?_; intro w hM))
    cases sc with
    | true =>
      refine c_condb rfl (fun _ => ?_) (fun h => by cases h)
      repeat (first | refine gw ?_ | (refine ks ?_; intro w hM))
      refine kcr hM (rstr_any v39 to w (hM.rowRdO (en := eU8) (v := v39) (by (repeat constructor))) (by simp only [List.length_append, flagB_len]; omega) (by omega)) (fun v46 w hM => ?_)
      repeat (first | refine gw ?_ | (refine ks ?_; intro w hM))
      refine kcr hM (rnum_any v46 (ps.length) w (hM.rowRdO (en := eU8) (v := v46) (by (repeat constructor))) (by simp only [List.length_append, flagB_len]; omega) (by omega)) (fun v52 w hM => ?_)
      obtain ⟨Q, hQ⟩ : ∃ Q, pre ++ (us.take j).flatMap readB ++ flagB true ++ strB key ++ strB to ++ numB ps.length = Q := ⟨_, rfl⟩
      have hQl : Q.length ≤ 18651000 := by
        rw [← hQ]
        simp only [List.length_append, flagB_len]
        omega
      rw [hQ] at hM
      have hM := hM.sub (M := [.row eU8 5 v52 Q, .cell b5 (eRr.f (true, key, to, (A3, ps.length, c3))) 135, .cell b1 (rC ses snap strict (.slice A us.length c) (.slice A2 wz.length c2)) 25]) (by (repeat constructor))
      repeat (first | refine gw ?_ | (refine ks ?_; intro w hM))
      
      refine c_loop (fun n l w => ∃ (i : Nat) (v : Value), (∃ jj : Nat → Value, l = [jj 0, .pointer (some ⟨b1, 0, none⟩), .slice none 0 0, v, jj 4, .pointer (some ⟨b5, 0, none⟩), jj 6, jj 7, jj 8, jj 9, jj 10, jj 11, jj 12, jj 13, jj 14, jj 15, jj 16, jj 17, jj 18, jj 19, jj 20, jj 21, jj 22, jj 23, jj 24, jj 25, jj 26, jj 27, .slice A us.length c, .int .i64 (us.length : Int), .int .i64 (j : Int), jj 31, jj 32, jj 33, jj 34, jj 35, jj 36, jj 37, jj 38, jj 39, jj 40, jj 41, jj 42, jj 43, jj 44, jj 45, jj 46, jj 47, jj 48, jj 49, jj 50, jj 51, jj 52, jj 53, .slice A3 ps.length c3, .int .i64 (ps.length : Int), .int .i64 (i : Int), jj 57, jj 58, jj 59, jj 60, jj 61, jj 62, jj 63, jj 64, jj 65, jj 66, jj 67, jj 68, jj 69, jj 70, jj 71, jj 72, jj 73, jj 74, jj 75, jj 76, jj 77, jj 78, jj 79, jj 80, jj 81, jj 82, jj 83, jj 84, jj 85, jj 86, jj 87, jj 88, jj 89, jj 90, jj 91, jj 92, jj 93, jj 94, jj 95, jj 96, jj 97]) ∧ n + i = ps.length ∧ Mem [] w0 w [.row eU8 5 v (Q ++ (ps.take i).flatMap pairB), .cell b5 (eRr.f (true, key, to, (A3, ps.length, c3))) 135, .cell b1 (rC ses snap strict (.slice A us.length c) (.slice A2 wz.length c2)) 25]) ps.length
        ⟨0, v52, exj rfl, rfl, by simpa using hM⟩ ?_
      clear hM
      rintro n2 l w ⟨i, v, ⟨jj, rfl⟩, hni, hM⟩
      have hpl := take_le (f := pairB) (l := ps) (C := 618) (N := 300) i (fun p hp => pairB_len (hsu.2.2.2 p hp)) hsu.2.2.1
      repeat (first | refine gw ?_ | (refine ks ?_; intro w hM))
      refine c_cond rfl (fun hi => ?_) (fun hi => ?_)
      · repeat (first | refine gw ?_ | (refine ks ?_; intro w hM))
        refine kix hps (fun b o p hp hA => ?_)
        rw [Int.toNat_natCast] at hp
        have hsp := hsu.2.2.2 p (List.mem_of_getElem? hp)
        obtain ⟨pk, pv, pd⟩ := p
        have hk1 : (strB pk).length ≤ 309 := strB_len hsp.1
        have hv1 : (strB pv).length ≤ 309 := strB_len hsp.2
        refine katr hM hA ?_
        refine kal hM (fun w b7 hM => ?_)
        refine kstw (vs := ePr.f (pk, pv, pd)) hM (fun w hM => ?_) (h1 := ePr.h1 (pk, pv, pd))
        repeat (first | refine gw ?_ | (refine ks ?_; intro w hM))
        refine c_ordY ([], []) [] (by kernel_rfl) (by kernel_rfl) (by kernel_rfl) (fun w hc hs => ?_)
        have hM := hM.call hc
        have hl7 := Blk.lt (hM.blk (b := b7) (by (repeat constructor)))
        (first | refine yn 0 rfl ?_ | refine ynt 0 rfl ?_ | refine ynff 0 rfl ?_); (first | refine yn 1 rfl ?_ | refine ynt 1 rfl ?_ | refine ynff 1 rfl ?_)
        refine ynl 2 rfl (hM.blk (b := b7) (by (repeat constructor))) (by omega) (by simp) rfl rfl ?_
        (first | refine yn 4 rfl ?_ | refine ynt 4 rfl ?_ | refine ynff 4 rfl ?_)
        refine ynl 5 rfl (hM.blk (b := b7) (by (repeat constructor))) (by omega) (by simp) rfl rfl ?_
        refine yk1 3 hM (by kernel_rfl) rfl (fun w h0 hM => ?_)
        refine ca (rstr_any v pk w (hM.rowRdO (en := eU8) (v := v) (by (repeat constructor))) (by rw [List.length_append]; omega) (Nat.le_trans (show pk.length ≤ 300 from hsp.1) (by omega))) ?_
        rintro v63 w2 ⟨hc, hO⟩
        have hM := hM.got hc hO
        refine x_wy (.inl (hc.gy h0)) rfl ?_
        refine yk1 6 hM (by kernel_rfl) rfl (fun w h0 hM => ?_)
        refine ca (rstr_any v63 pv w (hM.rowRdO (en := eU8) (v := v63) (by (repeat constructor))) (by rw [List.length_append, List.length_append]; omega) (Nat.le_trans (show pv.length ≤ 300 from hsp.2) (by omega))) ?_
        rintro v66 w2 ⟨hc, hO⟩
        have hM := hM.got hc hO
        refine x_wy (.inl (hc.gy h0)) rfl ?_
        (first | refine yn 7 rfl ?_ | refine ynt 7 rfl ?_ | refine ynff 7 rfl ?_)
        refine wy_done (by kernel_rfl) (fun w hc => ?_)
        have hM := hM.call hc
        rw [List.append_assoc, show strB pk ++ strB pv = pairB (pk, pv, pd) by rfl] at hM
        repeat (first | refine gw ?_ | (refine ks ?_; intro w hM))
        rw [List.append_assoc, ← take_flat hp] at hM
        exact x_goes (n2 - 1) rfl (by omega) ⟨i + 1, v66, exj rfl, by omega, hM.sub (by (repeat constructor))⟩
      · rw [List.take_of_length_le (by omega)] at hM
        repeat (first | refine gw ?_ | (refine ks ?_; intro w hM))
        have he : Q ++ ps.flatMap pairB = pre ++ (us.take (j + 1)).flatMap readB := by
          rw [take_flat hu, ← hQ]
          simp [readB, List.append_assoc]
        rw [he] at hM
        exact x_goes (n - 1) rfl (by omega) ⟨j + 1, v, exj rfl, by omega, hM.sub (by (repeat constructor))⟩
    | false =>
      refine c_condb rfl (fun h => by cases h) (fun _ => ?_)
      repeat (first | refine gw ?_ | (refine ks ?_; intro w hM))
      refine kcr hM (rnum_any v39 (ps.length) w (hM.rowRdO (en := eU8) (v := v39) (by (repeat constructor))) (by simp only [List.length_append, flagB_len]; omega) (by omega)) (fun v52 w hM => ?_)
      obtain ⟨Q, hQ⟩ : ∃ Q, pre ++ (us.take j).flatMap readB ++ flagB false ++ strB key ++ numB ps.length = Q := ⟨_, rfl⟩
      have hQl : Q.length ≤ 18651000 := by
        rw [← hQ]
        simp only [List.length_append, flagB_len]
        omega
      rw [hQ] at hM
      have hM := hM.sub (M := [.row eU8 5 v52 Q, .cell b5 (eRr.f (false, key, to, (A3, ps.length, c3))) 135, .cell b1 (rC ses snap strict (.slice A us.length c) (.slice A2 wz.length c2)) 25]) (by (repeat constructor))
      repeat (first | refine gw ?_ | (refine ks ?_; intro w hM))
      
      refine c_loop (fun n l w => ∃ (i : Nat) (v : Value), (∃ jj : Nat → Value, l = [jj 0, .pointer (some ⟨b1, 0, none⟩), .slice none 0 0, v, jj 4, .pointer (some ⟨b5, 0, none⟩), jj 6, jj 7, jj 8, jj 9, jj 10, jj 11, jj 12, jj 13, jj 14, jj 15, jj 16, jj 17, jj 18, jj 19, jj 20, jj 21, jj 22, jj 23, jj 24, jj 25, jj 26, jj 27, .slice A us.length c, .int .i64 (us.length : Int), .int .i64 (j : Int), jj 31, jj 32, jj 33, jj 34, jj 35, jj 36, jj 37, jj 38, jj 39, jj 40, jj 41, jj 42, jj 43, jj 44, jj 45, jj 46, jj 47, jj 48, jj 49, jj 50, jj 51, jj 52, jj 53, .slice A3 ps.length c3, .int .i64 (ps.length : Int), .int .i64 (i : Int), jj 57, jj 58, jj 59, jj 60, jj 61, jj 62, jj 63, jj 64, jj 65, jj 66, jj 67, jj 68, jj 69, jj 70, jj 71, jj 72, jj 73, jj 74, jj 75, jj 76, jj 77, jj 78, jj 79, jj 80, jj 81, jj 82, jj 83, jj 84, jj 85, jj 86, jj 87, jj 88, jj 89, jj 90, jj 91, jj 92, jj 93, jj 94, jj 95, jj 96, jj 97]) ∧ n + i = ps.length ∧ Mem [] w0 w [.row eU8 5 v (Q ++ (ps.take i).flatMap pairB), .cell b5 (eRr.f (false, key, to, (A3, ps.length, c3))) 135, .cell b1 (rC ses snap strict (.slice A us.length c) (.slice A2 wz.length c2)) 25]) ps.length
        ⟨0, v52, exj rfl, rfl, by simpa using hM⟩ ?_
      clear hM
      rintro n2 l w ⟨i, v, ⟨jj, rfl⟩, hni, hM⟩
      have hpl := take_le (f := pairB) (l := ps) (C := 618) (N := 300) i (fun p hp => pairB_len (hsu.2.2.2 p hp)) hsu.2.2.1
      repeat (first | refine gw ?_ | (refine ks ?_; intro w hM))
      refine c_cond rfl (fun hi => ?_) (fun hi => ?_)
      · repeat (first | refine gw ?_ | (refine ks ?_; intro w hM))
        refine kix hps (fun b o p hp hA => ?_)
        rw [Int.toNat_natCast] at hp
        have hsp := hsu.2.2.2 p (List.mem_of_getElem? hp)
        obtain ⟨pk, pv, pd⟩ := p
        have hk1 : (strB pk).length ≤ 309 := strB_len hsp.1
        have hv1 : (strB pv).length ≤ 309 := strB_len hsp.2
        refine katr hM hA ?_
        refine kal hM (fun w b7 hM => ?_)
        refine kstw (vs := ePr.f (pk, pv, pd)) hM (fun w hM => ?_) (h1 := ePr.h1 (pk, pv, pd))
        repeat (first | refine gw ?_ | (refine ks ?_; intro w hM))
        refine c_ordY ([], []) [] (by kernel_rfl) (by kernel_rfl) (by kernel_rfl) (fun w hc hs => ?_)
        have hM := hM.call hc
        have hl7 := Blk.lt (hM.blk (b := b7) (by (repeat constructor)))
        (first | refine yn 0 rfl ?_ | refine ynt 0 rfl ?_ | refine ynff 0 rfl ?_); (first | refine yn 1 rfl ?_ | refine ynt 1 rfl ?_ | refine ynff 1 rfl ?_)
        refine ynl 2 rfl (hM.blk (b := b7) (by (repeat constructor))) (by omega) (by simp) rfl rfl ?_
        (first | refine yn 4 rfl ?_ | refine ynt 4 rfl ?_ | refine ynff 4 rfl ?_)
        refine ynl 5 rfl (hM.blk (b := b7) (by (repeat constructor))) (by omega) (by simp) rfl rfl ?_
        refine yk1 3 hM (by kernel_rfl) rfl (fun w h0 hM => ?_)
        refine ca (rstr_any v pk w (hM.rowRdO (en := eU8) (v := v) (by (repeat constructor))) (by rw [List.length_append]; omega) (Nat.le_trans (show pk.length ≤ 300 from hsp.1) (by omega))) ?_
        rintro v63 w2 ⟨hc, hO⟩
        have hM := hM.got hc hO
        refine x_wy (.inl (hc.gy h0)) rfl ?_
        refine yk1 6 hM (by kernel_rfl) rfl (fun w h0 hM => ?_)
        refine ca (rstr_any v63 pv w (hM.rowRdO (en := eU8) (v := v63) (by (repeat constructor))) (by rw [List.length_append, List.length_append]; omega) (Nat.le_trans (show pv.length ≤ 300 from hsp.2) (by omega))) ?_
        rintro v66 w2 ⟨hc, hO⟩
        have hM := hM.got hc hO
        refine x_wy (.inl (hc.gy h0)) rfl ?_
        (first | refine yn 7 rfl ?_ | refine ynt 7 rfl ?_ | refine ynff 7 rfl ?_)
        refine wy_done (by kernel_rfl) (fun w hc => ?_)
        have hM := hM.call hc
        rw [List.append_assoc, show strB pk ++ strB pv = pairB (pk, pv, pd) by rfl] at hM
        repeat (first | refine gw ?_ | (refine ks ?_; intro w hM))
        rw [List.append_assoc, ← take_flat hp] at hM
        exact x_goes (n2 - 1) rfl (by omega) ⟨i + 1, v66, exj rfl, by omega, hM.sub (by (repeat constructor))⟩
      · rw [List.take_of_length_le (by omega)] at hM
        repeat (first | refine gw ?_ | (refine ks ?_; intro w hM))
        have he : Q ++ ps.flatMap pairB = pre ++ (us.take (j + 1)).flatMap readB := by
          rw [take_flat hu, ← hQ]
          simp [readB, List.append_assoc]
        rw [he] at hM
        exact x_goes (n - 1) rfl (by omega) ⟨j + 1, v, exj rfl, by omega, hM.sub (by (repeat constructor))⟩
  · rw [List.take_of_length_le (by omega)] at hM hbl
    repeat (first | refine gw ?_ | (refine ks ?_; intro w hM))
    refine kcr hM (rnum_any v (wz.length) w (hM.rowRdO (en := eU8) (v := v) (by (repeat constructor))) (by simp only [List.length_append, flagB_len]; omega) (by omega)) (fun v52 w hM => ?_)
    obtain ⟨Q, hQ⟩ : ∃ Q, pre ++ us.flatMap readB ++ numB wz.length = Q := ⟨_, rfl⟩
    have hQl : Q.length ≤ 18651000 := by
      rw [← hQ]
      simp only [List.length_append]
      omega
    rw [hQ] at hM
    have hM := hM.sub (M := [.row eU8 5 v52 Q, .cell b1 (rC ses snap strict (.slice A us.length c) (.slice A2 wz.length c2)) 25]) (by (repeat constructor))
    repeat (first | refine gw ?_ | (refine ks ?_; intro w hM))
    
    refine c_loop (fun n l w => ∃ (i : Nat) (v : Value), (∃ jj : Nat → Value, l = [jj 0, .pointer (some ⟨b1, 0, none⟩), .slice none 0 0, v, jj 4, jj 5, jj 6, jj 7, jj 8, jj 9, jj 10, jj 11, jj 12, jj 13, jj 14, jj 15, jj 16, jj 17, jj 18, jj 19, jj 20, jj 21, jj 22, jj 23, jj 24, jj 25, jj 26, jj 27, jj 28, jj 29, jj 30, jj 31, jj 32, jj 33, jj 34, jj 35, jj 36, jj 37, jj 38, jj 39, jj 40, jj 41, jj 42, jj 43, jj 44, jj 45, jj 46, jj 47, jj 48, jj 49, jj 50, jj 51, jj 52, jj 53, jj 54, jj 55, jj 56, jj 57, jj 58, jj 59, jj 60, jj 61, jj 62, jj 63, jj 64, jj 65, jj 66, jj 67, jj 68, jj 69, jj 70, jj 71, jj 72, jj 73, jj 74, jj 75, .slice A2 wz.length c2, .int .i64 (wz.length : Int), .int .i64 (i : Int), jj 79, jj 80, jj 81, jj 82, jj 83, jj 84, jj 85, jj 86, jj 87, jj 88, jj 89, jj 90, jj 91, jj 92, jj 93, jj 94, jj 95, jj 96, jj 97]) ∧ n + i = wz.length ∧ Mem [] w0 w [.row eU8 5 v (Q ++ (wz.take i).flatMap writeB), .cell b1 (rC ses snap strict (.slice A us.length c) (.slice A2 wz.length c2)) 25]) wz.length
      ⟨0, v52, exj rfl, rfl, by simpa using hM⟩ ?_
    clear hM
    rintro n2 l w ⟨i, v, ⟨jj, rfl⟩, hni, hM⟩
    have hpl := take_le (f := writeB) (l := wz) (C := 619) (N := 100) i (fun p hp => writeB_len (hs4 p hp)) hs2
    repeat (first | refine gw ?_ | (refine ks ?_; intro w hM))
    refine c_cond rfl (fun hi => ?_) (fun hi => ?_)
    · repeat (first | refine gw ?_ | (refine ks ?_; intro w hM))
      refine kix hW (fun b o p hp hA => ?_)
      rw [Int.toNat_natCast] at hp
      have hsp := hs4 p (List.mem_of_getElem? hp)
      obtain ⟨pk, pv, pd⟩ := p
      have hk1 : (strB pk).length ≤ 309 := strB_len hsp.1
      have hv1 : (strB pv).length ≤ 309 := strB_len hsp.2
      refine katr hM hA ?_
      refine kal hM (fun w b9 hM => ?_)
      refine kstw (vs := ePr.f (pk, pv, pd)) hM (fun w hM => ?_) (h1 := ePr.h1 (pk, pv, pd))
      repeat (first | refine gw ?_ | (refine ks ?_; intro w hM))
      refine c_ordY ([], []) [] (by kernel_rfl) (by kernel_rfl) (by kernel_rfl) (fun w hc hs => ?_)
      have hM := hM.call hc
      have hl9 := Blk.lt (hM.blk (b := b9) (by (repeat constructor)))
      (first | refine yn 0 rfl ?_ | refine ynt 0 rfl ?_ | refine ynff 0 rfl ?_); (first | refine yn 1 rfl ?_ | refine ynt 1 rfl ?_ | refine ynff 1 rfl ?_)
      refine ynl 2 rfl (hM.blk (b := b9) (by (repeat constructor))) (by omega) (by simp) rfl rfl ?_
      (first | refine yn 4 rfl ?_ | refine ynt 4 rfl ?_ | refine ynff 4 rfl ?_)
      refine ynl 5 rfl (hM.blk (b := b9) (by (repeat constructor))) (by omega) (by simp) rfl rfl ?_
      refine yk1 3 hM (by kernel_rfl) rfl (fun w h0 hM => ?_)
      refine ca (rstr_any v pk w (hM.rowRdO (en := eU8) (v := v) (by (repeat constructor))) (by rw [List.length_append]; omega) (Nat.le_trans (show pk.length ≤ 300 from hsp.1) (by omega))) ?_
      rintro v86 w2 ⟨hc, hO⟩
      have hM := hM.got hc hO
      refine x_wy (.inl (hc.gy h0)) rfl ?_
      refine yk1 6 hM (by kernel_rfl) rfl (fun w h0 hM => ?_)
      refine ca (rflag_any v86 pd w (hM.rowRdO (en := eU8) (v := v86) (by (repeat constructor))) (by rw [List.length_append, List.length_append]; omega)) ?_
      rintro v89 w2 ⟨hc, hO⟩
      have hM := hM.got hc hO
      refine x_wy (.inl (hc.gy h0)) rfl ?_
      (first | refine yn 7 rfl ?_ | refine ynt 7 rfl ?_ | refine ynff 7 rfl ?_)
      refine wy_done (by kernel_rfl) (fun w hc => ?_)
      have hM := hM.call hc
      repeat (first | refine gw ?_ | (refine ks ?_; intro w hM))
      cases pd with
      | true =>
        refine c_condb rfl (fun h => by cases h) (fun _ => ?_)
        repeat (first | refine gw ?_ | (refine ks ?_; intro w hM))
        have he : Q ++ (wz.take i).flatMap writeB ++ strB pk ++ flagB true = Q ++ (wz.take (i + 1)).flatMap writeB := by
          rw [take_flat hp]
          simp [writeB, List.append_assoc]
        rw [he] at hM
        exact x_goes (n2 - 1) rfl (by omega) ⟨i + 1, v89, exj rfl, by omega, hM.sub (by (repeat constructor))⟩
      | false =>
        refine c_condb rfl (fun _ => ?_) (fun h => by cases h)
        repeat (first | refine gw ?_ | (refine ks ?_; intro w hM))
        refine kcr hM (rstr_any v89 pv w (hM.rowRdO (en := eU8) (v := v89) (by (repeat constructor))) (by simp only [List.length_append, flagB_len]; omega) (Nat.le_trans (show pv.length ≤ 300 from hsp.2) (by omega))) (fun v97 w hM => ?_)
        repeat (first | refine gw ?_ | (refine ks ?_; intro w hM))
        have he : Q ++ (wz.take i).flatMap writeB ++ strB pk ++ flagB false ++ strB pv = Q ++ (wz.take (i + 1)).flatMap writeB := by
          rw [take_flat hp]
          simp [writeB, List.append_assoc]
        rw [he] at hM
        exact x_goes (n2 - 1) rfl (by omega) ⟨i + 1, v97, exj rfl, by omega, hM.sub (by (repeat constructor))⟩
    · rw [List.take_of_length_le (by omega)] at hM
      repeat (first | refine gw ?_ | (refine ks ?_; intro w hM))
      have hrow := hM.row (v := v) (by (repeat constructor))
      have he : Q ++ wz.flatMap writeB = recB ses snap strict us wz := by
        rw [← hQ, ← hpre]
        simp [recB, List.append_assoc]
      rw [he] at hrow
      exact out1 rfl ⟨hM.ch, hrow⟩
end Go.Proofs.YtoimhmphhffelaaGreatDoor
set_option linter.unusedVariables false
set_option linter.unusedSimpArgs false
namespace Go.Proofs.YtoimhmphhffelaaGreatDoor
open Go Go.RowKit Go.Proofs.E
attribute [local irreducible] Go.wpList Go.Code.wp Go.Proofs.E.exec Go.Proofs.E.wpLexG
def goodPB (p : Pr) : Bool := decide (0 < p.1.length) && (decide (p.1.length ≤ 64) && (decide (p.2.1.length ≤ 256) && (!p.2.2 || decide (p.2.1 = []))))
def goodL : Option Bs → List Pr → Bool
  | _, [] => true
  | q, p :: r => goodPB p && ((match q with | none => true | some k => ltB k p.1) && goodL (some p.1) r)
theorem goodL_cons (q : Option Bs) (p : Pr) (r : List Pr) : goodL q (p :: r) = (goodPB p && ((match q with | none => true | some k => ltB k p.1) && goodL (some p.1) r)) := rfl
def prevOf (l : List Pr) (j : Nat) : Option Bs := if j = 0 then none else (l[j - 1]?).map (fun p : Pr => p.1)
theorem prevOf_succ {l : List Pr} {j : Nat} {p : Pr} (h : l[j]? = some p) : prevOf l (j + 1) = some p.1 := by
  unfold prevOf
  rw [if_neg (by omega), Nat.add_sub_cancel, h]
  rfl
set_option maxHeartbeats 4000000 in
theorem goodPair_any (p : Pr) (w0 : World) (h1 : p.1.length ≤ 9223372036854775807) (h2 : p.2.1.length ≤ 9223372036854775807) :
    Calls Tryz.prog 190 #[.agg (ePr.f p).toArray] w0 (Ret fun u w' => u = .bool (goodPB p) ∧ Ch [] w0 w') := by
  have hM := Mem.start w0
  obtain ⟨k, v, d⟩ := p
  simp only at h1 h2
  refine enter [.agg (ePr.f (k, v, d)).toArray, undef, undef, undef, undef, undef, undef, undef, undef, undef, undef, undef, undef, undef, undef, undef, undef, undef, undef, undef, undef, undef, undef, undef, undef, undef, undef, undef] Tryz.func190 rfl rfl ?_
  repeat (first | refine gw ?_ | (refine ks ?_; intro w hM))
  refine kbx hM (fun w b1 hM => ?_)
  have hM : Mem [] w0 w [.cell b1 (ePr.f (k, v, d)) 70] := hM
  repeat (first | refine gw ?_ | (refine ks ?_; intro w hM))
  (try ((with_reducible apply is_gd); first | refine gt ?_ | refine gf ?_ | refine gu ?_)); refine wl_val (r_neqst (a := k) (b := [])) ?_
  by_cases c1 : k = []
  · rw [decide_eq_true c1]
    repeat (first | refine gw ?_ | (refine ks ?_; intro w hM))
    exact out1 rfl ⟨by subst c1; rfl, hM.ch⟩
  rw [decide_eq_false c1]
  repeat (first | refine gw ?_ | (refine ks ?_; intro w hM))
  have hk0 : 0 < k.length := List.length_pos_iff.2 c1
  simp only [bst_size]
  by_cases c2 : (k.length : Int) ≤ 64
  rotate_left
  · rw [decide_eq_false c2]
    repeat (first | refine gw ?_ | (refine ks ?_; intro w hM))
    refine out1 rfl ⟨?_, hM.ch⟩
    have : ¬ k.length ≤ 64 := by omega
    simp [goodPB, this, ev, nth]
  rw [decide_eq_true c2]
  repeat (first | refine gw ?_ | (refine ks ?_; intro w hM))
  simp only [bst_size]
  by_cases c3 : (v.length : Int) ≤ 256
  rotate_left
  · rw [decide_eq_false c3]
    repeat (first | refine gw ?_ | (refine ks ?_; intro w hM))
    refine out1 rfl ⟨?_, hM.ch⟩
    have : ¬ v.length ≤ 256 := by omega
    simp [goodPB, this, ev, nth]
  rw [decide_eq_true c3]
  repeat (first | refine gw ?_ | (refine ks ?_; intro w hM))
  have q2 : k.length ≤ 64 := by omega
  have q3 : v.length ≤ 256 := by omega
  cases d with
  | false =>
    repeat (first | refine gw ?_ | (refine ks ?_; intro w hM))
    refine out1 rfl ⟨?_, hM.ch⟩
    simp [goodPB, hk0, q2, q3, ev, nth]
  | true =>
    repeat (first | refine gw ?_ | (refine ks ?_; intro w hM))
    (try ((with_reducible apply is_gd); first | refine gt ?_ | refine gf ?_ | refine gu ?_)); refine wl_val (r_eqst (a := v) (b := [])) ?_
    repeat (first | refine gw ?_ | (refine ks ?_; intro w hM))
    refine out1 rfl ⟨?_, hM.ch⟩
    simp [goodPB, hk0, q2, q3, ev, nth]

set_option maxHeartbeats 16000000 in
theorem sgood_any (v : Value) (zs : List Pr) (w0 : World) (hR : (Ty.enc ePr).Rd [] w0 v zs) (hb : ∀ p ∈ zs, p.1.length ≤ 140737488355328 ∧ p.2.1.length ≤ 140737488355328) :
    Calls Tryz.prog 156 #[v] w0 (Ret fun u w' => u = .bool (goodL none zs) ∧ Ch [] w0 w') := by
  have hM := Mem.start w0
  have hle := hR.le
  obtain ⟨A, c, rfl⟩ := hR.form
  refine enter [.slice A zs.length c, undef, undef, undef, undef, undef, undef, undef, undef, undef, undef, undef, undef, undef, undef, undef, undef, undef, undef, undef, undef, undef, undef, undef, undef, undef, undef, undef, undef, undef, undef] Tryz.func156 rfl rfl ?_
  repeat (first | refine gw ?_ | (refine ks ?_; intro w hM))
  
  refine c_loop (fun n l w => ∃ (j : Nat), (∃ jj : Nat → Value, l = [.slice A zs.length c, jj 1, .bool false, jj 3, jj 4, .slice A zs.length c, .int .i64 (zs.length : Int), .int .i64 (j : Int), jj 8, jj 9, jj 10, jj 11, jj 12, jj 13, jj 14, jj 15, jj 16, jj 17, jj 18, jj 19, jj 20, jj 21, jj 22, jj 23, jj 24, jj 25, jj 26, jj 27, jj 28, jj 29, jj 30]) ∧ n + j = zs.length ∧ Mem [] w0 w [] ∧ goodL none zs = goodL (prevOf zs j) (zs.drop j)) zs.length
    ⟨0, exj rfl, rfl, hM, rfl⟩ ?_
  clear hM
  rintro n l w ⟨j, ⟨jj, rfl⟩, hnj, hM, hf⟩
  repeat (first | refine gw ?_ | (refine ks ?_; intro w hM))
  refine c_cond rfl (fun hj => ?_) (fun hj => ?_)
  · repeat (first | refine gw ?_ | (refine ks ?_; intro w hM))
    refine kix hR (fun b o p hp hA => ?_)
    rw [Int.toNat_natCast] at hp
    have hbp := hb p (List.mem_of_getElem? hp)
    have hd : zs.drop j = p :: zs.drop (j + 1) := by
      obtain ⟨hlt, he⟩ := List.getElem?_eq_some_iff.1 hp
      rw [List.drop_eq_getElem_cons hlt, he]
    have hps := prevOf_succ hp
    rw [hd, goodL_cons, ← hps] at hf
    obtain ⟨k, v, d⟩ := p
    simp only at hf hbp hps
    refine katr hM hA ?_
    refine kal hM (fun w b4 hM => ?_)
    repeat (first | refine gw ?_ | (refine ks ?_; intro w hM))
    have hM : Mem [] w0 w [.cell b4 (ePr.f (k, v, d)) 70] := hM
    have hbad : ∀ X : Bool, X = false → (X && ((match prevOf zs j with | none => true | some q => ltB q k) && goodL (prevOf zs (j + 1)) (zs.drop (j + 1)))) = false := fun X h => by rw [h]; rfl
    refine kdr hM (by kernel_rfl) (by kernel_rfl) (fun w hM => ?_)
    (try refine gwg ?_)
    refine kcag hM (fun w1 hM => goodPair_any (k, v, d) w1 (by simp only; omega) (by simp only; omega)) ?_
    cases hg : goodPB (k, v, d) with
    | false =>
      (try refine gwg ?_)
      (intro w hc; have hM := hM.call hc)
      refine c_condb rfl (fun _ => ?_) (fun h => by cases h)
      repeat (first | refine gw ?_ | (refine ks ?_; intro w hM))
      refine out1 rfl ⟨?_, hM.ch⟩
      rw [hf]
      exact congrArg Value.bool (hbad (goodPB (k, v, d)) hg).symm
    | true =>
      (try refine gwg ?_)
      by_cases hj0 : j = 0
      · have hq : (match prevOf zs j with | none => true | some q => ltB q k) = true := by
          subst hj0
          rfl
        rw [decide_eq_false (by omega : ¬ (j : Int) > 0)]
        (try refine gwg ?_)
        (intro w hc; have hM := hM.call hc)
        refine c_condb rfl (fun h => by cases h) (fun _ => ?_)
        repeat (first | refine gw ?_ | (refine ks ?_; intro w hM))
        exact x_goes (n - 1) rfl (by omega) ⟨j + 1, exj rfl, by omega, hM.nil, by rw [hf, hg, hq]; rfl⟩
      · rw [decide_eq_true (by omega : (j : Int) > 0)]
        (try refine gwg ?_)
        obtain ⟨q, hq0⟩ : ∃ q, zs[j - 1]? = some q := ⟨_, List.getElem?_eq_getElem (by omega)⟩
        have hpv : prevOf zs j = some q.1 := by
          unfold prevOf
          rw [if_neg hj0, hq0]
          rfl
        refine kixg hR (fun b o q2 hq2 hA2 => ?_) (h1 := by omega)
        rw [show ((j : Int) - 1).toNat = j - 1 by omega, hq0] at hq2
        obtain rfl := Option.some.inj hq2
        (try refine gwg ?_)
        refine wg_val (fun w1 hc1 => r_load_one rfl (by
          obtain ⟨_, _, cs, hcs, hr⟩ := (hA2.mv hM.ch (by simp)).mv hc1 (by simp)
          have hcs : cs = ePr.f q := hcs
          subst hcs
          exact hr 0 _ rfl)) ?_
        (try refine gwg ?_)
        (try ((with_reducible apply is_gg); first | refine gtg ?_ | refine gfg ?_ | refine gug ?_)); refine wg_val (fun _ _ => r_geS (a := q.1) (b := k)) ?_
        cases hlt : ltB q.1 k with
        | false =>
          (try refine gwg ?_)
          (intro w hc; have hM := hM.call hc)
          refine c_condb rfl (fun _ => ?_) (fun h => by cases h)
          repeat (first | refine gw ?_ | (refine ks ?_; intro w hM))
          refine out1 rfl ⟨?_, hM.ch⟩
          rw [hf]
          rw [hpv]
          simp [hlt, ev, nth]
        | true =>
          have hq : (match prevOf zs j with | none => true | some q => ltB q k) = true := by
            rw [hpv]
            exact hlt
          (try refine gwg ?_)
          (intro w hc; have hM := hM.call hc)
          refine c_condb rfl (fun h => by cases h) (fun _ => ?_)
          repeat (first | refine gw ?_ | (refine ks ?_; intro w hM))
          exact x_goes (n - 1) rfl (by omega) ⟨j + 1, exj rfl, by omega, hM.nil, by rw [hf, hg, hq]; rfl⟩
  · rw [List.drop_eq_nil_of_le (by omega)] at hf
    repeat (first | refine gw ?_ | (refine ks ?_; intro w hM))
    exact out1 rfl ⟨by rw [hf]; rfl, hM.ch⟩
set_option maxHeartbeats 16000000 in
theorem rgood08_any (v : Value) (zs : List Pr) (w0 : World) (hR : (Ty.enc ePr).Rd [] w0 v zs) (hb : ∀ p ∈ zs, p.1.length ≤ 140737488355328 ∧ p.2.1.length ≤ 140737488355328) :
    Calls Tryz.prog 158 #[v] w0 (Ret fun u w' => u = .bool (goodL none zs) ∧ Ch [] w0 w') := by
  have hM := Mem.start w0
  have hle := hR.le
  obtain ⟨A, c, rfl⟩ := hR.form
  refine enter [.slice A zs.length c, undef, undef, undef, undef, undef, undef, undef, undef, undef, undef, undef, undef, undef, undef, undef, undef, undef, undef, undef, undef, undef, undef, undef, undef, undef, undef, undef, undef, undef, undef, undef, undef, undef, undef, undef, undef, undef, undef, undef, undef, undef, undef, undef, undef, undef, undef, undef, undef, undef, undef, undef, undef] Tryz.func158 rfl rfl ?_
  repeat (first | refine gw ?_ | (refine ks ?_; intro w hM))
  
  refine c_loop (fun n l w => ∃ (j : Nat), (∃ jj : Nat → Value, l = [.slice A zs.length c, jj 1, .bool false, jj 3, jj 4, .slice A zs.length c, .int .i64 (zs.length : Int), .int .i64 (j : Int), jj 8, jj 9, jj 10, jj 11, jj 12, jj 13, jj 14, jj 15, jj 16, jj 17, jj 18, jj 19, jj 20, jj 21, jj 22, jj 23, jj 24, jj 25, jj 26, jj 27, jj 28, jj 29, jj 30, jj 31, jj 32, jj 33, jj 34, jj 35, jj 36, jj 37, jj 38, jj 39, jj 40, jj 41, jj 42, jj 43, jj 44, jj 45, jj 46, jj 47, jj 48, jj 49, jj 50, jj 51, jj 52]) ∧ n + j = zs.length ∧ Mem [] w0 w [] ∧ goodL none zs = goodL (prevOf zs j) (zs.drop j)) zs.length
    ⟨0, exj rfl, rfl, hM, rfl⟩ ?_
  clear hM
  rintro n l w ⟨j, ⟨jj, rfl⟩, hnj, hM, hf⟩
  repeat (first | refine gw ?_ | (refine ks ?_; intro w hM))
  refine c_cond rfl (fun hj => ?_) (fun hj => ?_)
  · repeat (first | refine gw ?_ | (refine ks ?_; intro w hM))
    refine kix hR (fun b o p hp hA => ?_)
    rw [Int.toNat_natCast] at hp
    have hbp := hb p (List.mem_of_getElem? hp)
    have hd : zs.drop j = p :: zs.drop (j + 1) := by
      obtain ⟨hlt, he⟩ := List.getElem?_eq_some_iff.1 hp
      rw [List.drop_eq_getElem_cons hlt, he]
    have hps := prevOf_succ hp
    rw [hd, goodL_cons, ← hps] at hf
    obtain ⟨k, v, d⟩ := p
    simp only at hf hbp hps
    refine katr hM hA ?_
    refine kal hM (fun w b4 hM => ?_)
    repeat (first | refine gw ?_ | (refine ks ?_; intro w hM))
    have hM : Mem [] w0 w [.cell b4 (ePr.f (k, v, d)) 70] := hM
    have hbad : ∀ X : Bool, X = false → (X && ((match prevOf zs j with | none => true | some q => ltB q k) && goodL (prevOf zs (j + 1)) (zs.drop (j + 1)))) = false := fun X h => by rw [h]; rfl
    refine kdr hM (by kernel_rfl) (by kernel_rfl) (fun w hM => ?_)
    (try refine gwg ?_)
    try simp only [bst_size]
    by_cases c1 : (k.length : Int) < 1
    · rw [decide_eq_true c1]
      (try refine gwg ?_)
      (intro w hc; have hM := hM.call hc)
      refine c_condb rfl (fun _ => ?_) (fun h => by cases h)
      repeat (first | refine gw ?_ | (refine ks ?_; intro w hM))
      refine out1 rfl ⟨?_, hM.ch⟩
      rw [hf]
      exact congrArg Value.bool (hbad (goodPB (k, v, d)) (by have : k = [] := List.eq_nil_of_length_eq_zero (by omega); subst this; rfl)).symm
    rw [decide_eq_false c1]
    (try refine gwg ?_)
    try simp only [bst_size]
    by_cases c2 : (k.length : Int) > 64
    · rw [decide_eq_true c2]
      (try refine gwg ?_)
      (intro w hc; have hM := hM.call hc)
      refine c_condb rfl (fun _ => ?_) (fun h => by cases h)
      repeat (first | refine gw ?_ | (refine ks ?_; intro w hM))
      refine out1 rfl ⟨?_, hM.ch⟩
      rw [hf]
      exact congrArg Value.bool (hbad (goodPB (k, v, d)) (by simp [goodPB]; omega)).symm
    rw [decide_eq_false c2]
    (try refine gwg ?_)
    try simp only [bst_size]
    by_cases c3 : (v.length : Int) > 256
    · rw [decide_eq_true c3]
      (try refine gwg ?_)
      (intro w hc; have hM := hM.call hc)
      refine c_condb rfl (fun _ => ?_) (fun h => by cases h)
      repeat (first | refine gw ?_ | (refine ks ?_; intro w hM))
      refine out1 rfl ⟨?_, hM.ch⟩
      rw [hf]
      exact congrArg Value.bool (hbad (goodPB (k, v, d)) (by simp [goodPB]; omega)).symm
    rw [decide_eq_false c3]
    (try refine gwg ?_)
    try simp only [bst_size]
    have hg0 : goodPB (k, v, d) = (!d || decide (v = [])) := by
      have q1 : 0 < k.length := by omega
      have q2 : k.length ≤ 64 := by omega
      have q3 : v.length ≤ 256 := by omega
      simp [goodPB, q1, q2, q3]
    by_cases hg : goodPB (k, v, d) = true
    case neg =>
      rw [Bool.not_eq_true] at hg
      rw [hg0] at hg
      cases d with
      | false => cases hg
      | true =>
        have hv : ¬ v = [] := by simpa using hg
        (try refine gwg ?_)
        (try ((with_reducible apply is_gg); first | refine gtg ?_ | refine gfg ?_ | refine gug ?_)); refine wg_val (fun _ _ => r_neqst (a := v) (b := [])) ?_
        rw [decide_eq_false hv]
        (try refine gwg ?_)
        (intro w hc; have hM := hM.call hc)
        refine c_condb rfl (fun _ => ?_) (fun h => by cases h)
        repeat (first | refine gw ?_ | (refine ks ?_; intro w hM))
        refine out1 rfl ⟨?_, hM.ch⟩
        rw [hf]
        exact congrArg Value.bool (hbad (goodPB (k, v, true)) (by rw [hg0]; simp [hv])).symm
    have hg' := hg
    rw [hg0] at hg'
    cases d with
    | false =>
      (try refine gwg ?_)
      by_cases hj0 : j = 0
      · have hq : (match prevOf zs j with | none => true | some q => ltB q k) = true := by
          subst hj0
          rfl
        rw [decide_eq_false (by omega : ¬ (j : Int) > 0)]
        (try refine gwg ?_)
        (intro w hc; have hM := hM.call hc)
        refine c_condb rfl (fun h => by cases h) (fun _ => ?_)
        repeat (first | refine gw ?_ | (refine ks ?_; intro w hM))
        exact x_goes (n - 1) rfl (by omega) ⟨j + 1, exj rfl, by omega, hM.nil, by rw [hf, hg, hq]; rfl⟩
      · rw [decide_eq_true (by omega : (j : Int) > 0)]
        (try refine gwg ?_)
        obtain ⟨q, hq0⟩ : ∃ q, zs[j - 1]? = some q := ⟨_, List.getElem?_eq_getElem (by omega)⟩
        have hpv : prevOf zs j = some q.1 := by
          unfold prevOf
          rw [if_neg hj0, hq0]
          rfl
        refine kixg hR (fun b o q2 hq2 hA2 => ?_) (h1 := by omega)
        rw [show ((j : Int) - 1).toNat = j - 1 by omega, hq0] at hq2
        obtain rfl := Option.some.inj hq2
        (try refine gwg ?_)
        refine wg_val (fun w1 hc1 => r_load_one rfl (by
          obtain ⟨_, _, cs, hcs, hr⟩ := (hA2.mv hM.ch (by simp)).mv hc1 (by simp)
          have hcs : cs = ePr.f q := hcs
          subst hcs
          exact hr 0 _ rfl)) ?_
        (try refine gwg ?_)
        (try ((with_reducible apply is_gg); first | refine gtg ?_ | refine gfg ?_ | refine gug ?_)); refine wg_val (fun _ _ => r_leS (a := k) (b := q.1)) ?_
        cases hlt : ltB q.1 k with
        | false =>
          have hor : (ltB k q.1 || decide (k = q.1)) = true := by
            rcases ltB_total k q.1 with h | h | h
            · simp [h]
            · simp [h]
            · rw [hlt] at h
              cases h
          rw [hor]
          (try refine gwg ?_)
          (intro w hc; have hM := hM.call hc)
          refine c_condb rfl (fun _ => ?_) (fun h => by cases h)
          repeat (first | refine gw ?_ | (refine ks ?_; intro w hM))
          refine out1 rfl ⟨?_, hM.ch⟩
          rw [hf]
          rw [hpv]
          simp [hlt, ev, nth]
        | true =>
          have hor : (ltB k q.1 || decide (k = q.1)) = false := by
            rw [ltB_anti hlt]
            have : ¬ k = q.1 := fun e => by rw [e, ltB_irr] at hlt; cases hlt
            simp [this]
          rw [hor]
          have hq : (match prevOf zs j with | none => true | some q => ltB q k) = true := by
            rw [hpv]
            exact hlt
          (try refine gwg ?_)
          (intro w hc; have hM := hM.call hc)
          refine c_condb rfl (fun h => by cases h) (fun _ => ?_)
          repeat (first | refine gw ?_ | (refine ks ?_; intro w hM))
          exact x_goes (n - 1) rfl (by omega) ⟨j + 1, exj rfl, by omega, hM.nil, by rw [hf, hg, hq]; rfl⟩
    | true =>
      (try refine gwg ?_)
      have hv : v = [] := by simpa using hg'
      (try ((with_reducible apply is_gg); first | refine gtg ?_ | refine gfg ?_ | refine gug ?_)); refine wg_val (fun _ _ => r_neqst (a := v) (b := [])) ?_
      rw [decide_eq_true hv]
      (try refine gwg ?_)
      by_cases hj0 : j = 0
      · have hq : (match prevOf zs j with | none => true | some q => ltB q k) = true := by
          subst hj0
          rfl
        rw [decide_eq_false (by omega : ¬ (j : Int) > 0)]
        (try refine gwg ?_)
        (intro w hc; have hM := hM.call hc)
        refine c_condb rfl (fun h => by cases h) (fun _ => ?_)
        repeat (first | refine gw ?_ | (refine ks ?_; intro w hM))
        exact x_goes (n - 1) rfl (by omega) ⟨j + 1, exj rfl, by omega, hM.nil, by rw [hf, hg, hq]; rfl⟩
      · rw [decide_eq_true (by omega : (j : Int) > 0)]
        (try refine gwg ?_)
        obtain ⟨q, hq0⟩ : ∃ q, zs[j - 1]? = some q := ⟨_, List.getElem?_eq_getElem (by omega)⟩
        have hpv : prevOf zs j = some q.1 := by
          unfold prevOf
          rw [if_neg hj0, hq0]
          rfl
        refine kixg hR (fun b o q2 hq2 hA2 => ?_) (h1 := by omega)
        rw [show ((j : Int) - 1).toNat = j - 1 by omega, hq0] at hq2
        obtain rfl := Option.some.inj hq2
        (try refine gwg ?_)
        refine wg_val (fun w1 hc1 => r_load_one rfl (by
          obtain ⟨_, _, cs, hcs, hr⟩ := (hA2.mv hM.ch (by simp)).mv hc1 (by simp)
          have hcs : cs = ePr.f q := hcs
          subst hcs
          exact hr 0 _ rfl)) ?_
        (try refine gwg ?_)
        (try ((with_reducible apply is_gg); first | refine gtg ?_ | refine gfg ?_ | refine gug ?_)); refine wg_val (fun _ _ => r_leS (a := k) (b := q.1)) ?_
        cases hlt : ltB q.1 k with
        | false =>
          have hor : (ltB k q.1 || decide (k = q.1)) = true := by
            rcases ltB_total k q.1 with h | h | h
            · simp [h]
            · simp [h]
            · rw [hlt] at h
              cases h
          rw [hor]
          (try refine gwg ?_)
          (intro w hc; have hM := hM.call hc)
          refine c_condb rfl (fun _ => ?_) (fun h => by cases h)
          repeat (first | refine gw ?_ | (refine ks ?_; intro w hM))
          refine out1 rfl ⟨?_, hM.ch⟩
          rw [hf]
          rw [hpv]
          simp [hlt, ev, nth]
        | true =>
          have hor : (ltB k q.1 || decide (k = q.1)) = false := by
            rw [ltB_anti hlt]
            have : ¬ k = q.1 := fun e => by rw [e, ltB_irr] at hlt; cases hlt
            simp [this]
          rw [hor]
          have hq : (match prevOf zs j with | none => true | some q => ltB q k) = true := by
            rw [hpv]
            exact hlt
          (try refine gwg ?_)
          (intro w hc; have hM := hM.call hc)
          refine c_condb rfl (fun h => by cases h) (fun _ => ?_)
          repeat (first | refine gw ?_ | (refine ks ?_; intro w hM))
          exact x_goes (n - 1) rfl (by omega) ⟨j + 1, exj rfl, by omega, hM.nil, by rw [hf, hg, hq]; rfl⟩
  · rw [List.drop_eq_nil_of_le (by omega)] at hf
    repeat (first | refine gw ?_ | (refine ks ?_; intro w hM))
    exact out1 rfl ⟨by rw [hf]; rfl, hM.ch⟩
end Go.Proofs.YtoimhmphhffelaaGreatDoor

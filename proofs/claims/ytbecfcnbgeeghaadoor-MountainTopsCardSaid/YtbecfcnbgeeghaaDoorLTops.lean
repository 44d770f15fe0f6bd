/- The law of tops: each peak is the root of the leaves that it is made of. -/
import Derived.Test.YtbecfcnbgeeghaaDoorPeak5
import Derived.Test.YtbecfcnbgeeghaaDoorHalves
set_option linter.unusedVariables false
set_option linter.unusedSimpArgs false
namespace Go.Proofs.YtbecfcnbgeeghaaDoor
open Go Go.RowKit Go.Proofs.E
attribute [local irreducible] Go.wpList Go.Code.wp Go.Proofs.E.exec Go.Proofs.E.wpLexG
theorem bits_sum (u : Nat) : ∀ k, (bitsDown u k).sum = ((u % 2 ^ k : Nat) : Int)
  | 0 => by simp [bitsDown, Nat.mod_one]
  | k + 1 => by
    rw [bitsDown, Nat.mod_pow_succ]
    have ih := bits_sum u k
    have e : ((2 : Int) ^ k) = ((2 ^ k : Nat) : Int) := by simp
    split
    · rename_i h
      rw [tb, decide_eq_true_eq] at h
      rw [List.sum_cons, ih, h, e, Nat.mul_one]
      omega
    · rename_i h
      rw [tb, decide_eq_true_eq] at h
      rw [ih, show u / 2 ^ k % 2 = 0 by omega, Nat.mul_zero, Nat.add_zero]
theorem bits_pos (u : Nat) : ∀ k, ∀ x ∈ bitsDown u k, 1 ≤ x
  | 0, x, h => by simp [bitsDown] at h
  | k + 1, x, h => by
    rw [bitsDown] at h
    split at h
    · rcases List.mem_cons.1 h with rfl | h
      · exact_mod_cast Nat.one_le_two_pow
      · exact bits_pos u k x h
    · exact bits_pos u k x h
theorem sum_nonneg : ∀ l : List Int, (∀ x ∈ l, 1 ≤ x) → 0 ≤ l.sum
  | [], _ => by simp
  | x :: l, h => by
    have h1 := h x (by simp)
    have h2 := sum_nonneg l (fun y hy => h y (by simp [hy]))
    rw [List.sum_cons]
    omega
set_option maxHeartbeats 8000000 in
theorem tops_any (v : Value) (lv : List Hs) (w : World) (hK : Laid w) (hL : LaidB w) (hR : (Ty.enc eH).Rd [] w v lv) :
    Calls Tryd.prog 15 #[v] w (Ret fun u w' => u = .bool true ∧ Ch [] w w') := by
  refine enter [v, undef, undef, undef, undef, undef, undef, undef, undef, undef, undef, undef, undef, undef, undef, undef, undef, undef, undef, undef, undef, undef, undef, undef, undef, undef, undef, undef, undef, undef, undef, undef, undef, undef, undef, undef, undef, undef, undef, undef, undef, undef, undef, undef, undef, undef, undef, undef, undef, undef, undef, undef, undef, undef, undef, undef, undef, undef, undef, undef, undef, undef, undef, undef, undef, undef, undef, undef, undef, undef, undef, undef, undef, undef, undef, undef, undef, undef] Tryd.func15 rfl rfl ?_
  have hle := hR.le
  obtain ⟨A, cap, rfl⟩ := hR.form
  by_cases h50 : 50 < lv.length
  · repeat (first | ((with_reducible apply is_st); refine su ?_) | ((with_reducible apply is_gd); first | refine gt ?_ | refine gf ?_ | refine gu ?_) | ((with_reducible apply is_en); refine en ?_) | (with_reducible first | apply x_then | apply wp_seq | apply c_region | apply wp_block | apply wp_skip | apply wp_exit | apply wp_ret | apply wp_label | apply wp_scope_straight | apply x_ng | apply x_ng_ret | apply x_ng_exit | apply x_then_ret | apply x_then_exit | apply x_block | apply x_block_ret | apply x_block_exit | refine x_block_other (by decide) ?_))
    refine c_cond rfl (fun h => ?_) (fun h => absurd (by omega : (50 : Int) < lv.length) h)
    repeat (first | ((with_reducible apply is_st); refine su ?_) | ((with_reducible apply is_gd); first | refine gt ?_ | refine gf ?_ | refine gu ?_) | ((with_reducible apply is_en); refine en ?_) | (with_reducible first | apply x_then | apply wp_seq | apply c_region | apply wp_block | apply wp_skip | apply wp_exit | apply wp_ret | apply wp_label | apply wp_scope_straight | apply x_ng | apply x_ng_ret | apply x_ng_exit | apply x_then_ret | apply x_then_exit | apply x_block | apply x_block_ret | apply x_block_exit | refine x_block_other (by decide) ?_))
    (try ((with_reducible apply is_gd); first | refine gt ?_ | refine gf ?_ | refine gu ?_)); refine ca (lives_any w) ?_
    rintro _ w2 ⟨rfl, hc2⟩
    repeat (first | ((with_reducible apply is_st); refine su ?_) | ((with_reducible apply is_gd); first | refine gt ?_ | refine gf ?_ | refine gu ?_) | ((with_reducible apply is_en); refine en ?_) | (with_reducible first | apply x_then | apply wp_seq | apply c_region | apply wp_block | apply wp_skip | apply wp_exit | apply wp_ret | apply wp_label | apply wp_scope_straight | apply x_ng | apply x_ng_ret | apply x_ng_exit | apply x_then_ret | apply x_then_exit | apply x_block | apply x_block_ret | apply x_block_exit | refine x_block_other (by decide) ?_))
    exact out1 rfl ⟨rfl, hc2⟩
  · repeat (first | ((with_reducible apply is_st); refine su ?_) | ((with_reducible apply is_gd); first | refine gt ?_ | refine gf ?_ | refine gu ?_) | ((with_reducible apply is_en); refine en ?_) | (with_reducible first | apply x_then | apply wp_seq | apply c_region | apply wp_block | apply wp_skip | apply wp_exit | apply wp_ret | apply wp_label | apply wp_scope_straight | apply x_ng | apply x_ng_ret | apply x_ng_exit | apply x_then_ret | apply x_then_exit | apply x_block | apply x_block_ret | apply x_block_exit | refine x_block_other (by decide) ?_))
    refine c_cond rfl (fun h => absurd h (by omega)) (fun h => ?_)
    repeat (first | ((with_reducible apply is_st); refine su ?_) | ((with_reducible apply is_gd); first | refine gt ?_ | refine gf ?_ | refine gu ?_) | ((with_reducible apply is_en); refine en ?_) | (with_reducible first | apply x_then | apply wp_seq | apply c_region | apply wp_block | apply wp_skip | apply wp_exit | apply wp_ret | apply wp_label | apply wp_scope_straight | apply x_ng | apply x_ng_ret | apply x_ng_exit | apply x_then_ret | apply x_then_exit | apply x_block | apply x_block_ret | apply x_block_exit | refine x_block_other (by decide) ?_))
    (try ((with_reducible apply is_gd); first | refine gt ?_ | refine gf ?_ | refine gu ?_)); refine ca (pof_any _ lv w hK hL hR (by omega)) ?_
    rintro _ w1 ⟨hc1, vp, rfl, hP⟩
    have hP := hP [] (by simp)
    have hpl := pkH_len lv
    have hbl : popN lv.length ≤ 63 := bitsDown_len lv.length 63
    obtain ⟨Ap, cp, rfl⟩ := hP.form
    repeat (first | ((with_reducible apply is_st); refine su ?_) | ((with_reducible apply is_gd); first | refine gt ?_ | refine gf ?_ | refine gu ?_) | ((with_reducible apply is_en); refine en ?_) | (with_reducible first | apply x_then | apply wp_seq | apply c_region | apply wp_block | apply wp_skip | apply wp_exit | apply wp_ret | apply wp_label | apply wp_scope_straight | apply x_ng | apply x_ng_ret | apply x_ng_exit | apply x_then_ret | apply x_then_exit | apply x_block | apply x_block_ret | apply x_block_exit | refine x_block_other (by decide) ?_))
    refine wl_alloc (fun w2 b3 hb3 => ?_)
    have e3 := hb3.at_
    refine stbw (n := 2) (vs := [.int .i64 (lv.length : Int), .slice Ap (pkH lv).length cp]) hb3.blk rfl rfl rfl rfl one_pk (fun w3 hB3 hch3 hs3 => ?_)
    have hc13 : Ch [] w1 w3 := hb3.ch.own hch3 (by omega)
    have hP := hP.ch hc13
    have hc3 : Ch [] w w3 := hc1.then hc13
    repeat (first | ((with_reducible apply is_st); refine su ?_) | ((with_reducible apply is_gd); first | refine gt ?_ | refine gf ?_ | refine gu ?_) | ((with_reducible apply is_en); refine en ?_) | (with_reducible first | apply x_then | apply wp_seq | apply c_region | apply wp_block | apply wp_skip | apply wp_exit | apply wp_ret | apply wp_label | apply wp_scope_straight | apply x_ng | apply x_ng_ret | apply x_ng_exit | apply x_then_ret | apply x_then_exit | apply x_block | apply x_block_ret | apply x_block_exit | refine x_block_other (by decide) ?_))
    (try ((with_reducible apply is_gd); first | refine gt ?_ | refine gf ?_ | refine gu ?_)); refine ca (bits_any (lv.length : Int) (by omega) w3) ?_
    rintro vb w4 ⟨hc4, hO⟩
    rw [Int.toNat_natCast] at hO
    have hB3 := hB3.ch hc4 (by simp)
    have hP := hP.ch hc4
    have hc4 : Ch [] w w4 := hc3.then hc4
    have hb63 := bitsDown_len lv.length 63
    have hbr := hO.rd (S := []) (by simp) (by omega)
    have hblen : (bitsDown lv.length 63).length = popN lv.length := rfl
    obtain ⟨Ab, cb, rfl⟩ := hbr.form
    have hgood : goodZ (lv.length : Int) (pkH lv).length = true := by
      have := popN_small (n := lv.length) (by omega)
      rw [hpl]
      unfold okZ at this
      exact (Bool.and_eq_true _ _ ▸ this).1
    have hsum := bits_sum lv.length 63
    rw [Nat.mod_eq_of_lt (by omega)] at hsum
    have hpos := bits_pos lv.length 63
    have hpk : pkH lv = pkL nodeH emptyH (bitsDown lv.length 63) lv := rfl
    generalize bitsDown lv.length 63 = bs at *
    repeat (first | ((with_reducible apply is_st); refine su ?_) | ((with_reducible apply is_gd); first | refine gt ?_ | refine gf ?_ | refine gu ?_) | ((with_reducible apply is_en); refine en ?_) | (with_reducible first | apply x_then | apply wp_seq | apply c_region | apply wp_block | apply wp_skip | apply wp_exit | apply wp_ret | apply wp_label | apply wp_scope_straight | apply x_ng | apply x_ng_ret | apply x_ng_exit | apply x_then_ret | apply x_then_exit | apply x_block | apply x_block_ret | apply x_block_exit | refine x_block_other (by decide) ?_))
    refine ldb hB3 rfl rfl ?_
    repeat (first | ((with_reducible apply is_st); refine su ?_) | ((with_reducible apply is_gd); first | refine gt ?_ | refine gf ?_ | refine gu ?_) | ((with_reducible apply is_en); refine en ?_) | (with_reducible first | apply x_then | apply wp_seq | apply c_region | apply wp_block | apply wp_skip | apply wp_exit | apply wp_ret | apply wp_label | apply wp_scope_straight | apply x_ng | apply x_ng_ret | apply x_ng_exit | apply x_then_ret | apply x_then_exit | apply x_block | apply x_block_ret | apply x_block_exit | refine x_block_other (by decide) ?_))
    refine ldb hB3 rfl rfl ?_
    repeat (first | ((with_reducible apply is_st); refine su ?_) | ((with_reducible apply is_gd); first | refine gt ?_ | refine gf ?_ | refine gu ?_) | ((with_reducible apply is_en); refine en ?_) | (with_reducible first | apply x_then | apply wp_seq | apply c_region | apply wp_block | apply wp_skip | apply wp_exit | apply wp_ret | apply wp_label | apply wp_scope_straight | apply x_ng | apply x_ng_ret | apply x_ng_exit | apply x_then_ret | apply x_then_exit | apply x_block | apply x_block_ret | apply x_block_exit | refine x_block_other (by decide) ?_))
    (try ((with_reducible apply is_gd); refine gt ?_))
    refine ldbr (n := 2) hB3 rfl rfl rfl ?_
    (try ((with_reducible apply is_gd); first | refine gt ?_ | refine gf ?_ | refine gu ?_)); refine ca (good_any (lv.length : Int) (.slice Ap (pkH lv).length cp) (pkH lv) w4 hP) ?_
    rintro _ w5 ⟨rfl, hc5⟩
    rw [hgood]
    have hB3 := hB3.ch hc5 (by simp)
    have hP := hP.ch hc5
    have hbr := hbr.ch hc5
    have hc5 : Ch [] w w5 := hc4.then hc5
    repeat (first | ((with_reducible apply is_st); refine su ?_) | ((with_reducible apply is_gd); first | refine gt ?_ | refine gf ?_ | refine gu ?_) | ((with_reducible apply is_en); refine en ?_) | (with_reducible first | apply x_then | apply wp_seq | apply c_region | apply wp_block | apply wp_skip | apply wp_exit | apply wp_ret | apply wp_label | apply wp_scope_straight | apply x_ng | apply x_ng_ret | apply x_ng_exit | apply x_then_ret | apply x_then_exit | apply x_block | apply x_block_ret | apply x_block_exit | refine x_block_other (by decide) ?_))
    refine c_condb rfl (fun h => by cases h) (fun _ => ?_)
    repeat (first | ((with_reducible apply is_st); refine su ?_) | ((with_reducible apply is_gd); first | refine gt ?_ | refine gf ?_ | refine gu ?_) | ((with_reducible apply is_en); refine en ?_) | (with_reducible first | apply x_then | apply wp_seq | apply c_region | apply wp_block | apply wp_skip | apply wp_exit | apply wp_ret | apply wp_label | apply wp_scope_straight | apply x_ng | apply x_ng_ret | apply x_ng_exit | apply x_then_ret | apply x_then_exit | apply x_block | apply x_block_ret | apply x_block_exit | refine x_block_other (by decide) ?_))
    
    refine c_loop (fun k l w' => ∃ (i at_ : Nat), (∃ jj : Nat → Value, l = [.slice A lv.length cap, jj 1, jj 2, .pointer (some ⟨b3, 0, none⟩), .slice Ab bs.length cb, .int .i64 (at_ : Int), jj 6, jj 7, jj 8, jj 9, jj 10, jj 11, jj 12, jj 13, jj 14, jj 15, jj 16, jj 17, jj 18, jj 19, jj 20, jj 21, jj 22, jj 23, jj 24, jj 25, jj 26, jj 27, jj 28, jj 29, jj 30, jj 31, jj 32, jj 33, jj 34, .slice Ab bs.length cb, .int .i64 (bs.length : Int), .int .i64 (i : Int), jj 38, jj 39, jj 40, jj 41, jj 42, jj 43, jj 44, jj 45, jj 46, jj 47, jj 48, jj 49, jj 50, jj 51, jj 52, jj 53, jj 54, jj 55, jj 56, jj 57, jj 58, jj 59, jj 60, jj 61, jj 62, jj 63, jj 64, jj 65, jj 66, jj 67, jj 68, jj 69, jj 70, jj 71, jj 72, jj 73, jj 74, jj 75, jj 76, jj 77]) ∧ k + i = bs.length ∧ at_ ≤ lv.length ∧ (bs.drop i).sum = (lv.length : Int) - at_ ∧ (pkH lv).drop i = pkL nodeH emptyH (bs.drop i) (lv.drop at_) ∧ Ch [] w w' ∧ Ch [] w5 w') bs.length
      ⟨0, 0, exj rfl, rfl, by omega, by simpa using hsum, by simpa using hpk, hc5, Ch.refl _ _⟩ ?_
    rintro k l w6 ⟨i, a, ⟨jj, rfl⟩, hki, ha, hrest, hdrop, hc6, hc56⟩
    have hB3 := hB3.ch hc56 (by simp)
    have hP := hP.ch hc56
    have hbr := hbr.ch hc56
    repeat (first | ((with_reducible apply is_st); refine su ?_) | ((with_reducible apply is_gd); first | refine gt ?_ | refine gf ?_ | refine gu ?_) | ((with_reducible apply is_en); refine en ?_) | (with_reducible first | apply x_then | apply wp_seq | apply c_region | apply wp_block | apply wp_skip | apply wp_exit | apply wp_ret | apply wp_label | apply wp_scope_straight | apply x_ng | apply x_ng_ret | apply x_ng_exit | apply x_then_ret | apply x_then_exit | apply x_block | apply x_block_ret | apply x_block_exit | refine x_block_other (by decide) ?_))
    refine c_cond rfl (fun hi => ?_) (fun hi => ?_)
    · repeat (first | ((with_reducible apply is_st); refine su ?_) | ((with_reducible apply is_gd); first | refine gt ?_ | refine gf ?_ | refine gu ?_) | ((with_reducible apply is_en); refine en ?_) | (with_reducible first | apply x_then | apply wp_seq | apply c_region | apply wp_block | apply wp_skip | apply wp_exit | apply wp_ret | apply wp_label | apply wp_scope_straight | apply x_ng | apply x_ng_ret | apply x_ng_exit | apply x_then_ret | apply x_then_exit | apply x_block | apply x_block_ret | apply x_block_exit | refine x_block_other (by decide) ?_))
      (try ((with_reducible apply is_gd); first | refine gt ?_ | refine gf ?_ | refine gu ?_)); refine ix hbr (fun b5 o5 x5 hx5 hA5 => ?_)
      rw [Int.toNat_natCast] at hx5
      (try ((with_reducible apply is_gd); first | refine gt ?_ | refine gf ?_ | refine gu ?_)); refine ld hA5 ?_
      have hil : i < bs.length := by omega
      have hx5' : bs[i] = x5 := by
        rw [List.getElem?_eq_getElem hil] at hx5
        exact Option.some.inj hx5
      have hx1 : 1 ≤ x5 := hpos x5 (hx5' ▸ List.getElem_mem hil)
      rw [List.drop_eq_getElem_cons hil, hx5', List.sum_cons] at hrest
      rw [List.drop_eq_getElem_cons hil, hx5', pkL] at hdrop
      have hr0 := sum_nonneg (bs.drop (i + 1)) (fun y hy => hpos y (List.mem_of_mem_drop hy))
      obtain ⟨n, rfl⟩ := Int.eq_ofNat_of_zero_le (by omega : 0 ≤ x5)
      rw [Int.toNat_natCast] at hdrop
      have htop : (pkH lv)[i]? = some (rootH ((lv.drop a).take n)) := by
        have := congrArg (fun l => l[0]?) hdrop
        simpa [rootH] using this
      have hdrop2 : (pkH lv).drop (i + 1) = pkL nodeH emptyH (bs.drop (i + 1)) ((lv.drop a).drop n) := by
        have := congrArg (fun l => l.drop 1) hdrop
        simpa [List.drop_drop, Nat.add_comm] using this
      repeat (first | ((with_reducible apply is_st); refine su ?_) | ((with_reducible apply is_gd); first | refine gt ?_ | refine gf ?_ | refine gu ?_) | ((with_reducible apply is_en); refine en ?_) | (with_reducible first | apply x_then | apply wp_seq | apply c_region | apply wp_block | apply wp_skip | apply wp_exit | apply wp_ret | apply wp_label | apply wp_scope_straight | apply x_ng | apply x_ng_ret | apply x_ng_exit | apply x_then_ret | apply x_then_exit | apply x_block | apply x_block_ret | apply x_block_exit | refine x_block_other (by decide) ?_))
      refine c_draw [] (by kernel_rfl) (by kernel_rfl) (fun w7 hc7 hs7 => ?_)
      have hK7 := (hK.ch hc6 (by simp)).ch hc7 (by simp)
      repeat (first | ((with_reducible apply is_sg); refine sgu ?_) | ((with_reducible apply is_gg); first | refine gtg ?_ | refine gfg ?_ | refine gug ?_) | ((with_reducible apply is_eg); refine eg ?_))
      refine ldbg (hB3.ch hc7 (by simp)) (by simp) rfl rfl ?_
      repeat (first | ((with_reducible apply is_sg); refine sgu ?_) | ((with_reducible apply is_gg); first | refine gtg ?_ | refine gfg ?_ | refine gug ?_) | ((with_reducible apply is_eg); refine eg ?_))
      (try ((with_reducible apply is_gg); first | refine gtg ?_ | refine gfg ?_ | refine gug ?_)); refine ixg (hP.ch hc7) (fun b6 o6 x6 hx6 hA6 => ?_)
      rw [Int.toNat_natCast, htop] at hx6
      obtain rfl := Option.some.inj hx6
      (try ((with_reducible apply is_gg); first | refine gtg ?_ | refine gfg ?_ | refine gug ?_)); refine ldrg hA6 ?_
      repeat (first | ((with_reducible apply is_sg); refine sgu ?_) | ((with_reducible apply is_gg); first | refine gtg ?_ | refine gfg ?_ | refine gug ?_) | ((with_reducible apply is_eg); refine eg ?_))
      (try ((with_reducible apply is_gg); refine gtg ?_))
      refine wg_cut_lh rfl ((hR.ch hc6).ch hc7) rfl rfl rfl (by omega) (by omega) (by omega) (fun v1 hV1 => ?_)
      rw [show ((a : Int) + (n : Int)).toNat = a + n by omega, Int.toNat_natCast, List.drop_take, Nat.add_sub_cancel_left] at hV1
      (try ((with_reducible apply is_gg); first | refine gtg ?_ | refine gfg ?_ | refine gug ?_)); refine cag (fun w8 hc8 => root_any v1 _ w8 (hK7.ch hc8 (by simp)) (hV1.ch hc8) (by rw [List.length_take, List.length_drop]; omega)) ?_
      (try ((with_reducible apply is_gg); refine gtg ?_))
      generalize rootH ((lv.drop a).take n) = rt
      refine wg_val (fun _ _ => r_neq8 (n := 32) (a := rt.1) (b := rt.1) Tryd.eqGuardType26 rfl rfl rt.2 rt.2) ?_
      rw [decide_eq_true rfl]
      repeat (first | ((with_reducible apply is_sg); refine sgu ?_) | ((with_reducible apply is_gg); first | refine gtg ?_ | refine gfg ?_ | refine gug ?_) | ((with_reducible apply is_eg); refine eg ?_))
      intro w8 hc8
      repeat (first | ((with_reducible apply is_st); refine su ?_) | ((with_reducible apply is_gd); first | refine gt ?_ | refine gf ?_ | refine gu ?_) | ((with_reducible apply is_en); refine en ?_) | (with_reducible first | apply x_then | apply wp_seq | apply c_region | apply wp_block | apply wp_skip | apply wp_exit | apply wp_ret | apply wp_label | apply wp_scope_straight | apply x_ng | apply x_ng_ret | apply x_ng_exit | apply x_then_ret | apply x_then_exit | apply x_block | apply x_block_ret | apply x_block_exit | refine x_block_other (by decide) ?_))
      refine c_condb rfl (fun h => by cases h) (fun _ => ?_)
      repeat (first | ((with_reducible apply is_st); refine su ?_) | ((with_reducible apply is_gd); first | refine gt ?_ | refine gf ?_ | refine gu ?_) | ((with_reducible apply is_en); refine en ?_) | (with_reducible first | apply x_then | apply wp_seq | apply c_region | apply wp_block | apply wp_skip | apply wp_exit | apply wp_ret | apply wp_label | apply wp_scope_straight | apply x_ng | apply x_ng_ret | apply x_ng_exit | apply x_then_ret | apply x_then_exit | apply x_block | apply x_block_ret | apply x_block_exit | refine x_block_other (by decide) ?_))
      refine x_goes (k - 1) rfl (by omega) ⟨i + 1, a + n, exj rfl, by omega, by omega, by omega, by rw [hdrop2, List.drop_drop], (hc6.then hc7).then hc8, (hc56.then hc7).then hc8⟩
    · have hil : bs.length ≤ i := by omega
      rw [List.drop_of_length_le hil] at hrest
      have hal : a = lv.length := by
        simp at hrest
        omega
      subst hal
      repeat (first | ((with_reducible apply is_st); refine su ?_) | ((with_reducible apply is_gd); first | refine gt ?_ | refine gf ?_ | refine gu ?_) | ((with_reducible apply is_en); refine en ?_) | (with_reducible first | apply x_then | apply wp_seq | apply c_region | apply wp_block | apply wp_skip | apply wp_exit | apply wp_ret | apply wp_label | apply wp_scope_straight | apply x_ng | apply x_ng_ret | apply x_ng_exit | apply x_then_ret | apply x_then_exit | apply x_block | apply x_block_ret | apply x_block_exit | refine x_block_other (by decide) ?_))
      (try ((with_reducible apply is_gd); first | refine gt ?_ | refine gf ?_ | refine gu ?_)); refine ca (lives_any w6) ?_
      rintro _ w7 ⟨rfl, hc7⟩
      repeat (first | ((with_reducible apply is_st); refine su ?_) | ((with_reducible apply is_gd); first | refine gt ?_ | refine gf ?_ | refine gu ?_) | ((with_reducible apply is_en); refine en ?_) | (with_reducible first | apply x_then | apply wp_seq | apply c_region | apply wp_block | apply wp_skip | apply wp_exit | apply wp_ret | apply wp_label | apply wp_scope_straight | apply x_ng | apply x_ng_ret | apply x_ng_exit | apply x_then_ret | apply x_then_exit | apply x_block | apply x_block_ret | apply x_block_exit | refine x_block_other (by decide) ?_))
      exact out1 rfl ⟨rfl, hc6.then hc7⟩
end Go.Proofs.YtbecfcnbgeeghaaDoor

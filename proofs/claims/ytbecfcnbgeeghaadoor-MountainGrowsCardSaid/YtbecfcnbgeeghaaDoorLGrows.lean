/- The law of growth: leaf by leaf. -/
import Derived.Test.YtbecfcnbgeeghaaDoorPeak5
import Derived.Test.YtbecfcnbgeeghaaDoorHalves
set_option linter.unusedVariables false
set_option linter.unusedSimpArgs false
namespace Go.Proofs.YtbecfcnbgeeghaaDoor
open Go Go.RowKit Go.Proofs.E
attribute [local irreducible] Go.wpList Go.Code.wp Go.Proofs.E.exec Go.Proofs.E.wpLexG
theorem rootPk_pk {l : List Hs} {n : Int} (hn : n = (l.length : Int)) (h : l.length ≤ 60) : rootPk n (pkH l) = rootH l := by
  subst hn
  have hg := popN_small (n := l.length) h
  rw [← pkH_len] at hg
  unfold okZ at hg
  have hg := (Bool.and_eq_true _ _ ▸ hg).1
  unfold rootPk
  rw [hg]
  by_cases h0 : l = []
  · subst h0
    rfl
  · have : ¬ (l.length : Int) = 0 := fun e => h0 (List.eq_nil_of_length_eq_zero (by omega))
    rw [decide_eq_false this]
    exact topG_pk l.length l rfl h0 (by omega)
theorem good_pk {l : List Hs} {n : Int} (hn : n = (l.length : Int)) (h : l.length ≤ 60) : goodZ n (pkH l).length = true := by
  subst hn
  have hg := popN_small (n := l.length) h
  rw [← pkH_len] at hg
  unfold okZ at hg
  exact (Bool.and_eq_true _ _ ▸ hg).1
set_option maxHeartbeats 8000000 in
theorem grows_any (v : Value) (lv : List Hs) (w : World) (hK : Laid w) (hL : LaidB w) (hR : (Ty.enc eH).Rd [] w v lv) :
    Calls Tryd.prog 17 #[v] w (Ret fun u w' => u = .bool true ∧ Ch [] w w') := by
  refine enter [v, undef, undef, undef, undef, undef, undef, undef, undef, undef, undef, undef, undef, undef, undef, undef, undef, undef, undef, undef, undef, undef, undef, undef, undef, undef, undef, undef, undef, undef, undef, undef, undef, undef, undef, undef, undef, undef, undef, undef, undef, undef, undef, undef, undef, undef, undef, undef, undef, undef, undef, undef, undef, undef, undef, undef, undef, undef, undef, undef, undef, undef, undef, undef, undef, undef, undef, undef, undef, undef, undef, undef] Tryd.func17 rfl rfl ?_
  have hle := hR.le
  obtain ⟨A, cap, rfl⟩ := hR.form
  by_cases h50 : 50 < lv.length
  · repeat (first | ((with_reducible apply is_st); refine su ?_) | ((with_reducible apply is_gd); first | refine gt ?_ | refine gf ?_ | refine gu ?_) | ((with_reducible apply is_en); refine en ?_) | (with_reducible first | apply x_then | apply wp_seq | apply c_region | apply wp_block | apply wp_skip | apply wp_exit | apply wp_ret | apply wp_label | apply wp_scope_straight | apply x_ng | apply x_ng_ret | apply x_ng_exit | apply x_then_ret | apply x_then_exit | apply x_block | apply x_block_ret | apply x_block_exit | refine x_block_other (by decide) ?_))
    refine c_cond rfl (fun h => ?_) (fun h => absurd (by omega : (50 : Int) < lv.length) h)
    repeat (first | ((with_reducible apply is_st); refine su ?_) | ((with_reducible apply is_gd); first | refine gt ?_ | refine gf ?_ | refine gu ?_) | ((with_reducible apply is_en); refine en ?_) | (with_reducible first | apply x_then | apply wp_seq | apply c_region | apply wp_block | apply wp_skip | apply wp_exit | apply wp_ret | apply wp_label | apply wp_scope_straight | apply x_ng | apply x_ng_ret | apply x_ng_exit | apply x_then_ret | apply x_then_exit | apply x_block | apply x_block_ret | apply x_block_exit | refine x_block_other (by decide) ?_))
    (try ((with_reducible apply is_gd); first | refine gt ?_ | refine gf ?_ | refine gu ?_)); refine ca (lives_any w) ?_
    rintro _ w2 ⟨rfl, hc2⟩
    repeat (first | ((with_reducible apply is_st); refine su ?_) | ((with_reducible apply is_gd); first | refine gt ?_ | refine gf ?_ | refine gu ?_) | ((with_reducible apply is_en); refine en ?_) | (with_reducible first | apply x_then | apply wp_seq | apply c_region | apply wp_block | apply wp_skip | apply wp_exit | apply wp_ret | apply wp_label | apply wp_scope_straight | apply x_ng | apply x_ng_ret | apply x_ng_exit | apply x_then_ret | apply x_then_exit | apply x_block | apply x_block_ret | apply x_block_exit | refine x_block_other (by decide) ?_))
    exact out1 rfl ⟨rfl, hc2⟩
  · repeat (first | ((with_reducible apply is_st); refine su ?_) | ((with_reducible apply is_gd); first | refine gt ?_ | refine gf ?_ | refine gu ?_) | ((with_reducible apply is_en); refine en ?_) | (with_reducible first | apply x_then | apply wp_seq | apply c_region | apply wp_block | apply wp_skip | apply wp_exit | apply wp_ret | apply wp_label | apply wp_scope_straight | apply x_ng | apply x_ng_ret | apply x_ng_exit | apply x_then_ret | apply x_then_exit | apply x_block | apply x_block_ret | apply x_block_exit | refine x_block_other (by decide) ?_))
    refine c_cond rfl (fun h => absurd h (by omega)) (fun h => ?_)
    repeat (first | ((with_reducible apply is_st); refine su ?_) | ((with_reducible apply is_gd); first | refine gt ?_ | refine gf ?_ | refine gu ?_) | ((with_reducible apply is_en); refine en ?_) | (with_reducible first | apply x_then | apply wp_seq | apply c_region | apply wp_block | apply wp_skip | apply wp_exit | apply wp_ret | apply wp_label | apply wp_scope_straight | apply x_ng | apply x_ng_ret | apply x_ng_exit | apply x_then_ret | apply x_then_exit | apply x_block | apply x_block_ret | apply x_block_exit | refine x_block_other (by decide) ?_))
    (try ((with_reducible apply is_gd); first | refine gt ?_ | refine gf ?_ | refine gu ?_)); refine wl_val (r_build0 Tryd.underlying51 rfl rfl) ?_
    refine wl_alloc (fun w1 b3 hb3 => ?_)
    have e3 := hb3.at_
    have s3 := hb3.size
    refine stbw (n := 2) (vs := [.int .i64 0, .slice none 0 0]) hb3.blk rfl rfl rfl rfl one_pk (fun w2 hB3 hch2 hs2 => ?_)
    have hc2 : Ch [] w w2 := hb3.ch.own hch2 (by omega)
    repeat (first | ((with_reducible apply is_st); refine su ?_) | ((with_reducible apply is_gd); first | refine gt ?_ | refine gf ?_ | refine gu ?_) | ((with_reducible apply is_en); refine en ?_) | (with_reducible first | apply x_then | apply wp_seq | apply c_region | apply wp_block | apply wp_skip | apply wp_exit | apply wp_ret | apply wp_label | apply wp_scope_straight | apply x_ng | apply x_ng_ret | apply x_ng_exit | apply x_then_ret | apply x_then_exit | apply x_block | apply x_block_ret | apply x_block_exit | refine x_block_other (by decide) ?_))
    
    refine c_loop (fun k l w' => ∃ (i : Nat) (vp : Value), (∃ jj : Nat → Value, l = [.slice A lv.length cap, jj 1, jj 2, .pointer (some ⟨b3, 0, none⟩), jj 4, jj 5, jj 6, jj 7, jj 8, jj 9, jj 10, jj 11, jj 12, jj 13, .slice A lv.length cap, .int .i64 (lv.length : Int), .int .i64 (i : Int), jj 17, jj 18, jj 19, jj 20, jj 21, jj 22, jj 23, jj 24, jj 25, jj 26, jj 27, jj 28, jj 29, jj 30, jj 31, jj 32, jj 33, jj 34, jj 35, jj 36, jj 37, jj 38, jj 39, jj 40, jj 41, jj 42, jj 43, jj 44, jj 45, jj 46, jj 47, jj 48, jj 49, jj 50, jj 51, jj 52, jj 53, jj 54, jj 55, jj 56, jj 57, jj 58, jj 59, jj 60, jj 61, jj 62, jj 63, jj 64, jj 65, jj 66, jj 67, jj 68, jj 69, jj 70, jj 71]) ∧ k + i = lv.length ∧ Ch [] w w' ∧ w2.heap.size ≤ w'.heap.size ∧ Blk w' b3 [.int .i64 (i : Int), vp] 51 ∧ ∀ S, (∀ x ∈ S, x < w2.heap.size) → (Ty.enc eH).Rd S w' vp (pkH (lv.take i))) lv.length
      ⟨0, _, exj rfl, rfl, hc2, Nat.le_refl _, hB3, fun S hS => by rw [List.take_zero, show pkH [] = [] from pkG_nil]; exact Ty.Rd.nil _ _ _ _ _⟩ ?_
    rintro k l w3 ⟨i, vp, ⟨jj, rfl⟩, hki, hc3, hz3, hB3, hP⟩
    have hpl := pkH_len (lv.take i)
    have hpop : popN (lv.take i).length ≤ 63 := bitsDown_len _ 63
    obtain ⟨Ap, cp, rfl⟩ := (hP [] (by simp)).form
    repeat (first | ((with_reducible apply is_st); refine su ?_) | ((with_reducible apply is_gd); first | refine gt ?_ | refine gf ?_ | refine gu ?_) | ((with_reducible apply is_en); refine en ?_) | (with_reducible first | apply x_then | apply wp_seq | apply c_region | apply wp_block | apply wp_skip | apply wp_exit | apply wp_ret | apply wp_label | apply wp_scope_straight | apply x_ng | apply x_ng_ret | apply x_ng_exit | apply x_then_ret | apply x_then_exit | apply x_block | apply x_block_ret | apply x_block_exit | refine x_block_other (by decide) ?_))
    refine c_cond rfl (fun hi => ?_) (fun hi => ?_)
    · have hil : (lv.take i).length = i := by rw [List.length_take]; omega
      repeat (first | ((with_reducible apply is_st); refine su ?_) | ((with_reducible apply is_gd); first | refine gt ?_ | refine gf ?_ | refine gu ?_) | ((with_reducible apply is_en); refine en ?_) | (with_reducible first | apply x_then | apply wp_seq | apply c_region | apply wp_block | apply wp_skip | apply wp_exit | apply wp_ret | apply wp_label | apply wp_scope_straight | apply x_ng | apply x_ng_ret | apply x_ng_exit | apply x_then_ret | apply x_then_exit | apply x_block | apply x_block_ret | apply x_block_exit | refine x_block_other (by decide) ?_))
      (try ((with_reducible apply is_gd); first | refine gt ?_ | refine gf ?_ | refine gu ?_)); refine ix (hR.ch hc3) (fun b5 o5 x5 hx5 hA5 => ?_)
      rw [Int.toNat_natCast] at hx5
      (try ((with_reducible apply is_gd); first | refine gt ?_ | refine gf ?_ | refine gu ?_)); refine ldr hA5 ?_
      repeat (first | ((with_reducible apply is_st); refine su ?_) | ((with_reducible apply is_gd); first | refine gt ?_ | refine gf ?_ | refine gu ?_) | ((with_reducible apply is_en); refine en ?_) | (with_reducible first | apply x_then | apply wp_seq | apply c_region | apply wp_block | apply wp_skip | apply wp_exit | apply wp_ret | apply wp_label | apply wp_scope_straight | apply x_ng | apply x_ng_ret | apply x_ng_exit | apply x_then_ret | apply x_then_exit | apply x_block | apply x_block_ret | apply x_block_exit | refine x_block_other (by decide) ?_))
      refine wl_alloc (fun w4 b5' hb5 => ?_)
      have e5 := hb5.at_
      repeat (first | ((with_reducible apply is_st); refine su ?_) | ((with_reducible apply is_gd); first | refine gt ?_ | refine gf ?_ | refine gu ?_) | ((with_reducible apply is_en); refine en ?_) | (with_reducible first | apply x_then | apply wp_seq | apply c_region | apply wp_block | apply wp_skip | apply wp_exit | apply wp_ret | apply wp_label | apply wp_scope_straight | apply x_ng | apply x_ng_ret | apply x_ng_exit | apply x_then_ret | apply x_then_exit | apply x_block | apply x_block_ret | apply x_block_exit | refine x_block_other (by decide) ?_))
      refine stbw (n := 32) (cs := (List.replicate 32 (0 : UInt8)).map u8v) hb5.blk rfl rfl (hv_len x5.2) (by simp) one_u8 (fun w5 hB5 hch5 hs5 => ?_)
      have hc35 : Ch [] w3 w5 := hb5.ch.own hch5 (by omega)
      have hB3 := hB3.ch hc35 (by simp)
      have hP5 : ∀ S, (∀ x ∈ S, x < w2.heap.size) → (Ty.enc eH).Rd S w5 (.slice Ap (pkH (lv.take i)).length cp) (pkH (lv.take i)) := fun S hS => (hP S hS).ch hc35.some
      have z35 := hc35.size
      repeat (first | ((with_reducible apply is_st); refine su ?_) | ((with_reducible apply is_gd); first | refine gt ?_ | refine gf ?_ | refine gu ?_) | ((with_reducible apply is_en); refine en ?_) | (with_reducible first | apply x_then | apply wp_seq | apply c_region | apply wp_block | apply wp_skip | apply wp_exit | apply wp_ret | apply wp_label | apply wp_scope_straight | apply x_ng | apply x_ng_ret | apply x_ng_exit | apply x_then_ret | apply x_then_exit | apply x_block | apply x_block_ret | apply x_block_exit | refine x_block_other (by decide) ?_))
      refine wl_buildSlice (parts := []) (vs := []) rfl rfl (by simp) (by omega) (fun w6 ba hba => ?_)
      have hB3 := hB3.ch hba.ch (by simp)
      repeat (first | ((with_reducible apply is_st); refine su ?_) | ((with_reducible apply is_gd); first | refine gt ?_ | refine gf ?_ | refine gu ?_) | ((with_reducible apply is_en); refine en ?_) | (with_reducible first | apply x_then | apply wp_seq | apply c_region | apply wp_block | apply wp_skip | apply wp_exit | apply wp_ret | apply wp_label | apply wp_scope_straight | apply x_ng | apply x_ng_ret | apply x_ng_exit | apply x_then_ret | apply x_then_exit | apply x_block | apply x_block_ret | apply x_block_exit | refine x_block_other (by decide) ?_))
      refine ldb hB3 rfl rfl ?_
      refine wl_append_e (en := eH) (n := 32) (base := w3.heap.size) rfl rfl rfl hba.blk (by rw [hba.at_]; omega) rfl ((hP5 [] (by simp)).ch hba.ch) (by omega) (by omega) (fun vw w7 hOw hch7 => ?_)
      have hc57 : Ch [] w5 w7 := hba.ch.then hch7
      have hB3 := hB3.ch hch7 (by simp)
      have hB5 := hB5.ch hc57 (by simp)
      have hP7 := fun S hS => (hP5 S hS).ch (hc57.some (S := S))
      have hc7 : Ch [] w w7 := (hc3.then hc35).then hc57
      have z57 := hc57.size
      have hW := hOw.rd (S := []) (by simp) (by omega)
      obtain ⟨Aw, cw, rfl⟩ := hW.form
      repeat (first | ((with_reducible apply is_st); refine su ?_) | ((with_reducible apply is_gd); first | refine gt ?_ | refine gf ?_ | refine gu ?_) | ((with_reducible apply is_en); refine en ?_) | (with_reducible first | apply x_then | apply wp_seq | apply c_region | apply wp_block | apply wp_skip | apply wp_exit | apply wp_ret | apply wp_label | apply wp_scope_straight | apply x_ng | apply x_ng_ret | apply x_ng_exit | apply x_then_ret | apply x_then_exit | apply x_block | apply x_block_ret | apply x_block_exit | refine x_block_other (by decide) ?_))
      refine ldbr (n := 2) hB3 rfl rfl rfl ?_
      refine ldbr (n := 32) hB5 rfl (ds := x5.1.map u8v) (by simp [List.take_of_length_le, x5.2]) (by simp [x5.2]) ?_
      (try ((with_reducible apply is_gd); first | refine gt ?_ | refine gf ?_ | refine gu ?_)); refine ca (padd_any (i : Int) (.slice Ap (pkH (lv.take i)).length cp) (pkH (lv.take i)) x5 w7 (hK.ch hc7 (by simp)) (hL.ch hc7 (by simp)) (hP7 [] (by simp)) (by omega)) ?_
      rintro u w8 ⟨hc8, hu⟩
      rw [hpl, hil, popN_small (by omega), Int.toNat_natCast, pkH_step hx5 (by omega)] at hu
      rcases hu with ⟨_, v8, rfl, hP8⟩ | ⟨hu, _⟩
      rotate_left
      · cases hu
      have hil2 : (lv.take (i + 1)).length = i + 1 := by rw [List.length_take]; omega
      have hpl8 := pkH_len (lv.take (i + 1))
      have hpop8 : popN (lv.take (i + 1)).length ≤ 63 := bitsDown_len _ 63
      obtain ⟨A8, c8, rfl⟩ := (hP8 [] (by simp)).form
      have hB3 := hB3.ch hc8 (by simp)
      have z8 := hc8.size
      repeat (first | ((with_reducible apply is_st); refine su ?_) | ((with_reducible apply is_gd); first | refine gt ?_ | refine gf ?_ | refine gu ?_) | ((with_reducible apply is_en); refine en ?_) | (with_reducible first | apply x_then | apply wp_seq | apply c_region | apply wp_block | apply wp_skip | apply wp_exit | apply wp_ret | apply wp_label | apply wp_scope_straight | apply x_ng | apply x_ng_ret | apply x_ng_exit | apply x_then_ret | apply x_then_exit | apply x_block | apply x_block_ret | apply x_block_exit | refine x_block_other (by decide) ?_))
      refine wl_alloc (fun w9 b7 hb7 => ?_)
      have e7 := hb7.at_
      refine stbw (n := 2) (vs := [.int .i64 ((i : Int) + 1), .slice A8 (pkH (lv.take (i + 1))).length c8]) hb7.blk rfl rfl rfl rfl one_pk (fun w10 hB7 hch10 hs10 => ?_)
      have hc810 : Ch [] w8 w10 := hb7.ch.own hch10 (by omega)
      have hB3 := hB3.ch hc810 (by simp)
      have hc710 : Ch [] w7 w10 := hc8.then hc810
      have hP10 := (hP7 [] (by simp)).ch hc710
      have hW10 := hW.ch hc710
      have hQ10 : ∀ S, (∀ x ∈ S, x < w2.heap.size) → (Ty.enc eH).Rd S w10 (.slice A8 (pkH (lv.take (i + 1))).length c8) (pkH (lv.take (i + 1))) := fun S hS => (hP8 S (fun x hx => by have := hS x hx; omega)).ch hc810.some
      have hc10 : Ch [] w w10 := hc7.then hc710
      have z10 := hc810.size
      repeat (first | ((with_reducible apply is_st); refine su ?_) | ((with_reducible apply is_gd); first | refine gt ?_ | refine gf ?_ | refine gu ?_) | ((with_reducible apply is_en); refine en ?_) | (with_reducible first | apply x_then | apply wp_seq | apply c_region | apply wp_block | apply wp_skip | apply wp_exit | apply wp_ret | apply wp_label | apply wp_scope_straight | apply x_ng | apply x_ng_ret | apply x_ng_exit | apply x_then_ret | apply x_then_exit | apply x_block | apply x_block_ret | apply x_block_exit | refine x_block_other (by decide) ?_))
      refine c_draw [] (by kernel_rfl) (by kernel_rfl) (fun w11 hc11 hs11 => ?_)
      have hK11 := (hK.ch hc10 (by simp)).ch hc11 (by simp)
      have hB311 := hB3.ch hc11 (by simp)
      have hB711 := hB7.ch hc11 (by simp)
      have hQ11 := (hQ10 [] (by simp)).ch hc11
      repeat (first | ((with_reducible apply is_sg); refine sgu ?_) | ((with_reducible apply is_gg); first | refine gtg ?_ | refine gfg ?_ | refine gug ?_) | ((with_reducible apply is_eg); refine eg ?_))
      refine ldbg hB711 (by simp) rfl rfl ?_
      repeat (first | ((with_reducible apply is_sg); refine sgu ?_) | ((with_reducible apply is_gg); first | refine gtg ?_ | refine gfg ?_ | refine gug ?_) | ((with_reducible apply is_eg); refine eg ?_))
      (try ((with_reducible apply is_gg); refine gtg ?_))
      refine ldbrg (n := 2) hB711 (by simp) rfl rfl rfl ?_
      (try ((with_reducible apply is_gg); first | refine gtg ?_ | refine gfg ?_ | refine gug ?_)); refine cag (fun w12 hc12 => proot_any ((i : Int) + 1) (.slice A8 (pkH (lv.take (i + 1))).length c8) (pkH (lv.take (i + 1))) w12 (hK11.ch hc12 (by simp)) (hQ11.ch hc12) (by omega)) ?_
      rw [rootPk_pk (l := lv.take (i + 1)) (by omega) (by omega)]
      repeat (first | ((with_reducible apply is_sg); refine sgu ?_) | ((with_reducible apply is_gg); first | refine gtg ?_ | refine gfg ?_ | refine gug ?_) | ((with_reducible apply is_eg); refine eg ?_))
      (try ((with_reducible apply is_gg); refine gtg ?_))
      refine wg_cut_hi rfl ((hR.ch hc10).ch hc11) rfl rfl (by omega) (by omega) (fun v1 hV1 => ?_)
      rw [show ((i : Int) + 1).toNat = i + 1 by omega] at hV1
      (try ((with_reducible apply is_gg); first | refine gtg ?_ | refine gfg ?_ | refine gug ?_)); refine cag (fun w12 hc12 => root_any v1 _ w12 (hK11.ch hc12 (by simp)) (hV1.ch hc12) (by omega)) ?_
      (try ((with_reducible apply is_gg); refine gtg ?_))
      generalize rootH (lv.take (i + 1)) = rt
      refine wg_val (fun _ _ => r_neq8 (n := 32) (a := rt.1) (b := rt.1) Tryd.eqGuardType26 rfl rfl rt.2 rt.2) ?_
      rw [decide_eq_true rfl]
      repeat (first | ((with_reducible apply is_sg); refine sgu ?_) | ((with_reducible apply is_gg); first | refine gtg ?_ | refine gfg ?_ | refine gug ?_) | ((with_reducible apply is_eg); refine eg ?_))
      (try ((with_reducible apply is_gg); refine gtg ?_))
      refine ldbrg (n := 2) hB711 (by simp) rfl rfl rfl ?_
      (try ((with_reducible apply is_gg); first | refine gtg ?_ | refine gfg ?_ | refine gug ?_)); refine cag (fun w12 hc12 => good_any ((i : Int) + 1) (.slice A8 (pkH (lv.take (i + 1))).length c8) (pkH (lv.take (i + 1))) w12 (hQ11.ch hc12)) ?_
      rw [good_pk (l := lv.take (i + 1)) (by omega) (by omega)]
      repeat (first | ((with_reducible apply is_sg); refine sgu ?_) | ((with_reducible apply is_gg); first | refine gtg ?_ | refine gfg ?_ | refine gug ?_) | ((with_reducible apply is_eg); refine eg ?_))
      refine ldbg hB311 (by simp) rfl rfl ?_
      repeat (first | ((with_reducible apply is_sg); refine sgu ?_) | ((with_reducible apply is_gg); first | refine gtg ?_ | refine gfg ?_ | refine gug ?_) | ((with_reducible apply is_eg); refine eg ?_))
      (try ((with_reducible apply is_gg); first | refine gtg ?_ | refine gfg ?_ | refine gug ?_)); refine cag (fun w12 hc12 => same_any _ _ (pkH (lv.take i)) (pkH (lv.take i)) w12 ((hP10.ch hc11).ch hc12) ((hW10.ch hc11).ch hc12)) ?_
      rw [decide_eq_true (rfl : pkH (lv.take i) = pkH (lv.take i))]
      repeat (first | ((with_reducible apply is_sg); refine sgu ?_) | ((with_reducible apply is_gg); first | refine gtg ?_ | refine gfg ?_ | refine gug ?_) | ((with_reducible apply is_eg); refine eg ?_))
      intro w12 hc12
      repeat (first | ((with_reducible apply is_st); refine su ?_) | ((with_reducible apply is_gd); first | refine gt ?_ | refine gf ?_ | refine gu ?_) | ((with_reducible apply is_en); refine en ?_) | (with_reducible first | apply x_then | apply wp_seq | apply c_region | apply wp_block | apply wp_skip | apply wp_exit | apply wp_ret | apply wp_label | apply wp_scope_straight | apply x_ng | apply x_ng_ret | apply x_ng_exit | apply x_then_ret | apply x_then_exit | apply x_block | apply x_block_ret | apply x_block_exit | refine x_block_other (by decide) ?_))
      refine c_condb rfl (fun h => by cases h) (fun _ => ?_)
      repeat (first | ((with_reducible apply is_st); refine su ?_) | ((with_reducible apply is_gd); first | refine gt ?_ | refine gf ?_ | refine gu ?_) | ((with_reducible apply is_en); refine en ?_) | (with_reducible first | apply x_then | apply wp_seq | apply c_region | apply wp_block | apply wp_skip | apply wp_exit | apply wp_ret | apply wp_label | apply wp_scope_straight | apply x_ng | apply x_ng_ret | apply x_ng_exit | apply x_then_ret | apply x_then_exit | apply x_block | apply x_block_ret | apply x_block_exit | refine x_block_other (by decide) ?_))
      have hcE := hc11.then hc12
      refine ldbr (n := 2) (hB7.ch hcE (by simp)) rfl rfl rfl ?_
      refine stbw (n := 2) (vs := [.int .i64 ((i : Int) + 1), .slice A8 (pkH (lv.take (i + 1))).length c8]) (hB3.ch hcE (by simp)) rfl rfl rfl rfl one_pk (fun w13 hB13 hch13 hs13 => ?_)
      have zE := hcE.size
      repeat (first | ((with_reducible apply is_st); refine su ?_) | ((with_reducible apply is_gd); first | refine gt ?_ | refine gf ?_ | refine gu ?_) | ((with_reducible apply is_en); refine en ?_) | (with_reducible first | apply x_then | apply wp_seq | apply c_region | apply wp_block | apply wp_skip | apply wp_exit | apply wp_ret | apply wp_label | apply wp_scope_straight | apply x_ng | apply x_ng_ret | apply x_ng_exit | apply x_then_ret | apply x_then_exit | apply x_block | apply x_block_ret | apply x_block_exit | refine x_block_other (by decide) ?_))
      refine x_goes (k - 1) rfl (by omega) ⟨i + 1, _, exj rfl, by omega, (hc10.then hcE).own hch13 (by omega), by omega, hB13, fun S hS => ?_⟩
      have hr := (hQ10 (b3 :: S) (fun x hx => by
        rcases List.mem_cons.1 hx with hx | hx
        · omega
        · exact hS x hx)).ch hcE.some
      exact (hr.ch (hch13.mono (fun x _ hm => by simp at hm; simp [hm]))).mv (Ch.refl S w13) (fun k _ h => List.mem_cons_of_mem _ h)
    · have hil : i = lv.length := by omega
      subst hil
      rw [List.take_length] at hP hB3
      rw [List.take_length] at hpop hpl
      have hP := hP [] (by simp)
      repeat (first | ((with_reducible apply is_st); refine su ?_) | ((with_reducible apply is_gd); first | refine gt ?_ | refine gf ?_ | refine gu ?_) | ((with_reducible apply is_en); refine en ?_) | (with_reducible first | apply x_then | apply wp_seq | apply c_region | apply wp_block | apply wp_skip | apply wp_exit | apply wp_ret | apply wp_label | apply wp_scope_straight | apply x_ng | apply x_ng_ret | apply x_ng_exit | apply x_then_ret | apply x_then_exit | apply x_block | apply x_block_ret | apply x_block_exit | refine x_block_other (by decide) ?_))
      refine ldbr (n := 2) hB3 rfl rfl rfl ?_
      (try ((with_reducible apply is_gd); first | refine gt ?_ | refine gf ?_ | refine gu ?_)); refine ca (proot_any (lv.length : Int) (.slice Ap (pkH lv).length cp) (pkH lv) w3 (hK.ch hc3 (by simp)) hP (by omega)) ?_
      rw [rootPk_pk (l := lv) rfl (by omega)]
      rintro _ w4 ⟨rfl, hc4⟩
      have hc4 : Ch [] w w4 := hc3.then hc4
      repeat (first | ((with_reducible apply is_st); refine su ?_) | ((with_reducible apply is_gd); first | refine gt ?_ | refine gf ?_ | refine gu ?_) | ((with_reducible apply is_en); refine en ?_) | (with_reducible first | apply x_then | apply wp_seq | apply c_region | apply wp_block | apply wp_skip | apply wp_exit | apply wp_ret | apply wp_label | apply wp_scope_straight | apply x_ng | apply x_ng_ret | apply x_ng_exit | apply x_then_ret | apply x_then_exit | apply x_block | apply x_block_ret | apply x_block_exit | refine x_block_other (by decide) ?_))
      (try ((with_reducible apply is_gd); first | refine gt ?_ | refine gf ?_ | refine gu ?_)); refine ca (root_any _ lv w4 (hK.ch hc4 (by simp)) (hR.ch hc4) (by omega)) ?_
      rintro _ w5 ⟨rfl, hc5⟩
      refine wl_val (r_eql8 (n := 32) (a := (rootH lv).1) (b := (rootH lv).1) Tryd.eqGuardType26 rfl rfl (rootH lv).2 (rootH lv).2) ?_
      rw [decide_eq_true rfl]
      repeat (first | ((with_reducible apply is_st); refine su ?_) | ((with_reducible apply is_gd); first | refine gt ?_ | refine gf ?_ | refine gu ?_) | ((with_reducible apply is_en); refine en ?_) | (with_reducible first | apply x_then | apply wp_seq | apply c_region | apply wp_block | apply wp_skip | apply wp_exit | apply wp_ret | apply wp_label | apply wp_scope_straight | apply x_ng | apply x_ng_ret | apply x_ng_exit | apply x_then_ret | apply x_then_exit | apply x_block | apply x_block_ret | apply x_block_exit | refine x_block_other (by decide) ?_))
      (try ((with_reducible apply is_gd); first | refine gt ?_ | refine gf ?_ | refine gu ?_)); refine ca (lives_any w5) ?_
      rintro _ w6 ⟨rfl, hc6⟩
      repeat (first | ((with_reducible apply is_st); refine su ?_) | ((with_reducible apply is_gd); first | refine gt ?_ | refine gf ?_ | refine gu ?_) | ((with_reducible apply is_en); refine en ?_) | (with_reducible first | apply x_then | apply wp_seq | apply c_region | apply wp_block | apply wp_skip | apply wp_exit | apply wp_ret | apply wp_label | apply wp_scope_straight | apply x_ng | apply x_ng_ret | apply x_ng_exit | apply x_then_ret | apply x_then_exit | apply x_block | apply x_block_ret | apply x_block_exit | refine x_block_other (by decide) ?_))
      exact out1 rfl ⟨rfl, (hc4.then hc5).then hc6⟩
end Go.Proofs.YtbecfcnbgeeghaaDoor

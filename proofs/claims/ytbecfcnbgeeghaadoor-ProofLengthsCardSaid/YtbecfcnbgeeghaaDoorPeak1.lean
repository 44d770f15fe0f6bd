/- Walks: peaks that may be, the program's and the reference's. -/
import Derived.Test.YtbecfcnbgeeghaaDoorCnt
import Derived.Test.YtbecfcnbgeeghaaDoorPk
import Derived.Test.YtbecfcnbgeeghaaDoorG
import Derived.Test.YtbecfcnbgeeghaaDoorLives
set_option linter.unusedVariables false
set_option linter.unusedSimpArgs false
namespace Go.Proofs.YtbecfcnbgeeghaaDoor
open Go Go.RowKit Go.Proofs.E
attribute [local irreducible] Go.wpList Go.Code.wp Go.Proofs.E.exec Go.Proofs.E.wpLexG
/-- Peaks as a value. -/
def pkV (n : Int) (v : Value) : Value := .agg #[.int .i64 n, v]
def goodZ (n : Int) (k : Nat) : Bool := decide (0 ≤ n) && decide (n ≤ 1099511627776) && decide (k = popN n.toNat)
set_option maxHeartbeats 4000000 in
theorem good_any (n : Int) (v : Value) (ts : List Hs) (w : World) (hR : (Ty.enc eH).Rd [] w v ts) :
    Calls Tryd.prog 43 #[pkV n v] w (Ret fun u w' => u = .bool (goodZ n ts.length) ∧ Ch [] w w') := by
  refine enter [pkV n v, undef, undef, undef, undef, undef, undef, undef, undef, undef, undef, undef, undef, undef, undef, undef, undef, undef, undef, undef, undef] Tryd.func43 rfl rfl ?_
  have hle := hR.le
  obtain ⟨A, cap, rfl⟩ := hR.form
  repeat (first | ((with_reducible apply is_st); refine su ?_) | ((with_reducible apply is_gd); first | refine gt ?_ | refine gf ?_ | refine gu ?_) | ((with_reducible apply is_en); refine en ?_) | (with_reducible first | apply x_then | apply wp_seq | apply c_region | apply wp_block | apply wp_skip | apply wp_exit | apply wp_ret | apply wp_label | apply wp_scope_straight | apply x_ng | apply x_ng_ret | apply x_ng_exit | apply x_then_ret | apply x_then_exit | apply x_block | apply x_block_ret | apply x_block_exit | refine x_block_other (by decide) ?_))
  refine wl_box rfl (fun w1 b hb => ?_)
  have hB : Blk w1 b [.int .i64 n, .slice A ts.length cap] 51 := hb.blk
  repeat (first | ((with_reducible apply is_st); refine su ?_) | ((with_reducible apply is_gd); first | refine gt ?_ | refine gf ?_ | refine gu ?_) | ((with_reducible apply is_en); refine en ?_) | (with_reducible first | apply x_then | apply wp_seq | apply c_region | apply wp_block | apply wp_skip | apply wp_exit | apply wp_ret | apply wp_label | apply wp_scope_straight | apply x_ng | apply x_ng_ret | apply x_ng_exit | apply x_then_ret | apply x_then_exit | apply x_block | apply x_block_ret | apply x_block_exit | refine x_block_other (by decide) ?_))
  refine c_draw [] (by kernel_rfl) (by kernel_rfl) (fun w2 hc2 hs2 => ?_)
  have hB2 := hB.ch hc2 (by simp)
  repeat (first | ((with_reducible apply is_sg); refine sgu ?_) | ((with_reducible apply is_gg); first | refine gtg ?_ | refine gfg ?_ | refine gug ?_) | ((with_reducible apply is_eg); refine eg ?_))
  refine ldbg hB2 (by simp) rfl rfl ?_
  by_cases h0 : 0 ≤ n
  · repeat (first | ((with_reducible apply is_sg); refine sgu ?_) | ((with_reducible apply is_gg); first | refine gtg ?_ | refine gfg ?_ | refine gug ?_) | ((with_reducible apply is_eg); refine eg ?_))
    refine ldbg hB2 (by simp) rfl rfl ?_
    by_cases h1 : n ≤ 1099511627776
    · obtain ⟨m, rfl⟩ := Int.eq_ofNat_of_zero_le h0
      repeat (first | ((with_reducible apply is_sg); refine sgu ?_) | ((with_reducible apply is_gg); first | refine gtg ?_ | refine gfg ?_ | refine gug ?_) | ((with_reducible apply is_eg); refine eg ?_))
      refine ldbg hB2 (by simp) rfl rfl ?_
      repeat (first | ((with_reducible apply is_sg); refine sgu ?_) | ((with_reducible apply is_gg); first | refine gtg ?_ | refine gfg ?_ | refine gug ?_) | ((with_reducible apply is_eg); refine eg ?_))
      refine ldbg hB2 (by simp) rfl rfl ?_
      repeat (first | ((with_reducible apply is_sg); refine sgu ?_) | ((with_reducible apply is_gg); first | refine gtg ?_ | refine gfg ?_ | refine gug ?_) | ((with_reducible apply is_eg); refine eg ?_))
      (try ((with_reducible apply is_gg); first | refine gtg ?_ | refine gfg ?_ | refine gug ?_)); refine cag (fun w3 hc3 => same_ch (ones_any m (by omega) w3)) ?_
      repeat (first | ((with_reducible apply is_sg); refine sgu ?_) | ((with_reducible apply is_gg); first | refine gtg ?_ | refine gfg ?_ | refine gug ?_) | ((with_reducible apply is_eg); refine eg ?_))
      intro w3 hc3
      repeat (first | ((with_reducible apply is_st); refine su ?_) | ((with_reducible apply is_gd); first | refine gt ?_ | refine gf ?_ | refine gu ?_) | ((with_reducible apply is_en); refine en ?_) | (with_reducible first | apply x_then | apply wp_seq | apply c_region | apply wp_block | apply wp_skip | apply wp_exit | apply wp_ret | apply wp_label | apply wp_scope_straight | apply x_ng | apply x_ng_ret | apply x_ng_exit | apply x_then_ret | apply x_then_exit | apply x_block | apply x_block_ret | apply x_block_exit | refine x_block_other (by decide) ?_))
      refine out1 rfl ⟨?_, (hb.ch.then hc2).then hc3⟩
      show Value.bool _ = _
      congr 1
      unfold goodZ
      rw [decide_eq_true h0, decide_eq_true h1, Int.toNat_natCast, Bool.true_and, Bool.true_and, decide_eq_decide]
      omega
    · repeat (first | ((with_reducible apply is_sg); refine sgu ?_) | ((with_reducible apply is_gg); first | refine gtg ?_ | refine gfg ?_ | refine gug ?_) | ((with_reducible apply is_eg); refine eg ?_))
      intro w3 hc3
      repeat (first | ((with_reducible apply is_st); refine su ?_) | ((with_reducible apply is_gd); first | refine gt ?_ | refine gf ?_ | refine gu ?_) | ((with_reducible apply is_en); refine en ?_) | (with_reducible first | apply x_then | apply wp_seq | apply c_region | apply wp_block | apply wp_skip | apply wp_exit | apply wp_ret | apply wp_label | apply wp_scope_straight | apply x_ng | apply x_ng_ret | apply x_ng_exit | apply x_then_ret | apply x_then_exit | apply x_block | apply x_block_ret | apply x_block_exit | refine x_block_other (by decide) ?_))
      refine out1 rfl ⟨?_, (hb.ch.then hc2).then hc3⟩
      show Value.bool _ = _
      congr 1
      unfold goodZ
      rw [decide_eq_false h1, Bool.and_false, Bool.false_and]
  · repeat (first | ((with_reducible apply is_sg); refine sgu ?_) | ((with_reducible apply is_gg); first | refine gtg ?_ | refine gfg ?_ | refine gug ?_) | ((with_reducible apply is_eg); refine eg ?_))
    intro w3 hc3
    repeat (first | ((with_reducible apply is_st); refine su ?_) | ((with_reducible apply is_gd); first | refine gt ?_ | refine gf ?_ | refine gu ?_) | ((with_reducible apply is_en); refine en ?_) | (with_reducible first | apply x_then | apply wp_seq | apply c_region | apply wp_block | apply wp_skip | apply wp_exit | apply wp_ret | apply wp_label | apply wp_scope_straight | apply x_ng | apply x_ng_ret | apply x_ng_exit | apply x_then_ret | apply x_then_exit | apply x_block | apply x_block_ret | apply x_block_exit | refine x_block_other (by decide) ?_))
    refine out1 rfl ⟨?_, (hb.ch.then hc2).then hc3⟩
    show Value.bool _ = _
    congr 1
    unfold goodZ
    rw [decide_eq_false h0, Bool.false_and, Bool.false_and]
set_option maxHeartbeats 4000000 in
theorem rgood_any (n : Int) (v : Value) (ts : List Hs) (w : World) (hR : (Ty.enc eH).Rd [] w v ts) :
    Calls Tryd.prog 44 #[pkV n v] w (Ret fun u w' => u = .bool (goodZ n ts.length) ∧ Ch [] w w') := by
  refine enter [pkV n v, undef, undef, undef, undef, undef, undef, undef, undef, undef, undef, undef, undef, undef, undef, undef, undef, undef, undef, undef, undef] Tryd.func44 rfl rfl ?_
  have hle := hR.le
  obtain ⟨A, cap, rfl⟩ := hR.form
  repeat (first | ((with_reducible apply is_st); refine su ?_) | ((with_reducible apply is_gd); first | refine gt ?_ | refine gf ?_ | refine gu ?_) | ((with_reducible apply is_en); refine en ?_) | (with_reducible first | apply x_then | apply wp_seq | apply c_region | apply wp_block | apply wp_skip | apply wp_exit | apply wp_ret | apply wp_label | apply wp_scope_straight | apply x_ng | apply x_ng_ret | apply x_ng_exit | apply x_then_ret | apply x_then_exit | apply x_block | apply x_block_ret | apply x_block_exit | refine x_block_other (by decide) ?_))
  refine wl_box rfl (fun w1 b hb => ?_)
  have hB : Blk w1 b [.int .i64 n, .slice A ts.length cap] 52 := hb.blk
  repeat (first | ((with_reducible apply is_st); refine su ?_) | ((with_reducible apply is_gd); first | refine gt ?_ | refine gf ?_ | refine gu ?_) | ((with_reducible apply is_en); refine en ?_) | (with_reducible first | apply x_then | apply wp_seq | apply c_region | apply wp_block | apply wp_skip | apply wp_exit | apply wp_ret | apply wp_label | apply wp_scope_straight | apply x_ng | apply x_ng_ret | apply x_ng_exit | apply x_then_ret | apply x_then_exit | apply x_block | apply x_block_ret | apply x_block_exit | refine x_block_other (by decide) ?_))
  refine c_draw [] (by kernel_rfl) (by kernel_rfl) (fun w2 hc2 hs2 => ?_)
  have hB2 := hB.ch hc2 (by simp)
  repeat (first | ((with_reducible apply is_sg); refine sgu ?_) | ((with_reducible apply is_gg); first | refine gtg ?_ | refine gfg ?_ | refine gug ?_) | ((with_reducible apply is_eg); refine eg ?_))
  refine ldbg hB2 (by simp) rfl rfl ?_
  by_cases h0 : 0 ≤ n
  · repeat (first | ((with_reducible apply is_sg); refine sgu ?_) | ((with_reducible apply is_gg); first | refine gtg ?_ | refine gfg ?_ | refine gug ?_) | ((with_reducible apply is_eg); refine eg ?_))
    refine ldbg hB2 (by simp) rfl rfl ?_
    by_cases h1 : n ≤ 1099511627776
    · obtain ⟨m, rfl⟩ := Int.eq_ofNat_of_zero_le h0
      repeat (first | ((with_reducible apply is_sg); refine sgu ?_) | ((with_reducible apply is_gg); first | refine gtg ?_ | refine gfg ?_ | refine gug ?_) | ((with_reducible apply is_eg); refine eg ?_))
      refine ldbg hB2 (by simp) rfl rfl ?_
      repeat (first | ((with_reducible apply is_sg); refine sgu ?_) | ((with_reducible apply is_gg); first | refine gtg ?_ | refine gfg ?_ | refine gug ?_) | ((with_reducible apply is_eg); refine eg ?_))
      refine ldbg hB2 (by simp) rfl rfl ?_
      refine lastg rfl (by kernel_rfl) (fun w3 hc3 => ?_)
      (try ((with_reducible apply is_gd); first | refine gt ?_ | refine gf ?_ | refine gu ?_)); refine ca (rbits_any (m : Int) (by omega) w3) ?_
      rintro u w4 ⟨hc4, hO⟩
      obtain ⟨A', cap', rfl, _⟩ := hO.form
      refine x_mid rfl hc4 ?_
      have hlen := bitsDown_len m 63
      repeat (first | ((with_reducible apply is_sg); refine sgu ?_) | ((with_reducible apply is_gg); first | refine gtg ?_ | refine gfg ?_ | refine gug ?_) | ((with_reducible apply is_eg); refine eg ?_))
      intro w5 hc5
      repeat (first | ((with_reducible apply is_st); refine su ?_) | ((with_reducible apply is_gd); first | refine gt ?_ | refine gf ?_ | refine gu ?_) | ((with_reducible apply is_en); refine en ?_) | (with_reducible first | apply x_then | apply wp_seq | apply c_region | apply wp_block | apply wp_skip | apply wp_exit | apply wp_ret | apply wp_label | apply wp_scope_straight | apply x_ng | apply x_ng_ret | apply x_ng_exit | apply x_then_ret | apply x_then_exit | apply x_block | apply x_block_ret | apply x_block_exit | refine x_block_other (by decide) ?_))
      refine out1 rfl ⟨?_, (((hb.ch.then hc2).then hc3).then hc4).then hc5⟩
      show Value.bool _ = _
      congr 1
      unfold goodZ popN
      rw [decide_eq_true h0, decide_eq_true h1, Int.toNat_natCast, Bool.true_and, Bool.true_and, decide_eq_decide]
      omega
    · repeat (first | ((with_reducible apply is_sg); refine sgu ?_) | ((with_reducible apply is_gg); first | refine gtg ?_ | refine gfg ?_ | refine gug ?_) | ((with_reducible apply is_eg); refine eg ?_))
      intro w3 hc3
      repeat (first | ((with_reducible apply is_st); refine su ?_) | ((with_reducible apply is_gd); first | refine gt ?_ | refine gf ?_ | refine gu ?_) | ((with_reducible apply is_en); refine en ?_) | (with_reducible first | apply x_then | apply wp_seq | apply c_region | apply wp_block | apply wp_skip | apply wp_exit | apply wp_ret | apply wp_label | apply wp_scope_straight | apply x_ng | apply x_ng_ret | apply x_ng_exit | apply x_then_ret | apply x_then_exit | apply x_block | apply x_block_ret | apply x_block_exit | refine x_block_other (by decide) ?_))
      refine out1 rfl ⟨?_, (hb.ch.then hc2).then hc3⟩
      show Value.bool _ = _
      congr 1
      unfold goodZ
      rw [decide_eq_false h1, Bool.and_false, Bool.false_and]
  · repeat (first | ((with_reducible apply is_sg); refine sgu ?_) | ((with_reducible apply is_gg); first | refine gtg ?_ | refine gfg ?_ | refine gug ?_) | ((with_reducible apply is_eg); refine eg ?_))
    intro w3 hc3
    repeat (first | ((with_reducible apply is_st); refine su ?_) | ((with_reducible apply is_gd); first | refine gt ?_ | refine gf ?_ | refine gu ?_) | ((with_reducible apply is_en); refine en ?_) | (with_reducible first | apply x_then | apply wp_seq | apply c_region | apply wp_block | apply wp_skip | apply wp_exit | apply wp_ret | apply wp_label | apply wp_scope_straight | apply x_ng | apply x_ng_ret | apply x_ng_exit | apply x_then_ret | apply x_then_exit | apply x_block | apply x_block_ret | apply x_block_exit | refine x_block_other (by decide) ?_))
    refine out1 rfl ⟨?_, (hb.ch.then hc2).then hc3⟩
    show Value.bool _ = _
    congr 1
    unfold goodZ
    rw [decide_eq_false h0, Bool.false_and, Bool.false_and]
end Go.Proofs.YtbecfcnbgeeghaaDoor

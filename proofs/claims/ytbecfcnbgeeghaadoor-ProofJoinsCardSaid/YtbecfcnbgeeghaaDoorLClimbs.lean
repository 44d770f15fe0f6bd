/- The law of climbs. -/
import Derived.Test.YtbecfcnbgeeghaaDoorClimb
set_option linter.unusedVariables false
set_option linter.unusedSimpArgs false
namespace Go.Proofs.YtbecfcnbgeeghaaDoor
open Go Go.RowKit Go.Proofs.E
attribute [local irreducible] Go.wpList Go.Code.wp Go.Proofs.E.exec Go.Proofs.E.wpLexG
theorem at2_0 (a b : Hs) : (([a, b].flatMap eH.f).drop (0 + Int.toNat 0 * 32)).take 32 = a.1.map u8v := by
  simp [List.take_append_of_le_length, List.take_of_length_le, a.2]
theorem at2_1 (a b : Hs) : (([a, b].flatMap eH.f).drop (0 + Int.toNat 1 * 32)).take 32 = b.1.map u8v := by
  simp [List.drop_append, List.drop_of_length_le, List.take_of_length_le, a.2, b.2]
theorem lives10_g {S : List Nat} {w : World} (hK : ∀ w1, Ch S w w1 → Laid w1) : ∀ w1, Ch S w w1 → Calls Tryd.prog 27 #[] w1 (Ret fun v w2 => v = .bool true ∧ Ch S w1 w2) :=
  fun w1 hc => none_ch (lives10_any w1 (hK w1 hc))
def hv2 (a b : Hs) : Value := .agg ([a, b].flatMap eH.f).toArray
def nv2 (m n : Int) : Value := .agg #[.int .i64 m, .int .i64 n]
set_option maxHeartbeats 16000000 in
theorem climbs_any (a b : Hs) (n i : Int) (v : Value) (path : List Hs) (w : World) (hK : Laid w) (hR : (Ty.enc eH).Rd [] w v path) :
    Calls Tryd.prog 7 #[hv2 a b, nv2 n i, v] w (Ret fun u w' => u = .bool true ∧ Ch [] w w') := by
  refine enter [hv2 a b, nv2 n i, v, undef, undef, undef, undef, undef, undef, undef, undef, undef, undef, undef, undef, undef, undef, undef, undef, undef, undef, undef, undef, undef, undef, undef, undef, undef, undef, undef, undef, undef, undef, undef, undef, undef, undef, undef, undef, undef, undef, undef, undef, undef, undef, undef, undef, undef, undef, undef, undef, undef, undef, undef, undef, undef, undef, undef, undef, undef, undef, undef, undef, undef, undef, undef, undef, undef, undef, undef, undef, undef, undef, undef, undef, undef, undef, undef, undef, undef, undef, undef, undef, undef] Tryd.func7 rfl rfl ?_
  have hle := hR.le
  obtain ⟨A, cap, rfl⟩ := hR.form
  repeat (first | ((with_reducible apply is_st); refine su ?_) | ((with_reducible apply is_gd); first | refine gt ?_ | refine gf ?_ | refine gu ?_) | ((with_reducible apply is_en); refine en ?_) | (with_reducible first | apply x_then | apply wp_seq | apply c_region | apply wp_block | apply wp_skip | apply wp_exit | apply wp_ret | apply wp_label | apply wp_scope_straight | apply x_ng | apply x_ng_ret | apply x_ng_exit | apply x_then_ret | apply x_then_exit | apply x_block | apply x_block_ret | apply x_block_exit | refine x_block_other (by decide) ?_))
  refine wl_box rfl (fun w1 b3 hb3 => ?_)
  refine wl_box rfl (fun w2 b4 hb4 => ?_)
  have hB4 : Blk w2 b4 [.int .i64 n, .int .i64 i] 41 := hb4.blk
  have hB3 : Blk w2 b3 ([a, b].flatMap eH.f) 40 := Blk.ch (show Blk w1 b3 ([a, b].flatMap eH.f) 40 from hb3.blk) hb4.ch (by simp)
  have hc2 : Ch [] w w2 := hb3.ch.then hb4.ch
  by_cases h200 : 200 < path.length
  · repeat (first | ((with_reducible apply is_st); refine su ?_) | ((with_reducible apply is_gd); first | refine gt ?_ | refine gf ?_ | refine gu ?_) | ((with_reducible apply is_en); refine en ?_) | (with_reducible first | apply x_then | apply wp_seq | apply c_region | apply wp_block | apply wp_skip | apply wp_exit | apply wp_ret | apply wp_label | apply wp_scope_straight | apply x_ng | apply x_ng_ret | apply x_ng_exit | apply x_then_ret | apply x_then_exit | apply x_block | apply x_block_ret | apply x_block_exit | refine x_block_other (by decide) ?_))
    refine c_cond rfl (fun h => ?_) (fun h => absurd (by omega : (200 : Int) < path.length) h)
    repeat (first | ((with_reducible apply is_st); refine su ?_) | ((with_reducible apply is_gd); first | refine gt ?_ | refine gf ?_ | refine gu ?_) | ((with_reducible apply is_en); refine en ?_) | (with_reducible first | apply x_then | apply wp_seq | apply c_region | apply wp_block | apply wp_skip | apply wp_exit | apply wp_ret | apply wp_label | apply wp_scope_straight | apply x_ng | apply x_ng_ret | apply x_ng_exit | apply x_then_ret | apply x_then_exit | apply x_block | apply x_block_ret | apply x_block_exit | refine x_block_other (by decide) ?_))
    (try ((with_reducible apply is_gd); first | refine gt ?_ | refine gf ?_ | refine gu ?_)); refine ca (lives10_any w2 (hK.ch hc2 (by simp))) ?_
    rintro _ w3 ⟨rfl, hc3⟩
    repeat (first | ((with_reducible apply is_st); refine su ?_) | ((with_reducible apply is_gd); first | refine gt ?_ | refine gf ?_ | refine gu ?_) | ((with_reducible apply is_en); refine en ?_) | (with_reducible first | apply x_then | apply wp_seq | apply c_region | apply wp_block | apply wp_skip | apply wp_exit | apply wp_ret | apply wp_label | apply wp_scope_straight | apply x_ng | apply x_ng_ret | apply x_ng_exit | apply x_then_ret | apply x_then_exit | apply x_block | apply x_block_ret | apply x_block_exit | refine x_block_other (by decide) ?_))
    exact out1 rfl ⟨rfl, hc2.then hc3⟩
  · repeat (first | ((with_reducible apply is_st); refine su ?_) | ((with_reducible apply is_gd); first | refine gt ?_ | refine gf ?_ | refine gu ?_) | ((with_reducible apply is_en); refine en ?_) | (with_reducible first | apply x_then | apply wp_seq | apply c_region | apply wp_block | apply wp_skip | apply wp_exit | apply wp_ret | apply wp_label | apply wp_scope_straight | apply x_ng | apply x_ng_ret | apply x_ng_exit | apply x_then_ret | apply x_then_exit | apply x_block | apply x_block_ret | apply x_block_exit | refine x_block_other (by decide) ?_))
    refine c_cond rfl (fun h => absurd h (by omega)) (fun h200' => ?_)
    repeat (first | ((with_reducible apply is_st); refine su ?_) | ((with_reducible apply is_gd); first | refine gt ?_ | refine gf ?_ | refine gu ?_) | ((with_reducible apply is_en); refine en ?_) | (with_reducible first | apply x_then | apply wp_seq | apply c_region | apply wp_block | apply wp_skip | apply wp_exit | apply wp_ret | apply wp_label | apply wp_scope_straight | apply x_ng | apply x_ng_ret | apply x_ng_exit | apply x_then_ret | apply x_then_exit | apply x_block | apply x_block_ret | apply x_block_exit | refine x_block_other (by decide) ?_))
    refine ldb hB4 rfl rfl ?_
    repeat (first | ((with_reducible apply is_st); refine su ?_) | ((with_reducible apply is_gd); first | refine gt ?_ | refine gf ?_ | refine gu ?_) | ((with_reducible apply is_en); refine en ?_) | (with_reducible first | apply x_then | apply wp_seq | apply c_region | apply wp_block | apply wp_skip | apply wp_exit | apply wp_ret | apply wp_label | apply wp_scope_straight | apply x_ng | apply x_ng_ret | apply x_ng_exit | apply x_then_ret | apply x_then_exit | apply x_block | apply x_block_ret | apply x_block_exit | refine x_block_other (by decide) ?_))
    refine ldb hB4 rfl rfl ?_
    repeat (first | ((with_reducible apply is_st); refine su ?_) | ((with_reducible apply is_gd); first | refine gt ?_ | refine gf ?_ | refine gu ?_) | ((with_reducible apply is_en); refine en ?_) | (with_reducible first | apply x_then | apply wp_seq | apply c_region | apply wp_block | apply wp_skip | apply wp_exit | apply wp_ret | apply wp_label | apply wp_scope_straight | apply x_ng | apply x_ng_ret | apply x_ng_exit | apply x_then_ret | apply x_then_exit | apply x_block | apply x_block_ret | apply x_block_exit | refine x_block_other (by decide) ?_))
    refine ldbr (n := 32) hB3 rfl (ds := a.1.map u8v) (at2_0 a b) (by simp [a.2]) ?_
    repeat (first | ((with_reducible apply is_st); refine su ?_) | ((with_reducible apply is_gd); first | refine gt ?_ | refine gf ?_ | refine gu ?_) | ((with_reducible apply is_en); refine en ?_) | (with_reducible first | apply x_then | apply wp_seq | apply c_region | apply wp_block | apply wp_skip | apply wp_exit | apply wp_ret | apply wp_label | apply wp_scope_straight | apply x_ng | apply x_ng_ret | apply x_ng_exit | apply x_then_ret | apply x_then_exit | apply x_block | apply x_block_ret | apply x_block_exit | refine x_block_other (by decide) ?_))
    (try ((with_reducible apply is_gd); first | refine gt ?_ | refine gf ?_ | refine gu ?_)); refine ca (climb_any n i a (.slice A path.length cap) path w2 (hK.ch hc2 (by simp)) (hR.ch hc2)) ?_
    rintro _ w3 ⟨rfl, hc3⟩
    have hB3 := hB3.ch hc3 (by simp)
    have hB4 := hB4.ch hc3 (by simp)
    have hck : ∀ r, checkZ r n i a path = ((climbZ n i a path).2 && decide ((climbZ n i a path).1 = r)) := fun r => rfl
    have hcx : checkZ (climbZ n i a path).1 n i a path = (climbZ n i a path).2 := by rw [hck, decide_eq_true rfl, Bool.and_true]
    obtain ⟨cz, hcz⟩ : ∃ cz, climbZ n i a path = cz := ⟨_, rfl⟩
    rw [hcz] at hcx ⊢
    repeat (first | ((with_reducible apply is_st); refine su ?_) | ((with_reducible apply is_gd); first | refine gt ?_ | refine gf ?_ | refine gu ?_) | ((with_reducible apply is_en); refine en ?_) | (with_reducible first | apply x_then | apply wp_seq | apply c_region | apply wp_block | apply wp_skip | apply wp_exit | apply wp_ret | apply wp_label | apply wp_scope_straight | apply x_ng | apply x_ng_ret | apply x_ng_exit | apply x_then_ret | apply x_then_exit | apply x_block | apply x_block_ret | apply x_block_exit | refine x_block_other (by decide) ?_))
    refine wl_alloc (fun w4 b7 hb7 => ?_)
    have e7 := hb7.at_
    refine stbw (n := 32) (cs := (List.replicate 32 (0 : UInt8)).map u8v) hb7.blk rfl rfl (hv_len cz.1.2) (by simp) one_u8 (fun w5 hB7 hch5 hs5 => ?_)
    have hc35 : Ch [] w3 w5 := hb7.ch.own hch5 (by omega)
    have hB3 := hB3.ch hc35 (by simp)
    have hB4 := hB4.ch hc35 (by simp)
    have hc5 : Ch [] w w5 := (hc2.then hc3).then hc35
    repeat (first | ((with_reducible apply is_st); refine su ?_) | ((with_reducible apply is_gd); first | refine gt ?_ | refine gf ?_ | refine gu ?_) | ((with_reducible apply is_en); refine en ?_) | (with_reducible first | apply x_then | apply wp_seq | apply c_region | apply wp_block | apply wp_skip | apply wp_exit | apply wp_ret | apply wp_label | apply wp_scope_straight | apply x_ng | apply x_ng_ret | apply x_ng_exit | apply x_then_ret | apply x_then_exit | apply x_block | apply x_block_ret | apply x_block_exit | refine x_block_other (by decide) ?_))
    refine ldb hB4 rfl rfl ?_
    repeat (first | ((with_reducible apply is_st); refine su ?_) | ((with_reducible apply is_gd); first | refine gt ?_ | refine gf ?_ | refine gu ?_) | ((with_reducible apply is_en); refine en ?_) | (with_reducible first | apply x_then | apply wp_seq | apply c_region | apply wp_block | apply wp_skip | apply wp_exit | apply wp_ret | apply wp_label | apply wp_scope_straight | apply x_ng | apply x_ng_ret | apply x_ng_exit | apply x_then_ret | apply x_then_exit | apply x_block | apply x_block_ret | apply x_block_exit | refine x_block_other (by decide) ?_))
    refine ldb hB4 rfl rfl ?_
    repeat (first | ((with_reducible apply is_st); refine su ?_) | ((with_reducible apply is_gd); first | refine gt ?_ | refine gf ?_ | refine gu ?_) | ((with_reducible apply is_en); refine en ?_) | (with_reducible first | apply x_then | apply wp_seq | apply c_region | apply wp_block | apply wp_skip | apply wp_exit | apply wp_ret | apply wp_label | apply wp_scope_straight | apply x_ng | apply x_ng_ret | apply x_ng_exit | apply x_then_ret | apply x_then_exit | apply x_block | apply x_block_ret | apply x_block_exit | refine x_block_other (by decide) ?_))
    refine ldbr (n := 32) hB3 rfl (ds := a.1.map u8v) (at2_0 a b) (by simp [a.2]) ?_
    repeat (first | ((with_reducible apply is_st); refine su ?_) | ((with_reducible apply is_gd); first | refine gt ?_ | refine gf ?_ | refine gu ?_) | ((with_reducible apply is_en); refine en ?_) | (with_reducible first | apply x_then | apply wp_seq | apply c_region | apply wp_block | apply wp_skip | apply wp_exit | apply wp_ret | apply wp_label | apply wp_scope_straight | apply x_ng | apply x_ng_ret | apply x_ng_exit | apply x_then_ret | apply x_then_exit | apply x_block | apply x_block_ret | apply x_block_exit | refine x_block_other (by decide) ?_))
    (try ((with_reducible apply is_gd); first | refine gt ?_ | refine gf ?_ | refine gu ?_)); refine ca (rclimb_any n i a (.slice A path.length cap) path w5 (hR.ch hc5)) ?_
    rw [hcz]
    rintro _ w6 ⟨rfl, hc6⟩
    have hB3 := hB3.ch hc6 (by simp)
    have hB4 := hB4.ch hc6 (by simp)
    have hB7 := hB7.ch hc6 (by simp)
    repeat (first | ((with_reducible apply is_st); refine su ?_) | ((with_reducible apply is_gd); first | refine gt ?_ | refine gf ?_ | refine gu ?_) | ((with_reducible apply is_en); refine en ?_) | (with_reducible first | apply x_then | apply wp_seq | apply c_region | apply wp_block | apply wp_skip | apply wp_exit | apply wp_ret | apply wp_label | apply wp_scope_straight | apply x_ng | apply x_ng_ret | apply x_ng_exit | apply x_then_ret | apply x_then_exit | apply x_block | apply x_block_ret | apply x_block_exit | refine x_block_other (by decide) ?_))
    refine wl_alloc (fun w7 b9 hb9 => ?_)
    have e9 := hb9.at_
    refine stbw (n := 32) (cs := (List.replicate 32 (0 : UInt8)).map u8v) hb9.blk rfl rfl (hv_len cz.1.2) (by simp) one_u8 (fun w8 hB9 hch8 hs8 => ?_)
    have hc68 : Ch [] w6 w8 := hb9.ch.own hch8 (by omega)
    have hB3 := hB3.ch hc68 (by simp)
    have hB4 := hB4.ch hc68 (by simp)
    have hB7 := hB7.ch hc68 (by simp)
    have hc8 : Ch [] w w8 := (hc5.then hc6).then hc68
    repeat (first | ((with_reducible apply is_st); refine su ?_) | ((with_reducible apply is_gd); first | refine gt ?_ | refine gf ?_ | refine gu ?_) | ((with_reducible apply is_en); refine en ?_) | (with_reducible first | apply x_then | apply wp_seq | apply c_region | apply wp_block | apply wp_skip | apply wp_exit | apply wp_ret | apply wp_label | apply wp_scope_straight | apply x_ng | apply x_ng_ret | apply x_ng_exit | apply x_then_ret | apply x_then_exit | apply x_block | apply x_block_ret | apply x_block_exit | refine x_block_other (by decide) ?_))
    refine c_draw [] (by kernel_rfl) (by kernel_rfl) (fun w9 hc9 hs9 => ?_)
    have hB3 := hB3.ch hc9 (by simp)
    have hB4 := hB4.ch hc9 (by simp)
    have hB7 := hB7.ch hc9 (by simp)
    have hB9 := hB9.ch hc9 (by simp)
    have hc9 : Ch [] w w9 := hc8.then hc9
    have hK9 := hK.ch hc9 (by simp)
    have hR9 := hR.ch hc9
    refine ldbrg (n := 32) hB7 (by simp) rfl (ds := cz.1.1.map u8v) (by simp [List.take_of_length_le, cz.1.2]) (by simp [cz.1.2]) ?_
    refine ldbrg (n := 32) hB9 (by simp) rfl (ds := cz.1.1.map u8v) (by simp [List.take_of_length_le, cz.1.2]) (by simp [cz.1.2]) ?_
    refine wg_val (fun _ _ => r_eql8 (n := 32) (a := cz.1.1) (b := cz.1.1) Tryd.eqGuardType26 rfl rfl cz.1.2 cz.1.2) ?_
    rw [decide_eq_true rfl]
    repeat (first | ((with_reducible apply is_sg); refine sgu ?_) | ((with_reducible apply is_gg); first | refine gtg ?_ | refine gfg ?_ | refine gug ?_) | ((with_reducible apply is_eg); refine eg ?_))
    refine wg_val (fun _ _ => r_eqb (a := cz.2) (b := cz.2) rfl rfl) ?_
    rw [beq_self_eq_true]
    repeat (first | ((with_reducible apply is_sg); refine sgu ?_) | ((with_reducible apply is_gg); first | refine gtg ?_ | refine gfg ?_ | refine gug ?_) | ((with_reducible apply is_eg); refine eg ?_))
    refine ldbrg (n := 32) hB3 (by simp) rfl (ds := b.1.map u8v) (at2_1 a b) (by simp [b.2]) ?_
    repeat (first | ((with_reducible apply is_sg); refine sgu ?_) | ((with_reducible apply is_gg); first | refine gtg ?_ | refine gfg ?_ | refine gug ?_) | ((with_reducible apply is_eg); refine eg ?_))
    refine ldbg hB4 (by simp) rfl rfl ?_
    repeat (first | ((with_reducible apply is_sg); refine sgu ?_) | ((with_reducible apply is_gg); first | refine gtg ?_ | refine gfg ?_ | refine gug ?_) | ((with_reducible apply is_eg); refine eg ?_))
    refine ldbg hB4 (by simp) rfl rfl ?_
    repeat (first | ((with_reducible apply is_sg); refine sgu ?_) | ((with_reducible apply is_gg); first | refine gtg ?_ | refine gfg ?_ | refine gug ?_) | ((with_reducible apply is_eg); refine eg ?_))
    refine ldbrg (n := 32) hB3 (by simp) rfl (ds := a.1.map u8v) (at2_0 a b) (by simp [a.2]) ?_
    repeat (first | ((with_reducible apply is_sg); refine sgu ?_) | ((with_reducible apply is_gg); first | refine gtg ?_ | refine gfg ?_ | refine gug ?_) | ((with_reducible apply is_eg); refine eg ?_))
    (try ((with_reducible apply is_gg); first | refine gtg ?_ | refine gfg ?_ | refine gug ?_)); refine cag (fun w10 hc10 => check_any b n i a (.slice A path.length cap) path w10 (hK9.ch hc10 (by simp)) (hR9.ch hc10)) ?_
    repeat (first | ((with_reducible apply is_sg); refine sgu ?_) | ((with_reducible apply is_gg); first | refine gtg ?_ | refine gfg ?_ | refine gug ?_) | ((with_reducible apply is_eg); refine eg ?_))
    refine ldbrg (n := 32) hB3 (by simp) rfl (ds := b.1.map u8v) (at2_1 a b) (by simp [b.2]) ?_
    repeat (first | ((with_reducible apply is_sg); refine sgu ?_) | ((with_reducible apply is_gg); first | refine gtg ?_ | refine gfg ?_ | refine gug ?_) | ((with_reducible apply is_eg); refine eg ?_))
    refine ldbg hB4 (by simp) rfl rfl ?_
    repeat (first | ((with_reducible apply is_sg); refine sgu ?_) | ((with_reducible apply is_gg); first | refine gtg ?_ | refine gfg ?_ | refine gug ?_) | ((with_reducible apply is_eg); refine eg ?_))
    refine ldbg hB4 (by simp) rfl rfl ?_
    repeat (first | ((with_reducible apply is_sg); refine sgu ?_) | ((with_reducible apply is_gg); first | refine gtg ?_ | refine gfg ?_ | refine gug ?_) | ((with_reducible apply is_eg); refine eg ?_))
    refine ldbrg (n := 32) hB3 (by simp) rfl (ds := a.1.map u8v) (at2_0 a b) (by simp [a.2]) ?_
    repeat (first | ((with_reducible apply is_sg); refine sgu ?_) | ((with_reducible apply is_gg); first | refine gtg ?_ | refine gfg ?_ | refine gug ?_) | ((with_reducible apply is_eg); refine eg ?_))
    (try ((with_reducible apply is_gg); first | refine gtg ?_ | refine gfg ?_ | refine gug ?_)); refine cag (fun w10 hc10 => rcheck_any b n i a (.slice A path.length cap) path w10 (hR9.ch hc10)) ?_
    (try ((with_reducible apply is_gg); refine gtg ?_))
    refine wg_val (fun _ _ => r_eqb (a := checkZ b n i a path) (b := checkZ b n i a path) rfl rfl) ?_
    rw [beq_self_eq_true]
    repeat (first | ((with_reducible apply is_sg); refine sgu ?_) | ((with_reducible apply is_gg); first | refine gtg ?_ | refine gfg ?_ | refine gug ?_) | ((with_reducible apply is_eg); refine eg ?_))
    refine ldbrg (n := 32) hB9 (by simp) rfl (ds := cz.1.1.map u8v) (by simp [List.take_of_length_le, cz.1.2]) (by simp [cz.1.2]) ?_
    repeat (first | ((with_reducible apply is_sg); refine sgu ?_) | ((with_reducible apply is_gg); first | refine gtg ?_ | refine gfg ?_ | refine gug ?_) | ((with_reducible apply is_eg); refine eg ?_))
    refine ldbg hB4 (by simp) rfl rfl ?_
    repeat (first | ((with_reducible apply is_sg); refine sgu ?_) | ((with_reducible apply is_gg); first | refine gtg ?_ | refine gfg ?_ | refine gug ?_) | ((with_reducible apply is_eg); refine eg ?_))
    refine ldbg hB4 (by simp) rfl rfl ?_
    repeat (first | ((with_reducible apply is_sg); refine sgu ?_) | ((with_reducible apply is_gg); first | refine gtg ?_ | refine gfg ?_ | refine gug ?_) | ((with_reducible apply is_eg); refine eg ?_))
    refine ldbrg (n := 32) hB3 (by simp) rfl (ds := a.1.map u8v) (at2_0 a b) (by simp [a.2]) ?_
    repeat (first | ((with_reducible apply is_sg); refine sgu ?_) | ((with_reducible apply is_gg); first | refine gtg ?_ | refine gfg ?_ | refine gug ?_) | ((with_reducible apply is_eg); refine eg ?_))
    (try ((with_reducible apply is_gg); first | refine gtg ?_ | refine gfg ?_ | refine gug ?_)); refine cag (fun w10 hc10 => check_any cz.1 n i a (.slice A path.length cap) path w10 (hK9.ch hc10 (by simp)) (hR9.ch hc10)) ?_
    rw [hcx]
    repeat (first | ((with_reducible apply is_sg); refine sgu ?_) | ((with_reducible apply is_gg); first | refine gtg ?_ | refine gfg ?_ | refine gug ?_) | ((with_reducible apply is_eg); refine eg ?_))
    refine wg_val (fun _ _ => r_eqb (a := cz.2) (b := cz.2) rfl rfl) ?_
    rw [beq_self_eq_true]
    repeat (first | ((with_reducible apply is_sg); refine sgu ?_) | ((with_reducible apply is_gg); first | refine gtg ?_ | refine gfg ?_ | refine gug ?_) | ((with_reducible apply is_eg); refine eg ?_))
    (try ((with_reducible apply is_gg); first | refine gtg ?_ | refine gfg ?_ | refine gug ?_)); refine cag (lives10_g (fun w1 hc => hK9.ch hc (by simp))) ?_
    repeat (first | ((with_reducible apply is_sg); refine sgu ?_) | ((with_reducible apply is_gg); first | refine gtg ?_ | refine gfg ?_ | refine gug ?_) | ((with_reducible apply is_eg); refine eg ?_))
    intro w10 hc10
    repeat (first | ((with_reducible apply is_st); refine su ?_) | ((with_reducible apply is_gd); first | refine gt ?_ | refine gf ?_ | refine gu ?_) | ((with_reducible apply is_en); refine en ?_) | (with_reducible first | apply x_then | apply wp_seq | apply c_region | apply wp_block | apply wp_skip | apply wp_exit | apply wp_ret | apply wp_label | apply wp_scope_straight | apply x_ng | apply x_ng_ret | apply x_ng_exit | apply x_then_ret | apply x_then_exit | apply x_block | apply x_block_ret | apply x_block_exit | refine x_block_other (by decide) ?_))
    exact out1 rfl ⟨rfl, hc9.then hc10⟩
end Go.Proofs.YtbecfcnbgeeghaaDoor

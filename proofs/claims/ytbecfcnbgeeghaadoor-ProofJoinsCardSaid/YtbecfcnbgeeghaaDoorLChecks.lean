/- The law of checks of growth. -/
import Derived.Test.YtbecfcnbgeeghaaDoorChecks
import Derived.Test.YtbecfcnbgeeghaaDoorLLengths
set_option linter.unusedVariables false
set_option linter.unusedSimpArgs false
namespace Go.Proofs.YtbecfcnbgeeghaaDoor
open Go Go.RowKit Go.Proofs.E
attribute [local irreducible] Go.wpList Go.Code.wp Go.Proofs.E.exec Go.Proofs.E.wpLexG
set_option maxHeartbeats 16000000 in
theorem lchecks_any (a b : Hs) (m n : Int) (v : Value) (path : List Hs) (w : World) (hK : Laid w) (hR : (Ty.enc eH).Rd [] w v path) :
    Calls Tryd.prog 12 #[hv2 a b, nv2 m n, v] w (Ret fun u w' => u = .bool true ∧ Ch [] w w') := by
  refine enter [hv2 a b, nv2 m n, v, undef, undef, undef, undef, undef, undef, undef, undef, undef, undef, undef, undef, undef, undef, undef, undef, undef, undef, undef, undef, undef, undef, undef, undef, undef, undef, undef, undef, undef, undef, undef, undef] Tryd.func12 rfl rfl ?_
  have hle := hR.le
  obtain ⟨A, cap, rfl⟩ := hR.form
  repeat (first | ((with_reducible apply is_st); refine su ?_) | ((with_reducible apply is_gd); first | refine gt ?_ | refine gf ?_ | refine gu ?_) | ((with_reducible apply is_en); refine en ?_) | (with_reducible first | apply x_then | apply wp_seq | apply c_region | apply wp_block | apply wp_skip | apply wp_exit | apply wp_ret | apply wp_label | apply wp_scope_straight | apply x_ng | apply x_ng_ret | apply x_ng_exit | apply x_then_ret | apply x_then_exit | apply x_block | apply x_block_ret | apply x_block_exit | refine x_block_other (by decide) ?_))
  refine wl_box rfl (fun w1 b3 hb3 => ?_)
  refine wl_box rfl (fun w2 b4 hb4 => ?_)
  have hB4 : Blk w2 b4 [.int .i64 m, .int .i64 n] 41 := hb4.blk
  have hB3 : Blk w2 b3 ([a, b].flatMap eH.f) 40 := Blk.ch (show Blk w1 b3 ([a, b].flatMap eH.f) 40 from hb3.blk) hb4.ch (by simp)
  have hc2 : Ch [] w w2 := hb3.ch.then hb4.ch
  by_cases h200 : 200 < path.length
  · repeat (first | ((with_reducible apply is_st); refine su ?_) | ((with_reducible apply is_gd); first | refine gt ?_ | refine gf ?_ | refine gu ?_) | ((with_reducible apply is_en); refine en ?_) | (with_reducible first | apply x_then | apply wp_seq | apply c_region | apply wp_block | apply wp_skip | apply wp_exit | apply wp_ret | apply wp_label | apply wp_scope_straight | apply x_ng | apply x_ng_ret | apply x_ng_exit | apply x_then_ret | apply x_then_exit | apply x_block | apply x_block_ret | apply x_block_exit | refine x_block_other (by decide) ?_))
    refine c_cond rfl (fun h => ?_) (fun h => absurd (by omega : (200 : Int) < path.length) h)
    repeat (first | ((with_reducible apply is_st); refine su ?_) | ((with_reducible apply is_gd); first | refine gt ?_ | refine gf ?_ | refine gu ?_) | ((with_reducible apply is_en); refine en ?_) | (with_reducible first | apply x_then | apply wp_seq | apply c_region | apply wp_block | apply wp_skip | apply wp_exit | apply wp_ret | apply wp_label | apply wp_scope_straight | apply x_ng | apply x_ng_ret | apply x_ng_exit | apply x_then_ret | apply x_then_exit | apply x_block | apply x_block_ret | apply x_block_exit | refine x_block_other (by decide) ?_))
    (try ((with_reducible apply is_gd); first | refine gt ?_ | refine gf ?_ | refine gu ?_)); refine ca (lives10_any w2 (hK.ch hc2 (by simp))) ?_
    rintro _ w3 ⟨rfl, hc3⟩
    repeat (first | ((with_reducible apply is_st); refine su ?_) | ((with_reducible apply is_gd); first | refine gt ?_ | refine gf ?_ | refine gu ?_) | ((with_reducible apply is_en); refine en ?_) | (with_reducible first | apply x_then | apply wp_seq | apply c_region | apply wp_block | apply wp_skip | apply wp_exit | apply wp_ret | apply wp_label | apply wp_scope_straight | apply x_ng | apply x_ng_ret | apply x_ng_exit | apply x_then_ret | apply x_then_exit | apply x_block | apply x_block_ret | apply x_block_exit | refine x_block_other (by decide) ?_))
    exact out1 rfl ⟨rfl, hc2.then hc3⟩
  · repeat (first | ((with_reducible apply is_st); refine su ?_) | ((with_reducible apply is_gd); first | refine gt ?_ | refine gf ?_ | refine gu ?_) | ((with_reducible apply is_en); refine en ?_) | (with_reducible first | apply x_then | apply wp_seq | apply c_region | apply wp_block | apply wp_skip | apply wp_exit | apply wp_ret | apply wp_label | apply wp_scope_straight | apply x_ng | apply x_ng_ret | apply x_ng_exit | apply x_then_ret | apply x_then_exit | apply x_block | apply x_block_ret | apply x_block_exit | refine x_block_other (by decide) ?_))
    refine c_cond rfl (fun h => absurd h (by omega)) (fun h200' => ?_)
    repeat (first | ((with_reducible apply is_st); refine su ?_) | ((with_reducible apply is_gd); first | refine gt ?_ | refine gf ?_ | refine gu ?_) | ((with_reducible apply is_en); refine en ?_) | (with_reducible first | apply x_then | apply wp_seq | apply c_region | apply wp_block | apply wp_skip | apply wp_exit | apply wp_ret | apply wp_label | apply wp_scope_straight | apply x_ng | apply x_ng_ret | apply x_ng_exit | apply x_then_ret | apply x_then_exit | apply x_block | apply x_block_ret | apply x_block_exit | refine x_block_other (by decide) ?_))
    refine c_draw [] (by kernel_rfl) (by kernel_rfl) (fun w9 hc9 hs9 => ?_)
    have hB3 := hB3.ch hc9 (by simp)
    have hB4 := hB4.ch hc9 (by simp)
    have hc9 : Ch [] w w9 := hc2.then hc9
    have hK9 := hK.ch hc9 (by simp)
    have hR9 := hR.ch hc9
    repeat (first | ((with_reducible apply is_sg); refine sgu ?_) | ((with_reducible apply is_gg); first | refine gtg ?_ | refine gfg ?_ | refine gug ?_) | ((with_reducible apply is_eg); refine eg ?_))
    refine ldbrg (n := 32) hB3 (by simp) rfl (ds := a.1.map u8v) (at2_0 a b) (by simp [a.2]) ?_
    repeat (first | ((with_reducible apply is_sg); refine sgu ?_) | ((with_reducible apply is_gg); first | refine gtg ?_ | refine gfg ?_ | refine gug ?_) | ((with_reducible apply is_eg); refine eg ?_))
    refine ldbrg (n := 32) hB3 (by simp) rfl (ds := b.1.map u8v) (at2_1 a b) (by simp [b.2]) ?_
    repeat (first | ((with_reducible apply is_sg); refine sgu ?_) | ((with_reducible apply is_gg); first | refine gtg ?_ | refine gfg ?_ | refine gug ?_) | ((with_reducible apply is_eg); refine eg ?_))
    refine ldbg hB4 (by simp) rfl rfl ?_
    repeat (first | ((with_reducible apply is_sg); refine sgu ?_) | ((with_reducible apply is_gg); first | refine gtg ?_ | refine gfg ?_ | refine gug ?_) | ((with_reducible apply is_eg); refine eg ?_))
    refine ldbg hB4 (by simp) rfl rfl ?_
    repeat (first | ((with_reducible apply is_sg); refine sgu ?_) | ((with_reducible apply is_gg); first | refine gtg ?_ | refine gfg ?_ | refine gug ?_) | ((with_reducible apply is_eg); refine eg ?_))
    (try ((with_reducible apply is_gg); first | refine gtg ?_ | refine gfg ?_ | refine gug ?_)); refine cag (fun w10 hc10 => checks_any a b m n (.slice A path.length cap) path w10 (hK9.ch hc10 (by simp)) (hR9.ch hc10)) ?_
    repeat (first | ((with_reducible apply is_sg); refine sgu ?_) | ((with_reducible apply is_gg); first | refine gtg ?_ | refine gfg ?_ | refine gug ?_) | ((with_reducible apply is_eg); refine eg ?_))
    refine ldbrg (n := 32) hB3 (by simp) rfl (ds := a.1.map u8v) (at2_0 a b) (by simp [a.2]) ?_
    repeat (first | ((with_reducible apply is_sg); refine sgu ?_) | ((with_reducible apply is_gg); first | refine gtg ?_ | refine gfg ?_ | refine gug ?_) | ((with_reducible apply is_eg); refine eg ?_))
    refine ldbrg (n := 32) hB3 (by simp) rfl (ds := b.1.map u8v) (at2_1 a b) (by simp [b.2]) ?_
    repeat (first | ((with_reducible apply is_sg); refine sgu ?_) | ((with_reducible apply is_gg); first | refine gtg ?_ | refine gfg ?_ | refine gug ?_) | ((with_reducible apply is_eg); refine eg ?_))
    refine ldbg hB4 (by simp) rfl rfl ?_
    repeat (first | ((with_reducible apply is_sg); refine sgu ?_) | ((with_reducible apply is_gg); first | refine gtg ?_ | refine gfg ?_ | refine gug ?_) | ((with_reducible apply is_eg); refine eg ?_))
    refine ldbg hB4 (by simp) rfl rfl ?_
    repeat (first | ((with_reducible apply is_sg); refine sgu ?_) | ((with_reducible apply is_gg); first | refine gtg ?_ | refine gfg ?_ | refine gug ?_) | ((with_reducible apply is_eg); refine eg ?_))
    (try ((with_reducible apply is_gg); first | refine gtg ?_ | refine gfg ?_ | refine gug ?_)); refine cag (fun w10 hc10 => rchecks_any a b m n (.slice A path.length cap) path w10 (hR9.ch hc10)) ?_
    refine wg_val (fun _ _ => r_eqb (a := checksZ a b m n path) (b := checksZ a b m n path) rfl rfl) ?_
    rw [beq_self_eq_true]
    repeat (first | ((with_reducible apply is_sg); refine sgu ?_) | ((with_reducible apply is_gg); first | refine gtg ?_ | refine gfg ?_ | refine gug ?_) | ((with_reducible apply is_eg); refine eg ?_))
    (try ((with_reducible apply is_gg); first | refine gtg ?_ | refine gfg ?_ | refine gug ?_)); refine cag (lives10_g (fun w1 hc => hK9.ch hc (by simp))) ?_
    repeat (first | ((with_reducible apply is_sg); refine sgu ?_) | ((with_reducible apply is_gg); first | refine gtg ?_ | refine gfg ?_ | refine gug ?_) | ((with_reducible apply is_eg); refine eg ?_))
    intro w10 hc10
    repeat (first | ((with_reducible apply is_st); refine su ?_) | ((with_reducible apply is_gd); first | refine gt ?_ | refine gf ?_ | refine gu ?_) | ((with_reducible apply is_en); refine en ?_) | (with_reducible first | apply x_then | apply wp_seq | apply c_region | apply wp_block | apply wp_skip | apply wp_exit | apply wp_ret | apply wp_label | apply wp_scope_straight | apply x_ng | apply x_ng_ret | apply x_ng_exit | apply x_then_ret | apply x_then_exit | apply x_block | apply x_block_ret | apply x_block_exit | refine x_block_other (by decide) ?_))
    exact out1 rfl ⟨rfl, hc9.then hc10⟩
end Go.Proofs.YtbecfcnbgeeghaaDoor

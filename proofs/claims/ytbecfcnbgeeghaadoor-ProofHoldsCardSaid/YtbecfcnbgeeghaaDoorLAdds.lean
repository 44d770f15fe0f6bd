/- The law of any peaks. -/
import Derived.Test.YtbecfcnbgeeghaaDoorPeak
import Derived.Test.YtbecfcnbgeeghaaDoorHalves
import Derived.Laws.Small
set_option linter.unusedVariables false
set_option linter.unusedSimpArgs false
namespace Go.Proofs.E
open Go Go.RowKit
section
variable {P : Program} {l : List Value} {w : World} {T : TypeId}
theorem r_eqb {x y : Operand} {t u : TypeId} {a b : Bool} [hU : Und P t .bool] (hx : ev l x = .bool a) (hy : ev l y = .bool b) : (exec (ev l) (.binOp .eql t x y u) T).run P w = .ok (.value (.bool (a == b))) w := by
  simp [exec, execOp, hx, hy, eqGuard, run_eql_bool w t a b hU.out]
end
end Go.Proofs.E
namespace Go.Proofs.YtbecfcnbgeeghaaDoor
open Go Go.RowKit Go.Proofs.E
attribute [local irreducible] Go.wpList Go.Code.wp Go.Proofs.E.exec Go.Proofs.E.wpLexG
def nAdd (n : Int) (k : Nat) : Int := if okZ n k = true then n + 1 else n
def tAdd (n : Int) (ts : List Hs) (h : Hs) : List Hs := if okZ n ts.length = true then addH (tones n.toNat) ts h else ts
theorem add_told {n : Int} {v u : Value} {ts : List Hs} {h : Hs} {w w' : World} (hR : (Ty.enc eH).Rd [] w v ts) (hc : Ch [] w w')
    (hu : (okZ n ts.length = true ∧ ∃ v', u = .tuple #[pkV (n + 1) v', .bool true] ∧ ∀ S, (∀ x ∈ S, x < w.heap.size) → (Ty.enc eH).Rd S w' v' (addH (tones n.toNat) ts h)) ∨ (okZ n ts.length = false ∧ u = .tuple #[pkV n v, .bool false])) :
    ∃ A c, u = .tuple #[pkV (nAdd n ts.length) (.slice A (tAdd n ts h).length c), .bool (okZ n ts.length)] ∧ (Ty.enc eH).Rd [] w' (.slice A (tAdd n ts h).length c) (tAdd n ts h) := by
  unfold nAdd tAdd
  rcases hu with ⟨h1, v', h2, h3⟩ | ⟨h1, h2⟩
  · have h3 := h3 [] (by simp)
    obtain ⟨A, c, rfl⟩ := h3.form
    rw [if_pos h1, if_pos h1, h1]
    exact ⟨A, c, h2, h3⟩
  · obtain ⟨A, c, rfl⟩ := hR.form
    rw [if_neg (by rw [h1]; simp), if_neg (by rw [h1]; simp), h1]
    exact ⟨A, c, h2, hR.ch hc⟩
set_option maxHeartbeats 8000000 in
theorem adds_any (n : Int) (v : Value) (ts : List Hs) (h : Hs) (w : World) (hK : Laid w) (hL : LaidB w) (hR : (Ty.enc eH).Rd [] w v ts) :
    Calls Tryd.prog 11 #[pkV n v, hv h.1] w (Ret fun u w' => u = .bool true ∧ Ch [] w w') := by
  refine enter [pkV n v, hv h.1, undef, undef, undef, undef, undef, undef, undef, undef, undef, undef, undef, undef, undef, undef, undef, undef, undef, undef, undef, undef, undef, undef, undef, undef, undef, undef, undef, undef, undef, undef, undef, undef, undef, undef, undef, undef, undef, undef, undef, undef, undef, undef, undef, undef, undef, undef, undef, undef, undef, undef, undef, undef, undef, undef, undef, undef, undef, undef, undef, undef] Tryd.func11 rfl rfl ?_
  have hle := hR.le
  obtain ⟨A, cap, rfl⟩ := hR.form
  repeat (first | ((with_reducible apply is_st); refine su ?_) | ((with_reducible apply is_gd); first | refine gt ?_ | refine gf ?_ | refine gu ?_) | ((with_reducible apply is_en); refine en ?_) | (with_reducible first | apply x_then | apply wp_seq | apply c_region | apply wp_block | apply wp_skip | apply wp_exit | apply wp_ret | apply wp_label | apply wp_scope_straight | apply x_ng | apply x_ng_ret | apply x_ng_exit | apply x_then_ret | apply x_then_exit | apply x_block | apply x_block_ret | apply x_block_exit | refine x_block_other (by decide) ?_))
  refine wl_box rfl (fun w1 b2 hb2 => ?_)
  repeat (first | ((with_reducible apply is_st); refine su ?_) | ((with_reducible apply is_gd); first | refine gt ?_ | refine gf ?_ | refine gu ?_) | ((with_reducible apply is_en); refine en ?_) | (with_reducible first | apply x_then | apply wp_seq | apply c_region | apply wp_block | apply wp_skip | apply wp_exit | apply wp_ret | apply wp_label | apply wp_scope_straight | apply x_ng | apply x_ng_ret | apply x_ng_exit | apply x_then_ret | apply x_then_exit | apply x_block | apply x_block_ret | apply x_block_exit | refine x_block_other (by decide) ?_))
  refine wl_box rfl (fun w2 b3 hb3 => ?_)
  have hB3 : Blk w2 b3 (h.1.map u8v) 26 := hb3.blk
  have hB2 : Blk w2 b2 [.int .i64 n, .slice A ts.length cap] 51 := Blk.ch (show Blk w1 b2 [.int .i64 n, .slice A ts.length cap] 51 from hb2.blk) hb3.ch (by simp)
  have hc2 : Ch [] w w2 := hb2.ch.then hb3.ch
  have z2 := hc2.size
  repeat (first | ((with_reducible apply is_st); refine su ?_) | ((with_reducible apply is_gd); first | refine gt ?_ | refine gf ?_ | refine gu ?_) | ((with_reducible apply is_en); refine en ?_) | (with_reducible first | apply x_then | apply wp_seq | apply c_region | apply wp_block | apply wp_skip | apply wp_exit | apply wp_ret | apply wp_label | apply wp_scope_straight | apply x_ng | apply x_ng_ret | apply x_ng_exit | apply x_then_ret | apply x_then_exit | apply x_block | apply x_block_ret | apply x_block_exit | refine x_block_other (by decide) ?_))
  refine ldb hB2 rfl rfl ?_
  by_cases h100 : 100 < ts.length
  · repeat (first | ((with_reducible apply is_st); refine su ?_) | ((with_reducible apply is_gd); first | refine gt ?_ | refine gf ?_ | refine gu ?_) | ((with_reducible apply is_en); refine en ?_) | (with_reducible first | apply x_then | apply wp_seq | apply c_region | apply wp_block | apply wp_skip | apply wp_exit | apply wp_ret | apply wp_label | apply wp_scope_straight | apply x_ng | apply x_ng_ret | apply x_ng_exit | apply x_then_ret | apply x_then_exit | apply x_block | apply x_block_ret | apply x_block_exit | refine x_block_other (by decide) ?_))
    refine c_cond rfl (fun h => ?_) (fun h => absurd (by omega : (100 : Int) < ts.length) h)
    repeat (first | ((with_reducible apply is_st); refine su ?_) | ((with_reducible apply is_gd); first | refine gt ?_ | refine gf ?_ | refine gu ?_) | ((with_reducible apply is_en); refine en ?_) | (with_reducible first | apply x_then | apply wp_seq | apply c_region | apply wp_block | apply wp_skip | apply wp_exit | apply wp_ret | apply wp_label | apply wp_scope_straight | apply x_ng | apply x_ng_ret | apply x_ng_exit | apply x_then_ret | apply x_then_exit | apply x_block | apply x_block_ret | apply x_block_exit | refine x_block_other (by decide) ?_))
    (try ((with_reducible apply is_gd); first | refine gt ?_ | refine gf ?_ | refine gu ?_)); refine ca (lives_any w2) ?_
    rintro _ w3 ⟨rfl, hc3⟩
    repeat (first | ((with_reducible apply is_st); refine su ?_) | ((with_reducible apply is_gd); first | refine gt ?_ | refine gf ?_ | refine gu ?_) | ((with_reducible apply is_en); refine en ?_) | (with_reducible first | apply x_then | apply wp_seq | apply c_region | apply wp_block | apply wp_skip | apply wp_exit | apply wp_ret | apply wp_label | apply wp_scope_straight | apply x_ng | apply x_ng_ret | apply x_ng_exit | apply x_then_ret | apply x_then_exit | apply x_block | apply x_block_ret | apply x_block_exit | refine x_block_other (by decide) ?_))
    exact out1 rfl ⟨rfl, hc2.then hc3⟩
  · repeat (first | ((with_reducible apply is_st); refine su ?_) | ((with_reducible apply is_gd); first | refine gt ?_ | refine gf ?_ | refine gu ?_) | ((with_reducible apply is_en); refine en ?_) | (with_reducible first | apply x_then | apply wp_seq | apply c_region | apply wp_block | apply wp_skip | apply wp_exit | apply wp_ret | apply wp_label | apply wp_scope_straight | apply x_ng | apply x_ng_ret | apply x_ng_exit | apply x_then_ret | apply x_then_exit | apply x_block | apply x_block_ret | apply x_block_exit | refine x_block_other (by decide) ?_))
    refine c_cond rfl (fun h => absurd h (by omega)) (fun h100' => ?_)
    repeat (first | ((with_reducible apply is_st); refine su ?_) | ((with_reducible apply is_gd); first | refine gt ?_ | refine gf ?_ | refine gu ?_) | ((with_reducible apply is_en); refine en ?_) | (with_reducible first | apply x_then | apply wp_seq | apply c_region | apply wp_block | apply wp_skip | apply wp_exit | apply wp_ret | apply wp_label | apply wp_scope_straight | apply x_ng | apply x_ng_ret | apply x_ng_exit | apply x_then_ret | apply x_then_exit | apply x_block | apply x_block_ret | apply x_block_exit | refine x_block_other (by decide) ?_))
    refine ldbr (n := 2) hB2 rfl rfl rfl ?_
    refine wl_alloc (fun w3 b5 hb5 => ?_)
    have e5 := hb5.at_
    refine stbw (n := 2) (vs := [.int .i64 n, .slice A ts.length cap]) hb5.blk rfl rfl rfl rfl one_pk (fun w4 hB5 hch4 hs4 => ?_)
    have hc24 : Ch [] w2 w4 := hb5.ch.own hch4 (by omega)
    have hB2 := hB2.ch hc24 (by simp)
    have hB3 := hB3.ch hc24 (by simp)
    have hc4 : Ch [] w w4 := hc2.then hc24
    have z4 := hc4.size
    repeat (first | ((with_reducible apply is_st); refine su ?_) | ((with_reducible apply is_gd); first | refine gt ?_ | refine gf ?_ | refine gu ?_) | ((with_reducible apply is_en); refine en ?_) | (with_reducible first | apply x_then | apply wp_seq | apply c_region | apply wp_block | apply wp_skip | apply wp_exit | apply wp_ret | apply wp_label | apply wp_scope_straight | apply x_ng | apply x_ng_ret | apply x_ng_exit | apply x_then_ret | apply x_then_exit | apply x_block | apply x_block_ret | apply x_block_exit | refine x_block_other (by decide) ?_))
    refine ldbr (n := 2) hB2 rfl rfl rfl ?_
    refine ldbr (n := 32) hB3 rfl (ds := h.1.map u8v) (by simp [List.take_of_length_le, h.2]) (by simp [h.2]) ?_
    (try ((with_reducible apply is_gd); first | refine gt ?_ | refine gf ?_ | refine gu ?_)); refine ca (padd_any n (.slice A ts.length cap) ts h w4 (hK.ch hc4 (by simp)) (hL.ch hc4 (by simp)) (hR.ch hc4) (by omega)) ?_
    rintro u w5 ⟨hc5, hu⟩
    obtain ⟨Ax, cx, rfl, hX⟩ := add_told (hR.ch hc4) hc5 hu
    have hB2 := hB2.ch hc5 (by simp)
    have hB3 := hB3.ch hc5 (by simp)
    have hB5 := hB5.ch hc5 (by simp)
    repeat (first | ((with_reducible apply is_st); refine su ?_) | ((with_reducible apply is_gd); first | refine gt ?_ | refine gf ?_ | refine gu ?_) | ((with_reducible apply is_en); refine en ?_) | (with_reducible first | apply x_then | apply wp_seq | apply c_region | apply wp_block | apply wp_skip | apply wp_exit | apply wp_ret | apply wp_label | apply wp_scope_straight | apply x_ng | apply x_ng_ret | apply x_ng_exit | apply x_then_ret | apply x_then_exit | apply x_block | apply x_block_ret | apply x_block_exit | refine x_block_other (by decide) ?_))
    refine wl_alloc (fun w6 b6 hb6 => ?_)
    have e6 := hb6.at_
    refine stbw (n := 2) (vs := [.int .i64 (nAdd n ts.length), .slice Ax (tAdd n ts h).length cx]) hb6.blk rfl rfl rfl rfl one_pk (fun w7 hB6 hch7 hs7 => ?_)
    have hc57 : Ch [] w5 w7 := hb6.ch.own hch7 (by omega)
    have hB2 := hB2.ch hc57 (by simp)
    have hB3 := hB3.ch hc57 (by simp)
    have hB5 := hB5.ch hc57 (by simp)
    have hX := hX.ch hc57
    have hc7 : Ch [] w w7 := (hc4.then hc5).then hc57
    repeat (first | ((with_reducible apply is_st); refine su ?_) | ((with_reducible apply is_gd); first | refine gt ?_ | refine gf ?_ | refine gu ?_) | ((with_reducible apply is_en); refine en ?_) | (with_reducible first | apply x_then | apply wp_seq | apply c_region | apply wp_block | apply wp_skip | apply wp_exit | apply wp_ret | apply wp_label | apply wp_scope_straight | apply x_ng | apply x_ng_ret | apply x_ng_exit | apply x_then_ret | apply x_then_exit | apply x_block | apply x_block_ret | apply x_block_exit | refine x_block_other (by decide) ?_))
    refine ldbr (n := 2) hB5 rfl rfl rfl ?_
    refine ldbr (n := 32) hB3 rfl (ds := h.1.map u8v) (by simp [List.take_of_length_le, h.2]) (by simp [h.2]) ?_
    (try ((with_reducible apply is_gd); first | refine gt ?_ | refine gf ?_ | refine gu ?_)); refine ca (radd_any n (.slice A ts.length cap) ts h w7 (hR.ch hc7) (by omega)) ?_
    rintro u w8 ⟨hc8, hu⟩
    obtain ⟨Ay, cy, rfl, hY⟩ := add_told (hR.ch hc7) hc8 hu
    have hB2 := hB2.ch hc8 (by simp)
    have hB5 := hB5.ch hc8 (by simp)
    have hB6 := hB6.ch hc8 (by simp)
    have hX := hX.ch hc8
    repeat (first | ((with_reducible apply is_st); refine su ?_) | ((with_reducible apply is_gd); first | refine gt ?_ | refine gf ?_ | refine gu ?_) | ((with_reducible apply is_en); refine en ?_) | (with_reducible first | apply x_then | apply wp_seq | apply c_region | apply wp_block | apply wp_skip | apply wp_exit | apply wp_ret | apply wp_label | apply wp_scope_straight | apply x_ng | apply x_ng_ret | apply x_ng_exit | apply x_then_ret | apply x_then_exit | apply x_block | apply x_block_ret | apply x_block_exit | refine x_block_other (by decide) ?_))
    refine wl_alloc (fun w9 b8 hb8 => ?_)
    have e8 := hb8.at_
    refine stbw (n := 2) (vs := [.int .i64 (nAdd n ts.length), .slice Ay (tAdd n ts h).length cy]) hb8.blk rfl rfl rfl rfl one_pk (fun w10 hB8 hch10 hs10 => ?_)
    have hc810 : Ch [] w8 w10 := hb8.ch.own hch10 (by omega)
    have hB2 := hB2.ch hc810 (by simp)
    have hB5 := hB5.ch hc810 (by simp)
    have hB6 := hB6.ch hc810 (by simp)
    have hX := hX.ch hc810
    have hY := hY.ch hc810
    have hc10 : Ch [] w w10 := (hc7.then hc8).then hc810
    repeat (first | ((with_reducible apply is_st); refine su ?_) | ((with_reducible apply is_gd); first | refine gt ?_ | refine gf ?_ | refine gu ?_) | ((with_reducible apply is_en); refine en ?_) | (with_reducible first | apply x_then | apply wp_seq | apply c_region | apply wp_block | apply wp_skip | apply wp_exit | apply wp_ret | apply wp_label | apply wp_scope_straight | apply x_ng | apply x_ng_ret | apply x_ng_exit | apply x_then_ret | apply x_then_exit | apply x_block | apply x_block_ret | apply x_block_exit | refine x_block_other (by decide) ?_))
    refine c_draw [] (by kernel_rfl) (by kernel_rfl) (fun w11 hc11 hs11 => ?_)
    have hB2 := hB2.ch hc11 (by simp)
    have hB5 := hB5.ch hc11 (by simp)
    have hB6 := hB6.ch hc11 (by simp)
    have hB8 := hB8.ch hc11 (by simp)
    have hX := hX.ch hc11
    have hY := hY.ch hc11
    have hc11 : Ch [] w w11 := hc10.then hc11
    have hK11 := hK.ch hc11 (by simp)
    have hR11 := hR.ch hc11
    generalize hgz : okZ n ts.length = okb at *
    repeat (first | ((with_reducible apply is_sg); refine sgu ?_) | ((with_reducible apply is_gg); first | refine gtg ?_ | refine gfg ?_ | refine gug ?_) | ((with_reducible apply is_eg); refine eg ?_))
    refine ldbrg (n := 2) hB2 (by simp) rfl rfl rfl ?_
    (try ((with_reducible apply is_gg); first | refine gtg ?_ | refine gfg ?_ | refine gug ?_)); refine cag (fun w12 hc12 => good_any n (.slice A ts.length cap) ts w12 (hR11.ch hc12)) ?_
    refine ldbrg (n := 2) hB5 (by simp) rfl rfl rfl ?_
    (try ((with_reducible apply is_gg); first | refine gtg ?_ | refine gfg ?_ | refine gug ?_)); refine cag (fun w12 hc12 => rgood_any n (.slice A ts.length cap) ts w12 (hR11.ch hc12)) ?_
    refine wg_val (fun _ _ => r_eqb (a := goodZ n ts.length) (b := goodZ n ts.length) rfl rfl) ?_
    rw [beq_self_eq_true]
    repeat (first | ((with_reducible apply is_sg); refine sgu ?_) | ((with_reducible apply is_gg); first | refine gtg ?_ | refine gfg ?_ | refine gug ?_) | ((with_reducible apply is_eg); refine eg ?_))
    refine ldbrg (n := 2) hB2 (by simp) rfl rfl rfl ?_
    (try ((with_reducible apply is_gg); first | refine gtg ?_ | refine gfg ?_ | refine gug ?_)); refine cag (fun w12 hc12 => proot_any n (.slice A ts.length cap) ts w12 (hK11.ch hc12 (by simp)) (hR11.ch hc12) (by omega)) ?_
    refine gtg ?_
    refine ldbrg (n := 2) hB5 (by simp) rfl rfl rfl ?_
    (try ((with_reducible apply is_gg); first | refine gtg ?_ | refine gfg ?_ | refine gug ?_)); refine cag (fun w12 hc12 => rproot_any n (.slice A ts.length cap) ts w12 (hR11.ch hc12) (by omega)) ?_
    refine gtg ?_
    refine wg_val (fun _ _ => r_eql8 (n := 32) (a := (rootPk n ts).1) (b := (rootPk n ts).1) Tryd.eqGuardType26 rfl rfl (rootPk n ts).2 (rootPk n ts).2) ?_
    rw [decide_eq_true rfl]
    repeat (first | ((with_reducible apply is_sg); refine sgu ?_) | ((with_reducible apply is_gg); first | refine gtg ?_ | refine gfg ?_ | refine gug ?_) | ((with_reducible apply is_eg); refine eg ?_))
    refine ldbg hB6 (by simp) rfl rfl ?_
    repeat (first | ((with_reducible apply is_sg); refine sgu ?_) | ((with_reducible apply is_gg); first | refine gtg ?_ | refine gfg ?_ | refine gug ?_) | ((with_reducible apply is_eg); refine eg ?_))
    refine ldbg hB8 (by simp) rfl rfl ?_
    repeat (first | ((with_reducible apply is_sg); refine sgu ?_) | ((with_reducible apply is_gg); first | refine gtg ?_ | refine gfg ?_ | refine gug ?_) | ((with_reducible apply is_eg); refine eg ?_))
    refine ldbg hB6 (by simp) rfl rfl ?_
    repeat (first | ((with_reducible apply is_sg); refine sgu ?_) | ((with_reducible apply is_gg); first | refine gtg ?_ | refine gfg ?_ | refine gug ?_) | ((with_reducible apply is_eg); refine eg ?_))
    refine ldbg hB8 (by simp) rfl rfl ?_
    (try ((with_reducible apply is_gg); first | refine gtg ?_ | refine gfg ?_ | refine gug ?_)); refine cag (fun w12 hc12 => same_any _ _ (tAdd n ts h) (tAdd n ts h) w12 (hX.ch hc12) (hY.ch hc12)) ?_
    rw [decide_eq_true (rfl : tAdd n ts h = tAdd n ts h)]
    repeat (first | ((with_reducible apply is_sg); refine sgu ?_) | ((with_reducible apply is_gg); first | refine gtg ?_ | refine gfg ?_ | refine gug ?_) | ((with_reducible apply is_eg); refine eg ?_))
    refine wg_val (fun _ _ => r_eqb (a := okb) (b := okb) rfl rfl) ?_
    rw [beq_self_eq_true]
    repeat (first | ((with_reducible apply is_sg); refine sgu ?_) | ((with_reducible apply is_gg); first | refine gtg ?_ | refine gfg ?_ | refine gug ?_) | ((with_reducible apply is_eg); refine eg ?_))
    (try ((with_reducible apply is_gg); first | refine gtg ?_ | refine gfg ?_ | refine gug ?_)); refine cag lives_g ?_
    repeat (first | ((with_reducible apply is_sg); refine sgu ?_) | ((with_reducible apply is_gg); first | refine gtg ?_ | refine gfg ?_ | refine gug ?_) | ((with_reducible apply is_eg); refine eg ?_))
    intro w12 hc12
    repeat (first | ((with_reducible apply is_st); refine su ?_) | ((with_reducible apply is_gd); first | refine gt ?_ | refine gf ?_ | refine gu ?_) | ((with_reducible apply is_en); refine en ?_) | (with_reducible first | apply x_then | apply wp_seq | apply c_region | apply wp_block | apply wp_skip | apply wp_exit | apply wp_ret | apply wp_label | apply wp_scope_straight | apply x_ng | apply x_ng_ret | apply x_ng_exit | apply x_then_ret | apply x_then_exit | apply x_block | apply x_block_ret | apply x_block_exit | refine x_block_other (by decide) ?_))
    exact out1 rfl ⟨rfl, hc11.then hc12⟩
end Go.Proofs.YtbecfcnbgeeghaaDoor

/- The law of paths; the document's example of one. -/
import Derived.Test.YtbecfcnbgeeghaaDoorGrown
import Derived.Test.YtbecfcnbgeeghaaDoorLAdds
set_option linter.unusedVariables false
set_option linter.unusedSimpArgs false
namespace Go.Proofs.YtbecfcnbgeeghaaDoor
open Go Go.RowKit Go.Proofs.E
attribute [local irreducible] Go.wpList Go.Code.wp Go.Proofs.E.exec Go.Proofs.E.wpLexG
theorem light_any (v : Value) (lv : List Hs) (w : World) (hR : (Ty.enc eH).Rd [] w v lv) : Calls Tryd.prog 26 #[v] w (Ret fun u w' => u = .bool (decide (lv.length ≤ 60)) ∧ w' = w) := by
  refine enter [v, undef, undef, undef, undef, undef] Tryd.func26 rfl rfl ?_
  have hle := hR.le
  obtain ⟨A, cap, rfl⟩ := hR.form
  repeat (first | ((with_reducible apply is_st); refine su ?_) | ((with_reducible apply is_gd); first | refine gt ?_ | refine gf ?_ | refine gu ?_) | ((with_reducible apply is_en); refine en ?_) | (with_reducible first | apply x_then | apply wp_seq | apply c_region | apply wp_block | apply wp_skip | apply wp_exit | apply wp_ret | apply wp_label | apply wp_scope_straight | apply x_ng | apply x_ng_ret | apply x_ng_exit | apply x_then_ret | apply x_then_exit | apply x_block | apply x_block_ret | apply x_block_exit | refine x_block_other (by decide) ?_))
  refine out1 rfl ⟨?_, rfl⟩
  show Value.bool _ = _
  congr 1
  rw [decide_eq_decide]
  omega
def exH (n : UInt8) : Hs := ⟨n :: List.replicate 31 0, by simp⟩
theorem ex_path : pathZ [exH 0, exH 1, exH 2] 2 = [nodeH (exH 0) (exH 1)] := by
  have h3 : splitN 3 = 2 := splitN_eq (j := 1) (by omega) (by omega) (by omega)
  have h2 : splitN 2 = 1 := splitN_eq (j := 0) (by omega) (by omega) (by omega)
  have e := pathZ_t (l := [exH 0, exH 1, exH 2]) (m := 2) (by simp)
  rw [show (2 : Int) = ((2 : Nat) : Int) from rfl, e]
  have hd := down_right (l := [exH 0, exH 1, exH 2]) (i := 2) (by simp) (by simp) (by
    rw [show [exH 0, exH 1, exH 2].length = 3 from rfl, h3]
    omega)
  rw [hd, show [exH 0, exH 1, exH 2].length = 3 from rfl, h3, down_one (by simp)]
  have hr : rootH [exH 0, exH 1] = nodeH (exH 0) (exH 1) := by
    have := rootG_two (nd := nodeH) (em := emptyH) (l := [exH 0, exH 1]) (by simp) (by simp)
    rw [show [exH 0, exH 1].length = 2 from rfl, h2] at this
    exact this
  show [rootH [exH 0, exH 1]] = _
  rw [hr]
set_option maxHeartbeats 8000000 in
theorem lives10_any (w : World) (hK : Laid w) : Calls Tryd.prog 27 #[] w (Ret fun v w' => v = .bool true ∧ Ch [] w w') := by
  refine enter [undef, undef, undef, undef, undef, undef, undef, undef, undef, undef, undef, undef, undef, undef, undef, undef, undef, undef, undef, undef, undef, undef, undef, undef, undef, undef, undef, undef, undef, undef] Tryd.func27 rfl rfl ?_
  repeat (first | ((with_reducible apply is_st); refine su ?_) | ((with_reducible apply is_gd); first | refine gt ?_ | refine gf ?_ | refine gu ?_) | ((with_reducible apply is_en); refine en ?_) | (with_reducible first | apply x_then | apply wp_seq | apply c_region | apply wp_block | apply wp_skip | apply wp_exit | apply wp_ret | apply wp_label | apply wp_scope_straight | apply x_ng | apply x_ng_ret | apply x_ng_exit | apply x_then_ret | apply x_then_exit | apply x_block | apply x_block_ret | apply x_block_exit | refine x_block_other (by decide) ?_))
  refine wl_alloc (fun w1 b hb => ?_)
  have hB : Blk w1 b ((List.replicate 96 (0 : UInt8)).map u8v) 73 := hb.blk
  have e1 := hb.at_
  repeat (first | ((with_reducible apply is_st); refine su ?_) | ((with_reducible apply is_gd); first | refine gt ?_ | refine gf ?_ | refine gu ?_) | ((with_reducible apply is_en); refine en ?_) | (with_reducible first | apply x_then | apply wp_seq | apply c_region | apply wp_block | apply wp_skip | apply wp_exit | apply wp_ret | apply wp_label | apply wp_scope_straight | apply x_ng | apply x_ng_ret | apply x_ng_exit | apply x_then_ret | apply x_then_exit | apply x_block | apply x_block_ret | apply x_block_exit | refine x_block_other (by decide) ?_))
  refine stb (v := u8v 1) hB rfl rfl rfl rfl (by simp) (fun w2 hB2 hch2 hs2 => ?_)
  repeat (first | ((with_reducible apply is_st); refine su ?_) | ((with_reducible apply is_gd); first | refine gt ?_ | refine gf ?_ | refine gu ?_) | ((with_reducible apply is_en); refine en ?_) | (with_reducible first | apply x_then | apply wp_seq | apply c_region | apply wp_block | apply wp_skip | apply wp_exit | apply wp_ret | apply wp_label | apply wp_scope_straight | apply x_ng | apply x_ng_ret | apply x_ng_exit | apply x_then_ret | apply x_then_exit | apply x_block | apply x_block_ret | apply x_block_exit | refine x_block_other (by decide) ?_))
  refine stb (v := u8v 2) hB2 rfl rfl rfl rfl (by simp) (fun w3 hB3 hch3 hs3 => ?_)
  have hc3 : Ch [] w w3 := (hb.ch.own hch2 (by omega)).own hch3 (by omega)
  have hB3 : Blk w3 b ([exH 0, exH 1, exH 2].flatMap eH.f) 73 := by
    have e : (((List.replicate 96 (0 : UInt8)).map u8v).set (0 + (1 : Int).toNat * 32 + (0 : Int).toNat * 1) (u8v 1)).set (0 + (2 : Int).toNat * 32 + (0 : Int).toNat * 1) (u8v 2) = [exH 0, exH 1, exH 2].flatMap eH.f := by kernel_rfl
    rw [← e]
    exact hB3
  have hR : (Ty.enc eH).Rd [] w3 (.slice (some ⟨b, 0, none⟩) 3 3) [exH 0, exH 1, exH 2] := hB3.rdP (m := 3) (by simp) (by kernel_rfl) rfl (by omega) (by omega)
  repeat (first | ((with_reducible apply is_st); refine su ?_) | ((with_reducible apply is_gd); first | refine gt ?_ | refine gf ?_ | refine gu ?_) | ((with_reducible apply is_en); refine en ?_) | (with_reducible first | apply x_then | apply wp_seq | apply c_region | apply wp_block | apply wp_skip | apply wp_exit | apply wp_ret | apply wp_label | apply wp_scope_straight | apply x_ng | apply x_ng_ret | apply x_ng_exit | apply x_then_ret | apply x_then_exit | apply x_block | apply x_block_ret | apply x_block_exit | refine x_block_other (by decide) ?_))
  refine wl_val (r_cut_arr0 rfl) ?_
  (try ((with_reducible apply is_gd); first | refine gt ?_ | refine gf ?_ | refine gu ?_)); refine ca (path_any _ [exH 0, exH 1, exH 2] 2 w3 (hK.ch hc3 (by simp)) hR (by simp)) ?_
  rintro _ w4 ⟨hc4, v4, rfl, hP⟩
  have hP := hP [] (by simp)
  rw [ex_path] at hP
  rw [show inZ 2 [exH 0, exH 1, exH 2].length = true from inZ_t (n := 3) (m := 2) (by omega)]
  have hB4 := hB3.ch hc4 (by simp)
  have hc4 : Ch [] w w4 := hc3.then hc4
  obtain ⟨A, c, rfl⟩ := hP.form
  repeat (first | ((with_reducible apply is_st); refine su ?_) | ((with_reducible apply is_gd); first | refine gt ?_ | refine gf ?_ | refine gu ?_) | ((with_reducible apply is_en); refine en ?_) | (with_reducible first | apply x_then | apply wp_seq | apply c_region | apply wp_block | apply wp_skip | apply wp_exit | apply wp_ret | apply wp_label | apply wp_scope_straight | apply x_ng | apply x_ng_ret | apply x_ng_exit | apply x_then_ret | apply x_then_exit | apply x_block | apply x_block_ret | apply x_block_exit | refine x_block_other (by decide) ?_))
  refine c_draw [] (by kernel_rfl) (by kernel_rfl) (fun w5 hc5 hs5 => ?_)
  have hB5 := hB4.ch hc5 (by simp)
  repeat (first | ((with_reducible apply is_sg); refine sgu ?_) | ((with_reducible apply is_gg); first | refine gtg ?_ | refine gfg ?_ | refine gug ?_) | ((with_reducible apply is_eg); refine eg ?_))
  (try ((with_reducible apply is_gg); first | refine gtg ?_ | refine gfg ?_ | refine gug ?_)); refine ixg (hP.ch hc5) (fun b1 o1 x1 hx1 hA1 => ?_)
  obtain rfl := Option.some.inj hx1
  (try ((with_reducible apply is_gg); first | refine gtg ?_ | refine gfg ?_ | refine gug ?_)); refine ldrg hA1 ?_
  repeat (first | ((with_reducible apply is_sg); refine sgu ?_) | ((with_reducible apply is_gg); first | refine gtg ?_ | refine gfg ?_ | refine gug ?_) | ((with_reducible apply is_eg); refine eg ?_))
  (try ((with_reducible apply is_gg); refine gtg ?_))
  refine ldbrg (n := 32) hB5 (by simp) rfl (ds := (exH 0).1.map u8v) (by kernel_rfl) (by simp [(exH 0).2]) ?_
  repeat (first | ((with_reducible apply is_sg); refine sgu ?_) | ((with_reducible apply is_gg); first | refine gtg ?_ | refine gfg ?_ | refine gug ?_) | ((with_reducible apply is_eg); refine eg ?_))
  (try ((with_reducible apply is_gg); refine gtg ?_))
  refine ldbrg (n := 32) hB5 (by simp) rfl (ds := (exH 1).1.map u8v) (by kernel_rfl) (by simp [(exH 1).2]) ?_
  (try ((with_reducible apply is_gg); first | refine gtg ?_ | refine gfg ?_ | refine gug ?_)); refine cag (fun w6 hc6 => rnode_any (exH 0).1 (exH 1).1 (exH 0).2 (exH 1).2 w6) ?_
  (try ((with_reducible apply is_gg); refine gtg ?_))
  refine wg_val (fun _ _ => r_eql8 (n := 32) (a := (nodeH (exH 0) (exH 1)).1) (b := (nodeH (exH 0) (exH 1)).1) Tryd.eqGuardType26 rfl rfl (nodeH (exH 0) (exH 1)).2 (nodeH (exH 0) (exH 1)).2) ?_
  rw [decide_eq_true rfl]
  repeat (first | ((with_reducible apply is_sg); refine sgu ?_) | ((with_reducible apply is_gg); first | refine gtg ?_ | refine gfg ?_ | refine gug ?_) | ((with_reducible apply is_eg); refine eg ?_))
  intro w6 hc6
  repeat (first | ((with_reducible apply is_st); refine su ?_) | ((with_reducible apply is_gd); first | refine gt ?_ | refine gf ?_ | refine gu ?_) | ((with_reducible apply is_en); refine en ?_) | (with_reducible first | apply x_then | apply wp_seq | apply c_region | apply wp_block | apply wp_skip | apply wp_exit | apply wp_ret | apply wp_label | apply wp_scope_straight | apply x_ng | apply x_ng_ret | apply x_ng_exit | apply x_then_ret | apply x_then_exit | apply x_block | apply x_block_ret | apply x_block_exit | refine x_block_other (by decide) ?_))
  exact out1 rfl ⟨rfl, (hc4.then hc5).then hc6⟩
set_option maxHeartbeats 8000000 in
theorem paths_any (v : Value) (lv : List Hs) (i : Int) (w : World) (hK : Laid w) (hR : (Ty.enc eH).Rd [] w v lv) :
    Calls Tryd.prog 5 #[v, .int .i64 i] w (Ret fun u w' => u = .bool true ∧ Ch [] w w') := by
  refine enter [v, .int .i64 i, undef, undef, undef, undef, undef, undef, undef, undef, undef, undef, undef, undef, undef, undef, undef, undef, undef, undef, undef, undef, undef, undef, undef, undef, undef, undef, undef, undef, undef, undef, undef, undef, undef, undef, undef, undef, undef, undef, undef, undef, undef, undef, undef, undef, undef, undef, undef, undef, undef, undef, undef, undef, undef, undef, undef, undef, undef, undef, undef, undef] Tryd.func5 rfl rfl ?_
  have hle := hR.le
  obtain ⟨A, cap, rfl⟩ := hR.form
  repeat (first | ((with_reducible apply is_st); refine su ?_) | ((with_reducible apply is_gd); first | refine gt ?_ | refine gf ?_ | refine gu ?_) | ((with_reducible apply is_en); refine en ?_) | (with_reducible first | apply x_then | apply wp_seq | apply c_region | apply wp_block | apply wp_skip | apply wp_exit | apply wp_ret | apply wp_label | apply wp_scope_straight | apply x_ng | apply x_ng_ret | apply x_ng_exit | apply x_then_ret | apply x_then_exit | apply x_block | apply x_block_ret | apply x_block_exit | refine x_block_other (by decide) ?_))
  (try ((with_reducible apply is_gd); first | refine gt ?_ | refine gf ?_ | refine gu ?_)); refine ca (light_any _ lv w hR) ?_
  rintro _ w1 ⟨rfl, hw1⟩
  subst hw1
  by_cases h60 : lv.length ≤ 60
  · rw [decide_eq_true h60]
    repeat (first | ((with_reducible apply is_st); refine su ?_) | ((with_reducible apply is_gd); first | refine gt ?_ | refine gf ?_ | refine gu ?_) | ((with_reducible apply is_en); refine en ?_) | (with_reducible first | apply x_then | apply wp_seq | apply c_region | apply wp_block | apply wp_skip | apply wp_exit | apply wp_ret | apply wp_label | apply wp_scope_straight | apply x_ng | apply x_ng_ret | apply x_ng_exit | apply x_then_ret | apply x_then_exit | apply x_block | apply x_block_ret | apply x_block_exit | refine x_block_other (by decide) ?_))
    refine c_condb rfl (fun h => by cases h) (fun _ => ?_)
    repeat (first | ((with_reducible apply is_st); refine su ?_) | ((with_reducible apply is_gd); first | refine gt ?_ | refine gf ?_ | refine gu ?_) | ((with_reducible apply is_en); refine en ?_) | (with_reducible first | apply x_then | apply wp_seq | apply c_region | apply wp_block | apply wp_skip | apply wp_exit | apply wp_ret | apply wp_label | apply wp_scope_straight | apply x_ng | apply x_ng_ret | apply x_ng_exit | apply x_then_ret | apply x_then_exit | apply x_block | apply x_block_ret | apply x_block_exit | refine x_block_other (by decide) ?_))
    (try ((with_reducible apply is_gd); first | refine gt ?_ | refine gf ?_ | refine gu ?_)); refine ca (path_any _ lv i w1 hK hR (by omega)) ?_
    rintro _ w2 ⟨hc2, v2, rfl, hP⟩
    have hP := hP [] (by simp)
    repeat (first | ((with_reducible apply is_st); refine su ?_) | ((with_reducible apply is_gd); first | refine gt ?_ | refine gf ?_ | refine gu ?_) | ((with_reducible apply is_en); refine en ?_) | (with_reducible first | apply x_then | apply wp_seq | apply c_region | apply wp_block | apply wp_skip | apply wp_exit | apply wp_ret | apply wp_label | apply wp_scope_straight | apply x_ng | apply x_ng_ret | apply x_ng_exit | apply x_then_ret | apply x_then_exit | apply x_block | apply x_block_ret | apply x_block_exit | refine x_block_other (by decide) ?_))
    (try ((with_reducible apply is_gd); first | refine gt ?_ | refine gf ?_ | refine gu ?_)); refine ca (rpath_any lv.length _ lv i w2 rfl (hR.ch hc2) (by omega)) ?_
    rintro _ w3 ⟨hc3, v3, rfl, hQ⟩
    have hQ := hQ [] (by simp)
    have hc13 := hc2.then hc3
    repeat (first | ((with_reducible apply is_st); refine su ?_) | ((with_reducible apply is_gd); first | refine gt ?_ | refine gf ?_ | refine gu ?_) | ((with_reducible apply is_en); refine en ?_) | (with_reducible first | apply x_then | apply wp_seq | apply c_region | apply wp_block | apply wp_skip | apply wp_exit | apply wp_ret | apply wp_label | apply wp_scope_straight | apply x_ng | apply x_ng_ret | apply x_ng_exit | apply x_then_ret | apply x_then_exit | apply x_block | apply x_block_ret | apply x_block_exit | refine x_block_other (by decide) ?_))
    (try ((with_reducible apply is_gd); first | refine gt ?_ | refine gf ?_ | refine gu ?_)); refine ca (grown_any _ lv i w3 (hK.ch hc13 (by simp)) (hR.ch hc13) (by omega)) ?_
    rintro _ w4 ⟨hc4, v4, rfl, hG⟩
    have hG := hG [] (by simp)
    have hc14 := hc13.then hc4
    repeat (first | ((with_reducible apply is_st); refine su ?_) | ((with_reducible apply is_gd); first | refine gt ?_ | refine gf ?_ | refine gu ?_) | ((with_reducible apply is_en); refine en ?_) | (with_reducible first | apply x_then | apply wp_seq | apply c_region | apply wp_block | apply wp_skip | apply wp_exit | apply wp_ret | apply wp_label | apply wp_scope_straight | apply x_ng | apply x_ng_ret | apply x_ng_exit | apply x_then_ret | apply x_then_exit | apply x_block | apply x_block_ret | apply x_block_exit | refine x_block_other (by decide) ?_))
    (try ((with_reducible apply is_gd); first | refine gt ?_ | refine gf ?_ | refine gu ?_)); refine ca (rgrown_any _ lv i w4 (hR.ch hc14) (by omega)) ?_
    rintro _ w5 ⟨hc5, v5, rfl, hH⟩
    have hH := hH [] (by simp)
    have hc15 := hc14.then hc5
    repeat (first | ((with_reducible apply is_st); refine su ?_) | ((with_reducible apply is_gd); first | refine gt ?_ | refine gf ?_ | refine gu ?_) | ((with_reducible apply is_en); refine en ?_) | (with_reducible first | apply x_then | apply wp_seq | apply c_region | apply wp_block | apply wp_skip | apply wp_exit | apply wp_ret | apply wp_label | apply wp_scope_straight | apply x_ng | apply x_ng_ret | apply x_ng_exit | apply x_then_ret | apply x_then_exit | apply x_block | apply x_block_ret | apply x_block_exit | refine x_block_other (by decide) ?_))
    (try ((with_reducible apply is_gd); first | refine gt ?_ | refine gf ?_ | refine gu ?_)); refine ca (same_any v2 v3 (pathZ lv i) (pathZ lv i) w5 (((hP.ch hc3).ch hc4).ch hc5) ((hQ.ch hc4).ch hc5)) ?_
    rintro _ w6 ⟨rfl, hc6⟩
    rw [decide_eq_true (rfl : pathZ lv i = pathZ lv i)]
    repeat (first | ((with_reducible apply is_st); refine su ?_) | ((with_reducible apply is_gd); first | refine gt ?_ | refine gf ?_ | refine gu ?_) | ((with_reducible apply is_en); refine en ?_) | (with_reducible first | apply x_then | apply wp_seq | apply c_region | apply wp_block | apply wp_skip | apply wp_exit | apply wp_ret | apply wp_label | apply wp_scope_straight | apply x_ng | apply x_ng_ret | apply x_ng_exit | apply x_then_ret | apply x_then_exit | apply x_block | apply x_block_ret | apply x_block_exit | refine x_block_other (by decide) ?_))
    (try ((with_reducible apply is_gd); first | refine gt ?_ | refine gf ?_ | refine gu ?_)); refine wl_val (r_eqb (a := inZ i lv.length) (b := inZ i lv.length) rfl rfl) ?_
    rw [beq_self_eq_true]
    repeat (first | ((with_reducible apply is_st); refine su ?_) | ((with_reducible apply is_gd); first | refine gt ?_ | refine gf ?_ | refine gu ?_) | ((with_reducible apply is_en); refine en ?_) | (with_reducible first | apply x_then | apply wp_seq | apply c_region | apply wp_block | apply wp_skip | apply wp_exit | apply wp_ret | apply wp_label | apply wp_scope_straight | apply x_ng | apply x_ng_ret | apply x_ng_exit | apply x_then_ret | apply x_then_exit | apply x_block | apply x_block_ret | apply x_block_exit | refine x_block_other (by decide) ?_))
    (try ((with_reducible apply is_gd); first | refine gt ?_ | refine gf ?_ | refine gu ?_)); refine ca (same_any v4 v5 (grownZ lv i) (grownZ lv i) w6 ((hG.ch hc5).ch hc6) (hH.ch hc6)) ?_
    rintro _ w7 ⟨rfl, hc7⟩
    rw [decide_eq_true (rfl : grownZ lv i = grownZ lv i)]
    repeat (first | ((with_reducible apply is_st); refine su ?_) | ((with_reducible apply is_gd); first | refine gt ?_ | refine gf ?_ | refine gu ?_) | ((with_reducible apply is_en); refine en ?_) | (with_reducible first | apply x_then | apply wp_seq | apply c_region | apply wp_block | apply wp_skip | apply wp_exit | apply wp_ret | apply wp_label | apply wp_scope_straight | apply x_ng | apply x_ng_ret | apply x_ng_exit | apply x_then_ret | apply x_then_exit | apply x_block | apply x_block_ret | apply x_block_exit | refine x_block_other (by decide) ?_))
    (try ((with_reducible apply is_gd); first | refine gt ?_ | refine gf ?_ | refine gu ?_)); refine wl_val (r_eqb (a := inG i lv.length) (b := inG i lv.length) rfl rfl) ?_
    rw [beq_self_eq_true]
    repeat (first | ((with_reducible apply is_st); refine su ?_) | ((with_reducible apply is_gd); first | refine gt ?_ | refine gf ?_ | refine gu ?_) | ((with_reducible apply is_en); refine en ?_) | (with_reducible first | apply x_then | apply wp_seq | apply c_region | apply wp_block | apply wp_skip | apply wp_exit | apply wp_ret | apply wp_label | apply wp_scope_straight | apply x_ng | apply x_ng_ret | apply x_ng_exit | apply x_then_ret | apply x_then_exit | apply x_block | apply x_block_ret | apply x_block_exit | refine x_block_other (by decide) ?_))
    (try ((with_reducible apply is_gd); first | refine gt ?_ | refine gf ?_ | refine gu ?_)); refine ca (lives10_any w7 (hK.ch ((hc15.then hc6).then hc7) (by simp))) ?_
    rintro _ w8 ⟨rfl, hc8⟩
    repeat (first | ((with_reducible apply is_st); refine su ?_) | ((with_reducible apply is_gd); first | refine gt ?_ | refine gf ?_ | refine gu ?_) | ((with_reducible apply is_en); refine en ?_) | (with_reducible first | apply x_then | apply wp_seq | apply c_region | apply wp_block | apply wp_skip | apply wp_exit | apply wp_ret | apply wp_label | apply wp_scope_straight | apply x_ng | apply x_ng_ret | apply x_ng_exit | apply x_then_ret | apply x_then_exit | apply x_block | apply x_block_ret | apply x_block_exit | refine x_block_other (by decide) ?_))
    exact out1 rfl ⟨rfl, ((hc15.then hc6).then hc7).then hc8⟩
  · rw [decide_eq_false h60]
    repeat (first | ((with_reducible apply is_st); refine su ?_) | ((with_reducible apply is_gd); first | refine gt ?_ | refine gf ?_ | refine gu ?_) | ((with_reducible apply is_en); refine en ?_) | (with_reducible first | apply x_then | apply wp_seq | apply c_region | apply wp_block | apply wp_skip | apply wp_exit | apply wp_ret | apply wp_label | apply wp_scope_straight | apply x_ng | apply x_ng_ret | apply x_ng_exit | apply x_then_ret | apply x_then_exit | apply x_block | apply x_block_ret | apply x_block_exit | refine x_block_other (by decide) ?_))
    refine c_condb rfl (fun _ => ?_) (fun h => by cases h)
    repeat (first | ((with_reducible apply is_st); refine su ?_) | ((with_reducible apply is_gd); first | refine gt ?_ | refine gf ?_ | refine gu ?_) | ((with_reducible apply is_en); refine en ?_) | (with_reducible first | apply x_then | apply wp_seq | apply c_region | apply wp_block | apply wp_skip | apply wp_exit | apply wp_ret | apply wp_label | apply wp_scope_straight | apply x_ng | apply x_ng_ret | apply x_ng_exit | apply x_then_ret | apply x_then_exit | apply x_block | apply x_block_ret | apply x_block_exit | refine x_block_other (by decide) ?_))
    (try ((with_reducible apply is_gd); first | refine gt ?_ | refine gf ?_ | refine gu ?_)); refine ca (lives10_any w1 hK) ?_
    rintro _ w2 ⟨rfl, hc2⟩
    repeat (first | ((with_reducible apply is_st); refine su ?_) | ((with_reducible apply is_gd); first | refine gt ?_ | refine gf ?_ | refine gu ?_) | ((with_reducible apply is_en); refine en ?_) | (with_reducible first | apply x_then | apply wp_seq | apply c_region | apply wp_block | apply wp_skip | apply wp_exit | apply wp_ret | apply wp_label | apply wp_scope_straight | apply x_ng | apply x_ng_ret | apply x_ng_exit | apply x_then_ret | apply x_then_exit | apply x_block | apply x_block_ret | apply x_block_exit | refine x_block_other (by decide) ?_))
    exact out1 rfl ⟨rfl, hc2⟩
end Go.Proofs.YtbecfcnbgeeghaaDoor

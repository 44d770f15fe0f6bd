/- Walks: Ups, First and Leaves, both. -/
import Derived.Test.YtfldckjkipmibaaDoorClashG
set_option linter.unusedVariables false
set_option linter.unusedSimpArgs false
namespace Go.Proofs.YtfldckjkipmibaaDoor
open Go Go.RowKit Go.Proofs.E
attribute [local irreducible] Go.wpList Go.Code.wp Go.Proofs.E.exec Go.Proofs.E.wpLexG
set_option maxHeartbeats 8000000 in
theorem rUps_any (n i : Int) (vl vp : Value) (leaf : List UInt8) (path : List Hs) (w0 : World) (hRl : tU8.Rd [] w0 vl leaf) (hRp : (Ty.enc eH).Rd [] w0 vp path) (hll : leaf.length ≤ 1000000000) :
    Calls Tryd.prog 33 #[.int .i64 n, .int .i64 i, vl, vp] w0 (Ret fun u w' => ∃ v B, u = .tuple #[v, .bool (climbZ n i zeroH path).2] ∧ Mem [] w0 w' [.frd (Ty.sl tU8) B v (upsZ n i leaf path)]) := by
  have hM := Mem.start w0
  obtain ⟨ul, rfl⟩ := hRl.slv
  obtain ⟨up, rfl⟩ := hRp.slv
  refine enter [.int .i64 n, .int .i64 i, slv ul, slv up, undef, undef, undef, undef, undef, undef, undef, undef, undef, undef, undef, undef, undef, undef, undef, undef, undef, undef, undef, undef, undef, undef, undef] Tryd.func33 rfl rfl ?_
  repeat (first | ((with_reducible apply is_ld); first | refine kld hM ?_ | refine kldw hM ?_ | refine kle hM ?_ | refine klew hM ?_) | ((with_reducible apply is_sto); first | (refine kst hM ?_; intro w hM) | (refine kstw hM ?_; intro w hM)) | ((with_reducible apply is_st); refine su ?_) | ((with_reducible apply is_gd); first | refine gt ?_ | refine gf ?_ | refine gu ?_) | ((with_reducible apply is_en); refine en ?_) | (with_reducible first | apply x_then | apply wp_seq | apply c_region | apply wp_block | apply wp_skip | apply wp_exit | apply wp_ret | apply wp_label | apply wp_scope_straight | apply x_ng | apply x_ng_ret | apply x_ng_exit | apply x_then_ret | apply x_then_exit | apply x_block | apply x_block_ret | apply x_block_exit | refine x_block_other (by decide) ?_))
  (try ((with_reducible apply is_gd); first | refine gt ?_ | refine gf ?_ | refine gu ?_)); refine wl_val (r_build_arr0 (e := 5)) ?_
  repeat (first | ((with_reducible apply is_ld); first | refine kld hM ?_ | refine kldw hM ?_ | refine kle hM ?_ | refine klew hM ?_) | ((with_reducible apply is_sto); first | (refine kst hM ?_; intro w hM) | (refine kstw hM ?_; intro w hM)) | ((with_reducible apply is_st); refine su ?_) | ((with_reducible apply is_gd); first | refine gt ?_ | refine gf ?_ | refine gu ?_) | ((with_reducible apply is_en); refine en ?_) | (with_reducible first | apply x_then | apply wp_seq | apply c_region | apply wp_block | apply wp_skip | apply wp_exit | apply wp_ret | apply wp_label | apply wp_scope_straight | apply x_ng | apply x_ng_ret | apply x_ng_exit | apply x_then_ret | apply x_then_exit | apply x_block | apply x_block_ret | apply x_block_exit | refine x_block_other (by decide) ?_))
  refine kca hM (rclimb_any n i zeroH (slv up) path w0 hRp) (fun w hM => ?_)
  unfold upsZ
  have hok := climbZ_ok (n := n) (i := i) (leaf := zeroH) (path := path)
  generalize climbZ n i zeroH path = cz at hok ⊢
  repeat (first | ((with_reducible apply is_ld); first | refine kld hM ?_ | refine kldw hM ?_ | refine kle hM ?_ | refine klew hM ?_) | ((with_reducible apply is_sto); first | (refine kst hM ?_; intro w hM) | (refine kstw hM ?_; intro w hM)) | ((with_reducible apply is_st); refine su ?_) | ((with_reducible apply is_gd); first | refine gt ?_ | refine gf ?_ | refine gu ?_) | ((with_reducible apply is_en); refine en ?_) | (with_reducible first | apply x_then | apply wp_seq | apply c_region | apply wp_block | apply wp_skip | apply wp_exit | apply wp_ret | apply wp_label | apply wp_scope_straight | apply x_ng | apply x_ng_ret | apply x_ng_exit | apply x_then_ret | apply x_then_exit | apply x_block | apply x_block_ret | apply x_block_exit | refine x_block_other (by decide) ?_))
  refine kal hM (fun w b10 hM => ?_)
  refine kstw (vs := cz.1.1.map u8v) hM (fun w hM => ?_)
  repeat (first | ((with_reducible apply is_ld); first | refine kld hM ?_ | refine kldw hM ?_ | refine kle hM ?_ | refine klew hM ?_) | ((with_reducible apply is_sto); first | (refine kst hM ?_; intro w hM) | (refine kstw hM ?_; intro w hM)) | ((with_reducible apply is_st); refine su ?_) | ((with_reducible apply is_gd); first | refine gt ?_ | refine gf ?_ | refine gu ?_) | ((with_reducible apply is_en); refine en ?_) | (with_reducible first | apply x_then | apply wp_seq | apply c_region | apply wp_block | apply wp_skip | apply wp_exit | apply wp_ret | apply wp_label | apply wp_scope_straight | apply x_ng | apply x_ng_ret | apply x_ng_exit | apply x_then_ret | apply x_then_exit | apply x_block | apply x_block_ret | apply x_block_exit | refine x_block_other (by decide) ?_))
  by_cases hc : cz.2 = true
  case neg =>
    rw [Bool.not_eq_true] at hc
    rw [hc]
    refine c_condb rfl (fun _ => ?_) (fun h => by cases h)
    repeat (first | ((with_reducible apply is_ld); first | refine kld hM ?_ | refine kldw hM ?_ | refine kle hM ?_ | refine klew hM ?_) | ((with_reducible apply is_sto); first | (refine kst hM ?_; intro w hM) | (refine kstw hM ?_; intro w hM)) | ((with_reducible apply is_st); refine su ?_) | ((with_reducible apply is_gd); first | refine gt ?_ | refine gf ?_ | refine gu ?_) | ((with_reducible apply is_en); refine en ?_) | (with_reducible first | apply x_then | apply wp_seq | apply c_region | apply wp_block | apply wp_skip | apply wp_exit | apply wp_ret | apply wp_label | apply wp_scope_straight | apply x_ng | apply x_ng_ret | apply x_ng_exit | apply x_then_ret | apply x_then_exit | apply x_block | apply x_block_ret | apply x_block_exit | refine x_block_other (by decide) ?_))
    exact out2 rfl ⟨_, _, rfl, (hM.nil.frd0 (Ty.sl tU8) none 0)⟩
  case pos =>
    rw [hc]
    refine c_condb rfl (fun h => by cases h) (fun _ => ?_)
    obtain ⟨hin, hlen⟩ := hok.1 hc
    unfold inC at hin
    simp only [Bool.and_eq_true, decide_eq_true_eq] at hin
    obtain ⟨N, rfl⟩ := Int.eq_ofNat_of_zero_le (by omega : 0 ≤ n)
    obtain ⟨I, rfl⟩ := Int.eq_ofNat_of_zero_le (by omega : 0 ≤ i)
    rw [Int.toNat_natCast, Int.toNat_natCast] at hlen
    rw [Int.toNat_natCast, Int.toNat_natCast, if_pos rfl]
    have htl := turns_len N I
    repeat (first | ((with_reducible apply is_ld); first | refine kld hM ?_ | refine kldw hM ?_ | refine kle hM ?_ | refine klew hM ?_) | ((with_reducible apply is_sto); first | (refine kst hM ?_; intro w hM) | (refine kstw hM ?_; intro w hM)) | ((with_reducible apply is_st); refine su ?_) | ((with_reducible apply is_gd); first | refine gt ?_ | refine gf ?_ | refine gu ?_) | ((with_reducible apply is_en); refine en ?_) | (with_reducible first | apply x_then | apply wp_seq | apply c_region | apply wp_block | apply wp_skip | apply wp_exit | apply wp_ret | apply wp_label | apply wp_scope_straight | apply x_ng | apply x_ng_ret | apply x_ng_exit | apply x_then_ret | apply x_then_exit | apply x_block | apply x_block_ret | apply x_block_exit | refine x_block_other (by decide) ?_))
    refine ca (rups_any N I (slv ul) (slv up) leaf path w (hRl.ch hM.ch) (hRp.ch hM.ch) (by omega) (by omega) hlen hll) ?_
    rintro v w2 ⟨ps, B, hN, hps⟩
    have hM := hM.nil.join hN (by simp [As.plain])
    have hpl : ps.length = (sidesB N I).length + 1 := by rw [← List.length_map (fun p : SlV × List UInt8 => p.2), hps, upsT_len]
    rw [sidesB_len] at hpl
    repeat (first | ((with_reducible apply is_ld); first | refine kld hM ?_ | refine kldw hM ?_ | refine kle hM ?_ | refine klew hM ?_) | ((with_reducible apply is_sto); first | (refine kst hM ?_; intro w hM) | (refine kstw hM ?_; intro w hM)) | ((with_reducible apply is_st); refine su ?_) | ((with_reducible apply is_gd); first | refine gt ?_ | refine gf ?_ | refine gu ?_) | ((with_reducible apply is_en); refine en ?_) | (with_reducible first | apply x_then | apply wp_seq | apply c_region | apply wp_block | apply wp_skip | apply wp_exit | apply wp_ret | apply wp_label | apply wp_scope_straight | apply x_ng | apply x_ng_ret | apply x_ng_exit | apply x_then_ret | apply x_then_exit | apply x_block | apply x_block_ret | apply x_block_exit | refine x_block_other (by decide) ?_))
    have hM := (hM.sub (M := [.row eSl 41 v (ps.map (fun p : SlV × List UInt8 => p.1)), .many tU8 B ps]) (by (repeat (first | exact Go.Proofs.E.Sub.nil | (apply Go.Proofs.E.Sub.cons; (repeat (first | exact Go.Proofs.E.Pick.here | apply Go.Proofs.E.Pick.there))))))).manyFrd (by omega)
    rw [hps] at hM
    exact out2 rfl ⟨_, _, rfl, hM⟩
set_option maxHeartbeats 16000000 in
theorem rfirst_any (va vb : Value) (xs ys : List (List UInt8)) (w0 : World) (hRa : (Ty.sl tU8).Rd [] w0 va xs) (hRb : (Ty.sl tU8).Rd [] w0 vb ys)
    (ha : ∀ x ∈ xs, x.length ≤ 1099511627776) (hb : ∀ x ∈ ys, x.length ≤ 1099511627776) (hla : xs.length ≤ 1099511627776) :
    Calls Tryd.prog 42 #[va, vb] w0 (Ret fun u w' => ∃ v1 v2, u = .tuple #[v1, v2, .bool (firstL (pairsL xs ys)).isSome] ∧
      Mem [] w0 w' [.row eU8 5 v1 (fstL (firstL (pairsL xs ys))), .row eU8 5 v2 (sndL (firstL (pairsL xs ys)))]) := by
  obtain ⟨ps, rfl, hPa, hpa⟩ := hRa.raw
  obtain ⟨qs, rfl, hPb, hqb⟩ := hRb.raw
  have hM := Mem.start w0
  unfold pairsL
  rw [zip_pr]
  obtain ⟨R, hR⟩ : ∃ R, ps.reverse.zip qs.reverse = R := ⟨_, rfl⟩
  have hmem : ∀ r ∈ R, r.1 ∈ ps ∧ r.2 ∈ qs := fun r hr => by
    rw [← hR] at hr
    have := List.of_mem_zip (a := r.1) (b := r.2) hr
    simpa using this
  rw [hR]
  have hRl : R.length = min ps.length qs.length := by rw [← hR]; simp
  have hle1 := hPa.le
  have hle2 := hPb.le
  obtain ⟨A1, c1, rfl⟩ := hPa.form
  obtain ⟨A2, c2, rfl⟩ := hPb.form
  simp only [List.length_map] at hla hle1 hle2 hPa hPb ⊢
  refine enter [.slice A1 ps.length c1, .slice A2 qs.length c2, undef, undef, undef, undef, undef, undef, undef, undef, undef, undef, undef, undef, undef, undef, undef, undef, undef, undef, undef, undef, undef, undef, undef, undef, undef, undef, undef, undef, undef, undef, undef, undef, undef, undef, undef, undef, undef, undef, undef, undef, undef, undef, undef, undef, undef, undef, undef, undef, undef, undef] Tryd.func42 rfl rfl ?_
  repeat (first | ((with_reducible apply is_ld); first | refine kld hM ?_ | refine kldw hM ?_ | refine kle hM ?_ | refine klew hM ?_) | ((with_reducible apply is_sto); first | (refine kst hM ?_; intro w hM) | (refine kstw hM ?_; intro w hM)) | ((with_reducible apply is_st); refine su ?_) | ((with_reducible apply is_gd); first | refine gt ?_ | refine gf ?_ | refine gu ?_) | ((with_reducible apply is_en); refine en ?_) | (with_reducible first | apply x_then | apply wp_seq | apply c_region | apply wp_block | apply wp_skip | apply wp_exit | apply wp_ret | apply wp_label | apply wp_scope_straight | apply x_ng | apply x_ng_ret | apply x_ng_exit | apply x_then_ret | apply x_then_exit | apply x_block | apply x_block_ret | apply x_block_exit | refine x_block_other (by decide) ?_))
  
  refine c_loop (fun k l w => ∃ (j : Nat), (∃ jj : Nat → Value, l = [.slice A1 ps.length c1, .slice A2 qs.length c2, jj 2, jj 3, jj 4, jj 5, jj 6, .int .i64 ((j : Int) + 1), jj 8, jj 9, jj 10, jj 11, jj 12, jj 13, jj 14, jj 15, jj 16, jj 17, jj 18, jj 19, jj 20, jj 21, jj 22, jj 23, jj 24, jj 25, jj 26, jj 27, jj 28, jj 29, jj 30, jj 31, jj 32, jj 33, jj 34, jj 35, jj 36, jj 37, jj 38, jj 39, jj 40, jj 41, jj 42, jj 43, jj 44, jj 45, jj 46, jj 47, jj 48, jj 49, jj 50, jj 51]) ∧ k + j = R.length ∧ Mem [] w0 w [] ∧ firstL (R.map fun r => (r.1.2, r.2.2)) = firstL ((R.drop j).map fun r => (r.1.2, r.2.2))) R.length
    ⟨0, exj rfl, rfl, hM, rfl⟩ ?_
  clear hM
  rintro k l w ⟨j, ⟨jj, rfl⟩, hkj, hM, hf⟩
  repeat (first | ((with_reducible apply is_ld); first | refine kld hM ?_ | refine kldw hM ?_ | refine kle hM ?_ | refine klew hM ?_) | ((with_reducible apply is_sto); first | (refine kst hM ?_; intro w hM) | (refine kstw hM ?_; intro w hM)) | ((with_reducible apply is_st); refine su ?_) | ((with_reducible apply is_gd); first | refine gt ?_ | refine gf ?_ | refine gu ?_) | ((with_reducible apply is_en); refine en ?_) | (with_reducible first | apply x_then | apply wp_seq | apply c_region | apply wp_block | apply wp_skip | apply wp_exit | apply wp_ret | apply wp_label | apply wp_scope_straight | apply x_ng | apply x_ng_ret | apply x_ng_exit | apply x_then_ret | apply x_then_exit | apply x_block | apply x_block_ret | apply x_block_exit | refine x_block_other (by decide) ?_))
  by_cases hj : j < R.length
  · rw [decide_eq_true (by omega : (j : Int) + 1 ≤ (ps.length : Int))]
    repeat (first | ((with_reducible apply is_ld); first | refine kld hM ?_ | refine kldw hM ?_ | refine kle hM ?_ | refine klew hM ?_) | ((with_reducible apply is_sto); first | (refine kst hM ?_; intro w hM) | (refine kstw hM ?_; intro w hM)) | ((with_reducible apply is_st); refine su ?_) | ((with_reducible apply is_gd); first | refine gt ?_ | refine gf ?_ | refine gu ?_) | ((with_reducible apply is_en); refine en ?_) | (with_reducible first | apply x_then | apply wp_seq | apply c_region | apply wp_block | apply wp_skip | apply wp_exit | apply wp_ret | apply wp_label | apply wp_scope_straight | apply x_ng | apply x_ng_ret | apply x_ng_exit | apply x_then_ret | apply x_then_exit | apply x_block | apply x_block_ret | apply x_block_exit | refine x_block_other (by decide) ?_))
    rw [decide_eq_true (by omega : (j : Int) + 1 ≤ (qs.length : Int))]
    repeat (first | ((with_reducible apply is_ld); first | refine kld hM ?_ | refine kldw hM ?_ | refine kle hM ?_ | refine klew hM ?_) | ((with_reducible apply is_sto); first | (refine kst hM ?_; intro w hM) | (refine kstw hM ?_; intro w hM)) | ((with_reducible apply is_st); refine su ?_) | ((with_reducible apply is_gd); first | refine gt ?_ | refine gf ?_ | refine gu ?_) | ((with_reducible apply is_en); refine en ?_) | (with_reducible first | apply x_then | apply wp_seq | apply c_region | apply wp_block | apply wp_skip | apply wp_exit | apply wp_ret | apply wp_label | apply wp_scope_straight | apply x_ng | apply x_ng_ret | apply x_ng_exit | apply x_then_ret | apply x_then_exit | apply x_block | apply x_block_ret | apply x_block_exit | refine x_block_other (by decide) ?_))
    refine c_condb rfl (fun _ => ?_) (fun h => by cases h)
    obtain ⟨q, hq⟩ : ∃ q, R[j]? = some q := ⟨_, List.getElem?_eq_getElem hj⟩
    have hqm := hmem q (List.mem_of_getElem? hq)
    have hx := hpa q.1 hqm.1
    have hy := hqb q.2 hqm.2
    have hxl := ha q.1.2 (List.mem_map_of_mem hqm.1)
    have hyl := hb q.2.2 (List.mem_map_of_mem hqm.2)
    have hd : R.drop j = q :: R.drop (j + 1) := by
      obtain ⟨hlt, he⟩ := List.getElem?_eq_some_iff.1 hq
      rw [List.drop_eq_getElem_cons hlt, he]
    rw [hd, List.map_cons] at hf
    have hqa : ps[ps.length - 1 - j]? = some q.1 ∧ qs[qs.length - 1 - j]? = some q.2 := by
      rw [← hR, List.getElem?_zip_eq_some, List.getElem?_reverse (by omega), List.getElem?_reverse (by omega)] at hq
      exact hq
    repeat (first | ((with_reducible apply is_ld); first | refine kld hM ?_ | refine kldw hM ?_ | refine kle hM ?_ | refine klew hM ?_) | ((with_reducible apply is_sto); first | (refine kst hM ?_; intro w hM) | (refine kstw hM ?_; intro w hM)) | ((with_reducible apply is_st); refine su ?_) | ((with_reducible apply is_gd); first | refine gt ?_ | refine gf ?_ | refine gu ?_) | ((with_reducible apply is_en); refine en ?_) | (with_reducible first | apply x_then | apply wp_seq | apply c_region | apply wp_block | apply wp_skip | apply wp_exit | apply wp_ret | apply wp_label | apply wp_scope_straight | apply x_ng | apply x_ng_ret | apply x_ng_exit | apply x_then_ret | apply x_then_exit | apply x_block | apply x_block_ret | apply x_block_exit | refine x_block_other (by decide) ?_))
    refine kdr hM (by kernel_rfl) (by kernel_rfl) (fun w hM => ?_)
    repeat (first | ((with_reducible apply is_ldg); first | refine kldg hM ?_ | refine kldwg hM ?_) | ((with_reducible apply is_sg); refine sgu ?_) | ((with_reducible apply is_gg); first | refine gtg ?_ | refine gfg ?_ | refine gug ?_) | ((with_reducible apply is_eg); refine eg ?_))
    refine kixg hPa (fun o1 o2 x hx' hA => ?_) (h1 := by simp; omega)
    refine katg hM hA ?_
    repeat (first | ((with_reducible apply is_ldg); first | refine kldg hM ?_ | refine kldwg hM ?_) | ((with_reducible apply is_sg); refine sgu ?_) | ((with_reducible apply is_gg); first | refine gtg ?_ | refine gfg ?_ | refine gug ?_) | ((with_reducible apply is_eg); refine eg ?_))
    refine kixg hPb (fun o3 o4 y hy' hA' => ?_) (h1 := by simp; omega)
    refine katg hM hA' ?_
    rw [show ((ps.length : Int) - ((j : Int) + 1)).toNat = ps.length - 1 - j by omega, List.getElem?_map, hqa.1] at hx'
    rw [show ((qs.length : Int) - ((j : Int) + 1)).toNat = qs.length - 1 - j by omega, List.getElem?_map, hqa.2] at hy'
    obtain rfl := Option.some.inj hx'
    obtain rfl := Option.some.inj hy'
    obtain ⟨⟨u1, x1⟩, ⟨u2, x2⟩⟩ := q
    simp only at hx hy hxl hyl hf hA hA' ⊢
    repeat (first | ((with_reducible apply is_ldg); first | refine kldg hM ?_ | refine kldwg hM ?_) | ((with_reducible apply is_sg); refine sgu ?_) | ((with_reducible apply is_gg); first | refine gtg ?_ | refine gfg ?_ | refine gug ?_) | ((with_reducible apply is_eg); refine eg ?_))
    (intro w hc; have hM := hM.call hc)
    repeat (first | ((with_reducible apply is_ld); first | refine kld hM ?_ | refine kldw hM ?_ | refine kle hM ?_ | refine klew hM ?_) | ((with_reducible apply is_sto); first | (refine kst hM ?_; intro w hM) | (refine kstw hM ?_; intro w hM)) | ((with_reducible apply is_st); refine su ?_) | ((with_reducible apply is_gd); first | refine gt ?_ | refine gf ?_ | refine gu ?_) | ((with_reducible apply is_en); refine en ?_) | (with_reducible first | apply x_then | apply wp_seq | apply c_region | apply wp_block | apply wp_skip | apply wp_exit | apply wp_ret | apply wp_label | apply wp_scope_straight | apply x_ng | apply x_ng_ret | apply x_ng_exit | apply x_then_ret | apply x_then_exit | apply x_block | apply x_block_ret | apply x_block_exit | refine x_block_other (by decide) ?_))
    (try ((with_reducible apply is_gd); first | refine gt ?_ | refine gf ?_ | refine gu ?_)); refine wl_val (r_b2s (hx.ch hM.ch)) ?_
    repeat (first | ((with_reducible apply is_ld); first | refine kld hM ?_ | refine kldw hM ?_ | refine kle hM ?_ | refine klew hM ?_) | ((with_reducible apply is_sto); first | (refine kst hM ?_; intro w hM) | (refine kstw hM ?_; intro w hM)) | ((with_reducible apply is_st); refine su ?_) | ((with_reducible apply is_gd); first | refine gt ?_ | refine gf ?_ | refine gu ?_) | ((with_reducible apply is_en); refine en ?_) | (with_reducible first | apply x_then | apply wp_seq | apply c_region | apply wp_block | apply wp_skip | apply wp_exit | apply wp_ret | apply wp_label | apply wp_scope_straight | apply x_ng | apply x_ng_ret | apply x_ng_exit | apply x_then_ret | apply x_then_exit | apply x_block | apply x_block_ret | apply x_block_exit | refine x_block_other (by decide) ?_))
    (try ((with_reducible apply is_gd); first | refine gt ?_ | refine gf ?_ | refine gu ?_)); refine wl_val (r_b2s (hy.ch hM.ch)) ?_
    (try ((with_reducible apply is_gd); first | refine gt ?_ | refine gf ?_ | refine gu ?_)); refine wl_val (r_eqst) ?_
    repeat (first | ((with_reducible apply is_ld); first | refine kld hM ?_ | refine kldw hM ?_ | refine kle hM ?_ | refine klew hM ?_) | ((with_reducible apply is_sto); first | (refine kst hM ?_; intro w hM) | (refine kstw hM ?_; intro w hM)) | ((with_reducible apply is_st); refine su ?_) | ((with_reducible apply is_gd); first | refine gt ?_ | refine gf ?_ | refine gu ?_) | ((with_reducible apply is_en); refine en ?_) | (with_reducible first | apply x_then | apply wp_seq | apply c_region | apply wp_block | apply wp_skip | apply wp_exit | apply wp_ret | apply wp_label | apply wp_scope_straight | apply x_ng | apply x_ng_ret | apply x_ng_exit | apply x_then_ret | apply x_then_exit | apply x_block | apply x_block_ret | apply x_block_exit | refine x_block_other (by decide) ?_))
    by_cases hxy : x1 = x2
    · rw [decide_eq_true hxy]
      refine c_condb rfl (fun _ => ?_) (fun h => by cases h)
      repeat (first | ((with_reducible apply is_ld); first | refine kld hM ?_ | refine kldw hM ?_ | refine kle hM ?_ | refine klew hM ?_) | ((with_reducible apply is_sto); first | (refine kst hM ?_; intro w hM) | (refine kstw hM ?_; intro w hM)) | ((with_reducible apply is_st); refine su ?_) | ((with_reducible apply is_gd); first | refine gt ?_ | refine gf ?_ | refine gu ?_) | ((with_reducible apply is_en); refine en ?_) | (with_reducible first | apply x_then | apply wp_seq | apply c_region | apply wp_block | apply wp_skip | apply wp_exit | apply wp_ret | apply wp_label | apply wp_scope_straight | apply x_ng | apply x_ng_ret | apply x_ng_exit | apply x_then_ret | apply x_then_exit | apply x_block | apply x_block_ret | apply x_block_exit | refine x_block_other (by decide) ?_))
      refine x_goes (k - 1) rfl (by omega) ⟨j + 1, exj rfl, by omega, hM, ?_⟩
      rw [hf, firstL, if_pos hxy]
    · rw [decide_eq_false hxy]
      refine c_condb rfl (fun h => by cases h) (fun _ => ?_)
      repeat (first | ((with_reducible apply is_ld); first | refine kld hM ?_ | refine kldw hM ?_ | refine kle hM ?_ | refine klew hM ?_) | ((with_reducible apply is_sto); first | (refine kst hM ?_; intro w hM) | (refine kstw hM ?_; intro w hM)) | ((with_reducible apply is_st); refine su ?_) | ((with_reducible apply is_gd); first | refine gt ?_ | refine gf ?_ | refine gu ?_) | ((with_reducible apply is_en); refine en ?_) | (with_reducible first | apply x_then | apply wp_seq | apply c_region | apply wp_block | apply wp_skip | apply wp_exit | apply wp_ret | apply wp_label | apply wp_scope_straight | apply x_ng | apply x_ng_ret | apply x_ng_exit | apply x_then_ret | apply x_then_exit | apply x_block | apply x_block_ret | apply x_block_exit | refine x_block_other (by decide) ?_))
      refine kca hM (rsum_any (slv u1) x1 w (hx.ch hM.ch) (by omega)) (fun w hM => ?_)
      repeat (first | ((with_reducible apply is_ld); first | refine kld hM ?_ | refine kldw hM ?_ | refine kle hM ?_ | refine klew hM ?_) | ((with_reducible apply is_sto); first | (refine kst hM ?_; intro w hM) | (refine kstw hM ?_; intro w hM)) | ((with_reducible apply is_st); refine su ?_) | ((with_reducible apply is_gd); first | refine gt ?_ | refine gf ?_ | refine gu ?_) | ((with_reducible apply is_en); refine en ?_) | (with_reducible first | apply x_then | apply wp_seq | apply c_region | apply wp_block | apply wp_skip | apply wp_exit | apply wp_ret | apply wp_label | apply wp_scope_straight | apply x_ng | apply x_ng_ret | apply x_ng_exit | apply x_then_ret | apply x_then_exit | apply x_block | apply x_block_ret | apply x_block_exit | refine x_block_other (by decide) ?_))
      refine kca hM (rsum_any (slv u2) x2 w (hy.ch hM.ch) (by omega)) (fun w hM => ?_)
      (try ((with_reducible apply is_gd); first | refine gt ?_ | refine gf ?_ | refine gu ?_)); refine wl_val (r_neq8 (a := shaOf x1) (b := shaOf x2) (by kernel_rfl) rfl rfl (shaOf_len _) (shaOf_len _)) ?_
      repeat (first | ((with_reducible apply is_ld); first | refine kld hM ?_ | refine kldw hM ?_ | refine kle hM ?_ | refine klew hM ?_) | ((with_reducible apply is_sto); first | (refine kst hM ?_; intro w hM) | (refine kstw hM ?_; intro w hM)) | ((with_reducible apply is_st); refine su ?_) | ((with_reducible apply is_gd); first | refine gt ?_ | refine gf ?_ | refine gu ?_) | ((with_reducible apply is_en); refine en ?_) | (with_reducible first | apply x_then | apply wp_seq | apply c_region | apply wp_block | apply wp_skip | apply wp_exit | apply wp_ret | apply wp_label | apply wp_scope_straight | apply x_ng | apply x_ng_ret | apply x_ng_exit | apply x_then_ret | apply x_then_exit | apply x_block | apply x_block_ret | apply x_block_exit | refine x_block_other (by decide) ?_))
      by_cases hs : shaOf x1 = shaOf x2
      · have hv : firstL (R.map fun r => (r.1.2, r.2.2)) = some (x1, x2) := by rw [hf, firstL, if_neg hxy, if_pos hs]
        rw [decide_eq_true hs, hv]
        refine c_condb rfl (fun h => by cases h) (fun _ => ?_)
        repeat (first | ((with_reducible apply is_ld); first | refine kld hM ?_ | refine kldw hM ?_ | refine kle hM ?_ | refine klew hM ?_) | ((with_reducible apply is_sto); first | (refine kst hM ?_; intro w hM) | (refine kstw hM ?_; intro w hM)) | ((with_reducible apply is_st); refine su ?_) | ((with_reducible apply is_gd); first | refine gt ?_ | refine gf ?_ | refine gu ?_) | ((with_reducible apply is_en); refine en ?_) | (with_reducible first | apply x_then | apply wp_seq | apply c_region | apply wp_block | apply wp_skip | apply wp_exit | apply wp_ret | apply wp_label | apply wp_scope_straight | apply x_ng | apply x_ng_ret | apply x_ng_exit | apply x_then_ret | apply x_then_exit | apply x_block | apply x_block_ret | apply x_block_exit | refine x_block_other (by decide) ?_))
        refine kbs (en := eU8) (vs := []) [] hM (fun w b46 hM => ?_)
        repeat (first | ((with_reducible apply is_ld); first | refine kld hM ?_ | refine kldw hM ?_ | refine kle hM ?_ | refine klew hM ?_) | ((with_reducible apply is_sto); first | (refine kst hM ?_; intro w hM) | (refine kstw hM ?_; intro w hM)) | ((with_reducible apply is_st); refine su ?_) | ((with_reducible apply is_gd); first | refine gt ?_ | refine gf ?_ | refine gu ?_) | ((with_reducible apply is_en); refine en ?_) | (with_reducible first | apply x_then | apply wp_seq | apply c_region | apply wp_block | apply wp_skip | apply wp_exit | apply wp_ret | apply wp_label | apply wp_scope_straight | apply x_ng | apply x_ng_ret | apply x_ng_exit | apply x_then_ret | apply x_then_exit | apply x_block | apply x_block_ret | apply x_block_exit | refine x_block_other (by decide) ?_))
        refine kap (en := eU8) (ys := x1) hM (hx.ch hM.ch) (fun v1 w hM => ?_) (hb := by simp; omega) (h63 := by simp; omega)
        obtain ⟨A3, c3, rfl, _⟩ := (hM.row0 (v := v1) (by (repeat (first | exact Go.Proofs.E.Pick.here | apply Go.Proofs.E.Pick.there)))).form
        refine kbs (en := eU8) (vs := []) [] hM (fun w b49 hM => ?_)
        repeat (first | ((with_reducible apply is_ld); first | refine kld hM ?_ | refine kldw hM ?_ | refine kle hM ?_ | refine klew hM ?_) | ((with_reducible apply is_sto); first | (refine kst hM ?_; intro w hM) | (refine kstw hM ?_; intro w hM)) | ((with_reducible apply is_st); refine su ?_) | ((with_reducible apply is_gd); first | refine gt ?_ | refine gf ?_ | refine gu ?_) | ((with_reducible apply is_en); refine en ?_) | (with_reducible first | apply x_then | apply wp_seq | apply c_region | apply wp_block | apply wp_skip | apply wp_exit | apply wp_ret | apply wp_label | apply wp_scope_straight | apply x_ng | apply x_ng_ret | apply x_ng_exit | apply x_then_ret | apply x_then_exit | apply x_block | apply x_block_ret | apply x_block_exit | refine x_block_other (by decide) ?_))
        refine kap (en := eU8) (ys := x2) hM (hy.ch hM.ch) (fun v2 w hM => ?_) (hb := by simp; omega) (h63 := by simp; omega)
        obtain ⟨A4, c4, rfl, _⟩ := (hM.row0 (v := v2) (by (repeat (first | exact Go.Proofs.E.Pick.here | apply Go.Proofs.E.Pick.there)))).form
        repeat (first | ((with_reducible apply is_ld); first | refine kld hM ?_ | refine kldw hM ?_ | refine kle hM ?_ | refine klew hM ?_) | ((with_reducible apply is_sto); first | (refine kst hM ?_; intro w hM) | (refine kstw hM ?_; intro w hM)) | ((with_reducible apply is_st); refine su ?_) | ((with_reducible apply is_gd); first | refine gt ?_ | refine gf ?_ | refine gu ?_) | ((with_reducible apply is_en); refine en ?_) | (with_reducible first | apply x_then | apply wp_seq | apply c_region | apply wp_block | apply wp_skip | apply wp_exit | apply wp_ret | apply wp_label | apply wp_scope_straight | apply x_ng | apply x_ng_ret | apply x_ng_exit | apply x_then_ret | apply x_then_exit | apply x_block | apply x_block_ret | apply x_block_exit | refine x_block_other (by decide) ?_))
        exact out3 rfl ⟨_, _, rfl, hM.sub (M := [.row eU8 5 _ ([] ++ x1), .row eU8 5 _ ([] ++ x2)]) (by (repeat (first | exact Go.Proofs.E.Sub.nil | (apply Go.Proofs.E.Sub.cons; (repeat (first | exact Go.Proofs.E.Pick.here | apply Go.Proofs.E.Pick.there))))))⟩
      · have hv : firstL (R.map fun r => (r.1.2, r.2.2)) = none := by rw [hf, firstL, if_neg hxy, if_neg hs]
        rw [decide_eq_false hs, hv]
        refine c_condb rfl (fun _ => ?_) (fun h => by cases h)
        repeat (first | ((with_reducible apply is_ld); first | refine kld hM ?_ | refine kldw hM ?_ | refine kle hM ?_ | refine klew hM ?_) | ((with_reducible apply is_sto); first | (refine kst hM ?_; intro w hM) | (refine kstw hM ?_; intro w hM)) | ((with_reducible apply is_st); refine su ?_) | ((with_reducible apply is_gd); first | refine gt ?_ | refine gf ?_ | refine gu ?_) | ((with_reducible apply is_en); refine en ?_) | (with_reducible first | apply x_then | apply wp_seq | apply c_region | apply wp_block | apply wp_skip | apply wp_exit | apply wp_ret | apply wp_label | apply wp_scope_straight | apply x_ng | apply x_ng_ret | apply x_ng_exit | apply x_then_ret | apply x_then_exit | apply x_block | apply x_block_ret | apply x_block_exit | refine x_block_other (by decide) ?_))
        exact out3 rfl ⟨_, _, rfl, (hM.nilRow eU8 5).nilRow eU8 5⟩
  · have hv : firstL (R.map fun r => (r.1.2, r.2.2)) = none := by rw [hf, List.drop_eq_nil_of_le (by omega)]; rfl
    rw [hv]
    by_cases h1 : (j : Int) + 1 ≤ (ps.length : Int)
    · rw [decide_eq_true h1]
      repeat (first | ((with_reducible apply is_ld); first | refine kld hM ?_ | refine kldw hM ?_ | refine kle hM ?_ | refine klew hM ?_) | ((with_reducible apply is_sto); first | (refine kst hM ?_; intro w hM) | (refine kstw hM ?_; intro w hM)) | ((with_reducible apply is_st); refine su ?_) | ((with_reducible apply is_gd); first | refine gt ?_ | refine gf ?_ | refine gu ?_) | ((with_reducible apply is_en); refine en ?_) | (with_reducible first | apply x_then | apply wp_seq | apply c_region | apply wp_block | apply wp_skip | apply wp_exit | apply wp_ret | apply wp_label | apply wp_scope_straight | apply x_ng | apply x_ng_ret | apply x_ng_exit | apply x_then_ret | apply x_then_exit | apply x_block | apply x_block_ret | apply x_block_exit | refine x_block_other (by decide) ?_))
      rw [decide_eq_false (by omega : ¬ (j : Int) + 1 ≤ (qs.length : Int))]
      repeat (first | ((with_reducible apply is_ld); first | refine kld hM ?_ | refine kldw hM ?_ | refine kle hM ?_ | refine klew hM ?_) | ((with_reducible apply is_sto); first | (refine kst hM ?_; intro w hM) | (refine kstw hM ?_; intro w hM)) | ((with_reducible apply is_st); refine su ?_) | ((with_reducible apply is_gd); first | refine gt ?_ | refine gf ?_ | refine gu ?_) | ((with_reducible apply is_en); refine en ?_) | (with_reducible first | apply x_then | apply wp_seq | apply c_region | apply wp_block | apply wp_skip | apply wp_exit | apply wp_ret | apply wp_label | apply wp_scope_straight | apply x_ng | apply x_ng_ret | apply x_ng_exit | apply x_then_ret | apply x_then_exit | apply x_block | apply x_block_ret | apply x_block_exit | refine x_block_other (by decide) ?_))
      refine c_condb rfl (fun h => by cases h) (fun _ => ?_)
      repeat (first | ((with_reducible apply is_ld); first | refine kld hM ?_ | refine kldw hM ?_ | refine kle hM ?_ | refine klew hM ?_) | ((with_reducible apply is_sto); first | (refine kst hM ?_; intro w hM) | (refine kstw hM ?_; intro w hM)) | ((with_reducible apply is_st); refine su ?_) | ((with_reducible apply is_gd); first | refine gt ?_ | refine gf ?_ | refine gu ?_) | ((with_reducible apply is_en); refine en ?_) | (with_reducible first | apply x_then | apply wp_seq | apply c_region | apply wp_block | apply wp_skip | apply wp_exit | apply wp_ret | apply wp_label | apply wp_scope_straight | apply x_ng | apply x_ng_ret | apply x_ng_exit | apply x_then_ret | apply x_then_exit | apply x_block | apply x_block_ret | apply x_block_exit | refine x_block_other (by decide) ?_))
      exact out3 rfl ⟨_, _, rfl, (hM.nilRow eU8 5).nilRow eU8 5⟩
    · rw [decide_eq_false h1]
      repeat (first | ((with_reducible apply is_ld); first | refine kld hM ?_ | refine kldw hM ?_ | refine kle hM ?_ | refine klew hM ?_) | ((with_reducible apply is_sto); first | (refine kst hM ?_; intro w hM) | (refine kstw hM ?_; intro w hM)) | ((with_reducible apply is_st); refine su ?_) | ((with_reducible apply is_gd); first | refine gt ?_ | refine gf ?_ | refine gu ?_) | ((with_reducible apply is_en); refine en ?_) | (with_reducible first | apply x_then | apply wp_seq | apply c_region | apply wp_block | apply wp_skip | apply wp_exit | apply wp_ret | apply wp_label | apply wp_scope_straight | apply x_ng | apply x_ng_ret | apply x_ng_exit | apply x_then_ret | apply x_then_exit | apply x_block | apply x_block_ret | apply x_block_exit | refine x_block_other (by decide) ?_))
      refine c_condb rfl (fun h => by cases h) (fun _ => ?_)
      repeat (first | ((with_reducible apply is_ld); first | refine kld hM ?_ | refine kldw hM ?_ | refine kle hM ?_ | refine klew hM ?_) | ((with_reducible apply is_sto); first | (refine kst hM ?_; intro w hM) | (refine kstw hM ?_; intro w hM)) | ((with_reducible apply is_st); refine su ?_) | ((with_reducible apply is_gd); first | refine gt ?_ | refine gf ?_ | refine gu ?_) | ((with_reducible apply is_en); refine en ?_) | (with_reducible first | apply x_then | apply wp_seq | apply c_region | apply wp_block | apply wp_skip | apply wp_exit | apply wp_ret | apply wp_label | apply wp_scope_straight | apply x_ng | apply x_ng_ret | apply x_ng_exit | apply x_then_ret | apply x_then_exit | apply x_block | apply x_block_ret | apply x_block_exit | refine x_block_other (by decide) ?_))
      exact out3 rfl ⟨_, _, rfl, (hM.nilRow eU8 5).nilRow eU8 5⟩
end Go.Proofs.YtfldckjkipmibaaDoor

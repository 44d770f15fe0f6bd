/- Walk: the law RecordApart. -/
import Derived.Test.YtnkkeehoejmcnaaEnc16
set_option linter.unusedVariables false
set_option linter.unusedSimpArgs false
namespace Go.Proofs.Ytnkkeehoejmcnaa
open Go Go.RowKit Go.Proofs.E
attribute [local irreducible] Go.wpList Go.Code.wp Go.Proofs.E.exec Go.Proofs.E.wpLexG
theorem recGood_right {ses snap : Int} {strict : Bool} {us : List (RR × List Pr)} {wz : List Pr} (h : recGood ses snap strict us wz = true) : rightB ses snap us wz = true := by
  unfold recGood at h
  rw [Bool.and_eq_true] at h
  exact h.1
theorem light_shortR {us : List (RR × List Pr)} {wz : List Pr} (h : LightR us wz) : ShortR us ∧ ShortL wz := by
  obtain ⟨_, _, h1, h2⟩ := h
  refine ⟨fun u hu => ?_, fun p hp => ?_⟩
  · obtain ⟨g1, g2, g3, g4⟩ := h1 u hu
    refine ⟨by omega, by omega, fun p hp => ?_⟩
    have := g4 p hp
    unfold LightP at this
    omega
  · have := h2 p hp
    unfold LightP at this
    omega
set_option maxHeartbeats 16000000 in
theorem recordApart_any (ses snap : Int) (strict : Bool) (vr vw : Value) (us : List (RR × List Pr)) (wz : List Pr) (ses2 snap2 : Int) (strict2 : Bool) (vr2 vw2 : Value) (vs : List (RR × List Pr)) (zs : List Pr) (w0 : World) (hA : RecM w0 vr vw us wz) (hB : RecM w0 vr2 vw2 vs zs)
    (hk : ShortR us) (hb : ShortL wz) (hk2 : ShortR vs) (hb2 : ShortL zs) :
    Calls Try.prog 4 #[.agg (rC ses snap strict vr vw).toArray, .agg (rC ses2 snap2 strict2 vr2 vw2).toArray] w0 (Ret fun u w' => u = .bool true ∧ Ch [] w0 w') := by
  have hM := Mem.start w0
  obtain ⟨A, c, rfl⟩ := hA.r.form
  obtain ⟨A2, c2, rfl⟩ := hA.w.form
  obtain ⟨A3, c3, rfl⟩ := hB.r.form
  obtain ⟨A4, c4, rfl⟩ := hB.w.form
  simp only [List.length_map] at hA hB ⊢
  refine enter [.agg (rC ses snap strict (.slice A us.length c) (.slice A2 wz.length c2)).toArray, .agg (rC ses2 snap2 strict2 (.slice A3 vs.length c3) (.slice A4 zs.length c4)).toArray, undef, undef, undef, undef, undef, undef, undef, undef, undef, undef, undef, undef, undef, undef, undef, undef, undef, undef, undef, undef, undef, undef, undef, undef, undef, undef, undef, undef, undef, undef, undef, undef, undef, undef, undef, undef] Try.func4 rfl rfl ?_
  repeat (first | ((with_reducible apply is_ld); first | refine kld hM ?_ | refine kldw hM ?_ | refine kle hM ?_ | refine klew hM ?_) | ((with_reducible apply is_sto); first | (refine kst hM ?_; intro w hM) | (refine kstw hM ?_; intro w hM)) | ((with_reducible apply is_st); refine su ?_) | ((with_reducible apply is_gd); first | refine gt ?_ | refine gf ?_ | refine gu ?_) | ((with_reducible apply is_en); refine en ?_) | (with_reducible apply c_region) | refine ws ?_ | refine x_block_other (by decide) ?_)
  refine kbx hM (fun w b2 hM => ?_)
  refine kbx hM (fun w b3 hM => ?_)
  have hM : Mem [] w0 w [.cell b3 (rC ses2 snap2 strict2 (.slice A3 vs.length c3) (.slice A4 zs.length c4)) 25, .cell b2 (rC ses snap strict (.slice A us.length c) (.slice A2 wz.length c2)) 25] := hM
  repeat (first | ((with_reducible apply is_ld); first | refine kld hM ?_ | refine kldw hM ?_ | refine kle hM ?_ | refine klew hM ?_) | ((with_reducible apply is_sto); first | (refine kst hM ?_; intro w hM) | (refine kstw hM ?_; intro w hM)) | ((with_reducible apply is_st); refine su ?_) | ((with_reducible apply is_gd); first | refine gt ?_ | refine gf ?_ | refine gu ?_) | ((with_reducible apply is_en); refine en ?_) | (with_reducible apply c_region) | refine ws ?_ | refine x_block_other (by decide) ?_)
  refine ca (light_any ses snap strict _ _ us wz w (hA.ch hM.ch) hk hb) ?_
  rintro _ w1 ⟨⟨l1, rfl, hl1⟩, hc⟩
  have hM := hM.call hc
  cases l1 with
  | false =>
    repeat (first | ((with_reducible apply is_ld); first | refine kld hM ?_ | refine kldw hM ?_ | refine kle hM ?_ | refine klew hM ?_) | ((with_reducible apply is_sto); first | (refine kst hM ?_; intro w hM) | (refine kstw hM ?_; intro w hM)) | ((with_reducible apply is_st); refine su ?_) | ((with_reducible apply is_gd); first | refine gt ?_ | refine gf ?_ | refine gu ?_) | ((with_reducible apply is_en); refine en ?_) | (with_reducible apply c_region) | refine ws ?_ | refine x_block_other (by decide) ?_)
    refine c_condb rfl (fun _ => ?_) (fun h => by cases h)
    repeat (first | ((with_reducible apply is_ld); first | refine kld hM ?_ | refine kldw hM ?_ | refine kle hM ?_ | refine klew hM ?_) | ((with_reducible apply is_sto); first | (refine kst hM ?_; intro w hM) | (refine kstw hM ?_; intro w hM)) | ((with_reducible apply is_st); refine su ?_) | ((with_reducible apply is_gd); first | refine gt ?_ | refine gf ?_ | refine gu ?_) | ((with_reducible apply is_en); refine en ?_) | (with_reducible apply c_region) | refine ws ?_ | refine x_block_other (by decide) ?_)
    refine kca hM (lives_any _) (fun w hM => ?_)
    repeat (first | ((with_reducible apply is_ld); first | refine kld hM ?_ | refine kldw hM ?_ | refine kle hM ?_ | refine klew hM ?_) | ((with_reducible apply is_sto); first | (refine kst hM ?_; intro w hM) | (refine kstw hM ?_; intro w hM)) | ((with_reducible apply is_st); refine su ?_) | ((with_reducible apply is_gd); first | refine gt ?_ | refine gf ?_ | refine gu ?_) | ((with_reducible apply is_en); refine en ?_) | (with_reducible apply c_region) | refine ws ?_ | refine x_block_other (by decide) ?_)
    exact out1 rfl ⟨rfl, hM.ch⟩
  | true =>
  repeat (first | ((with_reducible apply is_ld); first | refine kld hM ?_ | refine kldw hM ?_ | refine kle hM ?_ | refine klew hM ?_) | ((with_reducible apply is_sto); first | (refine kst hM ?_; intro w hM) | (refine kstw hM ?_; intro w hM)) | ((with_reducible apply is_st); refine su ?_) | ((with_reducible apply is_gd); first | refine gt ?_ | refine gf ?_ | refine gu ?_) | ((with_reducible apply is_en); refine en ?_) | (with_reducible apply c_region) | refine ws ?_ | refine x_block_other (by decide) ?_)
  (try ((with_reducible apply is_gd); first | refine gt ?_ | refine gf ?_ | refine gu ?_)); refine ca (light_any ses2 snap2 strict2 _ _ vs zs _ (hB.ch hM.ch) hk2 hb2) ?_
  rintro _ w1 ⟨⟨l2, rfl, hl2⟩, hc⟩
  have hM := hM.call hc
  cases l2 with
  | false =>
    repeat (first | ((with_reducible apply is_ld); first | refine kld hM ?_ | refine kldw hM ?_ | refine kle hM ?_ | refine klew hM ?_) | ((with_reducible apply is_sto); first | (refine kst hM ?_; intro w hM) | (refine kstw hM ?_; intro w hM)) | ((with_reducible apply is_st); refine su ?_) | ((with_reducible apply is_gd); first | refine gt ?_ | refine gf ?_ | refine gu ?_) | ((with_reducible apply is_en); refine en ?_) | (with_reducible apply c_region) | refine ws ?_ | refine x_block_other (by decide) ?_)
    refine c_condb rfl (fun _ => ?_) (fun h => by cases h)
    repeat (first | ((with_reducible apply is_ld); first | refine kld hM ?_ | refine kldw hM ?_ | refine kle hM ?_ | refine klew hM ?_) | ((with_reducible apply is_sto); first | (refine kst hM ?_; intro w hM) | (refine kstw hM ?_; intro w hM)) | ((with_reducible apply is_st); refine su ?_) | ((with_reducible apply is_gd); first | refine gt ?_ | refine gf ?_ | refine gu ?_) | ((with_reducible apply is_en); refine en ?_) | (with_reducible apply c_region) | refine ws ?_ | refine x_block_other (by decide) ?_)
    refine kca hM (lives_any _) (fun w hM => ?_)
    repeat (first | ((with_reducible apply is_ld); first | refine kld hM ?_ | refine kldw hM ?_ | refine kle hM ?_ | refine klew hM ?_) | ((with_reducible apply is_sto); first | (refine kst hM ?_; intro w hM) | (refine kstw hM ?_; intro w hM)) | ((with_reducible apply is_st); refine su ?_) | ((with_reducible apply is_gd); first | refine gt ?_ | refine gf ?_ | refine gu ?_) | ((with_reducible apply is_en); refine en ?_) | (with_reducible apply c_region) | refine ws ?_ | refine x_block_other (by decide) ?_)
    exact out1 rfl ⟨rfl, hM.ch⟩
  | true =>
  repeat (first | ((with_reducible apply is_ld); first | refine kld hM ?_ | refine kldw hM ?_ | refine kle hM ?_ | refine klew hM ?_) | ((with_reducible apply is_sto); first | (refine kst hM ?_; intro w hM) | (refine kstw hM ?_; intro w hM)) | ((with_reducible apply is_st); refine su ?_) | ((with_reducible apply is_gd); first | refine gt ?_ | refine gf ?_ | refine gu ?_) | ((with_reducible apply is_en); refine en ?_) | (with_reducible apply c_region) | refine ws ?_ | refine x_block_other (by decide) ?_)
  have hA1 := hA.ch hM.ch
  (try ((with_reducible apply is_gd); first | refine gt ?_ | refine gf ?_ | refine gu ?_)); refine kca hM (recGood_any ses snap strict _ _ us wz _ hA1.r hA1.u hA1.w hk hb) (fun w hM => ?_)
  cases hg1 : recGood ses snap strict us wz with
  | false =>
    repeat (first | ((with_reducible apply is_ld); first | refine kld hM ?_ | refine kldw hM ?_ | refine kle hM ?_ | refine klew hM ?_) | ((with_reducible apply is_sto); first | (refine kst hM ?_; intro w hM) | (refine kstw hM ?_; intro w hM)) | ((with_reducible apply is_st); refine su ?_) | ((with_reducible apply is_gd); first | refine gt ?_ | refine gf ?_ | refine gu ?_) | ((with_reducible apply is_en); refine en ?_) | (with_reducible apply c_region) | refine ws ?_ | refine x_block_other (by decide) ?_)
    refine c_condb rfl (fun _ => ?_) (fun h => by cases h)
    repeat (first | ((with_reducible apply is_ld); first | refine kld hM ?_ | refine kldw hM ?_ | refine kle hM ?_ | refine klew hM ?_) | ((with_reducible apply is_sto); first | (refine kst hM ?_; intro w hM) | (refine kstw hM ?_; intro w hM)) | ((with_reducible apply is_st); refine su ?_) | ((with_reducible apply is_gd); first | refine gt ?_ | refine gf ?_ | refine gu ?_) | ((with_reducible apply is_en); refine en ?_) | (with_reducible apply c_region) | refine ws ?_ | refine x_block_other (by decide) ?_)
    refine kca hM (lives_any _) (fun w hM => ?_)
    repeat (first | ((with_reducible apply is_ld); first | refine kld hM ?_ | refine kldw hM ?_ | refine kle hM ?_ | refine klew hM ?_) | ((with_reducible apply is_sto); first | (refine kst hM ?_; intro w hM) | (refine kstw hM ?_; intro w hM)) | ((with_reducible apply is_st); refine su ?_) | ((with_reducible apply is_gd); first | refine gt ?_ | refine gf ?_ | refine gu ?_) | ((with_reducible apply is_en); refine en ?_) | (with_reducible apply c_region) | refine ws ?_ | refine x_block_other (by decide) ?_)
    exact out1 rfl ⟨rfl, hM.ch⟩
  | true =>
  repeat (first | ((with_reducible apply is_ld); first | refine kld hM ?_ | refine kldw hM ?_ | refine kle hM ?_ | refine klew hM ?_) | ((with_reducible apply is_sto); first | (refine kst hM ?_; intro w hM) | (refine kstw hM ?_; intro w hM)) | ((with_reducible apply is_st); refine su ?_) | ((with_reducible apply is_gd); first | refine gt ?_ | refine gf ?_ | refine gu ?_) | ((with_reducible apply is_en); refine en ?_) | (with_reducible apply c_region) | refine ws ?_ | refine x_block_other (by decide) ?_)
  have hB1 := hB.ch hM.ch
  (try ((with_reducible apply is_gd); first | refine gt ?_ | refine gf ?_ | refine gu ?_)); refine kca hM (recGood_any ses2 snap2 strict2 _ _ vs zs _ hB1.r hB1.u hB1.w hk2 hb2) (fun w hM => ?_)
  cases hg2 : recGood ses2 snap2 strict2 vs zs with
  | false =>
    repeat (first | ((with_reducible apply is_ld); first | refine kld hM ?_ | refine kldw hM ?_ | refine kle hM ?_ | refine klew hM ?_) | ((with_reducible apply is_sto); first | (refine kst hM ?_; intro w hM) | (refine kstw hM ?_; intro w hM)) | ((with_reducible apply is_st); refine su ?_) | ((with_reducible apply is_gd); first | refine gt ?_ | refine gf ?_ | refine gu ?_) | ((with_reducible apply is_en); refine en ?_) | (with_reducible apply c_region) | refine ws ?_ | refine x_block_other (by decide) ?_)
    refine c_condb rfl (fun _ => ?_) (fun h => by cases h)
    repeat (first | ((with_reducible apply is_ld); first | refine kld hM ?_ | refine kldw hM ?_ | refine kle hM ?_ | refine klew hM ?_) | ((with_reducible apply is_sto); first | (refine kst hM ?_; intro w hM) | (refine kstw hM ?_; intro w hM)) | ((with_reducible apply is_st); refine su ?_) | ((with_reducible apply is_gd); first | refine gt ?_ | refine gf ?_ | refine gu ?_) | ((with_reducible apply is_en); refine en ?_) | (with_reducible apply c_region) | refine ws ?_ | refine x_block_other (by decide) ?_)
    refine kca hM (lives_any _) (fun w hM => ?_)
    repeat (first | ((with_reducible apply is_ld); first | refine kld hM ?_ | refine kldw hM ?_ | refine kle hM ?_ | refine klew hM ?_) | ((with_reducible apply is_sto); first | (refine kst hM ?_; intro w hM) | (refine kstw hM ?_; intro w hM)) | ((with_reducible apply is_st); refine su ?_) | ((with_reducible apply is_gd); first | refine gt ?_ | refine gf ?_ | refine gu ?_) | ((with_reducible apply is_en); refine en ?_) | (with_reducible apply c_region) | refine ws ?_ | refine x_block_other (by decide) ?_)
    exact out1 rfl ⟨rfl, hM.ch⟩
  | true =>
  repeat (first | ((with_reducible apply is_ld); first | refine kld hM ?_ | refine kldw hM ?_ | refine kle hM ?_ | refine klew hM ?_) | ((with_reducible apply is_sto); first | (refine kst hM ?_; intro w hM) | (refine kstw hM ?_; intro w hM)) | ((with_reducible apply is_st); refine su ?_) | ((with_reducible apply is_gd); first | refine gt ?_ | refine gf ?_ | refine gu ?_) | ((with_reducible apply is_en); refine en ?_) | (with_reducible apply c_region) | refine ws ?_ | refine x_block_other (by decide) ?_)
  refine c_condb rfl (fun h => by cases h) (fun _ => ?_)
  have law := apart_law (strict := strict) (strict2 := strict2) (recGood_right hg1) (recGood_right hg2)
  repeat (first | ((with_reducible apply is_ld); first | refine kld hM ?_ | refine kldw hM ?_ | refine kle hM ?_ | refine klew hM ?_) | ((with_reducible apply is_sto); first | (refine kst hM ?_; intro w hM) | (refine kstw hM ?_; intro w hM)) | ((with_reducible apply is_st); refine su ?_) | ((with_reducible apply is_gd); first | refine gt ?_ | refine gf ?_ | refine gu ?_) | ((with_reducible apply is_en); refine en ?_) | (with_reducible apply c_region) | refine ws ?_ | refine x_block_other (by decide) ?_)
  refine c_ordY ([], []) [] (by kernel_rfl) (by kernel_rfl) (by kernel_rfl) (fun w hc hs => ?_)
  have hM := hM.call hc
  have hl2 := Blk.lt (hM.blk (b := b2) (by (repeat constructor)))
  have hl3 := Blk.lt (hM.blk (b := b3) (by (repeat constructor)))
  refine ynlr 0 rfl (hM.blk (b := b2) (by (repeat constructor))) (by omega) (by simp) rfl rfl rfl ?_
  refine ynlr 3 rfl (hM.blk (b := b3) (by (repeat constructor))) (by omega) (by simp) rfl rfl rfl ?_
  refine ynlr 7 rfl (hM.blk (b := b2) (by (repeat constructor))) (by omega) (by simp) rfl rfl rfl ?_
  refine ynlr 8 rfl (hM.blk (b := b3) (by (repeat constructor))) (by omega) (by simp) rfl rfl rfl ?_
  refine wy_cont (X := Value × Value) (fun x N w => Mem [] w0 w [.cell b3 (rC ses2 snap2 strict2 (.slice A3 vs.length c3) (.slice A4 zs.length c4)) 25, .cell b2 (rC ses snap strict (.slice A us.length c) (.slice A2 wz.length c2)) 25])
    (fun x l => (((((l.set 25 x.1).set 26 (.string (bst (bytesB ses snap strict us wz)))).set 28 x.2).set 29 (.string (bst (bytesB ses2 snap2 strict2 vs zs)))).set 33 (.bool (sameB ses snap strict us wz ses2 snap2 strict2 vs zs))).set 30 (.bool (decide (bytesB ses snap strict us wz = bytesB ses2 snap2 strict2 vs zs)))) #[true, true, true, true, true, true, true, true, true, true, false, false, false, false, false] (fuel := 5) (fun hkk => ?_) ?_
  · skip
    refine yk1 1 hM (by kernel_rfl) rfl (fun w h0 hM => ?_)
    refine ca (recBytes_any ses snap strict _ _ us wz w (hA.ch hM.ch).r (hA.ch hM.ch).u (hA.ch hM.ch).w hk hb) ?_
    rintro v25 w2 ⟨hc, hO⟩
    have hM := hM.got hc hO
    refine x_wy (.inl (hc.gy h0)) rfl ?_
    refine yk2 2 4 hM (by kernel_rfl) rfl rfl (fun w h0 hM => ?_) (fun w h0 hM => ?_)
    · skip
      refine wl_val (r_b2s (hM.rowRdO (en := eU8) (xs := bytesB ses snap strict us wz) (v := v25) (by (repeat constructor)))) ?_
      have hc := Ch.refl [] w
      refine x_wy (.inl (hc.gy h0)) rfl ?_
      refine yk1 4 hM (by kernel_rfl) rfl (fun w h0 hM => ?_)
      refine ca (recBytes_any ses2 snap2 strict2 _ _ vs zs w (hB.ch hM.ch).r (hB.ch hM.ch).u (hB.ch hM.ch).w hk2 hb2) ?_
      rintro v28 w2 ⟨hc, hO⟩
      have hM := hM.got hc hO
      refine x_wy (.inl (hc.gy h0)) rfl ?_
      refine yk2 5 9 hM (by kernel_rfl) rfl rfl (fun w h0 hM => ?_) (fun w h0 hM => ?_)
      · skip
        refine wl_val (r_b2s (hM.rowRdO (en := eU8) (xs := bytesB ses2 snap2 strict2 vs zs) (v := v28) (by (repeat constructor)))) ?_
        have hc := Ch.refl [] w
        refine x_wy (.inl (hc.gy h0)) rfl ?_
        refine ynp 6 rfl (by kernel_rfl) (by kernel_rfl) (fun _ => r_eqst (a := bytesB ses snap strict us wz) (b := bytesB ses2 snap2 strict2 vs zs)) rfl ?_
        refine yk1 9 hM (by kernel_rfl) rfl (fun w h0 hM => ?_)
        refine ca (same_any ses snap strict _ _ us wz ses2 snap2 strict2 _ _ vs zs w (hA.ch hM.ch) (hB.ch hM.ch)) ?_
        rintro _ w2 ⟨rfl, hc⟩
        have hM := hM.call hc
        refine x_wy (.inl (hc.gy h0)) rfl ?_
        exact hkk (v25, v28) _ _ _ (by kernel_rfl) rfl (hM.sub (by (repeat constructor)))
      · skip
        refine ca (same_any ses snap strict _ _ us wz ses2 snap2 strict2 _ _ vs zs w (hA.ch hM.ch) (hB.ch hM.ch)) ?_
        rintro _ w2 ⟨rfl, hc⟩
        have hM := hM.call hc
        refine x_wy (.inl (hc.gy h0)) rfl ?_
        refine yk1 5 hM (by kernel_rfl) rfl (fun w h0 hM => ?_)
        refine wl_val (r_b2s (hM.rowRdO (en := eU8) (xs := bytesB ses2 snap2 strict2 vs zs) (v := v28) (by (repeat constructor)))) ?_
        have hc := Ch.refl [] w
        refine x_wy (.inl (hc.gy h0)) rfl ?_
        refine ynp 6 rfl (by kernel_rfl) (by kernel_rfl) (fun _ => r_eqst (a := bytesB ses snap strict us wz) (b := bytesB ses2 snap2 strict2 vs zs)) rfl ?_
        exact hkk (v25, v28) _ _ _ (by kernel_rfl) rfl (hM.sub (by (repeat constructor)))
    · skip
      refine ca (recBytes_any ses2 snap2 strict2 _ _ vs zs w (hB.ch hM.ch).r (hB.ch hM.ch).u (hB.ch hM.ch).w hk2 hb2) ?_
      rintro v28 w2 ⟨hc, hO⟩
      have hM := hM.got hc hO
      refine x_wy (.inl (hc.gy h0)) rfl ?_
      refine yk3 2 5 9 hM (by kernel_rfl) rfl rfl rfl (fun w h0 hM => ?_) (fun w h0 hM => ?_) (fun w h0 hM => ?_)
      · skip
        refine wl_val (r_b2s (hM.rowRdO (en := eU8) (xs := bytesB ses snap strict us wz) (v := v25) (by (repeat constructor)))) ?_
        have hc := Ch.refl [] w
        refine x_wy (.inl (hc.gy h0)) rfl ?_
        refine yk2 5 9 hM (by kernel_rfl) rfl rfl (fun w h0 hM => ?_) (fun w h0 hM => ?_)
        · skip
          refine wl_val (r_b2s (hM.rowRdO (en := eU8) (xs := bytesB ses2 snap2 strict2 vs zs) (v := v28) (by (repeat constructor)))) ?_
          have hc := Ch.refl [] w
          refine x_wy (.inl (hc.gy h0)) rfl ?_
          refine ynp 6 rfl (by kernel_rfl) (by kernel_rfl) (fun _ => r_eqst (a := bytesB ses snap strict us wz) (b := bytesB ses2 snap2 strict2 vs zs)) rfl ?_
          refine yk1 9 hM (by kernel_rfl) rfl (fun w h0 hM => ?_)
          refine ca (same_any ses snap strict _ _ us wz ses2 snap2 strict2 _ _ vs zs w (hA.ch hM.ch) (hB.ch hM.ch)) ?_
          rintro _ w2 ⟨rfl, hc⟩
          have hM := hM.call hc
          refine x_wy (.inl (hc.gy h0)) rfl ?_
          exact hkk (v25, v28) _ _ _ (by kernel_rfl) rfl (hM.sub (by (repeat constructor)))
        · skip
          refine ca (same_any ses snap strict _ _ us wz ses2 snap2 strict2 _ _ vs zs w (hA.ch hM.ch) (hB.ch hM.ch)) ?_
          rintro _ w2 ⟨rfl, hc⟩
          have hM := hM.call hc
          refine x_wy (.inl (hc.gy h0)) rfl ?_
          refine yk1 5 hM (by kernel_rfl) rfl (fun w h0 hM => ?_)
          refine wl_val (r_b2s (hM.rowRdO (en := eU8) (xs := bytesB ses2 snap2 strict2 vs zs) (v := v28) (by (repeat constructor)))) ?_
          have hc := Ch.refl [] w
          refine x_wy (.inl (hc.gy h0)) rfl ?_
          refine ynp 6 rfl (by kernel_rfl) (by kernel_rfl) (fun _ => r_eqst (a := bytesB ses snap strict us wz) (b := bytesB ses2 snap2 strict2 vs zs)) rfl ?_
          exact hkk (v25, v28) _ _ _ (by kernel_rfl) rfl (hM.sub (by (repeat constructor)))
      · skip
        refine wl_val (r_b2s (hM.rowRdO (en := eU8) (xs := bytesB ses2 snap2 strict2 vs zs) (v := v28) (by (repeat constructor)))) ?_
        have hc := Ch.refl [] w
        refine x_wy (.inl (hc.gy h0)) rfl ?_
        refine yk2 2 9 hM (by kernel_rfl) rfl rfl (fun w h0 hM => ?_) (fun w h0 hM => ?_)
        · skip
          refine wl_val (r_b2s (hM.rowRdO (en := eU8) (xs := bytesB ses snap strict us wz) (v := v25) (by (repeat constructor)))) ?_
          have hc := Ch.refl [] w
          refine x_wy (.inl (hc.gy h0)) rfl ?_
          refine ynp 6 rfl (by kernel_rfl) (by kernel_rfl) (fun _ => r_eqst (a := bytesB ses snap strict us wz) (b := bytesB ses2 snap2 strict2 vs zs)) rfl ?_
          refine yk1 9 hM (by kernel_rfl) rfl (fun w h0 hM => ?_)
          refine ca (same_any ses snap strict _ _ us wz ses2 snap2 strict2 _ _ vs zs w (hA.ch hM.ch) (hB.ch hM.ch)) ?_
          rintro _ w2 ⟨rfl, hc⟩
          have hM := hM.call hc
          refine x_wy (.inl (hc.gy h0)) rfl ?_
          exact hkk (v25, v28) _ _ _ (by kernel_rfl) rfl (hM.sub (by (repeat constructor)))
        · skip
          refine ca (same_any ses snap strict _ _ us wz ses2 snap2 strict2 _ _ vs zs w (hA.ch hM.ch) (hB.ch hM.ch)) ?_
          rintro _ w2 ⟨rfl, hc⟩
          have hM := hM.call hc
          refine x_wy (.inl (hc.gy h0)) rfl ?_
          refine yk1 2 hM (by kernel_rfl) rfl (fun w h0 hM => ?_)
          refine wl_val (r_b2s (hM.rowRdO (en := eU8) (xs := bytesB ses snap strict us wz) (v := v25) (by (repeat constructor)))) ?_
          have hc := Ch.refl [] w
          refine x_wy (.inl (hc.gy h0)) rfl ?_
          refine ynp 6 rfl (by kernel_rfl) (by kernel_rfl) (fun _ => r_eqst (a := bytesB ses snap strict us wz) (b := bytesB ses2 snap2 strict2 vs zs)) rfl ?_
          exact hkk (v25, v28) _ _ _ (by kernel_rfl) rfl (hM.sub (by (repeat constructor)))
      · skip
        refine ca (same_any ses snap strict _ _ us wz ses2 snap2 strict2 _ _ vs zs w (hA.ch hM.ch) (hB.ch hM.ch)) ?_
        rintro _ w2 ⟨rfl, hc⟩
        have hM := hM.call hc
        refine x_wy (.inl (hc.gy h0)) rfl ?_
        refine yk2 2 5 hM (by kernel_rfl) rfl rfl (fun w h0 hM => ?_) (fun w h0 hM => ?_)
        · skip
          refine wl_val (r_b2s (hM.rowRdO (en := eU8) (xs := bytesB ses snap strict us wz) (v := v25) (by (repeat constructor)))) ?_
          have hc := Ch.refl [] w
          refine x_wy (.inl (hc.gy h0)) rfl ?_
          refine yk1 5 hM (by kernel_rfl) rfl (fun w h0 hM => ?_)
          refine wl_val (r_b2s (hM.rowRdO (en := eU8) (xs := bytesB ses2 snap2 strict2 vs zs) (v := v28) (by (repeat constructor)))) ?_
          have hc := Ch.refl [] w
          refine x_wy (.inl (hc.gy h0)) rfl ?_
          refine ynp 6 rfl (by kernel_rfl) (by kernel_rfl) (fun _ => r_eqst (a := bytesB ses snap strict us wz) (b := bytesB ses2 snap2 strict2 vs zs)) rfl ?_
          exact hkk (v25, v28) _ _ _ (by kernel_rfl) rfl (hM.sub (by (repeat constructor)))
        · skip
          refine wl_val (r_b2s (hM.rowRdO (en := eU8) (xs := bytesB ses2 snap2 strict2 vs zs) (v := v28) (by (repeat constructor)))) ?_
          have hc := Ch.refl [] w
          refine x_wy (.inl (hc.gy h0)) rfl ?_
          refine yk1 2 hM (by kernel_rfl) rfl (fun w h0 hM => ?_)
          refine wl_val (r_b2s (hM.rowRdO (en := eU8) (xs := bytesB ses snap strict us wz) (v := v25) (by (repeat constructor)))) ?_
          have hc := Ch.refl [] w
          refine x_wy (.inl (hc.gy h0)) rfl ?_
          refine ynp 6 rfl (by kernel_rfl) (by kernel_rfl) (fun _ => r_eqst (a := bytesB ses snap strict us wz) (b := bytesB ses2 snap2 strict2 vs zs)) rfl ?_
          exact hkk (v25, v28) _ _ _ (by kernel_rfl) rfl (hM.sub (by (repeat constructor)))
  clear hM
  rintro ⟨v25, v28⟩ w hM
  refine wy_nf ?_
  refine ynp 10 rfl (by kernel_rfl) (by kernel_rfl) (fun _ => r_eqbb (a := decide (bytesB ses snap strict us wz = bytesB ses2 snap2 strict2 vs zs)) (b := sameB ses snap strict us wz ses2 snap2 strict2 vs zs) rfl rfl) rfl ?_
  rw [law, beq_self_eq_true]
  (first | refine yn 11 rfl ?_ | refine ynt 11 rfl ?_ | refine ynff 11 rfl ?_)
  refine yk1 12 hM (by kernel_rfl) rfl (fun w h0 hM => ?_)
  refine gt ?_
  refine ca (lives_any w) ?_
  rintro _ w2 ⟨rfl, hc⟩
  have hM := hM.call hc
  refine x_wy (.inl (hc.gy h0)) rfl ?_
  (first | refine yn 13 rfl ?_ | refine ynt 13 rfl ?_ | refine ynff 13 rfl ?_); (first | refine yn 14 rfl ?_ | refine ynt 14 rfl ?_ | refine ynff 14 rfl ?_)
  refine wy_done (by kernel_rfl) (fun w hc => ?_)
  have hM := hM.call hc
  repeat (first | ((with_reducible apply is_ld); first | refine kld hM ?_ | refine kldw hM ?_ | refine kle hM ?_ | refine klew hM ?_) | ((with_reducible apply is_sto); first | (refine kst hM ?_; intro w hM) | (refine kstw hM ?_; intro w hM)) | ((with_reducible apply is_st); refine su ?_) | ((with_reducible apply is_gd); first | refine gt ?_ | refine gf ?_ | refine gu ?_) | ((with_reducible apply is_en); refine en ?_) | (with_reducible apply c_region) | refine ws ?_ | refine x_block_other (by decide) ?_)
  exact out1 rfl ⟨rfl, hM.ch⟩
end Go.Proofs.Ytnkkeehoejmcnaa

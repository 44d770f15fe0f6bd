/- Walk: the law RecordBytes. -/
import Derived.Test.YtnkkeehoejmcnaaDoorRec9
import Derived.Test.YtnkkeehoejmcnaaDoorLeaf16
import Derived.Test.YtnkkeehoejmcnaaDoorYapp
set_option linter.unusedVariables false
set_option linter.unusedSimpArgs false
namespace Go.Proofs.YtnkkeehoejmcnaaDoor
open Go Go.RowKit Go.Proofs.E
attribute [local irreducible] Go.wpList Go.Code.wp Go.Proofs.E.exec Go.Proofs.E.wpLexG
set_option maxHeartbeats 64000000 in
theorem recordBytes_any (ses snap : Int) (strict : Bool) (vr vw : Value) (us : List (RR × List Pr)) (wz : List Pr) (ses2 snap2 : Int) (strict2 : Bool) (vr2 vw2 : Value) (vs : List (RR × List Pr)) (zs : List Pr) (w0 : World) (hK : Laid w0) (hA : RecM w0 vr vw us wz) (hB : RecM w0 vr2 vw2 vs zs)
    (hk : ShortR us) (hb : ShortL wz) (hk2 : ShortR vs) (hb2 : ShortL zs) :
    Calls Tryd.prog 3 #[.agg (rC ses snap strict vr vw).toArray, .agg (rC ses2 snap2 strict2 vr2 vw2).toArray] w0 (Ret fun u w' => u = .bool true ∧ Ch [] w0 w') := by
  have hM := Mem.start w0
  obtain ⟨A, c, rfl⟩ := hA.r.form
  obtain ⟨A2, c2, rfl⟩ := hA.w.form
  obtain ⟨A3, c3, rfl⟩ := hB.r.form
  obtain ⟨A4, c4, rfl⟩ := hB.w.form
  simp only [List.length_map] at hA hB ⊢
  refine enter [.agg (rC ses snap strict (.slice A us.length c) (.slice A2 wz.length c2)).toArray, .agg (rC ses2 snap2 strict2 (.slice A3 vs.length c3) (.slice A4 zs.length c4)).toArray, undef, undef, undef, undef, undef, undef, undef, undef, undef, undef, undef, undef, undef, undef, undef, undef, undef, undef, undef, undef, undef, undef, undef, undef, undef, undef, undef, undef, undef, undef, undef, undef, undef, undef, undef, undef, undef, undef, undef, undef, undef, undef, undef, undef, undef, undef, undef, undef, undef, undef, undef] Tryd.func3 rfl rfl ?_
  repeat (first | ((with_reducible apply is_ld); first | refine kld hM ?_ | refine kldw hM ?_ | refine kle hM ?_ | refine klew hM ?_) | ((with_reducible apply is_sto); first | (refine kst hM ?_; intro w hM) | (refine kstw hM ?_; intro w hM)) | ((with_reducible apply is_st); refine su ?_) | ((with_reducible apply is_gd); first | refine gt ?_ | refine gf ?_ | refine gu ?_) | ((with_reducible apply is_en); refine en ?_) | (with_reducible apply c_region) | refine ws ?_ | refine x_block_other (by decide) ?_)
  refine kbx hM (fun w b2 hM => ?_)
  refine kbx hM (fun w b3 hM => ?_)
  have hM : Mem [] w0 w [.cell b3 (rC ses2 snap2 strict2 (.slice A3 vs.length c3) (.slice A4 zs.length c4)) 25, .cell b2 (rC ses snap strict (.slice A us.length c) (.slice A2 wz.length c2)) 25] := hM
  repeat (first | ((with_reducible apply is_ld); first | refine kld hM ?_ | refine kldw hM ?_ | refine kle hM ?_ | refine klew hM ?_) | ((with_reducible apply is_sto); first | (refine kst hM ?_; intro w hM) | (refine kstw hM ?_; intro w hM)) | ((with_reducible apply is_st); refine su ?_) | ((with_reducible apply is_gd); first | refine gt ?_ | refine gf ?_ | refine gu ?_) | ((with_reducible apply is_en); refine en ?_) | (with_reducible apply c_region) | refine ws ?_ | refine x_block_other (by decide) ?_)
  refine ca (light_any ses snap strict _ _ us wz w (hA.ch hM.ch) hk hb) ?_
  rintro _ w1 ⟨⟨l1, rfl, hl1⟩, hc⟩
  have hM := hM.call hc
  cases l1 with
  | false =>
    repeat (first | ((with_reducible apply is_ld); first | refine kld hM ?_ | refine kldw hM ?_ | refine kle hM ?_ | refine klew hM ?_) | ((with_reducible apply is_sto); first | (refine kst hM ?_; intro w hM) | (refine kstw hM ?_; intro w hM)) | ((with_reducible apply is_st); refine su ?_) | ((with_reducible apply is_gd); first | refine gt ?_ | refine gf ?_ | refine gu ?_) | ((with_reducible apply is_en); refine en ?_) | (with_reducible apply c_region) | refine ws ?_ | refine x_block_other (by decide) ?_)
    refine c_condb rfl (fun _ => ?_) (fun h => by cases h)
    repeat (first | ((with_reducible apply is_ld); first | refine kld hM ?_ | refine kldw hM ?_ | refine kle hM ?_ | refine klew hM ?_) | ((with_reducible apply is_sto); first | (refine kst hM ?_; intro w hM) | (refine kstw hM ?_; intro w hM)) | ((with_reducible apply is_st); refine su ?_) | ((with_reducible apply is_gd); first | refine gt ?_ | refine gf ?_ | refine gu ?_) | ((with_reducible apply is_en); refine en ?_) | (with_reducible apply c_region) | refine ws ?_ | refine x_block_other (by decide) ?_)
    refine kca hM (lives_any _) (fun w hM => ?_)
    repeat (first | ((with_reducible apply is_ld); first | refine kld hM ?_ | refine kldw hM ?_ | refine kle hM ?_ | refine klew hM ?_) | ((with_reducible apply is_sto); first | (refine kst hM ?_; intro w hM) | (refine kstw hM ?_; intro w hM)) | ((with_reducible apply is_st); refine su ?_) | ((with_reducible apply is_gd); first | refine gt ?_ | refine gf ?_ | refine gu ?_) | ((with_reducible apply is_en); refine en ?_) | (with_reducible apply c_region) | refine ws ?_ | refine x_block_other (by decide) ?_)
    exact out1 rfl ⟨rfl, hM.ch⟩
  | true =>
  have hL := hl1 rfl
  repeat (first | ((with_reducible apply is_ld); first | refine kld hM ?_ | refine kldw hM ?_ | refine kle hM ?_ | refine klew hM ?_) | ((with_reducible apply is_sto); first | (refine kst hM ?_; intro w hM) | (refine kstw hM ?_; intro w hM)) | ((with_reducible apply is_st); refine su ?_) | ((with_reducible apply is_gd); first | refine gt ?_ | refine gf ?_ | refine gu ?_) | ((with_reducible apply is_en); refine en ?_) | (with_reducible apply c_region) | refine ws ?_ | refine x_block_other (by decide) ?_)
  (try ((with_reducible apply is_gd); first | refine gt ?_ | refine gf ?_ | refine gu ?_)); refine ca (light_any ses2 snap2 strict2 _ _ vs zs _ (hB.ch hM.ch) hk2 hb2) ?_
  rintro _ w1 ⟨⟨l2, rfl, hl2⟩, hc⟩
  have hM := hM.call hc
  cases l2 with
  | false =>
    repeat (first | ((with_reducible apply is_ld); first | refine kld hM ?_ | refine kldw hM ?_ | refine kle hM ?_ | refine klew hM ?_) | ((with_reducible apply is_sto); first | (refine kst hM ?_; intro w hM) | (refine kstw hM ?_; intro w hM)) | ((with_reducible apply is_st); refine su ?_) | ((with_reducible apply is_gd); first | refine gt ?_ | refine gf ?_ | refine gu ?_) | ((with_reducible apply is_en); refine en ?_) | (with_reducible apply c_region) | refine ws ?_ | refine x_block_other (by decide) ?_)
    refine c_condb rfl (fun _ => ?_) (fun h => by cases h)
    repeat (first | ((with_reducible apply is_ld); first | refine kld hM ?_ | refine kldw hM ?_ | refine kle hM ?_ | refine klew hM ?_) | ((with_reducible apply is_sto); first | (refine kst hM ?_; intro w hM) | (refine kstw hM ?_; intro w hM)) | ((with_reducible apply is_st); refine su ?_) | ((with_reducible apply is_gd); first | refine gt ?_ | refine gf ?_ | refine gu ?_) | ((with_reducible apply is_en); refine en ?_) | (with_reducible apply c_region) | refine ws ?_ | refine x_block_other (by decide) ?_)
    refine kca hM (lives_any _) (fun w hM => ?_)
    repeat (first | ((with_reducible apply is_ld); first | refine kld hM ?_ | refine kldw hM ?_ | refine kle hM ?_ | refine klew hM ?_) | ((with_reducible apply is_sto); first | (refine kst hM ?_; intro w hM) | (refine kstw hM ?_; intro w hM)) | ((with_reducible apply is_st); refine su ?_) | ((with_reducible apply is_gd); first | refine gt ?_ | refine gf ?_ | refine gu ?_) | ((with_reducible apply is_en); refine en ?_) | (with_reducible apply c_region) | refine ws ?_ | refine x_block_other (by decide) ?_)
    exact out1 rfl ⟨rfl, hM.ch⟩
  | true =>
  repeat (first | ((with_reducible apply is_ld); first | refine kld hM ?_ | refine kldw hM ?_ | refine kle hM ?_ | refine klew hM ?_) | ((with_reducible apply is_sto); first | (refine kst hM ?_; intro w hM) | (refine kstw hM ?_; intro w hM)) | ((with_reducible apply is_st); refine su ?_) | ((with_reducible apply is_gd); first | refine gt ?_ | refine gf ?_ | refine gu ?_) | ((with_reducible apply is_en); refine en ?_) | (with_reducible apply c_region) | refine ws ?_ | refine x_block_other (by decide) ?_)
  refine c_condb rfl (fun h => by cases h) (fun _ => ?_)
  repeat (first | ((with_reducible apply is_ld); first | refine kld hM ?_ | refine kldw hM ?_ | refine kle hM ?_ | refine klew hM ?_) | ((with_reducible apply is_sto); first | (refine kst hM ?_; intro w hM) | (refine kstw hM ?_; intro w hM)) | ((with_reducible apply is_st); refine su ?_) | ((with_reducible apply is_gd); first | refine gt ?_ | refine gf ?_ | refine gu ?_) | ((with_reducible apply is_en); refine en ?_) | refine ws ?_ | refine x_block_other (by decide) ?_)
  refine c_ordY ([], []) [] (by kernel_rfl) (by kernel_rfl) (by kernel_rfl) (fun w hc hs => ?_)
  have hM := hM.call hc
  have hl2 := Blk.lt (hM.blk (b := b2) (by (repeat constructor)))
  have hl3 := Blk.lt (hM.blk (b := b3) (by (repeat constructor)))
  refine ynlr 0 rfl (hM.blk (b := b2) (by (repeat constructor))) (by omega) (by simp) rfl rfl rfl ?_
  refine ynlr 2 rfl (hM.blk (b := b2) (by (repeat constructor))) (by omega) (by simp) rfl rfl rfl ?_
  refine yk1 1 hM (by kernel_rfl) rfl (fun w h0 hM => ?_)
  have hA1 := hA.ch hM.ch
  refine ca (recGood_any ses snap strict _ _ us wz _ hA1.r hA1.u hA1.w hk hb) ?_
  rintro _ w2 ⟨rfl, hc⟩
  have hM := hM.call hc
  refine x_wy (.inl (hc.gy h0)) rfl ?_
  refine yk1 3 hM (by kernel_rfl) rfl (fun w h0 hM => ?_)
  have hA1 := hA.ch hM.ch
  refine ca (rgood16_any ses snap strict _ _ us wz _ hA1.r hA1.u hA1.w hk hb) ?_
  rintro _ w2 ⟨rfl, hc⟩
  have hM := hM.call hc
  refine x_wy (.inl (hc.gy h0)) rfl ?_
  refine ynp 4 rfl (by kernel_rfl) (by kernel_rfl) (fun _ => r_eqbs (a := recGood ses snap strict us wz) rfl rfl) rfl ?_
  (first | refine yn 5 rfl ?_ | refine ynt 5 rfl ?_ | refine ynff 5 rfl ?_)
  refine ynlrt 6 rfl (hM.blk (b := b2) (by (repeat constructor))) (by omega) (by simp) rfl rfl ?_
  refine ynlrt 9 rfl (hM.blk (b := b2) (by (repeat constructor))) (by omega) (by simp) rfl rfl ?_
  refine yk1 7 hM (by kernel_rfl) rfl (fun w h0 hM => ?_)
  refine gt ?_
  have hA1 := hA.ch hM.ch
  refine ca (recBytes_any ses snap strict _ _ us wz _ hA1.r hA1.u hA1.w hk hb) ?_
  rintro v21 w2 ⟨hc, hO⟩
  obtain ⟨bs, hbs⟩ : ∃ bs, bs = bytesB ses snap strict us wz := ⟨_, rfl⟩
  rw [← hbs] at hO
  have hM := hM.got hc hO
  refine x_wy (.inl (hc.gy h0)) rfl ?_
  refine wy_cont (X := Value) (fun x N w => Mem [] w0 w [.cell b3 (rC ses2 snap2 strict2 (.slice A3 vs.length c3) (.slice A4 zs.length c4)) 25, .cell b2 (rC ses snap strict (.slice A us.length c) (.slice A2 wz.length c2)) 25])
    (fun x l => (((l.set 22 (.string (bst bs))).set 24 x).set 25 (.string (bst bs))).set 26 (.bool true)) #[true, true, true, true, true, true, true, true, true, true, true, true, true, false, false, false, false, false, false, false, false, false, false, false, false, false, false, false, false, false, false, false, false, false, false, false, false, false, false, false] (fuel := 27) (fun hkk => ?_) ?_
  · skip
    refine yk2 8 10 hM (by kernel_rfl) rfl rfl (fun w h0 hM => ?_) (fun w h0 hM => ?_)
    · skip
      refine gt ?_
      refine wl_val (r_b2s (hM.rowRdO (en := eU8) (xs := bs) (v := v21) (by (repeat constructor)))) ?_
      have hc := Ch.refl [] w
      refine x_wy (.inl (hc.gy h0)) rfl ?_
      refine yk1 10 hM (by kernel_rfl) rfl (fun w h0 hM => ?_)
      refine gt ?_
      have hA1 := hA.ch hM.ch
      refine ca (rrecBytes_any ses snap strict _ _ us wz _ hA1.r hA1.u hA1.w hk hb) ?_
      rintro v24 w2 ⟨hc, hO⟩
      rw [← hbs] at hO
      have hM := hM.got hc hO
      refine x_wy (.inl (hc.gy h0)) rfl ?_
      refine yk1 11 hM (by kernel_rfl) rfl (fun w h0 hM => ?_)
      refine gt ?_
      refine wl_val (r_b2s (hM.rowRdO (en := eU8) (xs := bs) (v := v24) (by (repeat constructor)))) ?_
      have hc := Ch.refl [] w
      refine x_wy (.inl (hc.gy h0)) rfl ?_
      refine ynvt 12 rfl (by kernel_rfl) (by kernel_rfl) rfl rfl (Nat.le_of_ble_eq_true rfl) rfl (fun w1 hG => r_eqsts (a := bs)) rfl ?_
      exact hkk v24 _ _ _ (by kernel_rfl) rfl (hM.sub (by (repeat constructor)))
    · skip
      refine gt ?_
      have hA1 := hA.ch hM.ch
      refine ca (rrecBytes_any ses snap strict _ _ us wz _ hA1.r hA1.u hA1.w hk hb) ?_
      rintro v24 w2 ⟨hc, hO⟩
      rw [← hbs] at hO
      have hM := hM.got hc hO
      refine x_wy (.inl (hc.gy h0)) rfl ?_
      refine yk2 8 11 hM (by kernel_rfl) rfl rfl (fun w h0 hM => ?_) (fun w h0 hM => ?_)
      · skip
        refine gt ?_
        refine wl_val (r_b2s (hM.rowRdO (en := eU8) (xs := bs) (v := v21) (by (repeat constructor)))) ?_
        have hc := Ch.refl [] w
        refine x_wy (.inl (hc.gy h0)) rfl ?_
        refine yk1 11 hM (by kernel_rfl) rfl (fun w h0 hM => ?_)
        refine gt ?_
        refine wl_val (r_b2s (hM.rowRdO (en := eU8) (xs := bs) (v := v24) (by (repeat constructor)))) ?_
        have hc := Ch.refl [] w
        refine x_wy (.inl (hc.gy h0)) rfl ?_
        refine ynvt 12 rfl (by kernel_rfl) (by kernel_rfl) rfl rfl (Nat.le_of_ble_eq_true rfl) rfl (fun w1 hG => r_eqsts (a := bs)) rfl ?_
        exact hkk v24 _ _ _ (by kernel_rfl) rfl (hM.sub (by (repeat constructor)))
      · skip
        refine gt ?_
        refine wl_val (r_b2s (hM.rowRdO (en := eU8) (xs := bs) (v := v24) (by (repeat constructor)))) ?_
        have hc := Ch.refl [] w
        refine x_wy (.inl (hc.gy h0)) rfl ?_
        refine yk1 8 hM (by kernel_rfl) rfl (fun w h0 hM => ?_)
        refine gt ?_
        refine wl_val (r_b2s (hM.rowRdO (en := eU8) (xs := bs) (v := v21) (by (repeat constructor)))) ?_
        have hc := Ch.refl [] w
        refine x_wy (.inl (hc.gy h0)) rfl ?_
        refine ynvt 12 rfl (by kernel_rfl) (by kernel_rfl) rfl rfl (Nat.le_of_ble_eq_true rfl) rfl (fun w1 hG => r_eqsts (a := bs)) rfl ?_
        exact hkk v24 _ _ _ (by kernel_rfl) rfl (hM.sub (by (repeat constructor)))
  clear hM
  rintro v24 w hM
  refine wy_nf ?_
  (first | refine yn 13 rfl ?_ | refine ynt 13 rfl ?_ | refine ynff 13 rfl ?_); (first | refine yn 14 rfl ?_ | refine ynt 14 rfl ?_ | refine ynff 14 rfl ?_)
  refine ynlrt 15 rfl (hM.blk (b := b2) (by (repeat constructor))) (by omega) (by simp) rfl rfl ?_
  refine ynlrt 17 rfl (hM.blk (b := b2) (by (repeat constructor))) (by omega) (by simp) rfl rfl ?_
  refine yk1 16 hM (by kernel_rfl) rfl (fun w h0 hM => ?_)
  refine gt ?_
  refine ca (recLeaf_any ses snap strict _ _ us wz _ (hK.ch hM.ch (by simp)) (hA.ch hM.ch) hk hb) ?_
  rintro _ w2 ⟨rfl, hc⟩
  have hM := hM.call hc
  refine x_wy (.inl (hc.gy h0)) rfl ?_
  refine yk1 18 hM (by kernel_rfl) rfl (fun w h0 hM => ?_)
  refine gt ?_
  refine ca (rrecLeaf_any ses snap strict _ _ us wz _ trivial (hA.ch hM.ch) hk hb) ?_
  rintro _ w2 ⟨rfl, hc⟩
  have hM := hM.call hc
  refine x_wy (.inl (hc.gy h0)) rfl ?_
  rw [← hbs]
  refine ynvt 19 rfl (by kernel_rfl) (by kernel_rfl) rfl rfl (Nat.le_of_ble_eq_true rfl) rfl (fun w1 hG => r_eq8s (n := 32) (a := leafOf bs) (by kernel_rfl) rfl rfl (leafOf_len _)) rfl ?_
  (first | refine yn 20 rfl ?_ | refine ynt 20 rfl ?_ | refine ynff 20 rfl ?_); (first | refine yn 21 rfl ?_ | refine ynt 21 rfl ?_ | refine ynff 21 rfl ?_)
  refine ynlrt 22 rfl (hM.blk (b := b2) (by (repeat constructor))) (by omega) (by simp) rfl rfl ?_
  refine ynlrt 23 rfl (hM.blk (b := b3) (by (repeat constructor))) (by omega) (by simp) rfl rfl ?_
  refine ynlrt 25 rfl (hM.blk (b := b2) (by (repeat constructor))) (by omega) (by simp) rfl rfl ?_
  refine ynlrt 26 rfl (hM.blk (b := b3) (by (repeat constructor))) (by omega) (by simp) rfl rfl ?_
  refine yk1 24 hM (by kernel_rfl) rfl (fun w h0 hM => ?_)
  refine gt ?_
  refine ca (same_any ses snap strict _ _ us wz ses2 snap2 strict2 _ _ vs zs _ (hA.ch hM.ch) (hB.ch hM.ch)) ?_
  rintro _ w2 ⟨rfl, hc⟩
  have hM := hM.call hc
  refine x_wy (.inl (hc.gy h0)) rfl ?_
  refine yk1 27 hM (by kernel_rfl) rfl (fun w h0 hM => ?_)
  refine gt ?_
  refine ca (rsame_any ses snap strict _ _ us wz ses2 snap2 strict2 _ _ vs zs _ (hA.ch hM.ch) (hB.ch hM.ch)) ?_
  rintro _ w2 ⟨rfl, hc⟩
  have hM := hM.call hc
  refine x_wy (.inl (hc.gy h0)) rfl ?_
  refine ynvt 28 rfl (by kernel_rfl) (by kernel_rfl) rfl rfl (Nat.le_of_ble_eq_true rfl) rfl (fun w1 hG => r_eqbs (a := sameB ses snap strict us wz ses2 snap2 strict2 vs zs) rfl rfl) rfl ?_
  (first | refine yn 29 rfl ?_ | refine ynt 29 rfl ?_ | refine ynff 29 rfl ?_); (first | refine yn 30 rfl ?_ | refine ynt 30 rfl ?_ | refine ynff 30 rfl ?_)
  refine ynlrt 31 rfl (hM.blk (b := b2) (by (repeat constructor))) (by omega) (by simp) rfl rfl ?_
  refine ynlrt 33 rfl (hM.blk (b := b2) (by (repeat constructor))) (by omega) (by simp) rfl rfl ?_
  refine yk1 32 hM (by kernel_rfl) rfl (fun w h0 hM => ?_)
  refine gt ?_
  refine ca (copy_any ses snap strict _ _ us wz _ (hA.ch hM.ch) hL) ?_
  rintro _ w2 ⟨vr5, vw5, us5, rfl, hd5, hK5⟩
  have hm5 := rows_recM hK5
  have hc := hK5.ch
  have hM := hM.call hc
  have hN0 := hM.ch
  refine x_wy (.inl (hc.gy h0)) rfl ?_
  clear hM
  have hM := Mem.start w2
  refine yk1 34 hM (by kernel_rfl) rfl (fun w h0 hM => ?_)
  refine gt ?_
  refine ca (rsame_any ses snap strict _ _ us5 wz ses snap strict _ _ us wz _ (hm5.ch hM.ch) (hA.ch (hN0.then hM.ch))) ?_
  rintro _ w3 ⟨rfl, hc⟩
  have hM := hM.call hc
  rw [show sameB ses snap strict us5 wz ses snap strict us wz = true by simp [sameB, hd5]]
  refine x_wy (.inl (hc.gy h0)) rfl ?_
  (first | refine yn 35 rfl ?_ | refine ynt 35 rfl ?_ | refine ynff 35 rfl ?_); (first | refine yn 36 rfl ?_ | refine ynt 36 rfl ?_ | refine ynff 36 rfl ?_)
  refine yk1 37 hM (by kernel_rfl) rfl (fun w h0 hM => ?_)
  refine gt ?_
  refine ca (lives_any _) ?_
  rintro _ w4 ⟨rfl, hc⟩
  have hM := hM.call hc
  refine x_wy (.inl (hc.gy h0)) rfl ?_
  (first | refine yn 38 rfl ?_ | refine ynt 38 rfl ?_ | refine ynff 38 rfl ?_); (first | refine yn 39 rfl ?_ | refine ynt 39 rfl ?_ | refine ynff 39 rfl ?_)
  refine wy_done (by kernel_rfl) (fun w hc => ?_)
  have hM := hM.call hc
  repeat (first | ((with_reducible apply is_ld); first | refine kld hM ?_ | refine kldw hM ?_ | refine kle hM ?_ | refine klew hM ?_) | ((with_reducible apply is_sto); first | (refine kst hM ?_; intro w hM) | (refine kstw hM ?_; intro w hM)) | ((with_reducible apply is_st); refine su ?_) | ((with_reducible apply is_gd); first | refine gt ?_ | refine gf ?_ | refine gu ?_) | ((with_reducible apply is_en); refine en ?_) | (with_reducible apply c_region) | refine ws ?_ | refine x_block_other (by decide) ?_)
  exact out1 rfl ⟨rfl, hN0.then hM.ch⟩
end Go.Proofs.YtnkkeehoejmcnaaDoor

/- Walk: the law RecordReads. -/
import Derived.Test.YtnkkeehoejmcnaaRd4
set_option linter.unusedVariables false
set_option linter.unusedSimpArgs false
namespace Go.Proofs.E
open Go Go.RowKit
theorem Mem.appL {O : List Nat} {w0 w : World} {M L : List As} (h : Mem O w0 w (M ++ L)) : Mem O w0 w M :=
  ⟨h.ch, fun a ha => h.all a (List.mem_append_left _ ha), fun a ha => h.new a (List.mem_append_left _ ha), (List.pairwise_append.1 h.dis).1⟩
theorem Mem.appR {O : List Nat} {w0 w : World} {M L : List As} (h : Mem O w0 w (M ++ L)) : Mem O w0 w L :=
  ⟨h.ch, fun a ha => h.all a (List.mem_append_right _ ha), fun a ha => h.new a (List.mem_append_right _ ha), (List.pairwise_append.1 h.dis).2.1⟩
end Go.Proofs.E
namespace Go.Proofs.Ytnkkeehoejmcnaa
open Go Go.RowKit Go.Proofs.E
attribute [local irreducible] Go.wpList Go.Code.wp Go.Proofs.E.exec Go.Proofs.E.wpLexG
theorem sameB_refl {ses snap : Int} {strict : Bool} {us vs : List (RR × List Pr)} {wz : List Pr} (h : us.map dat = vs.map dat) : sameB ses snap strict us wz ses snap strict vs wz = true := by simp [sameB, h]
set_option maxHeartbeats 16000000 in
theorem recordReads_any (v : Value) (bs : Bs) (w0 : World) (hR : tU8.Rd [] w0 v bs) :
    Calls Try.prog 5 #[v] w0 (Ret fun u w' => u = .bool true ∧ Ch [] w0 w') := by
  have hM := Mem.start w0
  have hle := hR.le
  obtain ⟨A, c, rfl⟩ := hR.form
  refine enter [.slice A bs.length c, undef, undef, undef, undef, undef, undef, undef, undef, undef, undef, undef, undef, undef, undef, undef, undef, undef, undef, undef, undef, undef, undef, undef, undef, undef, undef, undef, undef, undef, undef, undef, undef, undef, undef, undef, undef] Try.func5 rfl rfl ?_
  repeat (first | ((with_reducible apply is_ld); first | refine kld hM ?_ | refine kldw hM ?_ | refine kle hM ?_ | refine klew hM ?_) | ((with_reducible apply is_sto); first | (refine kst hM ?_; intro w hM) | (refine kstw hM ?_; intro w hM)) | ((with_reducible apply is_st); refine su ?_) | ((with_reducible apply is_gd); first | refine gt ?_ | refine gf ?_ | refine gu ?_) | ((with_reducible apply is_en); refine en ?_) | (with_reducible apply c_region) | refine ws ?_ | refine x_block_other (by decide) ?_)
  by_cases q1 : (3000 : Int) < (bs.length : Int)
  · rw [decide_eq_true q1]
    repeat (first | ((with_reducible apply is_ld); first | refine kld hM ?_ | refine kldw hM ?_ | refine kle hM ?_ | refine klew hM ?_) | ((with_reducible apply is_sto); first | (refine kst hM ?_; intro w hM) | (refine kstw hM ?_; intro w hM)) | ((with_reducible apply is_st); refine su ?_) | ((with_reducible apply is_gd); first | refine gt ?_ | refine gf ?_ | refine gu ?_) | ((with_reducible apply is_en); refine en ?_) | (with_reducible apply c_region) | refine ws ?_ | refine x_block_other (by decide) ?_)
    by_cases q2 : (bs.length : Int) ≤ 8192
    · rw [decide_eq_true q2]
      refine c_condb rfl (fun _ => ?_) (fun h => by cases h)
      repeat (first | ((with_reducible apply is_ld); first | refine kld hM ?_ | refine kldw hM ?_ | refine kle hM ?_ | refine klew hM ?_) | ((with_reducible apply is_sto); first | (refine kst hM ?_; intro w hM) | (refine kstw hM ?_; intro w hM)) | ((with_reducible apply is_st); refine su ?_) | ((with_reducible apply is_gd); first | refine gt ?_ | refine gf ?_ | refine gu ?_) | ((with_reducible apply is_en); refine en ?_) | (with_reducible apply c_region) | refine ws ?_ | refine x_block_other (by decide) ?_)
      refine kca hM (lives_any _) (fun w hM => ?_)
      repeat (first | ((with_reducible apply is_ld); first | refine kld hM ?_ | refine kldw hM ?_ | refine kle hM ?_ | refine klew hM ?_) | ((with_reducible apply is_sto); first | (refine kst hM ?_; intro w hM) | (refine kstw hM ?_; intro w hM)) | ((with_reducible apply is_st); refine su ?_) | ((with_reducible apply is_gd); first | refine gt ?_ | refine gf ?_ | refine gu ?_) | ((with_reducible apply is_en); refine en ?_) | (with_reducible apply c_region) | refine ws ?_ | refine x_block_other (by decide) ?_)
      exact out1 rfl ⟨rfl, hM.ch⟩
    · rw [decide_eq_false q2]
      refine c_condb rfl (fun h => by cases h) (fun _ => ?_)
      repeat (first | ((with_reducible apply is_ld); first | refine kld hM ?_ | refine kldw hM ?_ | refine kle hM ?_ | refine klew hM ?_) | ((with_reducible apply is_sto); first | (refine kst hM ?_; intro w hM) | (refine kstw hM ?_; intro w hM)) | ((with_reducible apply is_st); refine su ?_) | ((with_reducible apply is_gd); first | refine gt ?_ | refine gf ?_ | refine gu ?_) | ((with_reducible apply is_en); refine en ?_) | (with_reducible apply c_region) | refine ws ?_ | refine x_block_other (by decide) ?_)
      refine ca (recRead_any _ bs _ (hR.ch hM.ch)) ?_
      rintro _ w1 ⟨vr1, vw1, us1, rfl, hd1, hK1⟩
      have hm1 := rows_recM hK1
      obtain ⟨Ar1, cr1, rfl⟩ := hm1.r.form
      obtain ⟨Aw1, cw1, rfl⟩ := hm1.w.form
      clear hm1
      have hM := hM.join hK1 rows_plain
      clear hK1
      have hres : ∃ x, resR (readZ bs) = x := ⟨_, rfl⟩
      obtain ⟨⟨ses, snap, strict, ds, wz⟩, hx⟩ := hres
      rw [hx] at hM hd1 ⊢
      simp only at hM hd1 ⊢
      obtain ⟨TL, hTL⟩ : ∃ TL, TL = rows16 (.slice Ar1 (us1.map (fun u : RR × List Pr => u.1)).length cr1) (.slice Aw1 wz.length cw1) us1 wz := ⟨_, rfl⟩
      rw [← hTL, List.append_nil] at hM
      repeat (first | ((with_reducible apply is_ld); first | refine kld hM ?_ | refine kldw hM ?_ | refine kle hM ?_ | refine klew hM ?_) | ((with_reducible apply is_sto); first | (refine kst hM ?_; intro w hM) | (refine kstw hM ?_; intro w hM)) | ((with_reducible apply is_st); refine su ?_) | ((with_reducible apply is_gd); first | refine gt ?_ | refine gf ?_ | refine gu ?_) | ((with_reducible apply is_en); refine en ?_) | (with_reducible apply c_region) | refine ws ?_ | refine x_block_other (by decide) ?_)
      refine kal hM (fun w b3 hM => ?_)
      refine kstw (vs := rC ses snap strict (.slice Ar1 (us1.map (fun u : RR × List Pr => u.1)).length cr1) (.slice Aw1 wz.length cw1)) hM (fun w hM => ?_)
      repeat (first | ((with_reducible apply is_ld); first | refine kld hM ?_ | refine kldw hM ?_ | refine kle hM ?_ | refine klew hM ?_) | ((with_reducible apply is_sto); first | (refine kst hM ?_; intro w hM) | (refine kstw hM ?_; intro w hM)) | ((with_reducible apply is_st); refine su ?_) | ((with_reducible apply is_gd); first | refine gt ?_ | refine gf ?_ | refine gu ?_) | ((with_reducible apply is_en); refine en ?_) | (with_reducible apply c_region) | refine ws ?_ | refine x_block_other (by decide) ?_)
      refine ca (rrecRead_any _ bs _ (hR.ch hM.ch)) ?_
      rintro _ w2 ⟨vr2, vw2, us2, rfl, hd2, hK2⟩
      have hm2 := rows_recM hK2
      obtain ⟨Ar2, cr2, rfl⟩ := hm2.r.form
      obtain ⟨Aw2, cw2, rfl⟩ := hm2.w.form
      clear hm2
      rw [hx] at hd2 hK2 ⊢
      simp only at hd2 hK2 ⊢
      have hM := hM.join hK2 rows_plain
      clear hK2
      obtain ⟨TL2, hTL2⟩ : ∃ TL, TL = rows16 (.slice Ar2 (us2.map (fun u : RR × List Pr => u.1)).length cr2) (.slice Aw2 wz.length cw2) us2 wz := ⟨_, rfl⟩
      rw [← hTL2] at hM
      have hM := hM.perm List.perm_append_comm
      simp only [List.cons_append] at hM
      repeat (first | ((with_reducible apply is_ld); first | refine kld hM ?_ | refine kldw hM ?_ | refine kle hM ?_ | refine klew hM ?_) | ((with_reducible apply is_sto); first | (refine kst hM ?_; intro w hM) | (refine kstw hM ?_; intro w hM)) | ((with_reducible apply is_st); refine su ?_) | ((with_reducible apply is_gd); first | refine gt ?_ | refine gf ?_ | refine gu ?_) | ((with_reducible apply is_en); refine en ?_) | (with_reducible apply c_region) | refine ws ?_ | refine x_block_other (by decide) ?_)
      refine kal hM (fun w b5 hM => ?_)
      refine kstw (vs := rC ses snap strict (.slice Ar2 (us2.map (fun u : RR × List Pr => u.1)).length cr2) (.slice Aw2 wz.length cw2)) hM (fun w hM => ?_)
      repeat (first | ((with_reducible apply is_ld); first | refine kld hM ?_ | refine kldw hM ?_ | refine kle hM ?_ | refine klew hM ?_) | ((with_reducible apply is_sto); first | (refine kst hM ?_; intro w hM) | (refine kstw hM ?_; intro w hM)) | ((with_reducible apply is_st); refine su ?_) | ((with_reducible apply is_gd); first | refine gt ?_ | refine gf ?_ | refine gu ?_) | ((with_reducible apply is_en); refine en ?_) | (with_reducible apply c_region) | refine ws ?_ | refine x_block_other (by decide) ?_)
      have hr1 := rows_recM (hTL ▸ hM.drop.drop.appL)
      have hr2 := rows_recM (hTL2 ▸ hM.drop.drop.appR)
      refine kca hM (rsame_any ses snap strict _ _ us1 wz ses snap strict _ _ us2 wz _ hr1 hr2) (fun w hM => ?_)
      rw [sameB_refl (hd1.trans hd2.symm)]
      repeat (first | ((with_reducible apply is_ld); first | refine kld hM ?_ | refine kldw hM ?_ | refine kle hM ?_ | refine klew hM ?_) | ((with_reducible apply is_sto); first | (refine kst hM ?_; intro w hM) | (refine kstw hM ?_; intro w hM)) | ((with_reducible apply is_st); refine su ?_) | ((with_reducible apply is_gd); first | refine gt ?_ | refine gf ?_ | refine gu ?_) | ((with_reducible apply is_en); refine en ?_) | (with_reducible apply c_region) | refine ws ?_ | refine x_block_other (by decide) ?_)
      (try ((with_reducible apply is_gd); first | refine gt ?_ | refine gf ?_ | refine gu ?_)); refine kca hM (lives_any _) (fun w hM => ?_)
      repeat (first | ((with_reducible apply is_ld); first | refine kld hM ?_ | refine kldw hM ?_ | refine kle hM ?_ | refine klew hM ?_) | ((with_reducible apply is_sto); first | (refine kst hM ?_; intro w hM) | (refine kstw hM ?_; intro w hM)) | ((with_reducible apply is_st); refine su ?_) | ((with_reducible apply is_gd); first | refine gt ?_ | refine gf ?_ | refine gu ?_) | ((with_reducible apply is_en); refine en ?_) | (with_reducible apply c_region) | refine ws ?_ | refine x_block_other (by decide) ?_)
      exact out1 rfl ⟨rfl, hM.ch⟩
  · rw [decide_eq_false q1]
    repeat (first | ((with_reducible apply is_ld); first | refine kld hM ?_ | refine kldw hM ?_ | refine kle hM ?_ | refine klew hM ?_) | ((with_reducible apply is_sto); first | (refine kst hM ?_; intro w hM) | (refine kstw hM ?_; intro w hM)) | ((with_reducible apply is_st); refine su ?_) | ((with_reducible apply is_gd); first | refine gt ?_ | refine gf ?_ | refine gu ?_) | ((with_reducible apply is_en); refine en ?_) | (with_reducible apply c_region) | refine ws ?_ | refine x_block_other (by decide) ?_)
    refine c_condb rfl (fun h => by cases h) (fun _ => ?_)
    repeat (first | ((with_reducible apply is_ld); first | refine kld hM ?_ | refine kldw hM ?_ | refine kle hM ?_ | refine klew hM ?_) | ((with_reducible apply is_sto); first | (refine kst hM ?_; intro w hM) | (refine kstw hM ?_; intro w hM)) | ((with_reducible apply is_st); refine su ?_) | ((with_reducible apply is_gd); first | refine gt ?_ | refine gf ?_ | refine gu ?_) | ((with_reducible apply is_en); refine en ?_) | (with_reducible apply c_region) | refine ws ?_ | refine x_block_other (by decide) ?_)
    refine ca (recRead_any _ bs _ (hR.ch hM.ch)) ?_
    rintro _ w1 ⟨vr1, vw1, us1, rfl, hd1, hK1⟩
    have hm1 := rows_recM hK1
    obtain ⟨Ar1, cr1, rfl⟩ := hm1.r.form
    obtain ⟨Aw1, cw1, rfl⟩ := hm1.w.form
    clear hm1
    have hM := hM.join hK1 rows_plain
    clear hK1
    have hres : ∃ x, resR (readZ bs) = x := ⟨_, rfl⟩
    obtain ⟨⟨ses, snap, strict, ds, wz⟩, hx⟩ := hres
    rw [hx] at hM hd1 ⊢
    simp only at hM hd1 ⊢
    obtain ⟨TL, hTL⟩ : ∃ TL, TL = rows16 (.slice Ar1 (us1.map (fun u : RR × List Pr => u.1)).length cr1) (.slice Aw1 wz.length cw1) us1 wz := ⟨_, rfl⟩
    rw [← hTL, List.append_nil] at hM
    repeat (first | ((with_reducible apply is_ld); first | refine kld hM ?_ | refine kldw hM ?_ | refine kle hM ?_ | refine klew hM ?_) | ((with_reducible apply is_sto); first | (refine kst hM ?_; intro w hM) | (refine kstw hM ?_; intro w hM)) | ((with_reducible apply is_st); refine su ?_) | ((with_reducible apply is_gd); first | refine gt ?_ | refine gf ?_ | refine gu ?_) | ((with_reducible apply is_en); refine en ?_) | (with_reducible apply c_region) | refine ws ?_ | refine x_block_other (by decide) ?_)
    refine kal hM (fun w b3 hM => ?_)
    refine kstw (vs := rC ses snap strict (.slice Ar1 (us1.map (fun u : RR × List Pr => u.1)).length cr1) (.slice Aw1 wz.length cw1)) hM (fun w hM => ?_)
    repeat (first | ((with_reducible apply is_ld); first | refine kld hM ?_ | refine kldw hM ?_ | refine kle hM ?_ | refine klew hM ?_) | ((with_reducible apply is_sto); first | (refine kst hM ?_; intro w hM) | (refine kstw hM ?_; intro w hM)) | ((with_reducible apply is_st); refine su ?_) | ((with_reducible apply is_gd); first | refine gt ?_ | refine gf ?_ | refine gu ?_) | ((with_reducible apply is_en); refine en ?_) | (with_reducible apply c_region) | refine ws ?_ | refine x_block_other (by decide) ?_)
    refine ca (rrecRead_any _ bs _ (hR.ch hM.ch)) ?_
    rintro _ w2 ⟨vr2, vw2, us2, rfl, hd2, hK2⟩
    have hm2 := rows_recM hK2
    obtain ⟨Ar2, cr2, rfl⟩ := hm2.r.form
    obtain ⟨Aw2, cw2, rfl⟩ := hm2.w.form
    clear hm2
    rw [hx] at hd2 hK2 ⊢
    simp only at hd2 hK2 ⊢
    have hM := hM.join hK2 rows_plain
    clear hK2
    obtain ⟨TL2, hTL2⟩ : ∃ TL, TL = rows16 (.slice Ar2 (us2.map (fun u : RR × List Pr => u.1)).length cr2) (.slice Aw2 wz.length cw2) us2 wz := ⟨_, rfl⟩
    rw [← hTL2] at hM
    have hM := hM.perm List.perm_append_comm
    simp only [List.cons_append] at hM
    repeat (first | ((with_reducible apply is_ld); first | refine kld hM ?_ | refine kldw hM ?_ | refine kle hM ?_ | refine klew hM ?_) | ((with_reducible apply is_sto); first | (refine kst hM ?_; intro w hM) | (refine kstw hM ?_; intro w hM)) | ((with_reducible apply is_st); refine su ?_) | ((with_reducible apply is_gd); first | refine gt ?_ | refine gf ?_ | refine gu ?_) | ((with_reducible apply is_en); refine en ?_) | (with_reducible apply c_region) | refine ws ?_ | refine x_block_other (by decide) ?_)
    refine kal hM (fun w b5 hM => ?_)
    refine kstw (vs := rC ses snap strict (.slice Ar2 (us2.map (fun u : RR × List Pr => u.1)).length cr2) (.slice Aw2 wz.length cw2)) hM (fun w hM => ?_)
    repeat (first | ((with_reducible apply is_ld); first | refine kld hM ?_ | refine kldw hM ?_ | refine kle hM ?_ | refine klew hM ?_) | ((with_reducible apply is_sto); first | (refine kst hM ?_; intro w hM) | (refine kstw hM ?_; intro w hM)) | ((with_reducible apply is_st); refine su ?_) | ((with_reducible apply is_gd); first | refine gt ?_ | refine gf ?_ | refine gu ?_) | ((with_reducible apply is_en); refine en ?_) | (with_reducible apply c_region) | refine ws ?_ | refine x_block_other (by decide) ?_)
    have hr1 := rows_recM (hTL ▸ hM.drop.drop.appL)
    have hr2 := rows_recM (hTL2 ▸ hM.drop.drop.appR)
    refine kca hM (rsame_any ses snap strict _ _ us1 wz ses snap strict _ _ us2 wz _ hr1 hr2) (fun w hM => ?_)
    rw [sameB_refl (hd1.trans hd2.symm)]
    repeat (first | ((with_reducible apply is_ld); first | refine kld hM ?_ | refine kldw hM ?_ | refine kle hM ?_ | refine klew hM ?_) | ((with_reducible apply is_sto); first | (refine kst hM ?_; intro w hM) | (refine kstw hM ?_; intro w hM)) | ((with_reducible apply is_st); refine su ?_) | ((with_reducible apply is_gd); first | refine gt ?_ | refine gf ?_ | refine gu ?_) | ((with_reducible apply is_en); refine en ?_) | (with_reducible apply c_region) | refine ws ?_ | refine x_block_other (by decide) ?_)
    (try ((with_reducible apply is_gd); first | refine gt ?_ | refine gf ?_ | refine gu ?_)); refine kca hM (lives_any _) (fun w hM => ?_)
    repeat (first | ((with_reducible apply is_ld); first | refine kld hM ?_ | refine kldw hM ?_ | refine kle hM ?_ | refine klew hM ?_) | ((with_reducible apply is_sto); first | (refine kst hM ?_; intro w hM) | (refine kstw hM ?_; intro w hM)) | ((with_reducible apply is_st); refine su ?_) | ((with_reducible apply is_gd); first | refine gt ?_ | refine gf ?_ | refine gu ?_) | ((with_reducible apply is_en); refine en ?_) | (with_reducible apply c_region) | refine ws ?_ | refine x_block_other (by decide) ?_)
    exact out1 rfl ⟨rfl, hM.ch⟩
end Go.Proofs.Ytnkkeehoejmcnaa

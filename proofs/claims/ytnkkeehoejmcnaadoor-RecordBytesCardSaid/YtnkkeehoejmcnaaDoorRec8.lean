/- Walks: Same, both; the law's own. -/
import Derived.Test.YtnkkeehoejmcnaaDoorRec7
set_option linter.unusedVariables false
set_option linter.unusedSimpArgs false
namespace Go.Proofs.YtnkkeehoejmcnaaDoor
open Go Go.RowKit Go.Proofs.E
attribute [local irreducible] Go.wpList Go.Code.wp Go.Proofs.E.exec Go.Proofs.E.wpLexG
/-- A record's value in memory. -/
structure RecM (w : World) (vr vw : Value) (us : List (RR × List Pr)) (wz : List Pr) : Prop where
  r : (Ty.enc eRr).Rd [] w vr (us.map (fun u : RR × List Pr => u.1))
  u : ∀ u ∈ us, (Ty.enc ePr).Rd [] w (slv u.1.2.2.2) u.2
  w : (Ty.enc ePr).Rd [] w vw wz
theorem RecM.ch {w w' : World} {vr vw : Value} {us : List (RR × List Pr)} {wz : List Pr} (h : RecM w vr vw us wz) (hc : Ch [] w w') : RecM w' vr vw us wz := ⟨h.r.ch hc, fun u hu => (h.u u hu).ch hc, h.w.ch hc⟩
def sameB (ses snap : Int) (strict : Bool) (us : List (RR × List Pr)) (wz : List Pr) (ses2 snap2 : Int) (strict2 : Bool) (vs : List (RR × List Pr)) (zs : List Pr) : Bool :=
  decide (ses = ses2) && (decide (snap = snap2) && (decide (strict = strict2) && (decide (us.map dat = vs.map dat) && decide (wz = zs))))

set_option maxHeartbeats 8000000 in
theorem same_any (ses snap : Int) (strict : Bool) (vr vw : Value) (us : List (RR × List Pr)) (wz : List Pr) (ses2 snap2 : Int) (strict2 : Bool) (vr2 vw2 : Value) (vs : List (RR × List Pr)) (zs : List Pr) (w0 : World) (hA : RecM w0 vr vw us wz) (hB : RecM w0 vr2 vw2 vs zs) :
    Calls Tryd.prog 23 #[.agg (rC ses snap strict vr vw).toArray, .agg (rC ses2 snap2 strict2 vr2 vw2).toArray] w0 (Ret fun u w' => u = .bool (sameB ses snap strict us wz ses2 snap2 strict2 vs zs) ∧ Ch [] w0 w') := by
  have hM := Mem.start w0
  obtain ⟨A, c, rfl⟩ := hA.r.form
  obtain ⟨A2, c2, rfl⟩ := hA.w.form
  obtain ⟨A3, c3, rfl⟩ := hB.r.form
  obtain ⟨A4, c4, rfl⟩ := hB.w.form
  obtain ⟨hR, hU, hW⟩ := hA
  obtain ⟨hR2, hU2, hW2⟩ := hB
  simp only [List.length_map] at hR hR2 ⊢
  unfold sameB
  refine enter [.agg (rC ses snap strict (.slice A us.length c) (.slice A2 wz.length c2)).toArray, .agg (rC ses2 snap2 strict2 (.slice A3 vs.length c3) (.slice A4 zs.length c4)).toArray, undef, undef, undef, undef, undef, undef, undef, undef, undef, undef, undef, undef, undef, undef, undef, undef, undef, undef, undef, undef, undef, undef, undef, undef, undef, undef, undef, undef, undef, undef, undef, undef, undef, undef, undef, undef] Tryd.func23 rfl rfl ?_
  repeat (first | ((with_reducible apply is_ld); first | refine kld hM ?_ | refine kldw hM ?_ | refine kle hM ?_ | refine klew hM ?_) | ((with_reducible apply is_sto); first | (refine kst hM ?_; intro w hM) | (refine kstw hM ?_; intro w hM)) | ((with_reducible apply is_st); refine su ?_) | ((with_reducible apply is_gd); first | refine gt ?_ | refine gf ?_ | refine gu ?_) | ((with_reducible apply is_en); refine en ?_) | (with_reducible apply c_region) | refine ws ?_ | refine x_block_other (by decide) ?_)
  refine kbx hM (fun w b2 hM => ?_)
  refine kbx hM (fun w b3 hM => ?_)
  have hM : Mem [] w0 w [.cell b3 (rC ses2 snap2 strict2 (.slice A3 vs.length c3) (.slice A4 zs.length c4)) 25, .cell b2 (rC ses snap strict (.slice A us.length c) (.slice A2 wz.length c2)) 25] := hM
  repeat (first | ((with_reducible apply is_ld); first | refine kld hM ?_ | refine kldw hM ?_ | refine kle hM ?_ | refine klew hM ?_) | ((with_reducible apply is_sto); first | (refine kst hM ?_; intro w hM) | (refine kstw hM ?_; intro w hM)) | ((with_reducible apply is_st); refine su ?_) | ((with_reducible apply is_gd); first | refine gt ?_ | refine gf ?_ | refine gu ?_) | ((with_reducible apply is_en); refine en ?_) | (with_reducible apply c_region) | refine ws ?_ | refine x_block_other (by decide) ?_)
  by_cases q1 : ses = ses2
  rotate_left
  · rw [decide_eq_false q1]
    repeat (first | ((with_reducible apply is_ld); first | refine kld hM ?_ | refine kldw hM ?_ | refine kle hM ?_ | refine klew hM ?_) | ((with_reducible apply is_sto); first | (refine kst hM ?_; intro w hM) | (refine kstw hM ?_; intro w hM)) | ((with_reducible apply is_st); refine su ?_) | ((with_reducible apply is_gd); first | refine gt ?_ | refine gf ?_ | refine gu ?_) | ((with_reducible apply is_en); refine en ?_) | (with_reducible apply c_region) | refine ws ?_ | refine x_block_other (by decide) ?_)
    exact out1 rfl ⟨rfl, hM.ch⟩
  rw [decide_eq_true q1]
  repeat (first | ((with_reducible apply is_ld); first | refine kld hM ?_ | refine kldw hM ?_ | refine kle hM ?_ | refine klew hM ?_) | ((with_reducible apply is_sto); first | (refine kst hM ?_; intro w hM) | (refine kstw hM ?_; intro w hM)) | ((with_reducible apply is_st); refine su ?_) | ((with_reducible apply is_gd); first | refine gt ?_ | refine gf ?_ | refine gu ?_) | ((with_reducible apply is_en); refine en ?_) | (with_reducible apply c_region) | refine ws ?_ | refine x_block_other (by decide) ?_)
  by_cases q2 : snap = snap2
  rotate_left
  · rw [decide_eq_false q2]
    repeat (first | ((with_reducible apply is_ld); first | refine kld hM ?_ | refine kldw hM ?_ | refine kle hM ?_ | refine klew hM ?_) | ((with_reducible apply is_sto); first | (refine kst hM ?_; intro w hM) | (refine kstw hM ?_; intro w hM)) | ((with_reducible apply is_st); refine su ?_) | ((with_reducible apply is_gd); first | refine gt ?_ | refine gf ?_ | refine gu ?_) | ((with_reducible apply is_en); refine en ?_) | (with_reducible apply c_region) | refine ws ?_ | refine x_block_other (by decide) ?_)
    exact out1 rfl ⟨rfl, hM.ch⟩
  rw [decide_eq_true q2]
  repeat (first | ((with_reducible apply is_ld); first | refine kld hM ?_ | refine kldw hM ?_ | refine kle hM ?_ | refine klew hM ?_) | ((with_reducible apply is_sto); first | (refine kst hM ?_; intro w hM) | (refine kstw hM ?_; intro w hM)) | ((with_reducible apply is_st); refine su ?_) | ((with_reducible apply is_gd); first | refine gt ?_ | refine gf ?_ | refine gu ?_) | ((with_reducible apply is_en); refine en ?_) | (with_reducible apply c_region) | refine ws ?_ | refine x_block_other (by decide) ?_)
  (try ((with_reducible apply is_gd); first | refine gt ?_ | refine gf ?_ | refine gu ?_)); refine wl_val (r_eqbb (a := strict) (b := strict2) rfl rfl) ?_
  rw [bool_beq]
  by_cases q3 : strict = strict2
  rotate_left
  · rw [decide_eq_false q3]
    repeat (first | ((with_reducible apply is_ld); first | refine kld hM ?_ | refine kldw hM ?_ | refine kle hM ?_ | refine klew hM ?_) | ((with_reducible apply is_sto); first | (refine kst hM ?_; intro w hM) | (refine kstw hM ?_; intro w hM)) | ((with_reducible apply is_st); refine su ?_) | ((with_reducible apply is_gd); first | refine gt ?_ | refine gf ?_ | refine gu ?_) | ((with_reducible apply is_en); refine en ?_) | (with_reducible apply c_region) | refine ws ?_ | refine x_block_other (by decide) ?_)
    exact out1 rfl ⟨rfl, hM.ch⟩
  rw [decide_eq_true q3]
  repeat (first | ((with_reducible apply is_ld); first | refine kld hM ?_ | refine kldw hM ?_ | refine kle hM ?_ | refine klew hM ?_) | ((with_reducible apply is_sto); first | (refine kst hM ?_; intro w hM) | (refine kstw hM ?_; intro w hM)) | ((with_reducible apply is_st); refine su ?_) | ((with_reducible apply is_gd); first | refine gt ?_ | refine gf ?_ | refine gu ?_) | ((with_reducible apply is_en); refine en ?_) | (with_reducible apply c_region) | refine ws ?_ | refine x_block_other (by decide) ?_)
  (try ((with_reducible apply is_gd); first | refine gt ?_ | refine gf ?_ | refine gu ?_)); refine kca hM (equalFunc_any _ _ us vs w (hR.ch hM.ch) (hR2.ch hM.ch) (fun u hu => (hU u hu).ch hM.ch) (fun u hu => (hU2 u hu).ch hM.ch)) (fun w hM => ?_)
  by_cases q4 : us.map dat = vs.map dat
  rotate_left
  · rw [decide_eq_false q4]
    repeat (first | ((with_reducible apply is_ld); first | refine kld hM ?_ | refine kldw hM ?_ | refine kle hM ?_ | refine klew hM ?_) | ((with_reducible apply is_sto); first | (refine kst hM ?_; intro w hM) | (refine kstw hM ?_; intro w hM)) | ((with_reducible apply is_st); refine su ?_) | ((with_reducible apply is_gd); first | refine gt ?_ | refine gf ?_ | refine gu ?_) | ((with_reducible apply is_en); refine en ?_) | (with_reducible apply c_region) | refine ws ?_ | refine x_block_other (by decide) ?_)
    exact out1 rfl ⟨rfl, hM.ch⟩
  rw [decide_eq_true q4]
  repeat (first | ((with_reducible apply is_ld); first | refine kld hM ?_ | refine kldw hM ?_ | refine kle hM ?_ | refine klew hM ?_) | ((with_reducible apply is_sto); first | (refine kst hM ?_; intro w hM) | (refine kstw hM ?_; intro w hM)) | ((with_reducible apply is_st); refine su ?_) | ((with_reducible apply is_gd); first | refine gt ?_ | refine gf ?_ | refine gu ?_) | ((with_reducible apply is_en); refine en ?_) | (with_reducible apply c_region) | refine ws ?_ | refine x_block_other (by decide) ?_)
  (try ((with_reducible apply is_gd); first | refine gt ?_ | refine gf ?_ | refine gu ?_)); refine kca hM (equal_any _ _ wz zs w (hW.ch hM.ch) (hW2.ch hM.ch)) (fun w hM => ?_)
  repeat (first | ((with_reducible apply is_ld); first | refine kld hM ?_ | refine kldw hM ?_ | refine kle hM ?_ | refine klew hM ?_) | ((with_reducible apply is_sto); first | (refine kst hM ?_; intro w hM) | (refine kstw hM ?_; intro w hM)) | ((with_reducible apply is_st); refine su ?_) | ((with_reducible apply is_gd); first | refine gt ?_ | refine gf ?_ | refine gu ?_) | ((with_reducible apply is_en); refine en ?_) | (with_reducible apply c_region) | refine ws ?_ | refine x_block_other (by decide) ?_)
  exact out1 rfl ⟨rfl, hM.ch⟩
set_option maxHeartbeats 8000000 in
theorem rsame_any (ses snap : Int) (strict : Bool) (vr vw : Value) (us : List (RR × List Pr)) (wz : List Pr) (ses2 snap2 : Int) (strict2 : Bool) (vr2 vw2 : Value) (vs : List (RR × List Pr)) (zs : List Pr) (w0 : World) (hA : RecM w0 vr vw us wz) (hB : RecM w0 vr2 vw2 vs zs) :
    Calls Tryd.prog 24 #[.agg (rC ses snap strict vr vw).toArray, .agg (rC ses2 snap2 strict2 vr2 vw2).toArray] w0 (Ret fun u w' => u = .bool (sameB ses snap strict us wz ses2 snap2 strict2 vs zs) ∧ Ch [] w0 w') := by
  have hM := Mem.start w0
  obtain ⟨A, c, rfl⟩ := hA.r.form
  obtain ⟨A2, c2, rfl⟩ := hA.w.form
  obtain ⟨A3, c3, rfl⟩ := hB.r.form
  obtain ⟨A4, c4, rfl⟩ := hB.w.form
  obtain ⟨hR, hU, hW⟩ := hA
  obtain ⟨hR2, hU2, hW2⟩ := hB
  simp only [List.length_map] at hR hR2 ⊢
  unfold sameB
  refine enter [.agg (rC ses snap strict (.slice A us.length c) (.slice A2 wz.length c2)).toArray, .agg (rC ses2 snap2 strict2 (.slice A3 vs.length c3) (.slice A4 zs.length c4)).toArray, undef, undef, undef, undef, undef, undef, undef, undef, undef, undef, undef, undef, undef, undef, undef, undef, undef, undef, undef, undef, undef, undef, undef, undef, undef, undef, undef, undef, undef, undef, undef, undef, undef, undef, undef, undef] Tryd.func24 rfl rfl ?_
  repeat (first | ((with_reducible apply is_ld); first | refine kld hM ?_ | refine kldw hM ?_ | refine kle hM ?_ | refine klew hM ?_) | ((with_reducible apply is_sto); first | (refine kst hM ?_; intro w hM) | (refine kstw hM ?_; intro w hM)) | ((with_reducible apply is_st); refine su ?_) | ((with_reducible apply is_gd); first | refine gt ?_ | refine gf ?_ | refine gu ?_) | ((with_reducible apply is_en); refine en ?_) | (with_reducible apply c_region) | refine ws ?_ | refine x_block_other (by decide) ?_)
  refine kbx hM (fun w b2 hM => ?_)
  refine kbx hM (fun w b3 hM => ?_)
  have hM : Mem [] w0 w [.cell b3 (rC ses2 snap2 strict2 (.slice A3 vs.length c3) (.slice A4 zs.length c4)) 25, .cell b2 (rC ses snap strict (.slice A us.length c) (.slice A2 wz.length c2)) 25] := hM
  repeat (first | ((with_reducible apply is_ld); first | refine kld hM ?_ | refine kldw hM ?_ | refine kle hM ?_ | refine klew hM ?_) | ((with_reducible apply is_sto); first | (refine kst hM ?_; intro w hM) | (refine kstw hM ?_; intro w hM)) | ((with_reducible apply is_st); refine su ?_) | ((with_reducible apply is_gd); first | refine gt ?_ | refine gf ?_ | refine gu ?_) | ((with_reducible apply is_en); refine en ?_) | (with_reducible apply c_region) | refine ws ?_ | refine x_block_other (by decide) ?_)
  by_cases q1 : ses = ses2
  rotate_left
  · rw [decide_eq_false q1]
    repeat (first | ((with_reducible apply is_ld); first | refine kld hM ?_ | refine kldw hM ?_ | refine kle hM ?_ | refine klew hM ?_) | ((with_reducible apply is_sto); first | (refine kst hM ?_; intro w hM) | (refine kstw hM ?_; intro w hM)) | ((with_reducible apply is_st); refine su ?_) | ((with_reducible apply is_gd); first | refine gt ?_ | refine gf ?_ | refine gu ?_) | ((with_reducible apply is_en); refine en ?_) | (with_reducible apply c_region) | refine ws ?_ | refine x_block_other (by decide) ?_)
    exact out1 rfl ⟨rfl, hM.ch⟩
  rw [decide_eq_true q1]
  repeat (first | ((with_reducible apply is_ld); first | refine kld hM ?_ | refine kldw hM ?_ | refine kle hM ?_ | refine klew hM ?_) | ((with_reducible apply is_sto); first | (refine kst hM ?_; intro w hM) | (refine kstw hM ?_; intro w hM)) | ((with_reducible apply is_st); refine su ?_) | ((with_reducible apply is_gd); first | refine gt ?_ | refine gf ?_ | refine gu ?_) | ((with_reducible apply is_en); refine en ?_) | (with_reducible apply c_region) | refine ws ?_ | refine x_block_other (by decide) ?_)
  by_cases q2 : snap = snap2
  rotate_left
  · rw [decide_eq_false q2]
    repeat (first | ((with_reducible apply is_ld); first | refine kld hM ?_ | refine kldw hM ?_ | refine kle hM ?_ | refine klew hM ?_) | ((with_reducible apply is_sto); first | (refine kst hM ?_; intro w hM) | (refine kstw hM ?_; intro w hM)) | ((with_reducible apply is_st); refine su ?_) | ((with_reducible apply is_gd); first | refine gt ?_ | refine gf ?_ | refine gu ?_) | ((with_reducible apply is_en); refine en ?_) | (with_reducible apply c_region) | refine ws ?_ | refine x_block_other (by decide) ?_)
    exact out1 rfl ⟨rfl, hM.ch⟩
  rw [decide_eq_true q2]
  repeat (first | ((with_reducible apply is_ld); first | refine kld hM ?_ | refine kldw hM ?_ | refine kle hM ?_ | refine klew hM ?_) | ((with_reducible apply is_sto); first | (refine kst hM ?_; intro w hM) | (refine kstw hM ?_; intro w hM)) | ((with_reducible apply is_st); refine su ?_) | ((with_reducible apply is_gd); first | refine gt ?_ | refine gf ?_ | refine gu ?_) | ((with_reducible apply is_en); refine en ?_) | (with_reducible apply c_region) | refine ws ?_ | refine x_block_other (by decide) ?_)
  (try ((with_reducible apply is_gd); first | refine gt ?_ | refine gf ?_ | refine gu ?_)); refine wl_val (r_eqbb (a := strict) (b := strict2) rfl rfl) ?_
  rw [bool_beq]
  by_cases q3 : strict = strict2
  rotate_left
  · rw [decide_eq_false q3]
    repeat (first | ((with_reducible apply is_ld); first | refine kld hM ?_ | refine kldw hM ?_ | refine kle hM ?_ | refine klew hM ?_) | ((with_reducible apply is_sto); first | (refine kst hM ?_; intro w hM) | (refine kstw hM ?_; intro w hM)) | ((with_reducible apply is_st); refine su ?_) | ((with_reducible apply is_gd); first | refine gt ?_ | refine gf ?_ | refine gu ?_) | ((with_reducible apply is_en); refine en ?_) | (with_reducible apply c_region) | refine ws ?_ | refine x_block_other (by decide) ?_)
    exact out1 rfl ⟨rfl, hM.ch⟩
  rw [decide_eq_true q3]
  repeat (first | ((with_reducible apply is_ld); first | refine kld hM ?_ | refine kldw hM ?_ | refine kle hM ?_ | refine klew hM ?_) | ((with_reducible apply is_sto); first | (refine kst hM ?_; intro w hM) | (refine kstw hM ?_; intro w hM)) | ((with_reducible apply is_st); refine su ?_) | ((with_reducible apply is_gd); first | refine gt ?_ | refine gf ?_ | refine gu ?_) | ((with_reducible apply is_en); refine en ?_) | (with_reducible apply c_region) | refine ws ?_ | refine x_block_other (by decide) ?_)
  (try ((with_reducible apply is_gd); first | refine gt ?_ | refine gf ?_ | refine gu ?_)); refine kca hM (rsameReads_any _ _ us vs w (hR.ch hM.ch) (hR2.ch hM.ch) (fun u hu => (hU u hu).ch hM.ch) (fun u hu => (hU2 u hu).ch hM.ch)) (fun w hM => ?_)
  by_cases q4 : us.map dat = vs.map dat
  rotate_left
  · rw [decide_eq_false q4]
    repeat (first | ((with_reducible apply is_ld); first | refine kld hM ?_ | refine kldw hM ?_ | refine kle hM ?_ | refine klew hM ?_) | ((with_reducible apply is_sto); first | (refine kst hM ?_; intro w hM) | (refine kstw hM ?_; intro w hM)) | ((with_reducible apply is_st); refine su ?_) | ((with_reducible apply is_gd); first | refine gt ?_ | refine gf ?_ | refine gu ?_) | ((with_reducible apply is_en); refine en ?_) | (with_reducible apply c_region) | refine ws ?_ | refine x_block_other (by decide) ?_)
    exact out1 rfl ⟨rfl, hM.ch⟩
  rw [decide_eq_true q4]
  repeat (first | ((with_reducible apply is_ld); first | refine kld hM ?_ | refine kldw hM ?_ | refine kle hM ?_ | refine klew hM ?_) | ((with_reducible apply is_sto); first | (refine kst hM ?_; intro w hM) | (refine kstw hM ?_; intro w hM)) | ((with_reducible apply is_st); refine su ?_) | ((with_reducible apply is_gd); first | refine gt ?_ | refine gf ?_ | refine gu ?_) | ((with_reducible apply is_en); refine en ?_) | (with_reducible apply c_region) | refine ws ?_ | refine x_block_other (by decide) ?_)
  (try ((with_reducible apply is_gd); first | refine gt ?_ | refine gf ?_ | refine gu ?_)); refine kca hM (rsameL_any _ _ wz zs w (hW.ch hM.ch) (hW2.ch hM.ch)) (fun w hM => ?_)
  repeat (first | ((with_reducible apply is_ld); first | refine kld hM ?_ | refine kldw hM ?_ | refine kle hM ?_ | refine klew hM ?_) | ((with_reducible apply is_sto); first | (refine kst hM ?_; intro w hM) | (refine kstw hM ?_; intro w hM)) | ((with_reducible apply is_st); refine su ?_) | ((with_reducible apply is_gd); first | refine gt ?_ | refine gf ?_ | refine gu ?_) | ((with_reducible apply is_en); refine en ?_) | (with_reducible apply c_region) | refine ws ?_ | refine x_block_other (by decide) ?_)
  exact out1 rfl ⟨rfl, hM.ch⟩
theorem light_any (ses snap : Int) (strict : Bool) (vr vw : Value) (us : List (RR × List Pr)) (wz : List Pr) (w0 : World) (hA : RecM w0 vr vw us wz)
    (hk : ShortR us) (hb : ShortL wz) :
    Calls Tryd.prog 15 #[.agg (rC ses snap strict vr vw).toArray] w0 (Ret fun u w' => (∃ v : Bool, u = .bool v ∧ (v = true → LightR us wz)) ∧ Ch [] w0 w') := by
  have hM := Mem.start w0
  obtain ⟨A, c, rfl⟩ := hA.r.form
  obtain ⟨A2, c2, rfl⟩ := hA.w.form
  obtain ⟨hR, hU, hW⟩ := hA
  simp only [List.length_map] at hR ⊢
  refine enter [.agg (rC ses snap strict (.slice A us.length c) (.slice A2 wz.length c2)).toArray, undef, undef, undef, undef, undef] Tryd.func15 rfl rfl ?_
  repeat (first | ((with_reducible apply is_ld); first | refine kld hM ?_ | refine kldw hM ?_ | refine kle hM ?_ | refine klew hM ?_) | ((with_reducible apply is_sto); first | (refine kst hM ?_; intro w hM) | (refine kstw hM ?_; intro w hM)) | ((with_reducible apply is_st); refine su ?_) | ((with_reducible apply is_gd); first | refine gt ?_ | refine gf ?_ | refine gu ?_) | ((with_reducible apply is_en); refine en ?_) | (with_reducible apply c_region) | refine ws ?_ | refine x_block_other (by decide) ?_)
  refine kbx hM (fun w b1 hM => ?_)
  have hM : Mem [] w0 w [.cell b1 (rC ses snap strict (.slice A us.length c) (.slice A2 wz.length c2)) 25] := hM
  repeat (first | ((with_reducible apply is_ld); first | refine kld hM ?_ | refine kldw hM ?_ | refine kle hM ?_ | refine klew hM ?_) | ((with_reducible apply is_sto); first | (refine kst hM ?_; intro w hM) | (refine kstw hM ?_; intro w hM)) | ((with_reducible apply is_st); refine su ?_) | ((with_reducible apply is_gd); first | refine gt ?_ | refine gf ?_ | refine gu ?_) | ((with_reducible apply is_en); refine en ?_) | (with_reducible apply c_region) | refine ws ?_ | refine x_block_other (by decide) ?_)
  refine ca (rlight_any ses snap strict _ _ us wz w (hR.ch hM.ch) (fun u hu => (hU u hu).ch hM.ch) (hW.ch hM.ch) hk hb) ?_
  rintro _ w1 ⟨⟨v, rfl, hv⟩, hc⟩
  have hM := hM.call hc
  repeat (first | ((with_reducible apply is_ld); first | refine kld hM ?_ | refine kldw hM ?_ | refine kle hM ?_ | refine klew hM ?_) | ((with_reducible apply is_sto); first | (refine kst hM ?_; intro w hM) | (refine kstw hM ?_; intro w hM)) | ((with_reducible apply is_st); refine su ?_) | ((with_reducible apply is_gd); first | refine gt ?_ | refine gf ?_ | refine gu ?_) | ((with_reducible apply is_en); refine en ?_) | (with_reducible apply c_region) | refine ws ?_ | refine x_block_other (by decide) ?_)
  exact out1 rfl ⟨⟨_, rfl, fun h => hv (of_decide_eq_true h)⟩, hM.ch⟩
def lifeR : List (RR × List Pr) := []
def lifeW : List Pr := [([97], [49], false)]
theorem lives_bytes : bytesB 1 0 false lifeR lifeW = [1, 0, 0, 0, 1, 1, 97, 0, 1, 49] := by decide +kernel
set_option maxHeartbeats 4000000 in
theorem lives_any (w0 : World) : Calls Tryd.prog 16 #[] w0 (Ret fun u w' => u = .bool true ∧ Ch [] w0 w') := by
  have hM := Mem.start w0
  refine enter [undef, undef, undef, undef, undef, undef, undef, undef, undef] Tryd.func16 rfl rfl ?_
  repeat (first | ((with_reducible apply is_ld); first | refine kld hM ?_ | refine kldw hM ?_ | refine kle hM ?_ | refine klew hM ?_) | ((with_reducible apply is_sto); first | (refine kst hM ?_; intro w hM) | (refine kstw hM ?_; intro w hM)) | ((with_reducible apply is_st); refine su ?_) | ((with_reducible apply is_gd); first | refine gt ?_ | refine gf ?_ | refine gu ?_) | ((with_reducible apply is_en); refine en ?_) | (with_reducible apply c_region) | refine ws ?_ | refine x_block_other (by decide) ?_)
  (try ((with_reducible apply is_gd); first | refine gt ?_ | refine gf ?_ | refine gu ?_)); refine wl_val (r_bld (vs := [(0, .string (bst [97])), (1, .string (bst [49]))]) (cells := (ePr.f ([97], [49], false)).toArray) rfl (by kernel_rfl)) ?_
  repeat (first | ((with_reducible apply is_ld); first | refine kld hM ?_ | refine kldw hM ?_ | refine kle hM ?_ | refine klew hM ?_) | ((with_reducible apply is_sto); first | (refine kst hM ?_; intro w hM) | (refine kstw hM ?_; intro w hM)) | ((with_reducible apply is_st); refine su ?_) | ((with_reducible apply is_gd); first | refine gt ?_ | refine gf ?_ | refine gu ?_) | ((with_reducible apply is_en); refine en ?_) | (with_reducible apply c_region) | refine ws ?_ | refine x_block_other (by decide) ?_)
  refine kbs (en := ePr) (vs := [.agg (ePr.f ([97], [49], false)).toArray]) lifeW hM (fun w b hM => ?_)
  have hW := hM.rowRdO (en := ePr) (xs := lifeW) (v := .slice (some ⟨b, 0, none⟩) 1 1) (by (repeat constructor))
  repeat (first | ((with_reducible apply is_ld); first | refine kld hM ?_ | refine kldw hM ?_ | refine kle hM ?_ | refine klew hM ?_) | ((with_reducible apply is_sto); first | (refine kst hM ?_; intro w hM) | (refine kstw hM ?_; intro w hM)) | ((with_reducible apply is_st); refine su ?_) | ((with_reducible apply is_gd); first | refine gt ?_ | refine gf ?_ | refine gu ?_) | ((with_reducible apply is_en); refine en ?_) | (with_reducible apply c_region) | refine ws ?_ | refine x_block_other (by decide) ?_)
  (try ((with_reducible apply is_gd); first | refine gt ?_ | refine gf ?_ | refine gu ?_)); refine wl_val (r_bldS (vs := [(0, .int .i64 1), (4, .slice (some ⟨b, 0, none⟩) 1 1)]) (rC 1 0 false (.slice none 0 0) (.slice (some ⟨b, 0, none⟩) 1 1)) (z := rC 0 0 false (.slice none 0 0) (.slice none 0 0)) (place := (#[(0, 1), (1, 1), (2, 1), (3, 1), (4, 1)][·]?)) (by intro ps; kernel_rfl) rfl (.cons rfl rfl (by simp) (.cons rfl rfl (by simp [spl, Value.cells]) (.nil rfl)))) ?_
  repeat (first | ((with_reducible apply is_ld); first | refine kld hM ?_ | refine kldw hM ?_ | refine kle hM ?_ | refine klew hM ?_) | ((with_reducible apply is_sto); first | (refine kst hM ?_; intro w hM) | (refine kstw hM ?_; intro w hM)) | ((with_reducible apply is_st); refine su ?_) | ((with_reducible apply is_gd); first | refine gt ?_ | refine gf ?_ | refine gu ?_) | ((with_reducible apply is_en); refine en ?_) | (with_reducible apply c_region) | refine ws ?_ | refine x_block_other (by decide) ?_)
  refine kcr hM (recBytes_any 1 0 false _ _ lifeR lifeW w (Ty.Rd.nil _ _ _ _ _) (by intro u hu; cases hu) hW (by intro u hu; cases hu) (by intro p hp; simp [lifeW] at hp; subst hp; simp)) (fun v w hM => ?_)
  rw [lives_bytes] at hM
  repeat (first | ((with_reducible apply is_ld); first | refine kld hM ?_ | refine kldw hM ?_ | refine kle hM ?_ | refine klew hM ?_) | ((with_reducible apply is_sto); first | (refine kst hM ?_; intro w hM) | (refine kstw hM ?_; intro w hM)) | ((with_reducible apply is_st); refine su ?_) | ((with_reducible apply is_gd); first | refine gt ?_ | refine gf ?_ | refine gu ?_) | ((with_reducible apply is_en); refine en ?_) | (with_reducible apply c_region) | refine ws ?_ | refine x_block_other (by decide) ?_)
  (try ((with_reducible apply is_gd); first | refine gt ?_ | refine gf ?_ | refine gu ?_)); refine wl_val (r_b2s (hM.rowRdO (en := eU8) (xs := [1, 0, 0, 0, 1, 1, 97, 0, 1, 49]) (v := v) (by (repeat constructor)))) ?_
  (try ((with_reducible apply is_gd); first | refine gt ?_ | refine gf ?_ | refine gu ?_)); refine wl_val (r_eqsts (a := [1, 0, 0, 0, 1, 1, 97, 0, 1, 49])) ?_
  repeat (first | ((with_reducible apply is_ld); first | refine kld hM ?_ | refine kldw hM ?_ | refine kle hM ?_ | refine klew hM ?_) | ((with_reducible apply is_sto); first | (refine kst hM ?_; intro w hM) | (refine kstw hM ?_; intro w hM)) | ((with_reducible apply is_st); refine su ?_) | ((with_reducible apply is_gd); first | refine gt ?_ | refine gf ?_ | refine gu ?_) | ((with_reducible apply is_en); refine en ?_) | (with_reducible apply c_region) | refine ws ?_ | refine x_block_other (by decide) ?_)
  exact out1 rfl ⟨rfl, hM.ch⟩
end Go.Proofs.YtnkkeehoejmcnaaDoor

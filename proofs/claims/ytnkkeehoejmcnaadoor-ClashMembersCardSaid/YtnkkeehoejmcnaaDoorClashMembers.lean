/- The walk of ClashMembers. -/
import Derived.Test.YtnkkeehoejmcnaaDoorClashUps
import Derived.Test.YtnkkeehoejmcnaaDoorClashMl
set_option linter.unusedVariables false
set_option linter.unusedSimpArgs false
namespace Go.Proofs.YtnkkeehoejmcnaaDoor
open Go Go.RowKit Go.Proofs.E
attribute [local irreducible] Go.wpList Go.Code.wp Go.Proofs.E.exec Go.Proofs.E.wpLexG
def chkP (root k : Hs) (st : List (Int × Hs)) (lf : Bool) (pk pv : Hs) : Hs × Bool × Bool :=
  match climbP k st lf pk pv with
  | none => (zeroH, false, false)
  | some h => if h.1 = root.1 then ((valP k lf pk pv).1, (valP k lf pk pv).2, true) else (zeroH, false, false)
def chkT (x : Hs × Bool × Bool) : Value := .tuple #[hv x.1.1, .bool x.2.1, .bool x.2.2]
set_option maxHeartbeats 8000000 in
theorem rcheck12_any (root k : Hs) (sp : Value) (lf : Bool) (pk pv : Hs) (st : List (Int × Hs)) (w0 : World) (hK : True) (hR : (Ty.enc eSt).Rd [] w0 sp st) :
    Calls Tryd.prog 48 #[hv root.1, hv k.1, .agg (pC sp lf pk pv).toArray] w0 (Ret fun u w' => u = chkT (chkP root k st lf pk pv) ∧ Ch [] w0 w') := by
  have hM := Mem.start w0
  refine enter [hv root.1, hv k.1, .agg (pC sp lf pk pv).toArray, undef, undef, undef, undef, undef, undef, undef, undef, undef, undef, undef, undef, undef, undef, undef, undef, undef, undef, undef, undef, undef, undef, undef, undef, undef, undef, undef, undef, undef, undef, undef, undef, undef] Tryd.func48 rfl rfl ?_
  repeat (first | ((with_reducible apply is_ld); first | refine kld hM ?_ | refine kldw hM ?_ | refine kle hM ?_ | refine klew hM ?_) | ((with_reducible apply is_sto); first | (refine kst hM ?_; intro w hM) | (refine kstw hM ?_; intro w hM)) | ((with_reducible apply is_st); refine su ?_) | ((with_reducible apply is_gd); first | refine gt ?_ | refine gf ?_ | refine gu ?_) | ((with_reducible apply is_en); refine en ?_) | (with_reducible apply c_region) | refine ws ?_ | refine x_block_other (by decide) ?_)
  refine kbx hM (fun w b3 hM => ?_)
  refine kbx hM (fun w b4 hM => ?_)
  refine kbx hM (fun w b5 hM => ?_)
  refine kal hM (fun w b6 hM => ?_)
  have hM : Mem [] w0 w [.cell b6 (zeroH.1.map u8v) 31, .cell b5 (pC sp lf pk pv) 52, .cell b4 (k.1.map u8v) 31, .cell b3 (root.1.map u8v) 31] := hM
  repeat (first | ((with_reducible apply is_ld); first | refine kld hM ?_ | refine kldw hM ?_ | refine kle hM ?_ | refine klew hM ?_ | refine kldh hM ?_ | refine kld hM ?_ (hv := by first | exact hs_get _ _ _ | exact hs_get1 _ _ _ _)) | ((with_reducible apply is_sto); first | (refine kst hM ?_; intro w hM) | (refine kstw hM ?_; intro w hM)) | ((with_reducible apply is_st); refine su ?_) | ((with_reducible apply is_gd); first | refine gt ?_ | refine gf ?_ | refine gu ?_) | ((with_reducible apply is_en); refine en ?_) | (with_reducible apply c_region) | refine ws ?_ | refine x_block_other (by decide) ?_)
  refine kca hM ((fun k sp lf pk pv st w (_ : True) => rclimb12_any k sp lf pk pv st w) k sp lf pk pv st w hK (hR.ch hM.ch)) (X := .tuple #[hv ((climbP k st lf pk pv).getD zeroH).1, .bool (climbP k st lf pk pv).isSome]) (fun w hM => ?_)
  unfold chkP
  obtain ⟨cz, hcz⟩ : ∃ cz, climbP k st lf pk pv = cz := ⟨_, rfl⟩
  rw [hcz]
  repeat (first | ((with_reducible apply is_ld); first | refine kld hM ?_ | refine kldw hM ?_ | refine kle hM ?_ | refine klew hM ?_ | refine kldh hM ?_ | refine kld hM ?_ (hv := by first | exact hs_get _ _ _ | exact hs_get1 _ _ _ _)) | ((with_reducible apply is_sto); first | (refine kst hM ?_; intro w hM) | (refine kstw hM ?_; intro w hM)) | ((with_reducible apply is_st); refine su ?_) | ((with_reducible apply is_gd); first | refine gt ?_ | refine gf ?_ | refine gu ?_) | ((with_reducible apply is_en); refine en ?_) | (with_reducible apply c_region) | refine ws ?_ | refine x_block_other (by decide) ?_)
  refine kal hM (fun w b9 hM => ?_)
  refine kstw (vs := (cz.getD zeroH).1.map u8v) hM (fun w hM => ?_)
  repeat (first | ((with_reducible apply is_ld); first | refine kld hM ?_ | refine kldw hM ?_ | refine kle hM ?_ | refine klew hM ?_ | refine kldh hM ?_ | refine kld hM ?_ (hv := by first | exact hs_get _ _ _ | exact hs_get1 _ _ _ _)) | ((with_reducible apply is_sto); first | (refine kst hM ?_; intro w hM) | (refine kstw hM ?_; intro w hM)) | ((with_reducible apply is_st); refine su ?_) | ((with_reducible apply is_gd); first | refine gt ?_ | refine gf ?_ | refine gu ?_) | ((with_reducible apply is_en); refine en ?_) | (with_reducible apply c_region) | refine ws ?_ | refine x_block_other (by decide) ?_)
  cases cz with
  | none =>
    repeat (first | ((with_reducible apply is_ld); first | refine kld hM ?_ | refine kldw hM ?_ | refine kle hM ?_ | refine klew hM ?_ | refine kldh hM ?_ | refine kld hM ?_ (hv := by first | exact hs_get _ _ _ | exact hs_get1 _ _ _ _)) | ((with_reducible apply is_sto); first | (refine kst hM ?_; intro w hM) | (refine kstw hM ?_; intro w hM)) | ((with_reducible apply is_st); refine su ?_) | ((with_reducible apply is_gd); first | refine gt ?_ | refine gf ?_ | refine gu ?_) | ((with_reducible apply is_en); refine en ?_) | (with_reducible apply c_region) | refine ws ?_ | refine x_block_other (by decide) ?_)
    refine c_condb rfl (fun _ => ?_) (fun h => by cases h)
    repeat (first | ((with_reducible apply is_ld); first | refine kld hM ?_ | refine kldw hM ?_ | refine kle hM ?_ | refine klew hM ?_ | refine kldh hM ?_ | refine kld hM ?_ (hv := by first | exact hs_get _ _ _ | exact hs_get1 _ _ _ _)) | ((with_reducible apply is_sto); first | (refine kst hM ?_; intro w hM) | (refine kstw hM ?_; intro w hM)) | ((with_reducible apply is_st); refine su ?_) | ((with_reducible apply is_gd); first | refine gt ?_ | refine gf ?_ | refine gu ?_) | ((with_reducible apply is_en); refine en ?_) | (with_reducible apply c_region) | refine ws ?_ | refine x_block_other (by decide) ?_)
    (try ((with_reducible apply is_gd); first | refine gt ?_ | refine gf ?_ | refine gu ?_)); refine wl_val (r_build_arr0 (e := 5)) ?_
    refine kstw (vs := zeroH.1.map u8v) hM (fun w hM => ?_)
    repeat (first | ((with_reducible apply is_ld); first | refine kld hM ?_ | refine kldw hM ?_ | refine kle hM ?_ | refine klew hM ?_ | refine kldh hM ?_ | refine kld hM ?_ (hv := by first | exact hs_get _ _ _ | exact hs_get1 _ _ _ _)) | ((with_reducible apply is_sto); first | (refine kst hM ?_; intro w hM) | (refine kstw hM ?_; intro w hM)) | ((with_reducible apply is_st); refine su ?_) | ((with_reducible apply is_gd); first | refine gt ?_ | refine gf ?_ | refine gu ?_) | ((with_reducible apply is_en); refine en ?_) | (with_reducible apply c_region) | refine ws ?_ | refine x_block_other (by decide) ?_)
    exact koc12 hM rfl ⟨rfl, hM.ch⟩
  | some h =>
    have hM : Mem [] w0 w [.cell b9 (h.1.map u8v) 31, .cell b6 (zeroH.1.map u8v) 31, .cell b5 (pC sp lf pk pv) 52, .cell b4 (k.1.map u8v) 31, .cell b3 (root.1.map u8v) 31] := hM
    repeat (first | ((with_reducible apply is_ld); first | refine kld hM ?_ | refine kldw hM ?_ | refine kle hM ?_ | refine klew hM ?_ | refine kldh hM ?_ | refine kld hM ?_ (hv := by first | exact hs_get _ _ _ | exact hs_get1 _ _ _ _)) | ((with_reducible apply is_sto); first | (refine kst hM ?_; intro w hM) | (refine kstw hM ?_; intro w hM)) | ((with_reducible apply is_st); refine su ?_) | ((with_reducible apply is_gd); first | refine gt ?_ | refine gf ?_ | refine gu ?_) | ((with_reducible apply is_en); refine en ?_) | (with_reducible apply c_region) | refine ws ?_ | refine x_block_other (by decide) ?_)
    (try ((with_reducible apply is_gd); first | refine gt ?_ | refine gf ?_ | refine gu ?_)); refine wl_val (r_neq8 (a := h.1) (b := root.1) (by kernel_rfl) rfl rfl h.2 root.2) ?_
    by_cases hr : h.1 = root.1
    case neg =>
      simp only [if_neg hr]
      rw [decide_eq_false hr]
      repeat (first | ((with_reducible apply is_ld); first | refine kld hM ?_ | refine kldw hM ?_ | refine kle hM ?_ | refine klew hM ?_ | refine kldh hM ?_ | refine kld hM ?_ (hv := by first | exact hs_get _ _ _ | exact hs_get1 _ _ _ _)) | ((with_reducible apply is_sto); first | (refine kst hM ?_; intro w hM) | (refine kstw hM ?_; intro w hM)) | ((with_reducible apply is_st); refine su ?_) | ((with_reducible apply is_gd); first | refine gt ?_ | refine gf ?_ | refine gu ?_) | ((with_reducible apply is_en); refine en ?_) | (with_reducible apply c_region) | refine ws ?_ | refine x_block_other (by decide) ?_)
      refine c_condb rfl (fun _ => ?_) (fun h => by cases h)
      repeat (first | ((with_reducible apply is_ld); first | refine kld hM ?_ | refine kldw hM ?_ | refine kle hM ?_ | refine klew hM ?_ | refine kldh hM ?_ | refine kld hM ?_ (hv := by first | exact hs_get _ _ _ | exact hs_get1 _ _ _ _)) | ((with_reducible apply is_sto); first | (refine kst hM ?_; intro w hM) | (refine kstw hM ?_; intro w hM)) | ((with_reducible apply is_st); refine su ?_) | ((with_reducible apply is_gd); first | refine gt ?_ | refine gf ?_ | refine gu ?_) | ((with_reducible apply is_en); refine en ?_) | (with_reducible apply c_region) | refine ws ?_ | refine x_block_other (by decide) ?_)
      (try ((with_reducible apply is_gd); first | refine gt ?_ | refine gf ?_ | refine gu ?_)); refine wl_val (r_build_arr0 (e := 5)) ?_
      refine kstw (vs := zeroH.1.map u8v) hM (fun w hM => ?_)
      repeat (first | ((with_reducible apply is_ld); first | refine kld hM ?_ | refine kldw hM ?_ | refine kle hM ?_ | refine klew hM ?_ | refine kldh hM ?_ | refine kld hM ?_ (hv := by first | exact hs_get _ _ _ | exact hs_get1 _ _ _ _)) | ((with_reducible apply is_sto); first | (refine kst hM ?_; intro w hM) | (refine kstw hM ?_; intro w hM)) | ((with_reducible apply is_st); refine su ?_) | ((with_reducible apply is_gd); first | refine gt ?_ | refine gf ?_ | refine gu ?_) | ((with_reducible apply is_en); refine en ?_) | (with_reducible apply c_region) | refine ws ?_ | refine x_block_other (by decide) ?_)
      exact koc12 hM rfl ⟨rfl, hM.ch⟩
    simp only [if_pos hr]
    rw [decide_eq_true hr]
    repeat (first | ((with_reducible apply is_ld); first | refine kld hM ?_ | refine kldw hM ?_ | refine kle hM ?_ | refine klew hM ?_ | refine kldh hM ?_ | refine kld hM ?_ (hv := by first | exact hs_get _ _ _ | exact hs_get1 _ _ _ _)) | ((with_reducible apply is_sto); first | (refine kst hM ?_; intro w hM) | (refine kstw hM ?_; intro w hM)) | ((with_reducible apply is_st); refine su ?_) | ((with_reducible apply is_gd); first | refine gt ?_ | refine gf ?_ | refine gu ?_) | ((with_reducible apply is_en); refine en ?_) | (with_reducible apply c_region) | refine ws ?_ | refine x_block_other (by decide) ?_)
    refine c_condb rfl (fun h => by cases h) (fun _ => ?_)
    unfold valP
    repeat (first | ((with_reducible apply is_ld); first | refine kld hM ?_ | refine kldw hM ?_ | refine kle hM ?_ | refine klew hM ?_ | refine kldh hM ?_ | refine kld hM ?_ (hv := by first | exact hs_get _ _ _ | exact hs_get1 _ _ _ _)) | ((with_reducible apply is_sto); first | (refine kst hM ?_; intro w hM) | (refine kstw hM ?_; intro w hM)) | ((with_reducible apply is_st); refine su ?_) | ((with_reducible apply is_gd); first | refine gt ?_ | refine gf ?_ | refine gu ?_) | ((with_reducible apply is_en); refine en ?_) | (with_reducible apply c_region) | refine ws ?_ | refine x_block_other (by decide) ?_)
    cases lf with
    | false =>
      rw [if_neg (by simp)]
      repeat (first | ((with_reducible apply is_ld); first | refine kld hM ?_ | refine kldw hM ?_ | refine kle hM ?_ | refine klew hM ?_ | refine kldh hM ?_ | refine kld hM ?_ (hv := by first | exact hs_get _ _ _ | exact hs_get1 _ _ _ _)) | ((with_reducible apply is_sto); first | (refine kst hM ?_; intro w hM) | (refine kstw hM ?_; intro w hM)) | ((with_reducible apply is_st); refine su ?_) | ((with_reducible apply is_gd); first | refine gt ?_ | refine gf ?_ | refine gu ?_) | ((with_reducible apply is_en); refine en ?_) | (with_reducible apply c_region) | refine ws ?_ | refine x_block_other (by decide) ?_)
      refine c_condb rfl (fun h => by cases h) (fun _ => ?_)
      repeat (first | ((with_reducible apply is_ld); first | refine kld hM ?_ | refine kldw hM ?_ | refine kle hM ?_ | refine klew hM ?_ | refine kldh hM ?_ | refine kld hM ?_ (hv := by first | exact hs_get _ _ _ | exact hs_get1 _ _ _ _)) | ((with_reducible apply is_sto); first | (refine kst hM ?_; intro w hM) | (refine kstw hM ?_; intro w hM)) | ((with_reducible apply is_st); refine su ?_) | ((with_reducible apply is_gd); first | refine gt ?_ | refine gf ?_ | refine gu ?_) | ((with_reducible apply is_en); refine en ?_) | (with_reducible apply c_region) | refine ws ?_ | refine x_block_other (by decide) ?_)
      (try ((with_reducible apply is_gd); first | refine gt ?_ | refine gf ?_ | refine gu ?_)); refine wl_val (r_build_arr0 (e := 5)) ?_
      refine kstw (vs := zeroH.1.map u8v) hM (fun w hM => ?_)
      repeat (first | ((with_reducible apply is_ld); first | refine kld hM ?_ | refine kldw hM ?_ | refine kle hM ?_ | refine klew hM ?_ | refine kldh hM ?_ | refine kld hM ?_ (hv := by first | exact hs_get _ _ _ | exact hs_get1 _ _ _ _)) | ((with_reducible apply is_sto); first | (refine kst hM ?_; intro w hM) | (refine kstw hM ?_; intro w hM)) | ((with_reducible apply is_st); refine su ?_) | ((with_reducible apply is_gd); first | refine gt ?_ | refine gf ?_ | refine gu ?_) | ((with_reducible apply is_en); refine en ?_) | (with_reducible apply c_region) | refine ws ?_ | refine x_block_other (by decide) ?_)
      exact koc12 hM rfl ⟨rfl, hM.ch⟩
    | true =>
      repeat (first | ((with_reducible apply is_ld); first | refine kld hM ?_ | refine kldw hM ?_ | refine kle hM ?_ | refine klew hM ?_ | refine kldh hM ?_ | refine kld hM ?_ (hv := by first | exact hs_get _ _ _ | exact hs_get1 _ _ _ _)) | ((with_reducible apply is_sto); first | (refine kst hM ?_; intro w hM) | (refine kstw hM ?_; intro w hM)) | ((with_reducible apply is_st); refine su ?_) | ((with_reducible apply is_gd); first | refine gt ?_ | refine gf ?_ | refine gu ?_) | ((with_reducible apply is_en); refine en ?_) | (with_reducible apply c_region) | refine ws ?_ | refine x_block_other (by decide) ?_)
      (try ((with_reducible apply is_gd); first | refine gt ?_ | refine gf ?_ | refine gu ?_)); refine wl_val (r_eql8 (a := pk.1) (b := k.1) (by kernel_rfl) rfl rfl pk.2 k.2) ?_
      by_cases hk2 : pk.1 = k.1
      · rw [if_pos ⟨rfl, hk2⟩, decide_eq_true hk2]
        repeat (first | ((with_reducible apply is_ld); first | refine kld hM ?_ | refine kldw hM ?_ | refine kle hM ?_ | refine klew hM ?_ | refine kldh hM ?_ | refine kld hM ?_ (hv := by first | exact hs_get _ _ _ | exact hs_get1 _ _ _ _)) | ((with_reducible apply is_sto); first | (refine kst hM ?_; intro w hM) | (refine kstw hM ?_; intro w hM)) | ((with_reducible apply is_st); refine su ?_) | ((with_reducible apply is_gd); first | refine gt ?_ | refine gf ?_ | refine gu ?_) | ((with_reducible apply is_en); refine en ?_) | (with_reducible apply c_region) | refine ws ?_ | refine x_block_other (by decide) ?_)
        refine c_condb rfl (fun _ => ?_) (fun h => by cases h)
        repeat (first | ((with_reducible apply is_ld); first | refine kld hM ?_ | refine kldw hM ?_ | refine kle hM ?_ | refine klew hM ?_ | refine kldh hM ?_ | refine kld hM ?_ (hv := by first | exact hs_get _ _ _ | exact hs_get1 _ _ _ _)) | ((with_reducible apply is_sto); first | (refine kst hM ?_; intro w hM) | (refine kstw hM ?_; intro w hM)) | ((with_reducible apply is_st); refine su ?_) | ((with_reducible apply is_gd); first | refine gt ?_ | refine gf ?_ | refine gu ?_) | ((with_reducible apply is_en); refine en ?_) | (with_reducible apply c_region) | refine ws ?_ | refine x_block_other (by decide) ?_)
        exact koc12 hM rfl ⟨rfl, hM.ch⟩
      · rw [if_neg (fun h => hk2 h.2), decide_eq_false hk2]
        repeat (first | ((with_reducible apply is_ld); first | refine kld hM ?_ | refine kldw hM ?_ | refine kle hM ?_ | refine klew hM ?_ | refine kldh hM ?_ | refine kld hM ?_ (hv := by first | exact hs_get _ _ _ | exact hs_get1 _ _ _ _)) | ((with_reducible apply is_sto); first | (refine kst hM ?_; intro w hM) | (refine kstw hM ?_; intro w hM)) | ((with_reducible apply is_st); refine su ?_) | ((with_reducible apply is_gd); first | refine gt ?_ | refine gf ?_ | refine gu ?_) | ((with_reducible apply is_en); refine en ?_) | (with_reducible apply c_region) | refine ws ?_ | refine x_block_other (by decide) ?_)
        refine c_condb rfl (fun h => by cases h) (fun _ => ?_)
        repeat (first | ((with_reducible apply is_ld); first | refine kld hM ?_ | refine kldw hM ?_ | refine kle hM ?_ | refine klew hM ?_ | refine kldh hM ?_ | refine kld hM ?_ (hv := by first | exact hs_get _ _ _ | exact hs_get1 _ _ _ _)) | ((with_reducible apply is_sto); first | (refine kst hM ?_; intro w hM) | (refine kstw hM ?_; intro w hM)) | ((with_reducible apply is_st); refine su ?_) | ((with_reducible apply is_gd); first | refine gt ?_ | refine gf ?_ | refine gu ?_) | ((with_reducible apply is_en); refine en ?_) | (with_reducible apply c_region) | refine ws ?_ | refine x_block_other (by decide) ?_)
        (try ((with_reducible apply is_gd); first | refine gt ?_ | refine gf ?_ | refine gu ?_)); refine wl_val (r_build_arr0 (e := 5)) ?_
        refine kstw (vs := zeroH.1.map u8v) hM (fun w hM => ?_)
        repeat (first | ((with_reducible apply is_ld); first | refine kld hM ?_ | refine kldw hM ?_ | refine kle hM ?_ | refine klew hM ?_ | refine kldh hM ?_ | refine kld hM ?_ (hv := by first | exact hs_get _ _ _ | exact hs_get1 _ _ _ _)) | ((with_reducible apply is_sto); first | (refine kst hM ?_; intro w hM) | (refine kstw hM ?_; intro w hM)) | ((with_reducible apply is_st); refine su ?_) | ((with_reducible apply is_gd); first | refine gt ?_ | refine gf ?_ | refine gu ?_) | ((with_reducible apply is_en); refine en ?_) | (with_reducible apply c_region) | refine ws ?_ | refine x_block_other (by decide) ?_)
        exact koc12 hM rfl ⟨rfl, hM.ch⟩

set_option maxHeartbeats 64000000 in
theorem clashMembers_any (k : Hs) (q1 q2 : Value) (f1 f2 : Bool) (k1 v1 k2 v2 : Hs) (s1 s2 : List (Int × Hs)) (w0 : World) (hK : Laid w0) (hR1 : (Ty.enc eSt).Rd [] w0 q1 s1) (hR2 : (Ty.enc eSt).Rd [] w0 q2 s2) :
    Calls Tryd.prog 7 #[hv k.1, .agg (pC q1 f1 k1 v1).toArray, .agg (pC q2 f2 k2 v2).toArray] w0 (Ret fun u w' => u = .bool true ∧ Ch [] w0 w') := by
  have hM := Mem.start w0
  have hle1 := hR1.le
  have hle2 := hR2.le
  obtain ⟨A1, c1, rfl⟩ := hR1.form
  obtain ⟨A2, c2, rfl⟩ := hR2.form
  refine enter [hv k.1, .agg (pC (.slice A1 s1.length c1) f1 k1 v1).toArray, .agg (pC (.slice A2 s2.length c2) f2 k2 v2).toArray, undef, undef, undef, undef, undef, undef, undef, undef, undef, undef, undef, undef, undef, undef, undef, undef, undef, undef, undef, undef, undef, undef, undef, undef, undef, undef, undef, undef, undef, undef, undef, undef, undef, undef, undef, undef, undef, undef, undef, undef, undef, undef, undef, undef, undef, undef, undef, undef, undef, undef, undef, undef, undef, undef, undef, undef, undef, undef, undef, undef, undef, undef, undef, undef, undef, undef, undef, undef, undef, undef, undef, undef, undef, undef, undef, undef, undef, undef, undef, undef, undef, undef, undef, undef, undef, undef, undef, undef, undef, undef, undef, undef, undef, undef, undef, undef, undef, undef, undef, undef, undef, undef, undef, undef, undef, undef, undef, undef, undef] Tryd.func7 rfl rfl ?_
  repeat (first | ((with_reducible apply is_ld); first | refine kld hM ?_ | refine kldw hM ?_ | refine kle hM ?_ | refine klew hM ?_) | ((with_reducible apply is_sto); first | (refine kst hM ?_; intro w hM) | (refine kstw hM ?_; intro w hM)) | ((with_reducible apply is_st); refine su ?_) | ((with_reducible apply is_gd); first | refine gt ?_ | refine gf ?_ | refine gu ?_) | ((with_reducible apply is_en); refine en ?_) | (with_reducible apply c_region) | refine ws ?_ | refine x_block_other (by decide) ?_)
  refine kbx hM (fun w b3 hM => ?_)
  refine kbx hM (fun w b4 hM => ?_)
  refine kbx hM (fun w b5 hM => ?_)
  have hM : Mem [] w0 w [.cell b5 (pC (.slice A2 s2.length c2) f2 k2 v2) 41, .cell b4 (pC (.slice A1 s1.length c1) f1 k1 v1) 41, .cell b3 (k.1.map u8v) 31] := hM
  repeat (first | ((with_reducible apply is_ld); first | refine kld hM ?_ | refine kldw hM ?_ | refine kle hM ?_ | refine klew hM ?_ | refine kldh hM ?_ | refine kld hM ?_ (hv := by first | exact hs_get _ _ _ | exact hs_get1 _ _ _ _)) | ((with_reducible apply is_sto); first | (refine kst hM ?_; intro w hM) | (refine kstw hM ?_; intro w hM)) | ((with_reducible apply is_st); refine su ?_) | ((with_reducible apply is_gd); first | refine gt ?_ | refine gf ?_ | refine gu ?_) | ((with_reducible apply is_en); refine en ?_) | (with_reducible apply c_region) | refine ws ?_ | refine x_block_other (by decide) ?_)
  have out_ : ∀ {w : World} {L : List As}, Mem [] w0 w L → Laid w := fun hM => hK.ch hM.ch (by simp)
  by_cases h1 : s1.length > 300
  · rw [decide_eq_true (by omega : (s1.length : Int) > 300)]
    repeat (first | ((with_reducible apply is_ld); first | refine kld hM ?_ | refine kldw hM ?_ | refine kle hM ?_ | refine klew hM ?_ | refine kldh hM ?_ | refine kld hM ?_ (hv := by first | exact hs_get _ _ _ | exact hs_get1 _ _ _ _)) | ((with_reducible apply is_sto); first | (refine kst hM ?_; intro w hM) | (refine kstw hM ?_; intro w hM)) | ((with_reducible apply is_st); refine su ?_) | ((with_reducible apply is_gd); first | refine gt ?_ | refine gf ?_ | refine gu ?_) | ((with_reducible apply is_en); refine en ?_) | (with_reducible apply c_region) | refine ws ?_ | refine x_block_other (by decide) ?_)
    refine c_condb rfl (fun _ => ?_) (fun h => by cases h)
    repeat (first | ((with_reducible apply is_ld); first | refine kld hM ?_ | refine kldw hM ?_ | refine kle hM ?_ | refine klew hM ?_ | refine kldh hM ?_ | refine kld hM ?_ (hv := by first | exact hs_get _ _ _ | exact hs_get1 _ _ _ _)) | ((with_reducible apply is_sto); first | (refine kst hM ?_; intro w hM) | (refine kstw hM ?_; intro w hM)) | ((with_reducible apply is_st); refine su ?_) | ((with_reducible apply is_gd); first | refine gt ?_ | refine gf ?_ | refine gu ?_) | ((with_reducible apply is_en); refine en ?_) | (with_reducible apply c_region) | refine ws ?_ | refine x_block_other (by decide) ?_)
    refine kca hM (lives20_any w (out_ hM)) (fun w hM => ?_)
    repeat (first | ((with_reducible apply is_ld); first | refine kld hM ?_ | refine kldw hM ?_ | refine kle hM ?_ | refine klew hM ?_ | refine kldh hM ?_ | refine kld hM ?_ (hv := by first | exact hs_get _ _ _ | exact hs_get1 _ _ _ _)) | ((with_reducible apply is_sto); first | (refine kst hM ?_; intro w hM) | (refine kstw hM ?_; intro w hM)) | ((with_reducible apply is_st); refine su ?_) | ((with_reducible apply is_gd); first | refine gt ?_ | refine gf ?_ | refine gu ?_) | ((with_reducible apply is_en); refine en ?_) | (with_reducible apply c_region) | refine ws ?_ | refine x_block_other (by decide) ?_)
    exact out1 rfl ⟨rfl, hM.ch⟩
  rw [decide_eq_false (by omega : ¬ (s1.length : Int) > 300)]
  repeat (first | ((with_reducible apply is_ld); first | refine kld hM ?_ | refine kldw hM ?_ | refine kle hM ?_ | refine klew hM ?_ | refine kldh hM ?_ | refine kld hM ?_ (hv := by first | exact hs_get _ _ _ | exact hs_get1 _ _ _ _)) | ((with_reducible apply is_sto); first | (refine kst hM ?_; intro w hM) | (refine kstw hM ?_; intro w hM)) | ((with_reducible apply is_st); refine su ?_) | ((with_reducible apply is_gd); first | refine gt ?_ | refine gf ?_ | refine gu ?_) | ((with_reducible apply is_en); refine en ?_) | (with_reducible apply c_region) | refine ws ?_ | refine x_block_other (by decide) ?_)
  by_cases h2 : s2.length > 300
  · rw [decide_eq_true (by omega : (s2.length : Int) > 300)]
    repeat (first | ((with_reducible apply is_ld); first | refine kld hM ?_ | refine kldw hM ?_ | refine kle hM ?_ | refine klew hM ?_ | refine kldh hM ?_ | refine kld hM ?_ (hv := by first | exact hs_get _ _ _ | exact hs_get1 _ _ _ _)) | ((with_reducible apply is_sto); first | (refine kst hM ?_; intro w hM) | (refine kstw hM ?_; intro w hM)) | ((with_reducible apply is_st); refine su ?_) | ((with_reducible apply is_gd); first | refine gt ?_ | refine gf ?_ | refine gu ?_) | ((with_reducible apply is_en); refine en ?_) | (with_reducible apply c_region) | refine ws ?_ | refine x_block_other (by decide) ?_)
    refine c_condb rfl (fun _ => ?_) (fun h => by cases h)
    repeat (first | ((with_reducible apply is_ld); first | refine kld hM ?_ | refine kldw hM ?_ | refine kle hM ?_ | refine klew hM ?_ | refine kldh hM ?_ | refine kld hM ?_ (hv := by first | exact hs_get _ _ _ | exact hs_get1 _ _ _ _)) | ((with_reducible apply is_sto); first | (refine kst hM ?_; intro w hM) | (refine kstw hM ?_; intro w hM)) | ((with_reducible apply is_st); refine su ?_) | ((with_reducible apply is_gd); first | refine gt ?_ | refine gf ?_ | refine gu ?_) | ((with_reducible apply is_en); refine en ?_) | (with_reducible apply c_region) | refine ws ?_ | refine x_block_other (by decide) ?_)
    refine kca hM (lives20_any w (out_ hM)) (fun w hM => ?_)
    repeat (first | ((with_reducible apply is_ld); first | refine kld hM ?_ | refine kldw hM ?_ | refine kle hM ?_ | refine klew hM ?_ | refine kldh hM ?_ | refine kld hM ?_ (hv := by first | exact hs_get _ _ _ | exact hs_get1 _ _ _ _)) | ((with_reducible apply is_sto); first | (refine kst hM ?_; intro w hM) | (refine kstw hM ?_; intro w hM)) | ((with_reducible apply is_st); refine su ?_) | ((with_reducible apply is_gd); first | refine gt ?_ | refine gf ?_ | refine gu ?_) | ((with_reducible apply is_en); refine en ?_) | (with_reducible apply c_region) | refine ws ?_ | refine x_block_other (by decide) ?_)
    exact out1 rfl ⟨rfl, hM.ch⟩
  rw [decide_eq_false (by omega : ¬ (s2.length : Int) > 300)]
  repeat (first | ((with_reducible apply is_ld); first | refine kld hM ?_ | refine kldw hM ?_ | refine kle hM ?_ | refine klew hM ?_ | refine kldh hM ?_ | refine kld hM ?_ (hv := by first | exact hs_get _ _ _ | exact hs_get1 _ _ _ _)) | ((with_reducible apply is_sto); first | (refine kst hM ?_; intro w hM) | (refine kstw hM ?_; intro w hM)) | ((with_reducible apply is_st); refine su ?_) | ((with_reducible apply is_gd); first | refine gt ?_ | refine gf ?_ | refine gu ?_) | ((with_reducible apply is_en); refine en ?_) | (with_reducible apply c_region) | refine ws ?_ | refine x_block_other (by decide) ?_)
  refine c_condb rfl (fun h => by cases h) (fun _ => ?_)
  repeat (first | ((with_reducible apply is_ld); first | refine kld hM ?_ | refine kldw hM ?_ | refine kle hM ?_ | refine klew hM ?_ | refine kldh hM ?_ | refine kld hM ?_ (hv := by first | exact hs_get _ _ _ | exact hs_get1 _ _ _ _)) | ((with_reducible apply is_sto); first | (refine kst hM ?_; intro w hM) | (refine kstw hM ?_; intro w hM)) | ((with_reducible apply is_st); refine su ?_) | ((with_reducible apply is_gd); first | refine gt ?_ | refine gf ?_ | refine gu ?_) | ((with_reducible apply is_en); refine en ?_) | (with_reducible apply c_region) | refine ws ?_ | refine x_block_other (by decide) ?_)
  refine c_ordY ([], []) [] (by kernel_rfl) (by kernel_rfl) (by kernel_rfl) (fun w hc hs => ?_)
  have hM := hM.call hc
  have hl3 := Blk.lt (hM.blk (b := b3) (by (repeat constructor)))
  have hlp := Blk.lt (hM.blk (b := b4) (by (repeat constructor)))
  refine ynlr 0 rfl (hM.blk (b := b3) (by (repeat constructor))) (by omega) (by simp) rfl (ds := k.1.map u8v) (hs_take k) (by simp) ?_
  refine ynlr 1 rfl (hM.blk (b := b4) (by (repeat constructor))) (by omega) (by simp) rfl (ds := pC (.slice A1 s1.length c1) f1 k1 v1) (List.take_of_length_le (by rw [List.drop_zero, pC_len]; omega)) (pC_len _ _ _ _) ?_
  refine wy_cont (X := Value × Nat) (fun x N w => N ≤ x.2 ∧ Mem [] w0 w [.cell x.2 (zeroH.1.map u8v) 31, .cell b5 (pC (.slice A2 s2.length c2) f2 k2 v2) 41, .cell b4 (pC (.slice A1 s1.length c1) f1 k1 v1) 41, .cell b3 (k.1.map u8v) 31])
    (fun x l => (((((l.set 34 (.agg (pC x.1 f1 k1 v1).toArray)).set 35 (.tuple #[hv ((climbP k s1 f1 k1 v1).getD zeroH).1, .bool (climbP k s1 f1 k1 v1).isSome])).set 31 (.tuple #[hv ((climbP k s1 f1 k1 v1).getD zeroH).1, .bool (climbP k s1 f1 k1 v1).isSome])).set 36 (hv ((climbP k s1 f1 k1 v1).getD zeroH).1)).set 37 (.bool (climbP k s1 f1 k1 v1).isSome)).set 7 (.pointer (some ⟨x.2, 0, none⟩))) #[true, true, true, true, true, true, true, true, false, false] (fuel := 2) (fun hk => ?_) ?_
  · skip
    refine yk2 2 7 hM (by kernel_rfl) rfl rfl (fun w h0 hM => ?_) (fun w h0 hM => ?_)
    · skip
      refine ca (plain_any (.slice A1 s1.length c1) f1 k1 v1 s1 w (hR1.ch hM.ch) (by omega)) ?_
      rintro _ w4 ⟨u1, rfl, hN4⟩
      have hc := hN4.ch
      have hM := hM.join hN4 (by simp [As.plain])
      simp only [List.cons_append, List.nil_append] at hM
      refine x_wy (.inl (hc.gy h0)) rfl ?_
      refine yk2 3 7 hM (by kernel_rfl) rfl rfl (fun w h0 hM => ?_) (fun w h0 hM => ?_)
      · skip
        have hcl := rclimb12_any k u1 f1 k1 v1 s1 w (hM.rowRdO (en := eSt) (v := u1) (by (repeat constructor)))
        unfold optT at hcl
        refine ca hcl ?_
        rintro _ w5 ⟨rfl, hc⟩
        have hM := hM.call hc
        refine x_wy (.inl (hc.gy h0)) rfl ?_
        (first | refine yn 4 rfl ?_ | refine ynt 4 rfl ?_ | refine ynff 4 rfl ?_)
        (first | refine yn 5 rfl ?_ | refine ynt 5 rfl ?_ | refine ynff 5 rfl ?_)
        (first | refine yn 6 rfl ?_ | refine ynt 6 rfl ?_ | refine ynff 6 rfl ?_)
        refine yk1 7 hM (by kernel_rfl) rfl (fun w h0 hM => ?_)
        refine kalN hM (fun w bb hbb hc hM => ?_)
        have hbb := Nat.le_trans h0 hbb
        refine x_wy (.inl (hc.gy h0)) rfl ?_
        exact hk (u1, bb) _ _ _ (by kernel_rfl) rfl ⟨hbb, hM.sub (by (repeat constructor))⟩
      · skip
        refine kalN hM (fun w bb hbb hc hM => ?_)
        have hbb := Nat.le_trans h0 hbb
        refine x_wy (.inl (hc.gy h0)) rfl ?_
        refine yk1 3 hM (by kernel_rfl) rfl (fun w h0 hM => ?_)
        have hcl := rclimb12_any k u1 f1 k1 v1 s1 w (hM.rowRdO (en := eSt) (v := u1) (by (repeat constructor)))
        unfold optT at hcl
        refine ca hcl ?_
        rintro _ w5 ⟨rfl, hc⟩
        have hM := hM.call hc
        refine x_wy (.inl (hc.gy h0)) rfl ?_
        (first | refine yn 4 rfl ?_ | refine ynt 4 rfl ?_ | refine ynff 4 rfl ?_)
        (first | refine yn 5 rfl ?_ | refine ynt 5 rfl ?_ | refine ynff 5 rfl ?_)
        (first | refine yn 6 rfl ?_ | refine ynt 6 rfl ?_ | refine ynff 6 rfl ?_)
        exact hk (u1, bb) _ _ _ (by kernel_rfl) rfl ⟨hbb, hM.sub (by (repeat constructor))⟩
    · skip
      refine kalN hM (fun w bb hbb hc hM => ?_)
      have hbb := Nat.le_trans h0 hbb
      refine x_wy (.inl (hc.gy h0)) rfl ?_
      refine yk1 2 hM (by kernel_rfl) rfl (fun w h0 hM => ?_)
      refine ca (plain_any (.slice A1 s1.length c1) f1 k1 v1 s1 w (hR1.ch hM.ch) (by omega)) ?_
      rintro _ w4 ⟨u1, rfl, hN4⟩
      have hc := hN4.ch
      have hM := hM.join hN4 (by simp [As.plain])
      simp only [List.cons_append, List.nil_append] at hM
      refine x_wy (.inl (hc.gy h0)) rfl ?_
      refine yk1 3 hM (by kernel_rfl) rfl (fun w h0 hM => ?_)
      have hcl := rclimb12_any k u1 f1 k1 v1 s1 w (hM.rowRdO (en := eSt) (v := u1) (by (repeat constructor)))
      unfold optT at hcl
      refine ca hcl ?_
      rintro _ w5 ⟨rfl, hc⟩
      have hM := hM.call hc
      refine x_wy (.inl (hc.gy h0)) rfl ?_
      (first | refine yn 4 rfl ?_ | refine ynt 4 rfl ?_ | refine ynff 4 rfl ?_)
      (first | refine yn 5 rfl ?_ | refine ynt 5 rfl ?_ | refine ynff 5 rfl ?_)
      (first | refine yn 6 rfl ?_ | refine ynt 6 rfl ?_ | refine ynff 6 rfl ?_)
      exact hk (u1, bb) _ _ _ (by kernel_rfl) rfl ⟨hbb, hM.sub (by (repeat constructor))⟩
  clear hM
  rintro ⟨u1, b7⟩ w ⟨hbb, hM⟩
  simp only at hbb hM
  refine wy_nf ?_
  refine yst (n := 32) (vs := ((climbP k s1 f1 k1 v1).getD zeroH).1.map u8v) 8 (by kernel_rfl) rfl (hM.blk (b := b7) (by (repeat constructor))) (.inl hbb) rfl rfl (by simp) (by simp) one_u8 (fun w hB hc => ?_)
  have hM := hM.cellSet hB hc
  (first | refine yn 9 rfl ?_ | refine ynt 9 rfl ?_ | refine ynff 9 rfl ?_)
  refine wy_done (by kernel_rfl) (fun w hc => ?_)
  have hM := hM.call hc
  obtain ⟨z1, hz1⟩ : ∃ z, climbP k s1 f1 k1 v1 = z := ⟨_, rfl⟩
  obtain ⟨z2, hz2⟩ : ∃ z, climbP k s2 f2 k2 v2 = z := ⟨_, rfl⟩
  rw [hz1] at hM
  rw [hz1]
  repeat (first | ((with_reducible apply is_ld); first | refine kld hM ?_ | refine kldw hM ?_ | refine kle hM ?_ | refine klew hM ?_ | refine kldh hM ?_ | refine kld hM ?_ (hv := by first | exact hs_get _ _ _ | exact hs_get1 _ _ _ _)) | ((with_reducible apply is_sto); first | (refine kst hM ?_; intro w hM) | (refine kstw hM ?_; intro w hM)) | ((with_reducible apply is_st); refine su ?_) | ((with_reducible apply is_gd); first | refine gt ?_ | refine gf ?_ | refine gu ?_) | ((with_reducible apply is_en); refine en ?_) | (with_reducible apply c_region) | refine ws ?_ | refine x_block_other (by decide) ?_)
  refine c_ordY ([], []) [] (by kernel_rfl) (by kernel_rfl) (by kernel_rfl) (fun w hc hs => ?_)
  have hM := hM.call hc
  have hl3 := Blk.lt (hM.blk (b := b3) (by (repeat constructor)))
  have hlp := Blk.lt (hM.blk (b := b5) (by (repeat constructor)))
  refine ynlr 0 rfl (hM.blk (b := b3) (by (repeat constructor))) (by omega) (by simp) rfl (ds := k.1.map u8v) (hs_take k) (by simp) ?_
  refine ynlr 1 rfl (hM.blk (b := b5) (by (repeat constructor))) (by omega) (by simp) rfl (ds := pC (.slice A2 s2.length c2) f2 k2 v2) (List.take_of_length_le (by rw [List.drop_zero, pC_len]; omega)) (pC_len _ _ _ _) ?_
  refine wy_cont (X := Value × Nat) (fun x N w => N ≤ x.2 ∧ Mem [] w0 w [.cell x.2 (zeroH.1.map u8v) 31, .cell b7 ((z1.getD zeroH).1.map u8v) 31, .cell b5 (pC (.slice A2 s2.length c2) f2 k2 v2) 41, .cell b4 (pC (.slice A1 s1.length c1) f1 k1 v1) 41, .cell b3 (k.1.map u8v) 31])
    (fun x l => (((((l.set 41 (.agg (pC x.1 f2 k2 v2).toArray)).set 42 (.tuple #[hv ((climbP k s2 f2 k2 v2).getD zeroH).1, .bool (climbP k s2 f2 k2 v2).isSome])).set 38 (.tuple #[hv ((climbP k s2 f2 k2 v2).getD zeroH).1, .bool (climbP k s2 f2 k2 v2).isSome])).set 43 (hv ((climbP k s2 f2 k2 v2).getD zeroH).1)).set 44 (.bool (climbP k s2 f2 k2 v2).isSome)).set 9 (.pointer (some ⟨x.2, 0, none⟩))) #[true, true, true, true, true, true, true, true, false, false] (fuel := 2) (fun hk => ?_) ?_
  · skip
    refine yk2 2 7 hM (by kernel_rfl) rfl rfl (fun w h0 hM => ?_) (fun w h0 hM => ?_)
    · skip
      refine ca (plain_any (.slice A2 s2.length c2) f2 k2 v2 s2 w (hR2.ch hM.ch) (by omega)) ?_
      rintro _ w4 ⟨u1, rfl, hN4⟩
      have hc := hN4.ch
      have hM := hM.join hN4 (by simp [As.plain])
      simp only [List.cons_append, List.nil_append] at hM
      refine x_wy (.inl (hc.gy h0)) rfl ?_
      refine yk2 3 7 hM (by kernel_rfl) rfl rfl (fun w h0 hM => ?_) (fun w h0 hM => ?_)
      · skip
        have hcl := rclimb12_any k u1 f2 k2 v2 s2 w (hM.rowRdO (en := eSt) (v := u1) (by (repeat constructor)))
        unfold optT at hcl
        refine ca hcl ?_
        rintro _ w5 ⟨rfl, hc⟩
        have hM := hM.call hc
        refine x_wy (.inl (hc.gy h0)) rfl ?_
        (first | refine yn 4 rfl ?_ | refine ynt 4 rfl ?_ | refine ynff 4 rfl ?_)
        (first | refine yn 5 rfl ?_ | refine ynt 5 rfl ?_ | refine ynff 5 rfl ?_)
        (first | refine yn 6 rfl ?_ | refine ynt 6 rfl ?_ | refine ynff 6 rfl ?_)
        refine yk1 7 hM (by kernel_rfl) rfl (fun w h0 hM => ?_)
        refine kalN hM (fun w bb hbb hc hM => ?_)
        have hbb := Nat.le_trans h0 hbb
        refine x_wy (.inl (hc.gy h0)) rfl ?_
        exact hk (u1, bb) _ _ _ (by kernel_rfl) rfl ⟨hbb, hM.sub (by (repeat constructor))⟩
      · skip
        refine kalN hM (fun w bb hbb hc hM => ?_)
        have hbb := Nat.le_trans h0 hbb
        refine x_wy (.inl (hc.gy h0)) rfl ?_
        refine yk1 3 hM (by kernel_rfl) rfl (fun w h0 hM => ?_)
        have hcl := rclimb12_any k u1 f2 k2 v2 s2 w (hM.rowRdO (en := eSt) (v := u1) (by (repeat constructor)))
        unfold optT at hcl
        refine ca hcl ?_
        rintro _ w5 ⟨rfl, hc⟩
        have hM := hM.call hc
        refine x_wy (.inl (hc.gy h0)) rfl ?_
        (first | refine yn 4 rfl ?_ | refine ynt 4 rfl ?_ | refine ynff 4 rfl ?_)
        (first | refine yn 5 rfl ?_ | refine ynt 5 rfl ?_ | refine ynff 5 rfl ?_)
        (first | refine yn 6 rfl ?_ | refine ynt 6 rfl ?_ | refine ynff 6 rfl ?_)
        exact hk (u1, bb) _ _ _ (by kernel_rfl) rfl ⟨hbb, hM.sub (by (repeat constructor))⟩
    · skip
      refine kalN hM (fun w bb hbb hc hM => ?_)
      have hbb := Nat.le_trans h0 hbb
      refine x_wy (.inl (hc.gy h0)) rfl ?_
      refine yk1 2 hM (by kernel_rfl) rfl (fun w h0 hM => ?_)
      refine ca (plain_any (.slice A2 s2.length c2) f2 k2 v2 s2 w (hR2.ch hM.ch) (by omega)) ?_
      rintro _ w4 ⟨u1, rfl, hN4⟩
      have hc := hN4.ch
      have hM := hM.join hN4 (by simp [As.plain])
      simp only [List.cons_append, List.nil_append] at hM
      refine x_wy (.inl (hc.gy h0)) rfl ?_
      refine yk1 3 hM (by kernel_rfl) rfl (fun w h0 hM => ?_)
      have hcl := rclimb12_any k u1 f2 k2 v2 s2 w (hM.rowRdO (en := eSt) (v := u1) (by (repeat constructor)))
      unfold optT at hcl
      refine ca hcl ?_
      rintro _ w5 ⟨rfl, hc⟩
      have hM := hM.call hc
      refine x_wy (.inl (hc.gy h0)) rfl ?_
      (first | refine yn 4 rfl ?_ | refine ynt 4 rfl ?_ | refine ynff 4 rfl ?_)
      (first | refine yn 5 rfl ?_ | refine ynt 5 rfl ?_ | refine ynff 5 rfl ?_)
      (first | refine yn 6 rfl ?_ | refine ynt 6 rfl ?_ | refine ynff 6 rfl ?_)
      exact hk (u1, bb) _ _ _ (by kernel_rfl) rfl ⟨hbb, hM.sub (by (repeat constructor))⟩
  clear hM
  rintro ⟨u1, b9⟩ w ⟨hbb, hM⟩
  simp only at hbb hM
  refine wy_nf ?_
  refine yst (n := 32) (vs := ((climbP k s2 f2 k2 v2).getD zeroH).1.map u8v) 8 (by kernel_rfl) rfl (hM.blk (b := b9) (by (repeat constructor))) (.inl hbb) rfl rfl (by simp) (by simp) one_u8 (fun w hB hc => ?_)
  have hM := hM.cellSet hB hc
  (first | refine yn 9 rfl ?_ | refine ynt 9 rfl ?_ | refine ynff 9 rfl ?_)
  refine wy_done (by kernel_rfl) (fun w hc => ?_)
  have hM := hM.call hc
  rw [hz2] at hM
  rw [hz2]
  repeat (first | ((with_reducible apply is_ld); first | refine kld hM ?_ | refine kldw hM ?_ | refine kle hM ?_ | refine klew hM ?_ | refine kldh hM ?_ | refine kld hM ?_ (hv := by first | exact hs_get _ _ _ | exact hs_get1 _ _ _ _)) | ((with_reducible apply is_sto); first | (refine kst hM ?_; intro w hM) | (refine kstw hM ?_; intro w hM)) | ((with_reducible apply is_st); refine su ?_) | ((with_reducible apply is_gd); first | refine gt ?_ | refine gf ?_ | refine gu ?_) | ((with_reducible apply is_en); refine en ?_) | (with_reducible apply c_region) | refine ws ?_ | refine x_block_other (by decide) ?_)
  refine ca (cmembers_any k (.slice A1 s1.length c1) (.slice A2 s2.length c2) f1 f2 k1 v1 k2 v2 s1 s2 w (out_ hM) (hR1.ch hM.ch) (hR2.ch hM.ch)) ?_
  rintro _ w3 ⟨v11, v12, rfl, hN3⟩
  have hM := hM.join hN3 (by simp [As.plain])
  simp only [List.cons_append, List.nil_append] at hM
  have hlaw := @members_law k s1 s2 f1 f2 k1 v1 k2 v2
  obtain ⟨Y, hY⟩ : ∃ Y, membersZ k s1 f1 k1 v1 s2 f2 k2 v2 = Y := ⟨_, rfl⟩
  have hmem := @members_mem k s1 s2 f1 f2 k1 v1 k2 v2
  rw [hY] at hM hlaw hmem ⊢
  rw [hz1, hz2] at hlaw
  repeat (first | ((with_reducible apply is_ld); first | refine kld hM ?_ | refine kldw hM ?_ | refine kle hM ?_ | refine klew hM ?_ | refine kldh hM ?_ | refine kld hM ?_ (hv := by first | exact hs_get _ _ _ | exact hs_get1 _ _ _ _)) | ((with_reducible apply is_sto); first | (refine kst hM ?_; intro w hM) | (refine kstw hM ?_; intro w hM)) | ((with_reducible apply is_st); refine su ?_) | ((with_reducible apply is_gd); first | refine gt ?_ | refine gf ?_ | refine gu ?_) | ((with_reducible apply is_en); refine en ?_) | (with_reducible apply c_region) | refine ws ?_ | refine x_block_other (by decide) ?_)
  cases Y with
  | none =>
    repeat (first | ((with_reducible apply is_ld); first | refine kld hM ?_ | refine kldw hM ?_ | refine kle hM ?_ | refine klew hM ?_ | refine kldh hM ?_ | refine kld hM ?_ (hv := by first | exact hs_get _ _ _ | exact hs_get1 _ _ _ _)) | ((with_reducible apply is_sto); first | (refine kst hM ?_; intro w hM) | (refine kstw hM ?_; intro w hM)) | ((with_reducible apply is_st); refine su ?_) | ((with_reducible apply is_gd); first | refine gt ?_ | refine gf ?_ | refine gu ?_) | ((with_reducible apply is_en); refine en ?_) | (with_reducible apply c_region) | refine ws ?_ | refine x_block_other (by decide) ?_)
    refine c_condb rfl (fun h => by cases h) (fun _ => ?_)
    repeat (first | ((with_reducible apply is_ld); first | refine kld hM ?_ | refine kldw hM ?_ | refine kle hM ?_ | refine klew hM ?_ | refine kldh hM ?_ | refine kld hM ?_ (hv := by first | exact hs_get _ _ _ | exact hs_get1 _ _ _ _)) | ((with_reducible apply is_sto); first | (refine kst hM ?_; intro w hM) | (refine kstw hM ?_; intro w hM)) | ((with_reducible apply is_st); refine su ?_) | ((with_reducible apply is_gd); first | refine gt ?_ | refine gf ?_ | refine gu ?_) | ((with_reducible apply is_en); refine en ?_) | (with_reducible apply c_region) | refine ws ?_ | refine x_block_other (by decide) ?_)
    cases z1 with
    | none =>
      repeat (first | ((with_reducible apply is_ld); first | refine kld hM ?_ | refine kldw hM ?_ | refine kle hM ?_ | refine klew hM ?_ | refine kldh hM ?_ | refine kld hM ?_ (hv := by first | exact hs_get _ _ _ | exact hs_get1 _ _ _ _)) | ((with_reducible apply is_sto); first | (refine kst hM ?_; intro w hM) | (refine kstw hM ?_; intro w hM)) | ((with_reducible apply is_st); refine su ?_) | ((with_reducible apply is_gd); first | refine gt ?_ | refine gf ?_ | refine gu ?_) | ((with_reducible apply is_en); refine en ?_) | (with_reducible apply c_region) | refine ws ?_ | refine x_block_other (by decide) ?_)
      refine c_condb rfl (fun _ => ?_) (fun h => by cases h)
      repeat (first | ((with_reducible apply is_ld); first | refine kld hM ?_ | refine kldw hM ?_ | refine kle hM ?_ | refine klew hM ?_ | refine kldh hM ?_ | refine kld hM ?_ (hv := by first | exact hs_get _ _ _ | exact hs_get1 _ _ _ _)) | ((with_reducible apply is_sto); first | (refine kst hM ?_; intro w hM) | (refine kstw hM ?_; intro w hM)) | ((with_reducible apply is_st); refine su ?_) | ((with_reducible apply is_gd); first | refine gt ?_ | refine gf ?_ | refine gu ?_) | ((with_reducible apply is_en); refine en ?_) | (with_reducible apply c_region) | refine ws ?_ | refine x_block_other (by decide) ?_)
      refine kca hM (lives20_any _ (out_ hM)) (fun w hM => ?_)
      repeat (first | ((with_reducible apply is_ld); first | refine kld hM ?_ | refine kldw hM ?_ | refine kle hM ?_ | refine klew hM ?_ | refine kldh hM ?_ | refine kld hM ?_ (hv := by first | exact hs_get _ _ _ | exact hs_get1 _ _ _ _)) | ((with_reducible apply is_sto); first | (refine kst hM ?_; intro w hM) | (refine kstw hM ?_; intro w hM)) | ((with_reducible apply is_st); refine su ?_) | ((with_reducible apply is_gd); first | refine gt ?_ | refine gf ?_ | refine gu ?_) | ((with_reducible apply is_en); refine en ?_) | (with_reducible apply c_region) | refine ws ?_ | refine x_block_other (by decide) ?_)
      exact out1 rfl ⟨rfl, hM.ch⟩
    | some r1 =>
      cases z2 with
      | none =>
        repeat (first | ((with_reducible apply is_ld); first | refine kld hM ?_ | refine kldw hM ?_ | refine kle hM ?_ | refine klew hM ?_ | refine kldh hM ?_ | refine kld hM ?_ (hv := by first | exact hs_get _ _ _ | exact hs_get1 _ _ _ _)) | ((with_reducible apply is_sto); first | (refine kst hM ?_; intro w hM) | (refine kstw hM ?_; intro w hM)) | ((with_reducible apply is_st); refine su ?_) | ((with_reducible apply is_gd); first | refine gt ?_ | refine gf ?_ | refine gu ?_) | ((with_reducible apply is_en); refine en ?_) | (with_reducible apply c_region) | refine ws ?_ | refine x_block_other (by decide) ?_)
        refine c_condb rfl (fun _ => ?_) (fun h => by cases h)
        repeat (first | ((with_reducible apply is_ld); first | refine kld hM ?_ | refine kldw hM ?_ | refine kle hM ?_ | refine klew hM ?_ | refine kldh hM ?_ | refine kld hM ?_ (hv := by first | exact hs_get _ _ _ | exact hs_get1 _ _ _ _)) | ((with_reducible apply is_sto); first | (refine kst hM ?_; intro w hM) | (refine kstw hM ?_; intro w hM)) | ((with_reducible apply is_st); refine su ?_) | ((with_reducible apply is_gd); first | refine gt ?_ | refine gf ?_ | refine gu ?_) | ((with_reducible apply is_en); refine en ?_) | (with_reducible apply c_region) | refine ws ?_ | refine x_block_other (by decide) ?_)
        refine kca hM (lives20_any _ (out_ hM)) (fun w hM => ?_)
        repeat (first | ((with_reducible apply is_ld); first | refine kld hM ?_ | refine kldw hM ?_ | refine kle hM ?_ | refine klew hM ?_ | refine kldh hM ?_ | refine kld hM ?_ (hv := by first | exact hs_get _ _ _ | exact hs_get1 _ _ _ _)) | ((with_reducible apply is_sto); first | (refine kst hM ?_; intro w hM) | (refine kstw hM ?_; intro w hM)) | ((with_reducible apply is_st); refine su ?_) | ((with_reducible apply is_gd); first | refine gt ?_ | refine gf ?_ | refine gu ?_) | ((with_reducible apply is_en); refine en ?_) | (with_reducible apply c_region) | refine ws ?_ | refine x_block_other (by decide) ?_)
        exact out1 rfl ⟨rfl, hM.ch⟩
      | some r2 =>
        repeat (first | ((with_reducible apply is_ld); first | refine kld hM ?_ | refine kldw hM ?_ | refine kle hM ?_ | refine klew hM ?_ | refine kldh hM ?_ | refine kld hM ?_ (hv := by first | exact hs_get _ _ _ | exact hs_get1 _ _ _ _)) | ((with_reducible apply is_sto); first | (refine kst hM ?_; intro w hM) | (refine kstw hM ?_; intro w hM)) | ((with_reducible apply is_st); refine su ?_) | ((with_reducible apply is_gd); first | refine gt ?_ | refine gf ?_ | refine gu ?_) | ((with_reducible apply is_en); refine en ?_) | (with_reducible apply c_region) | refine ws ?_ | refine x_block_other (by decide) ?_)
        (try ((with_reducible apply is_gd); first | refine gt ?_ | refine gf ?_ | refine gu ?_)); refine wl_val (r_neq8 (a := r1.1) (b := r2.1) (by kernel_rfl) rfl rfl r1.2 r2.2) ?_
        by_cases hrr : r1.1 = r2.1
        case neg =>
          rw [decide_eq_false hrr]
          repeat (first | ((with_reducible apply is_ld); first | refine kld hM ?_ | refine kldw hM ?_ | refine kle hM ?_ | refine klew hM ?_ | refine kldh hM ?_ | refine kld hM ?_ (hv := by first | exact hs_get _ _ _ | exact hs_get1 _ _ _ _)) | ((with_reducible apply is_sto); first | (refine kst hM ?_; intro w hM) | (refine kstw hM ?_; intro w hM)) | ((with_reducible apply is_st); refine su ?_) | ((with_reducible apply is_gd); first | refine gt ?_ | refine gf ?_ | refine gu ?_) | ((with_reducible apply is_en); refine en ?_) | (with_reducible apply c_region) | refine ws ?_ | refine x_block_other (by decide) ?_)
          refine c_condb rfl (fun _ => ?_) (fun h => by cases h)
          repeat (first | ((with_reducible apply is_ld); first | refine kld hM ?_ | refine kldw hM ?_ | refine kle hM ?_ | refine klew hM ?_ | refine kldh hM ?_ | refine kld hM ?_ (hv := by first | exact hs_get _ _ _ | exact hs_get1 _ _ _ _)) | ((with_reducible apply is_sto); first | (refine kst hM ?_; intro w hM) | (refine kstw hM ?_; intro w hM)) | ((with_reducible apply is_st); refine su ?_) | ((with_reducible apply is_gd); first | refine gt ?_ | refine gf ?_ | refine gu ?_) | ((with_reducible apply is_en); refine en ?_) | (with_reducible apply c_region) | refine ws ?_ | refine x_block_other (by decide) ?_)
          refine kca hM (lives20_any _ (out_ hM)) (fun w hM => ?_)
          repeat (first | ((with_reducible apply is_ld); first | refine kld hM ?_ | refine kldw hM ?_ | refine kle hM ?_ | refine klew hM ?_ | refine kldh hM ?_ | refine kld hM ?_ (hv := by first | exact hs_get _ _ _ | exact hs_get1 _ _ _ _)) | ((with_reducible apply is_sto); first | (refine kst hM ?_; intro w hM) | (refine kstw hM ?_; intro w hM)) | ((with_reducible apply is_st); refine su ?_) | ((with_reducible apply is_gd); first | refine gt ?_ | refine gf ?_ | refine gu ?_) | ((with_reducible apply is_en); refine en ?_) | (with_reducible apply c_region) | refine ws ?_ | refine x_block_other (by decide) ?_)
          exact out1 rfl ⟨rfl, hM.ch⟩
        obtain rfl : r1 = r2 := Subtype.ext hrr
        rw [decide_eq_true rfl]
        repeat (first | ((with_reducible apply is_ld); first | refine kld hM ?_ | refine kldw hM ?_ | refine kle hM ?_ | refine klew hM ?_ | refine kldh hM ?_ | refine kld hM ?_ (hv := by first | exact hs_get _ _ _ | exact hs_get1 _ _ _ _)) | ((with_reducible apply is_sto); first | (refine kst hM ?_; intro w hM) | (refine kstw hM ?_; intro w hM)) | ((with_reducible apply is_st); refine su ?_) | ((with_reducible apply is_gd); first | refine gt ?_ | refine gf ?_ | refine gu ?_) | ((with_reducible apply is_en); refine en ?_) | (with_reducible apply c_region) | refine ws ?_ | refine x_block_other (by decide) ?_)
        refine c_condb rfl (fun h => by cases h) (fun _ => ?_)
        have hM : Mem [] w0 _ [.cell b9 (r1.1.map u8v) 31, .cell b7 (r1.1.map u8v) 31, .cell b5 (pC (.slice A2 s2.length c2) f2 k2 v2) 41, .cell b4 (pC (.slice A1 s1.length c1) f1 k1 v1) 41, .cell b3 (k.1.map u8v) 31] := hM.sub (by (repeat constructor))
        have e1 : chkP r1 k s1 f1 k1 v1 = ((valP k f1 k1 v1).1, (valP k f1 k1 v1).2, true) := by unfold chkP; rw [hz1]; exact if_pos rfl
        have e2 : chkP r1 k s2 f2 k2 v2 = ((valP k f2 k2 v2).1, (valP k f2 k2 v2).2, true) := by unfold chkP; rw [hz2]; exact if_pos rfl
        repeat (first | ((with_reducible apply is_ld); first | refine kld hM ?_ | refine kldw hM ?_ | refine kle hM ?_ | refine klew hM ?_ | refine kldh hM ?_ | refine kld hM ?_ (hv := by first | exact hs_get _ _ _ | exact hs_get1 _ _ _ _)) | ((with_reducible apply is_sto); first | (refine kst hM ?_; intro w hM) | (refine kstw hM ?_; intro w hM)) | ((with_reducible apply is_st); refine su ?_) | ((with_reducible apply is_gd); first | refine gt ?_ | refine gf ?_ | refine gu ?_) | ((with_reducible apply is_en); refine en ?_) | (with_reducible apply c_region) | refine ws ?_ | refine x_block_other (by decide) ?_)
        refine c_ordY ([], []) [] (by kernel_rfl) (by kernel_rfl) (by kernel_rfl) (fun w hc hs => ?_)
        have hM := hM.call hc
        have hl3 := Blk.lt (hM.blk (b := b3) (by (repeat constructor)))
        have hlp := Blk.lt (hM.blk (b := b4) (by (repeat constructor)))
        have hl7 := Blk.lt (hM.blk (b := b7) (by (repeat constructor)))
        refine ynlr 0 rfl (hM.blk (b := b7) (by (repeat constructor))) (by omega) (by simp) rfl (ds := r1.1.map u8v) (hs_take r1) (by simp) ?_
        refine ynlr 1 rfl (hM.blk (b := b3) (by (repeat constructor))) (by omega) (by simp) rfl (ds := k.1.map u8v) (hs_take k) (by simp) ?_
        refine ynlr 2 rfl (hM.blk (b := b4) (by (repeat constructor))) (by omega) (by simp) rfl (ds := pC (.slice A1 s1.length c1) f1 k1 v1) (List.take_of_length_le (by rw [List.drop_zero, pC_len]; omega)) (pC_len _ _ _ _) ?_
        refine wy_cont (X := Value × Nat) (fun x N w => N ≤ x.2 ∧ Mem [] w0 w [.cell x.2 (zeroH.1.map u8v) 31, .cell b9 (r1.1.map u8v) 31, .cell b7 (r1.1.map u8v) 31, .cell b5 (pC (.slice A2 s2.length c2) f2 k2 v2) 41, .cell b4 (pC (.slice A1 s1.length c1) f1 k1 v1) 41, .cell b3 (k.1.map u8v) 31])
          (fun x l => ((((((l.set 84 (.agg (pC x.1 f1 k1 v1).toArray)).set 85 (.tuple #[hv (chkP r1 k s1 f1 k1 v1).1.1, .bool (chkP r1 k s1 f1 k1 v1).2.1, .bool (chkP r1 k s1 f1 k1 v1).2.2])).set 80 (.tuple #[hv (chkP r1 k s1 f1 k1 v1).1.1, .bool (chkP r1 k s1 f1 k1 v1).2.1, .bool (chkP r1 k s1 f1 k1 v1).2.2])).set 86 (hv (chkP r1 k s1 f1 k1 v1).1.1)).set 87 (.bool (chkP r1 k s1 f1 k1 v1).2.1)).set 88 (.bool (chkP r1 k s1 f1 k1 v1).2.2)).set 14 (.pointer (some ⟨x.2, 0, none⟩))) #[true, true, true, true, true, true, true, true, true, true, false, false, false] (fuel := 3) (fun hk => ?_) ?_
        · skip
          refine yk2 3 9 hM (by kernel_rfl) rfl rfl (fun w h0 hM => ?_) (fun w h0 hM => ?_)
          · skip
            refine ca (plain_any (.slice A1 s1.length c1) f1 k1 v1 s1 w (hR1.ch hM.ch) (by omega)) ?_
            rintro _ w4 ⟨u1, rfl, hN4⟩
            have hc := hN4.ch
            have hM := hM.join hN4 (by simp [As.plain])
            simp only [List.cons_append, List.nil_append] at hM
            refine x_wy (.inl (hc.gy h0)) rfl ?_
            refine yk2 4 9 hM (by kernel_rfl) rfl rfl (fun w h0 hM => ?_) (fun w h0 hM => ?_)
            · skip
              have hcl := rcheck12_any r1 k u1 f1 k1 v1 s1 w trivial (hM.rowRdO (en := eSt) (v := u1) (by (repeat constructor)))
              unfold chkT at hcl
              refine ca hcl ?_
              rintro _ w5 ⟨rfl, hc⟩
              have hM := hM.call hc
              refine x_wy (.inl (hc.gy h0)) rfl ?_
              (first | refine yn 5 rfl ?_ | refine ynt 5 rfl ?_ | refine ynff 5 rfl ?_)
              (first | refine yn 6 rfl ?_ | refine ynt 6 rfl ?_ | refine ynff 6 rfl ?_)
              (first | refine yn 7 rfl ?_ | refine ynt 7 rfl ?_ | refine ynff 7 rfl ?_)
              (first | refine yn 8 rfl ?_ | refine ynt 8 rfl ?_ | refine ynff 8 rfl ?_)
              refine yk1 9 hM (by kernel_rfl) rfl (fun w h0 hM => ?_)
              refine kalN hM (fun w bb hbb hc hM => ?_)
              have hbb := Nat.le_trans h0 hbb
              refine x_wy (.inl (hc.gy h0)) rfl ?_
              exact hk (u1, bb) _ _ _ (by kernel_rfl) rfl ⟨hbb, hM.sub (by (repeat constructor))⟩
            · skip
              refine kalN hM (fun w bb hbb hc hM => ?_)
              have hbb := Nat.le_trans h0 hbb
              refine x_wy (.inl (hc.gy h0)) rfl ?_
              refine yk1 4 hM (by kernel_rfl) rfl (fun w h0 hM => ?_)
              have hcl := rcheck12_any r1 k u1 f1 k1 v1 s1 w trivial (hM.rowRdO (en := eSt) (v := u1) (by (repeat constructor)))
              unfold chkT at hcl
              refine ca hcl ?_
              rintro _ w5 ⟨rfl, hc⟩
              have hM := hM.call hc
              refine x_wy (.inl (hc.gy h0)) rfl ?_
              (first | refine yn 5 rfl ?_ | refine ynt 5 rfl ?_ | refine ynff 5 rfl ?_)
              (first | refine yn 6 rfl ?_ | refine ynt 6 rfl ?_ | refine ynff 6 rfl ?_)
              (first | refine yn 7 rfl ?_ | refine ynt 7 rfl ?_ | refine ynff 7 rfl ?_)
              (first | refine yn 8 rfl ?_ | refine ynt 8 rfl ?_ | refine ynff 8 rfl ?_)
              exact hk (u1, bb) _ _ _ (by kernel_rfl) rfl ⟨hbb, hM.sub (by (repeat constructor))⟩
          · skip
            refine kalN hM (fun w bb hbb hc hM => ?_)
            have hbb := Nat.le_trans h0 hbb
            refine x_wy (.inl (hc.gy h0)) rfl ?_
            refine yk1 3 hM (by kernel_rfl) rfl (fun w h0 hM => ?_)
            refine ca (plain_any (.slice A1 s1.length c1) f1 k1 v1 s1 w (hR1.ch hM.ch) (by omega)) ?_
            rintro _ w4 ⟨u1, rfl, hN4⟩
            have hc := hN4.ch
            have hM := hM.join hN4 (by simp [As.plain])
            simp only [List.cons_append, List.nil_append] at hM
            refine x_wy (.inl (hc.gy h0)) rfl ?_
            refine yk1 4 hM (by kernel_rfl) rfl (fun w h0 hM => ?_)
            have hcl := rcheck12_any r1 k u1 f1 k1 v1 s1 w trivial (hM.rowRdO (en := eSt) (v := u1) (by (repeat constructor)))
            unfold chkT at hcl
            refine ca hcl ?_
            rintro _ w5 ⟨rfl, hc⟩
            have hM := hM.call hc
            refine x_wy (.inl (hc.gy h0)) rfl ?_
            (first | refine yn 5 rfl ?_ | refine ynt 5 rfl ?_ | refine ynff 5 rfl ?_)
            (first | refine yn 6 rfl ?_ | refine ynt 6 rfl ?_ | refine ynff 6 rfl ?_)
            (first | refine yn 7 rfl ?_ | refine ynt 7 rfl ?_ | refine ynff 7 rfl ?_)
            (first | refine yn 8 rfl ?_ | refine ynt 8 rfl ?_ | refine ynff 8 rfl ?_)
            exact hk (u1, bb) _ _ _ (by kernel_rfl) rfl ⟨hbb, hM.sub (by (repeat constructor))⟩
        clear hM
        rintro ⟨u1, b14⟩ w ⟨hbb, hM⟩
        simp only at hbb hM
        refine wy_nf ?_
        refine yst (n := 32) (vs := (chkP r1 k s1 f1 k1 v1).1.1.map u8v) 10 (by kernel_rfl) rfl (hM.blk (b := b14) (by (repeat constructor))) (.inl hbb) rfl rfl (by simp) (by simp) one_u8 (fun w hB hc => ?_)
        have hM := hM.cellSet hB hc
        (first | refine yn 11 rfl ?_ | refine ynt 11 rfl ?_ | refine ynff 11 rfl ?_); (first | refine yn 12 rfl ?_ | refine ynt 12 rfl ?_ | refine ynff 12 rfl ?_)
        refine wy_done (by kernel_rfl) (fun w hc => ?_)
        have hM := hM.call hc
        rw [e1] at hM
        rw [e1]
        repeat (first | ((with_reducible apply is_ld); first | refine kld hM ?_ | refine kldw hM ?_ | refine kle hM ?_ | refine klew hM ?_ | refine kldh hM ?_ | refine kld hM ?_ (hv := by first | exact hs_get _ _ _ | exact hs_get1 _ _ _ _)) | ((with_reducible apply is_sto); first | (refine kst hM ?_; intro w hM) | (refine kstw hM ?_; intro w hM)) | ((with_reducible apply is_st); refine su ?_) | ((with_reducible apply is_gd); first | refine gt ?_ | refine gf ?_ | refine gu ?_) | ((with_reducible apply is_en); refine en ?_) | (with_reducible apply c_region) | refine ws ?_ | refine x_block_other (by decide) ?_)
        refine c_ordY ([], []) [] (by kernel_rfl) (by kernel_rfl) (by kernel_rfl) (fun w hc hs => ?_)
        have hM := hM.call hc
        have hl3 := Blk.lt (hM.blk (b := b3) (by (repeat constructor)))
        have hlp := Blk.lt (hM.blk (b := b5) (by (repeat constructor)))
        have hl7 := Blk.lt (hM.blk (b := b7) (by (repeat constructor)))
        refine ynlr 0 rfl (hM.blk (b := b7) (by (repeat constructor))) (by omega) (by simp) rfl (ds := r1.1.map u8v) (hs_take r1) (by simp) ?_
        refine ynlr 1 rfl (hM.blk (b := b3) (by (repeat constructor))) (by omega) (by simp) rfl (ds := k.1.map u8v) (hs_take k) (by simp) ?_
        refine ynlr 2 rfl (hM.blk (b := b5) (by (repeat constructor))) (by omega) (by simp) rfl (ds := pC (.slice A2 s2.length c2) f2 k2 v2) (List.take_of_length_le (by rw [List.drop_zero, pC_len]; omega)) (pC_len _ _ _ _) ?_
        refine wy_cont (X := Value × Nat) (fun x N w => N ≤ x.2 ∧ Mem [] w0 w [.cell x.2 (zeroH.1.map u8v) 31, .cell b14 ((valP k f1 k1 v1).1.1.map u8v) 31, .cell b9 (r1.1.map u8v) 31, .cell b7 (r1.1.map u8v) 31, .cell b5 (pC (.slice A2 s2.length c2) f2 k2 v2) 41, .cell b4 (pC (.slice A1 s1.length c1) f1 k1 v1) 41, .cell b3 (k.1.map u8v) 31])
          (fun x l => ((((((l.set 93 (.agg (pC x.1 f2 k2 v2).toArray)).set 94 (.tuple #[hv (chkP r1 k s2 f2 k2 v2).1.1, .bool (chkP r1 k s2 f2 k2 v2).2.1, .bool (chkP r1 k s2 f2 k2 v2).2.2])).set 89 (.tuple #[hv (chkP r1 k s2 f2 k2 v2).1.1, .bool (chkP r1 k s2 f2 k2 v2).2.1, .bool (chkP r1 k s2 f2 k2 v2).2.2])).set 95 (hv (chkP r1 k s2 f2 k2 v2).1.1)).set 96 (.bool (chkP r1 k s2 f2 k2 v2).2.1)).set 97 (.bool (chkP r1 k s2 f2 k2 v2).2.2)).set 17 (.pointer (some ⟨x.2, 0, none⟩))) #[true, true, true, true, true, true, true, true, true, true, false, false, false] (fuel := 3) (fun hk => ?_) ?_
        · skip
          refine yk2 3 9 hM (by kernel_rfl) rfl rfl (fun w h0 hM => ?_) (fun w h0 hM => ?_)
          · skip
            refine ca (plain_any (.slice A2 s2.length c2) f2 k2 v2 s2 w (hR2.ch hM.ch) (by omega)) ?_
            rintro _ w4 ⟨u1, rfl, hN4⟩
            have hc := hN4.ch
            have hM := hM.join hN4 (by simp [As.plain])
            simp only [List.cons_append, List.nil_append] at hM
            refine x_wy (.inl (hc.gy h0)) rfl ?_
            refine yk2 4 9 hM (by kernel_rfl) rfl rfl (fun w h0 hM => ?_) (fun w h0 hM => ?_)
            · skip
              have hcl := rcheck12_any r1 k u1 f2 k2 v2 s2 w trivial (hM.rowRdO (en := eSt) (v := u1) (by (repeat constructor)))
              unfold chkT at hcl
              refine ca hcl ?_
              rintro _ w5 ⟨rfl, hc⟩
              have hM := hM.call hc
              refine x_wy (.inl (hc.gy h0)) rfl ?_
              (first | refine yn 5 rfl ?_ | refine ynt 5 rfl ?_ | refine ynff 5 rfl ?_)
              (first | refine yn 6 rfl ?_ | refine ynt 6 rfl ?_ | refine ynff 6 rfl ?_)
              (first | refine yn 7 rfl ?_ | refine ynt 7 rfl ?_ | refine ynff 7 rfl ?_)
              (first | refine yn 8 rfl ?_ | refine ynt 8 rfl ?_ | refine ynff 8 rfl ?_)
              refine yk1 9 hM (by kernel_rfl) rfl (fun w h0 hM => ?_)
              refine kalN hM (fun w bb hbb hc hM => ?_)
              have hbb := Nat.le_trans h0 hbb
              refine x_wy (.inl (hc.gy h0)) rfl ?_
              exact hk (u1, bb) _ _ _ (by kernel_rfl) rfl ⟨hbb, hM.sub (by (repeat constructor))⟩
            · skip
              refine kalN hM (fun w bb hbb hc hM => ?_)
              have hbb := Nat.le_trans h0 hbb
              refine x_wy (.inl (hc.gy h0)) rfl ?_
              refine yk1 4 hM (by kernel_rfl) rfl (fun w h0 hM => ?_)
              have hcl := rcheck12_any r1 k u1 f2 k2 v2 s2 w trivial (hM.rowRdO (en := eSt) (v := u1) (by (repeat constructor)))
              unfold chkT at hcl
              refine ca hcl ?_
              rintro _ w5 ⟨rfl, hc⟩
              have hM := hM.call hc
              refine x_wy (.inl (hc.gy h0)) rfl ?_
              (first | refine yn 5 rfl ?_ | refine ynt 5 rfl ?_ | refine ynff 5 rfl ?_)
              (first | refine yn 6 rfl ?_ | refine ynt 6 rfl ?_ | refine ynff 6 rfl ?_)
              (first | refine yn 7 rfl ?_ | refine ynt 7 rfl ?_ | refine ynff 7 rfl ?_)
              (first | refine yn 8 rfl ?_ | refine ynt 8 rfl ?_ | refine ynff 8 rfl ?_)
              exact hk (u1, bb) _ _ _ (by kernel_rfl) rfl ⟨hbb, hM.sub (by (repeat constructor))⟩
          · skip
            refine kalN hM (fun w bb hbb hc hM => ?_)
            have hbb := Nat.le_trans h0 hbb
            refine x_wy (.inl (hc.gy h0)) rfl ?_
            refine yk1 3 hM (by kernel_rfl) rfl (fun w h0 hM => ?_)
            refine ca (plain_any (.slice A2 s2.length c2) f2 k2 v2 s2 w (hR2.ch hM.ch) (by omega)) ?_
            rintro _ w4 ⟨u1, rfl, hN4⟩
            have hc := hN4.ch
            have hM := hM.join hN4 (by simp [As.plain])
            simp only [List.cons_append, List.nil_append] at hM
            refine x_wy (.inl (hc.gy h0)) rfl ?_
            refine yk1 4 hM (by kernel_rfl) rfl (fun w h0 hM => ?_)
            have hcl := rcheck12_any r1 k u1 f2 k2 v2 s2 w trivial (hM.rowRdO (en := eSt) (v := u1) (by (repeat constructor)))
            unfold chkT at hcl
            refine ca hcl ?_
            rintro _ w5 ⟨rfl, hc⟩
            have hM := hM.call hc
            refine x_wy (.inl (hc.gy h0)) rfl ?_
            (first | refine yn 5 rfl ?_ | refine ynt 5 rfl ?_ | refine ynff 5 rfl ?_)
            (first | refine yn 6 rfl ?_ | refine ynt 6 rfl ?_ | refine ynff 6 rfl ?_)
            (first | refine yn 7 rfl ?_ | refine ynt 7 rfl ?_ | refine ynff 7 rfl ?_)
            (first | refine yn 8 rfl ?_ | refine ynt 8 rfl ?_ | refine ynff 8 rfl ?_)
            exact hk (u1, bb) _ _ _ (by kernel_rfl) rfl ⟨hbb, hM.sub (by (repeat constructor))⟩
        clear hM
        rintro ⟨u1, b17⟩ w ⟨hbb, hM⟩
        simp only at hbb hM
        refine wy_nf ?_
        refine yst (n := 32) (vs := (chkP r1 k s2 f2 k2 v2).1.1.map u8v) 10 (by kernel_rfl) rfl (hM.blk (b := b17) (by (repeat constructor))) (.inl hbb) rfl rfl (by simp) (by simp) one_u8 (fun w hB hc => ?_)
        have hM := hM.cellSet hB hc
        (first | refine yn 11 rfl ?_ | refine ynt 11 rfl ?_ | refine ynff 11 rfl ?_); (first | refine yn 12 rfl ?_ | refine ynt 12 rfl ?_ | refine ynff 12 rfl ?_)
        refine wy_done (by kernel_rfl) (fun w hc => ?_)
        have hM := hM.call hc
        rw [e2] at hM
        rw [e2]
        repeat (first | ((with_reducible apply is_ld); first | refine kld hM ?_ | refine kldw hM ?_ | refine kle hM ?_ | refine klew hM ?_ | refine kldh hM ?_ | refine kld hM ?_ (hv := by first | exact hs_get _ _ _ | exact hs_get1 _ _ _ _)) | ((with_reducible apply is_sto); first | (refine kst hM ?_; intro w hM) | (refine kstw hM ?_; intro w hM)) | ((with_reducible apply is_st); refine su ?_) | ((with_reducible apply is_gd); first | refine gt ?_ | refine gf ?_ | refine gu ?_) | ((with_reducible apply is_en); refine en ?_) | (with_reducible apply c_region) | refine ws ?_ | refine x_block_other (by decide) ?_)
        rw [hlaw rfl rfl rfl] at hM ⊢
        repeat (first | ((with_reducible apply is_ld); first | refine kld hM ?_ | refine kldw hM ?_ | refine kle hM ?_ | refine klew hM ?_ | refine kldh hM ?_ | refine kld hM ?_ (hv := by first | exact hs_get _ _ _ | exact hs_get1 _ _ _ _)) | ((with_reducible apply is_sto); first | (refine kst hM ?_; intro w hM) | (refine kstw hM ?_; intro w hM)) | ((with_reducible apply is_st); refine su ?_) | ((with_reducible apply is_gd); first | refine gt ?_ | refine gf ?_ | refine gu ?_) | ((with_reducible apply is_en); refine en ?_) | (with_reducible apply c_region) | refine ws ?_ | refine x_block_other (by decide) ?_)
        (try ((with_reducible apply is_gd); first | refine gt ?_ | refine gf ?_ | refine gu ?_)); refine wl_val (r_eq8s (a := (valP k f2 k2 v2).1.1) (by kernel_rfl) rfl rfl (valP k f2 k2 v2).1.2) ?_
        repeat (first | ((with_reducible apply is_ld); first | refine kld hM ?_ | refine kldw hM ?_ | refine kle hM ?_ | refine klew hM ?_ | refine kldh hM ?_ | refine kld hM ?_ (hv := by first | exact hs_get _ _ _ | exact hs_get1 _ _ _ _)) | ((with_reducible apply is_sto); first | (refine kst hM ?_; intro w hM) | (refine kstw hM ?_; intro w hM)) | ((with_reducible apply is_st); refine su ?_) | ((with_reducible apply is_gd); first | refine gt ?_ | refine gf ?_ | refine gu ?_) | ((with_reducible apply is_en); refine en ?_) | (with_reducible apply c_region) | refine ws ?_ | refine x_block_other (by decide) ?_)
        (try ((with_reducible apply is_gd); first | refine gt ?_ | refine gf ?_ | refine gu ?_)); refine wl_val (r_eqbs rfl rfl) ?_
        repeat (first | ((with_reducible apply is_ld); first | refine kld hM ?_ | refine kldw hM ?_ | refine kle hM ?_ | refine klew hM ?_ | refine kldh hM ?_ | refine kld hM ?_ (hv := by first | exact hs_get _ _ _ | exact hs_get1 _ _ _ _)) | ((with_reducible apply is_sto); first | (refine kst hM ?_; intro w hM) | (refine kstw hM ?_; intro w hM)) | ((with_reducible apply is_st); refine su ?_) | ((with_reducible apply is_gd); first | refine gt ?_ | refine gf ?_ | refine gu ?_) | ((with_reducible apply is_en); refine en ?_) | (with_reducible apply c_region) | refine ws ?_ | refine x_block_other (by decide) ?_)
        (try ((with_reducible apply is_gd); first | refine gt ?_ | refine gf ?_ | refine gu ?_)); refine kca hM (lives20_any _ (out_ hM)) (fun w hM => ?_)
        repeat (first | ((with_reducible apply is_ld); first | refine kld hM ?_ | refine kldw hM ?_ | refine kle hM ?_ | refine klew hM ?_ | refine kldh hM ?_ | refine kld hM ?_ (hv := by first | exact hs_get _ _ _ | exact hs_get1 _ _ _ _)) | ((with_reducible apply is_sto); first | (refine kst hM ?_; intro w hM) | (refine kstw hM ?_; intro w hM)) | ((with_reducible apply is_st); refine su ?_) | ((with_reducible apply is_gd); first | refine gt ?_ | refine gf ?_ | refine gu ?_) | ((with_reducible apply is_en); refine en ?_) | (with_reducible apply c_region) | refine ws ?_ | refine x_block_other (by decide) ?_)
        exact out1 rfl ⟨rfl, hM.ch⟩
  | some xy =>
    obtain ⟨x, y⟩ := xy
    obtain ⟨hx1, hx2, hne, hsh⟩ := hmem rfl
    have hM : Mem [] w0 w3 (.row eU8 5 v11 x :: .row eU8 5 v12 y :: .cell b9 ((z2.getD zeroH).1.map u8v) 31 :: [.cell b7 ((z1.getD zeroH).1.map u8v) 31, .cell b5 (pC (.slice A2 s2.length c2) f2 k2 v2) 41, .cell b4 (pC (.slice A1 s1.length c1) f1 k1 v1) 41, .cell b3 (k.1.map u8v) 31]) := hM
    repeat (first | ((with_reducible apply is_ld); first | refine kld hM ?_ | refine kldw hM ?_ | refine kle hM ?_ | refine klew hM ?_ | refine kldh hM ?_ | refine kld hM ?_ (hv := by first | exact hs_get _ _ _ | exact hs_get1 _ _ _ _)) | ((with_reducible apply is_sto); first | (refine kst hM ?_; intro w hM) | (refine kstw hM ?_; intro w hM)) | ((with_reducible apply is_st); refine su ?_) | ((with_reducible apply is_gd); first | refine gt ?_ | refine gf ?_ | refine gu ?_) | ((with_reducible apply is_en); refine en ?_) | (with_reducible apply c_region) | refine ws ?_ | refine x_block_other (by decide) ?_)
    (try ((with_reducible apply is_gd); first | refine gt ?_ | refine gf ?_ | refine gu ?_)); refine wl_val (r_b2s (hM.rowRdO (en := eU8) (xs := x) (v := v11) (by (repeat constructor)))) ?_
    repeat (first | ((with_reducible apply is_ld); first | refine kld hM ?_ | refine kldw hM ?_ | refine kle hM ?_ | refine klew hM ?_ | refine kldh hM ?_ | refine kld hM ?_ (hv := by first | exact hs_get _ _ _ | exact hs_get1 _ _ _ _)) | ((with_reducible apply is_sto); first | (refine kst hM ?_; intro w hM) | (refine kstw hM ?_; intro w hM)) | ((with_reducible apply is_st); refine su ?_) | ((with_reducible apply is_gd); first | refine gt ?_ | refine gf ?_ | refine gu ?_) | ((with_reducible apply is_en); refine en ?_) | (with_reducible apply c_region) | refine ws ?_ | refine x_block_other (by decide) ?_)
    (try ((with_reducible apply is_gd); first | refine gt ?_ | refine gf ?_ | refine gu ?_)); refine wl_val (r_b2s (hM.rowRdO (en := eU8) (xs := y) (v := v12) (by (repeat constructor)))) ?_
    (try ((with_reducible apply is_gd); first | refine gt ?_ | refine gf ?_ | refine gu ?_)); refine wl_val (r_eqst) ?_
    rw [decide_eq_false hne]
    repeat (first | ((with_reducible apply is_ld); first | refine kld hM ?_ | refine kldw hM ?_ | refine kle hM ?_ | refine klew hM ?_ | refine kldh hM ?_ | refine kld hM ?_ (hv := by first | exact hs_get _ _ _ | exact hs_get1 _ _ _ _)) | ((with_reducible apply is_sto); first | (refine kst hM ?_; intro w hM) | (refine kstw hM ?_; intro w hM)) | ((with_reducible apply is_st); refine su ?_) | ((with_reducible apply is_gd); first | refine gt ?_ | refine gf ?_ | refine gu ?_) | ((with_reducible apply is_en); refine en ?_) | (with_reducible apply c_region) | refine ws ?_ | refine x_block_other (by decide) ?_)
    (try ((with_reducible apply is_gd); first | refine gt ?_ | refine gf ?_ | refine gu ?_)); refine kca hM (rsum_any v11 x _ (hM.rowRdO (en := eU8) (xs := x) (v := v11) (by (repeat constructor))) (by omega)) (fun w hM => ?_)
    repeat (first | ((with_reducible apply is_ld); first | refine kld hM ?_ | refine kldw hM ?_ | refine kle hM ?_ | refine klew hM ?_ | refine kldh hM ?_ | refine kld hM ?_ (hv := by first | exact hs_get _ _ _ | exact hs_get1 _ _ _ _)) | ((with_reducible apply is_sto); first | (refine kst hM ?_; intro w hM) | (refine kstw hM ?_; intro w hM)) | ((with_reducible apply is_st); refine su ?_) | ((with_reducible apply is_gd); first | refine gt ?_ | refine gf ?_ | refine gu ?_) | ((with_reducible apply is_en); refine en ?_) | (with_reducible apply c_region) | refine ws ?_ | refine x_block_other (by decide) ?_)
    (try ((with_reducible apply is_gd); first | refine gt ?_ | refine gf ?_ | refine gu ?_)); refine kca hM (rsum_any v12 y _ (hM.rowRdO (en := eU8) (xs := y) (v := v12) (by (repeat constructor))) (by omega)) (fun w hM => ?_)
    (try ((with_reducible apply is_gd); first | refine gt ?_ | refine gf ?_ | refine gu ?_)); refine wl_val (r_neq8 (a := shaOf x) (b := shaOf y) (by kernel_rfl) rfl rfl (shaOf_len _) (shaOf_len _)) ?_
    rw [decide_eq_true hsh]
    repeat (first | ((with_reducible apply is_ld); first | refine kld hM ?_ | refine kldw hM ?_ | refine kle hM ?_ | refine klew hM ?_ | refine kldh hM ?_ | refine kld hM ?_ (hv := by first | exact hs_get _ _ _ | exact hs_get1 _ _ _ _)) | ((with_reducible apply is_sto); first | (refine kst hM ?_; intro w hM) | (refine kstw hM ?_; intro w hM)) | ((with_reducible apply is_st); refine su ?_) | ((with_reducible apply is_gd); first | refine gt ?_ | refine gf ?_ | refine gu ?_) | ((with_reducible apply is_en); refine en ?_) | (with_reducible apply c_region) | refine ws ?_ | refine x_block_other (by decide) ?_)
    refine c_condb rfl (fun h => by cases h) (fun _ => ?_)
    repeat (first | ((with_reducible apply is_ld); first | refine kld hM ?_ | refine kldw hM ?_ | refine kle hM ?_ | refine klew hM ?_ | refine kldh hM ?_ | refine kld hM ?_ (hv := by first | exact hs_get _ _ _ | exact hs_get1 _ _ _ _)) | ((with_reducible apply is_sto); first | (refine kst hM ?_; intro w hM) | (refine kstw hM ?_; intro w hM)) | ((with_reducible apply is_st); refine su ?_) | ((with_reducible apply is_gd); first | refine gt ?_ | refine gf ?_ | refine gu ?_) | ((with_reducible apply is_en); refine en ?_) | (with_reducible apply c_region) | refine ws ?_ | refine x_block_other (by decide) ?_)
    cases z1 with
    | none =>
      repeat (first | ((with_reducible apply is_ld); first | refine kld hM ?_ | refine kldw hM ?_ | refine kle hM ?_ | refine klew hM ?_ | refine kldh hM ?_ | refine kld hM ?_ (hv := by first | exact hs_get _ _ _ | exact hs_get1 _ _ _ _)) | ((with_reducible apply is_sto); first | (refine kst hM ?_; intro w hM) | (refine kstw hM ?_; intro w hM)) | ((with_reducible apply is_st); refine su ?_) | ((with_reducible apply is_gd); first | refine gt ?_ | refine gf ?_ | refine gu ?_) | ((with_reducible apply is_en); refine en ?_) | (with_reducible apply c_region) | refine ws ?_ | refine x_block_other (by decide) ?_)
      refine c_condb rfl (fun _ => ?_) (fun h => by cases h)
      repeat (first | ((with_reducible apply is_ld); first | refine kld hM ?_ | refine kldw hM ?_ | refine kle hM ?_ | refine klew hM ?_ | refine kldh hM ?_ | refine kld hM ?_ (hv := by first | exact hs_get _ _ _ | exact hs_get1 _ _ _ _)) | ((with_reducible apply is_sto); first | (refine kst hM ?_; intro w hM) | (refine kstw hM ?_; intro w hM)) | ((with_reducible apply is_st); refine su ?_) | ((with_reducible apply is_gd); first | refine gt ?_ | refine gf ?_ | refine gu ?_) | ((with_reducible apply is_en); refine en ?_) | (with_reducible apply c_region) | refine ws ?_ | refine x_block_other (by decide) ?_)
      refine kca hM (lives20_any _ (out_ hM)) (fun w hM => ?_)
      repeat (first | ((with_reducible apply is_ld); first | refine kld hM ?_ | refine kldw hM ?_ | refine kle hM ?_ | refine klew hM ?_ | refine kldh hM ?_ | refine kld hM ?_ (hv := by first | exact hs_get _ _ _ | exact hs_get1 _ _ _ _)) | ((with_reducible apply is_sto); first | (refine kst hM ?_; intro w hM) | (refine kstw hM ?_; intro w hM)) | ((with_reducible apply is_st); refine su ?_) | ((with_reducible apply is_gd); first | refine gt ?_ | refine gf ?_ | refine gu ?_) | ((with_reducible apply is_en); refine en ?_) | (with_reducible apply c_region) | refine ws ?_ | refine x_block_other (by decide) ?_)
      exact out1 rfl ⟨rfl, hM.ch⟩
    | some r1 =>
      cases z2 with
      | none =>
        repeat (first | ((with_reducible apply is_ld); first | refine kld hM ?_ | refine kldw hM ?_ | refine kle hM ?_ | refine klew hM ?_ | refine kldh hM ?_ | refine kld hM ?_ (hv := by first | exact hs_get _ _ _ | exact hs_get1 _ _ _ _)) | ((with_reducible apply is_sto); first | (refine kst hM ?_; intro w hM) | (refine kstw hM ?_; intro w hM)) | ((with_reducible apply is_st); refine su ?_) | ((with_reducible apply is_gd); first | refine gt ?_ | refine gf ?_ | refine gu ?_) | ((with_reducible apply is_en); refine en ?_) | (with_reducible apply c_region) | refine ws ?_ | refine x_block_other (by decide) ?_)
        refine c_condb rfl (fun _ => ?_) (fun h => by cases h)
        repeat (first | ((with_reducible apply is_ld); first | refine kld hM ?_ | refine kldw hM ?_ | refine kle hM ?_ | refine klew hM ?_ | refine kldh hM ?_ | refine kld hM ?_ (hv := by first | exact hs_get _ _ _ | exact hs_get1 _ _ _ _)) | ((with_reducible apply is_sto); first | (refine kst hM ?_; intro w hM) | (refine kstw hM ?_; intro w hM)) | ((with_reducible apply is_st); refine su ?_) | ((with_reducible apply is_gd); first | refine gt ?_ | refine gf ?_ | refine gu ?_) | ((with_reducible apply is_en); refine en ?_) | (with_reducible apply c_region) | refine ws ?_ | refine x_block_other (by decide) ?_)
        refine kca hM (lives20_any _ (out_ hM)) (fun w hM => ?_)
        repeat (first | ((with_reducible apply is_ld); first | refine kld hM ?_ | refine kldw hM ?_ | refine kle hM ?_ | refine klew hM ?_ | refine kldh hM ?_ | refine kld hM ?_ (hv := by first | exact hs_get _ _ _ | exact hs_get1 _ _ _ _)) | ((with_reducible apply is_sto); first | (refine kst hM ?_; intro w hM) | (refine kstw hM ?_; intro w hM)) | ((with_reducible apply is_st); refine su ?_) | ((with_reducible apply is_gd); first | refine gt ?_ | refine gf ?_ | refine gu ?_) | ((with_reducible apply is_en); refine en ?_) | (with_reducible apply c_region) | refine ws ?_ | refine x_block_other (by decide) ?_)
        exact out1 rfl ⟨rfl, hM.ch⟩
      | some r2 =>
        repeat (first | ((with_reducible apply is_ld); first | refine kld hM ?_ | refine kldw hM ?_ | refine kle hM ?_ | refine klew hM ?_ | refine kldh hM ?_ | refine kld hM ?_ (hv := by first | exact hs_get _ _ _ | exact hs_get1 _ _ _ _)) | ((with_reducible apply is_sto); first | (refine kst hM ?_; intro w hM) | (refine kstw hM ?_; intro w hM)) | ((with_reducible apply is_st); refine su ?_) | ((with_reducible apply is_gd); first | refine gt ?_ | refine gf ?_ | refine gu ?_) | ((with_reducible apply is_en); refine en ?_) | (with_reducible apply c_region) | refine ws ?_ | refine x_block_other (by decide) ?_)
        (try ((with_reducible apply is_gd); first | refine gt ?_ | refine gf ?_ | refine gu ?_)); refine wl_val (r_neq8 (a := r1.1) (b := r2.1) (by kernel_rfl) rfl rfl r1.2 r2.2) ?_
        by_cases hrr : r1.1 = r2.1
        case neg =>
          rw [decide_eq_false hrr]
          repeat (first | ((with_reducible apply is_ld); first | refine kld hM ?_ | refine kldw hM ?_ | refine kle hM ?_ | refine klew hM ?_ | refine kldh hM ?_ | refine kld hM ?_ (hv := by first | exact hs_get _ _ _ | exact hs_get1 _ _ _ _)) | ((with_reducible apply is_sto); first | (refine kst hM ?_; intro w hM) | (refine kstw hM ?_; intro w hM)) | ((with_reducible apply is_st); refine su ?_) | ((with_reducible apply is_gd); first | refine gt ?_ | refine gf ?_ | refine gu ?_) | ((with_reducible apply is_en); refine en ?_) | (with_reducible apply c_region) | refine ws ?_ | refine x_block_other (by decide) ?_)
          refine c_condb rfl (fun _ => ?_) (fun h => by cases h)
          repeat (first | ((with_reducible apply is_ld); first | refine kld hM ?_ | refine kldw hM ?_ | refine kle hM ?_ | refine klew hM ?_ | refine kldh hM ?_ | refine kld hM ?_ (hv := by first | exact hs_get _ _ _ | exact hs_get1 _ _ _ _)) | ((with_reducible apply is_sto); first | (refine kst hM ?_; intro w hM) | (refine kstw hM ?_; intro w hM)) | ((with_reducible apply is_st); refine su ?_) | ((with_reducible apply is_gd); first | refine gt ?_ | refine gf ?_ | refine gu ?_) | ((with_reducible apply is_en); refine en ?_) | (with_reducible apply c_region) | refine ws ?_ | refine x_block_other (by decide) ?_)
          refine kca hM (lives20_any _ (out_ hM)) (fun w hM => ?_)
          repeat (first | ((with_reducible apply is_ld); first | refine kld hM ?_ | refine kldw hM ?_ | refine kle hM ?_ | refine klew hM ?_ | refine kldh hM ?_ | refine kld hM ?_ (hv := by first | exact hs_get _ _ _ | exact hs_get1 _ _ _ _)) | ((with_reducible apply is_sto); first | (refine kst hM ?_; intro w hM) | (refine kstw hM ?_; intro w hM)) | ((with_reducible apply is_st); refine su ?_) | ((with_reducible apply is_gd); first | refine gt ?_ | refine gf ?_ | refine gu ?_) | ((with_reducible apply is_en); refine en ?_) | (with_reducible apply c_region) | refine ws ?_ | refine x_block_other (by decide) ?_)
          exact out1 rfl ⟨rfl, hM.ch⟩
        obtain rfl : r1 = r2 := Subtype.ext hrr
        rw [decide_eq_true rfl]
        repeat (first | ((with_reducible apply is_ld); first | refine kld hM ?_ | refine kldw hM ?_ | refine kle hM ?_ | refine klew hM ?_ | refine kldh hM ?_ | refine kld hM ?_ (hv := by first | exact hs_get _ _ _ | exact hs_get1 _ _ _ _)) | ((with_reducible apply is_sto); first | (refine kst hM ?_; intro w hM) | (refine kstw hM ?_; intro w hM)) | ((with_reducible apply is_st); refine su ?_) | ((with_reducible apply is_gd); first | refine gt ?_ | refine gf ?_ | refine gu ?_) | ((with_reducible apply is_en); refine en ?_) | (with_reducible apply c_region) | refine ws ?_ | refine x_block_other (by decide) ?_)
        refine c_condb rfl (fun h => by cases h) (fun _ => ?_)
        have hM : Mem [] w0 _ [.cell b9 (r1.1.map u8v) 31, .cell b7 (r1.1.map u8v) 31, .cell b5 (pC (.slice A2 s2.length c2) f2 k2 v2) 41, .cell b4 (pC (.slice A1 s1.length c1) f1 k1 v1) 41, .cell b3 (k.1.map u8v) 31] := hM.sub (by (repeat constructor))
        have e1 : chkP r1 k s1 f1 k1 v1 = ((valP k f1 k1 v1).1, (valP k f1 k1 v1).2, true) := by unfold chkP; rw [hz1]; exact if_pos rfl
        have e2 : chkP r1 k s2 f2 k2 v2 = ((valP k f2 k2 v2).1, (valP k f2 k2 v2).2, true) := by unfold chkP; rw [hz2]; exact if_pos rfl
        repeat (first | ((with_reducible apply is_ld); first | refine kld hM ?_ | refine kldw hM ?_ | refine kle hM ?_ | refine klew hM ?_ | refine kldh hM ?_ | refine kld hM ?_ (hv := by first | exact hs_get _ _ _ | exact hs_get1 _ _ _ _)) | ((with_reducible apply is_sto); first | (refine kst hM ?_; intro w hM) | (refine kstw hM ?_; intro w hM)) | ((with_reducible apply is_st); refine su ?_) | ((with_reducible apply is_gd); first | refine gt ?_ | refine gf ?_ | refine gu ?_) | ((with_reducible apply is_en); refine en ?_) | (with_reducible apply c_region) | refine ws ?_ | refine x_block_other (by decide) ?_)
        refine c_ordY ([], []) [] (by kernel_rfl) (by kernel_rfl) (by kernel_rfl) (fun w hc hs => ?_)
        have hM := hM.call hc
        have hl3 := Blk.lt (hM.blk (b := b3) (by (repeat constructor)))
        have hlp := Blk.lt (hM.blk (b := b4) (by (repeat constructor)))
        have hl7 := Blk.lt (hM.blk (b := b7) (by (repeat constructor)))
        refine ynlr 0 rfl (hM.blk (b := b7) (by (repeat constructor))) (by omega) (by simp) rfl (ds := r1.1.map u8v) (hs_take r1) (by simp) ?_
        refine ynlr 1 rfl (hM.blk (b := b3) (by (repeat constructor))) (by omega) (by simp) rfl (ds := k.1.map u8v) (hs_take k) (by simp) ?_
        refine ynlr 2 rfl (hM.blk (b := b4) (by (repeat constructor))) (by omega) (by simp) rfl (ds := pC (.slice A1 s1.length c1) f1 k1 v1) (List.take_of_length_le (by rw [List.drop_zero, pC_len]; omega)) (pC_len _ _ _ _) ?_
        refine wy_cont (X := Value × Nat) (fun x N w => N ≤ x.2 ∧ Mem [] w0 w [.cell x.2 (zeroH.1.map u8v) 31, .cell b9 (r1.1.map u8v) 31, .cell b7 (r1.1.map u8v) 31, .cell b5 (pC (.slice A2 s2.length c2) f2 k2 v2) 41, .cell b4 (pC (.slice A1 s1.length c1) f1 k1 v1) 41, .cell b3 (k.1.map u8v) 31])
          (fun x l => ((((((l.set 84 (.agg (pC x.1 f1 k1 v1).toArray)).set 85 (.tuple #[hv (chkP r1 k s1 f1 k1 v1).1.1, .bool (chkP r1 k s1 f1 k1 v1).2.1, .bool (chkP r1 k s1 f1 k1 v1).2.2])).set 80 (.tuple #[hv (chkP r1 k s1 f1 k1 v1).1.1, .bool (chkP r1 k s1 f1 k1 v1).2.1, .bool (chkP r1 k s1 f1 k1 v1).2.2])).set 86 (hv (chkP r1 k s1 f1 k1 v1).1.1)).set 87 (.bool (chkP r1 k s1 f1 k1 v1).2.1)).set 88 (.bool (chkP r1 k s1 f1 k1 v1).2.2)).set 14 (.pointer (some ⟨x.2, 0, none⟩))) #[true, true, true, true, true, true, true, true, true, true, false, false, false] (fuel := 3) (fun hk => ?_) ?_
        · skip
          refine yk2 3 9 hM (by kernel_rfl) rfl rfl (fun w h0 hM => ?_) (fun w h0 hM => ?_)
          · skip
            refine ca (plain_any (.slice A1 s1.length c1) f1 k1 v1 s1 w (hR1.ch hM.ch) (by omega)) ?_
            rintro _ w4 ⟨u1, rfl, hN4⟩
            have hc := hN4.ch
            have hM := hM.join hN4 (by simp [As.plain])
            simp only [List.cons_append, List.nil_append] at hM
            refine x_wy (.inl (hc.gy h0)) rfl ?_
            refine yk2 4 9 hM (by kernel_rfl) rfl rfl (fun w h0 hM => ?_) (fun w h0 hM => ?_)
            · skip
              have hcl := rcheck12_any r1 k u1 f1 k1 v1 s1 w trivial (hM.rowRdO (en := eSt) (v := u1) (by (repeat constructor)))
              unfold chkT at hcl
              refine ca hcl ?_
              rintro _ w5 ⟨rfl, hc⟩
              have hM := hM.call hc
              refine x_wy (.inl (hc.gy h0)) rfl ?_
              (first | refine yn 5 rfl ?_ | refine ynt 5 rfl ?_ | refine ynff 5 rfl ?_)
              (first | refine yn 6 rfl ?_ | refine ynt 6 rfl ?_ | refine ynff 6 rfl ?_)
              (first | refine yn 7 rfl ?_ | refine ynt 7 rfl ?_ | refine ynff 7 rfl ?_)
              (first | refine yn 8 rfl ?_ | refine ynt 8 rfl ?_ | refine ynff 8 rfl ?_)
              refine yk1 9 hM (by kernel_rfl) rfl (fun w h0 hM => ?_)
              refine kalN hM (fun w bb hbb hc hM => ?_)
              have hbb := Nat.le_trans h0 hbb
              refine x_wy (.inl (hc.gy h0)) rfl ?_
              exact hk (u1, bb) _ _ _ (by kernel_rfl) rfl ⟨hbb, hM.sub (by (repeat constructor))⟩
            · skip
              refine kalN hM (fun w bb hbb hc hM => ?_)
              have hbb := Nat.le_trans h0 hbb
              refine x_wy (.inl (hc.gy h0)) rfl ?_
              refine yk1 4 hM (by kernel_rfl) rfl (fun w h0 hM => ?_)
              have hcl := rcheck12_any r1 k u1 f1 k1 v1 s1 w trivial (hM.rowRdO (en := eSt) (v := u1) (by (repeat constructor)))
              unfold chkT at hcl
              refine ca hcl ?_
              rintro _ w5 ⟨rfl, hc⟩
              have hM := hM.call hc
              refine x_wy (.inl (hc.gy h0)) rfl ?_
              (first | refine yn 5 rfl ?_ | refine ynt 5 rfl ?_ | refine ynff 5 rfl ?_)
              (first | refine yn 6 rfl ?_ | refine ynt 6 rfl ?_ | refine ynff 6 rfl ?_)
              (first | refine yn 7 rfl ?_ | refine ynt 7 rfl ?_ | refine ynff 7 rfl ?_)
              (first | refine yn 8 rfl ?_ | refine ynt 8 rfl ?_ | refine ynff 8 rfl ?_)
              exact hk (u1, bb) _ _ _ (by kernel_rfl) rfl ⟨hbb, hM.sub (by (repeat constructor))⟩
          · skip
            refine kalN hM (fun w bb hbb hc hM => ?_)
            have hbb := Nat.le_trans h0 hbb
            refine x_wy (.inl (hc.gy h0)) rfl ?_
            refine yk1 3 hM (by kernel_rfl) rfl (fun w h0 hM => ?_)
            refine ca (plain_any (.slice A1 s1.length c1) f1 k1 v1 s1 w (hR1.ch hM.ch) (by omega)) ?_
            rintro _ w4 ⟨u1, rfl, hN4⟩
            have hc := hN4.ch
            have hM := hM.join hN4 (by simp [As.plain])
            simp only [List.cons_append, List.nil_append] at hM
            refine x_wy (.inl (hc.gy h0)) rfl ?_
            refine yk1 4 hM (by kernel_rfl) rfl (fun w h0 hM => ?_)
            have hcl := rcheck12_any r1 k u1 f1 k1 v1 s1 w trivial (hM.rowRdO (en := eSt) (v := u1) (by (repeat constructor)))
            unfold chkT at hcl
            refine ca hcl ?_
            rintro _ w5 ⟨rfl, hc⟩
            have hM := hM.call hc
            refine x_wy (.inl (hc.gy h0)) rfl ?_
            (first | refine yn 5 rfl ?_ | refine ynt 5 rfl ?_ | refine ynff 5 rfl ?_)
            (first | refine yn 6 rfl ?_ | refine ynt 6 rfl ?_ | refine ynff 6 rfl ?_)
            (first | refine yn 7 rfl ?_ | refine ynt 7 rfl ?_ | refine ynff 7 rfl ?_)
            (first | refine yn 8 rfl ?_ | refine ynt 8 rfl ?_ | refine ynff 8 rfl ?_)
            exact hk (u1, bb) _ _ _ (by kernel_rfl) rfl ⟨hbb, hM.sub (by (repeat constructor))⟩
        clear hM
        rintro ⟨u1, b14⟩ w ⟨hbb, hM⟩
        simp only at hbb hM
        refine wy_nf ?_
        refine yst (n := 32) (vs := (chkP r1 k s1 f1 k1 v1).1.1.map u8v) 10 (by kernel_rfl) rfl (hM.blk (b := b14) (by (repeat constructor))) (.inl hbb) rfl rfl (by simp) (by simp) one_u8 (fun w hB hc => ?_)
        have hM := hM.cellSet hB hc
        (first | refine yn 11 rfl ?_ | refine ynt 11 rfl ?_ | refine ynff 11 rfl ?_); (first | refine yn 12 rfl ?_ | refine ynt 12 rfl ?_ | refine ynff 12 rfl ?_)
        refine wy_done (by kernel_rfl) (fun w hc => ?_)
        have hM := hM.call hc
        rw [e1] at hM
        rw [e1]
        repeat (first | ((with_reducible apply is_ld); first | refine kld hM ?_ | refine kldw hM ?_ | refine kle hM ?_ | refine klew hM ?_ | refine kldh hM ?_ | refine kld hM ?_ (hv := by first | exact hs_get _ _ _ | exact hs_get1 _ _ _ _)) | ((with_reducible apply is_sto); first | (refine kst hM ?_; intro w hM) | (refine kstw hM ?_; intro w hM)) | ((with_reducible apply is_st); refine su ?_) | ((with_reducible apply is_gd); first | refine gt ?_ | refine gf ?_ | refine gu ?_) | ((with_reducible apply is_en); refine en ?_) | (with_reducible apply c_region) | refine ws ?_ | refine x_block_other (by decide) ?_)
        refine c_ordY ([], []) [] (by kernel_rfl) (by kernel_rfl) (by kernel_rfl) (fun w hc hs => ?_)
        have hM := hM.call hc
        have hl3 := Blk.lt (hM.blk (b := b3) (by (repeat constructor)))
        have hlp := Blk.lt (hM.blk (b := b5) (by (repeat constructor)))
        have hl7 := Blk.lt (hM.blk (b := b7) (by (repeat constructor)))
        refine ynlr 0 rfl (hM.blk (b := b7) (by (repeat constructor))) (by omega) (by simp) rfl (ds := r1.1.map u8v) (hs_take r1) (by simp) ?_
        refine ynlr 1 rfl (hM.blk (b := b3) (by (repeat constructor))) (by omega) (by simp) rfl (ds := k.1.map u8v) (hs_take k) (by simp) ?_
        refine ynlr 2 rfl (hM.blk (b := b5) (by (repeat constructor))) (by omega) (by simp) rfl (ds := pC (.slice A2 s2.length c2) f2 k2 v2) (List.take_of_length_le (by rw [List.drop_zero, pC_len]; omega)) (pC_len _ _ _ _) ?_
        refine wy_cont (X := Value × Nat) (fun x N w => N ≤ x.2 ∧ Mem [] w0 w [.cell x.2 (zeroH.1.map u8v) 31, .cell b14 ((valP k f1 k1 v1).1.1.map u8v) 31, .cell b9 (r1.1.map u8v) 31, .cell b7 (r1.1.map u8v) 31, .cell b5 (pC (.slice A2 s2.length c2) f2 k2 v2) 41, .cell b4 (pC (.slice A1 s1.length c1) f1 k1 v1) 41, .cell b3 (k.1.map u8v) 31])
          (fun x l => ((((((l.set 93 (.agg (pC x.1 f2 k2 v2).toArray)).set 94 (.tuple #[hv (chkP r1 k s2 f2 k2 v2).1.1, .bool (chkP r1 k s2 f2 k2 v2).2.1, .bool (chkP r1 k s2 f2 k2 v2).2.2])).set 89 (.tuple #[hv (chkP r1 k s2 f2 k2 v2).1.1, .bool (chkP r1 k s2 f2 k2 v2).2.1, .bool (chkP r1 k s2 f2 k2 v2).2.2])).set 95 (hv (chkP r1 k s2 f2 k2 v2).1.1)).set 96 (.bool (chkP r1 k s2 f2 k2 v2).2.1)).set 97 (.bool (chkP r1 k s2 f2 k2 v2).2.2)).set 17 (.pointer (some ⟨x.2, 0, none⟩))) #[true, true, true, true, true, true, true, true, true, true, false, false, false] (fuel := 3) (fun hk => ?_) ?_
        · skip
          refine yk2 3 9 hM (by kernel_rfl) rfl rfl (fun w h0 hM => ?_) (fun w h0 hM => ?_)
          · skip
            refine ca (plain_any (.slice A2 s2.length c2) f2 k2 v2 s2 w (hR2.ch hM.ch) (by omega)) ?_
            rintro _ w4 ⟨u1, rfl, hN4⟩
            have hc := hN4.ch
            have hM := hM.join hN4 (by simp [As.plain])
            simp only [List.cons_append, List.nil_append] at hM
            refine x_wy (.inl (hc.gy h0)) rfl ?_
            refine yk2 4 9 hM (by kernel_rfl) rfl rfl (fun w h0 hM => ?_) (fun w h0 hM => ?_)
            · skip
              have hcl := rcheck12_any r1 k u1 f2 k2 v2 s2 w trivial (hM.rowRdO (en := eSt) (v := u1) (by (repeat constructor)))
              unfold chkT at hcl
              refine ca hcl ?_
              rintro _ w5 ⟨rfl, hc⟩
              have hM := hM.call hc
              refine x_wy (.inl (hc.gy h0)) rfl ?_
              (first | refine yn 5 rfl ?_ | refine ynt 5 rfl ?_ | refine ynff 5 rfl ?_)
              (first | refine yn 6 rfl ?_ | refine ynt 6 rfl ?_ | refine ynff 6 rfl ?_)
              (first | refine yn 7 rfl ?_ | refine ynt 7 rfl ?_ | refine ynff 7 rfl ?_)
              (first | refine yn 8 rfl ?_ | refine ynt 8 rfl ?_ | refine ynff 8 rfl ?_)
              refine yk1 9 hM (by kernel_rfl) rfl (fun w h0 hM => ?_)
              refine kalN hM (fun w bb hbb hc hM => ?_)
              have hbb := Nat.le_trans h0 hbb
              refine x_wy (.inl (hc.gy h0)) rfl ?_
              exact hk (u1, bb) _ _ _ (by kernel_rfl) rfl ⟨hbb, hM.sub (by (repeat constructor))⟩
            · skip
              refine kalN hM (fun w bb hbb hc hM => ?_)
              have hbb := Nat.le_trans h0 hbb
              refine x_wy (.inl (hc.gy h0)) rfl ?_
              refine yk1 4 hM (by kernel_rfl) rfl (fun w h0 hM => ?_)
              have hcl := rcheck12_any r1 k u1 f2 k2 v2 s2 w trivial (hM.rowRdO (en := eSt) (v := u1) (by (repeat constructor)))
              unfold chkT at hcl
              refine ca hcl ?_
              rintro _ w5 ⟨rfl, hc⟩
              have hM := hM.call hc
              refine x_wy (.inl (hc.gy h0)) rfl ?_
              (first | refine yn 5 rfl ?_ | refine ynt 5 rfl ?_ | refine ynff 5 rfl ?_)
              (first | refine yn 6 rfl ?_ | refine ynt 6 rfl ?_ | refine ynff 6 rfl ?_)
              (first | refine yn 7 rfl ?_ | refine ynt 7 rfl ?_ | refine ynff 7 rfl ?_)
              (first | refine yn 8 rfl ?_ | refine ynt 8 rfl ?_ | refine ynff 8 rfl ?_)
              exact hk (u1, bb) _ _ _ (by kernel_rfl) rfl ⟨hbb, hM.sub (by (repeat constructor))⟩
          · skip
            refine kalN hM (fun w bb hbb hc hM => ?_)
            have hbb := Nat.le_trans h0 hbb
            refine x_wy (.inl (hc.gy h0)) rfl ?_
            refine yk1 3 hM (by kernel_rfl) rfl (fun w h0 hM => ?_)
            refine ca (plain_any (.slice A2 s2.length c2) f2 k2 v2 s2 w (hR2.ch hM.ch) (by omega)) ?_
            rintro _ w4 ⟨u1, rfl, hN4⟩
            have hc := hN4.ch
            have hM := hM.join hN4 (by simp [As.plain])
            simp only [List.cons_append, List.nil_append] at hM
            refine x_wy (.inl (hc.gy h0)) rfl ?_
            refine yk1 4 hM (by kernel_rfl) rfl (fun w h0 hM => ?_)
            have hcl := rcheck12_any r1 k u1 f2 k2 v2 s2 w trivial (hM.rowRdO (en := eSt) (v := u1) (by (repeat constructor)))
            unfold chkT at hcl
            refine ca hcl ?_
            rintro _ w5 ⟨rfl, hc⟩
            have hM := hM.call hc
            refine x_wy (.inl (hc.gy h0)) rfl ?_
            (first | refine yn 5 rfl ?_ | refine ynt 5 rfl ?_ | refine ynff 5 rfl ?_)
            (first | refine yn 6 rfl ?_ | refine ynt 6 rfl ?_ | refine ynff 6 rfl ?_)
            (first | refine yn 7 rfl ?_ | refine ynt 7 rfl ?_ | refine ynff 7 rfl ?_)
            (first | refine yn 8 rfl ?_ | refine ynt 8 rfl ?_ | refine ynff 8 rfl ?_)
            exact hk (u1, bb) _ _ _ (by kernel_rfl) rfl ⟨hbb, hM.sub (by (repeat constructor))⟩
        clear hM
        rintro ⟨u1, b17⟩ w ⟨hbb, hM⟩
        simp only at hbb hM
        refine wy_nf ?_
        refine yst (n := 32) (vs := (chkP r1 k s2 f2 k2 v2).1.1.map u8v) 10 (by kernel_rfl) rfl (hM.blk (b := b17) (by (repeat constructor))) (.inl hbb) rfl rfl (by simp) (by simp) one_u8 (fun w hB hc => ?_)
        have hM := hM.cellSet hB hc
        (first | refine yn 11 rfl ?_ | refine ynt 11 rfl ?_ | refine ynff 11 rfl ?_); (first | refine yn 12 rfl ?_ | refine ynt 12 rfl ?_ | refine ynff 12 rfl ?_)
        refine wy_done (by kernel_rfl) (fun w hc => ?_)
        have hM := hM.call hc
        rw [e2] at hM
        rw [e2]
        repeat (first | ((with_reducible apply is_ld); first | refine kld hM ?_ | refine kldw hM ?_ | refine kle hM ?_ | refine klew hM ?_ | refine kldh hM ?_ | refine kld hM ?_ (hv := by first | exact hs_get _ _ _ | exact hs_get1 _ _ _ _)) | ((with_reducible apply is_sto); first | (refine kst hM ?_; intro w hM) | (refine kstw hM ?_; intro w hM)) | ((with_reducible apply is_st); refine su ?_) | ((with_reducible apply is_gd); first | refine gt ?_ | refine gf ?_ | refine gu ?_) | ((with_reducible apply is_en); refine en ?_) | (with_reducible apply c_region) | refine ws ?_ | refine x_block_other (by decide) ?_)
        generalize valP k f1 k1 v1 = V1 at hM ⊢
        generalize valP k f2 k2 v2 = V2 at hM ⊢
        obtain ⟨a1, t1⟩ := V1
        obtain ⟨a2, t2⟩ := V2
        repeat (first | ((with_reducible apply is_ld); first | refine kld hM ?_ | refine kldw hM ?_ | refine kle hM ?_ | refine klew hM ?_ | refine kldh hM ?_ | refine kld hM ?_ (hv := by first | exact hs_get _ _ _ | exact hs_get1 _ _ _ _)) | ((with_reducible apply is_sto); first | (refine kst hM ?_; intro w hM) | (refine kstw hM ?_; intro w hM)) | ((with_reducible apply is_st); refine su ?_) | ((with_reducible apply is_gd); first | refine gt ?_ | refine gf ?_ | refine gu ?_) | ((with_reducible apply is_en); refine en ?_) | (with_reducible apply c_region) | refine ws ?_ | refine x_block_other (by decide) ?_)
        (try ((with_reducible apply is_gd); first | refine gt ?_ | refine gf ?_ | refine gu ?_)); refine wl_val (r_eql8 (a := a1.1) (b := a2.1) (by kernel_rfl) rfl rfl a1.2 a2.2) ?_
        by_cases hab : a1.1 = a2.1
        · rw [decide_eq_true hab]
          repeat (first | ((with_reducible apply is_ld); first | refine kld hM ?_ | refine kldw hM ?_ | refine kle hM ?_ | refine klew hM ?_ | refine kldh hM ?_ | refine kld hM ?_ (hv := by first | exact hs_get _ _ _ | exact hs_get1 _ _ _ _)) | ((with_reducible apply is_sto); first | (refine kst hM ?_; intro w hM) | (refine kstw hM ?_; intro w hM)) | ((with_reducible apply is_st); refine su ?_) | ((with_reducible apply is_gd); first | refine gt ?_ | refine gf ?_ | refine gu ?_) | ((with_reducible apply is_en); refine en ?_) | (with_reducible apply c_region) | refine ws ?_ | refine x_block_other (by decide) ?_)
          (try ((with_reducible apply is_gd); first | refine gt ?_ | refine gf ?_ | refine gu ?_)); refine wl_val (r_eqbb rfl rfl) ?_
          cases hb : (t1 == t2)
          · skip
            repeat (first | ((with_reducible apply is_ld); first | refine kld hM ?_ | refine kldw hM ?_ | refine kle hM ?_ | refine klew hM ?_ | refine kldh hM ?_ | refine kld hM ?_ (hv := by first | exact hs_get _ _ _ | exact hs_get1 _ _ _ _)) | ((with_reducible apply is_sto); first | (refine kst hM ?_; intro w hM) | (refine kstw hM ?_; intro w hM)) | ((with_reducible apply is_st); refine su ?_) | ((with_reducible apply is_gd); first | refine gt ?_ | refine gf ?_ | refine gu ?_) | ((with_reducible apply is_en); refine en ?_) | (with_reducible apply c_region) | refine ws ?_ | refine x_block_other (by decide) ?_)
            (try ((with_reducible apply is_gd); first | refine gt ?_ | refine gf ?_ | refine gu ?_)); refine kca hM (lives20_any _ (out_ hM)) (fun w hM => ?_)
            repeat (first | ((with_reducible apply is_ld); first | refine kld hM ?_ | refine kldw hM ?_ | refine kle hM ?_ | refine klew hM ?_ | refine kldh hM ?_ | refine kld hM ?_ (hv := by first | exact hs_get _ _ _ | exact hs_get1 _ _ _ _)) | ((with_reducible apply is_sto); first | (refine kst hM ?_; intro w hM) | (refine kstw hM ?_; intro w hM)) | ((with_reducible apply is_st); refine su ?_) | ((with_reducible apply is_gd); first | refine gt ?_ | refine gf ?_ | refine gu ?_) | ((with_reducible apply is_en); refine en ?_) | (with_reducible apply c_region) | refine ws ?_ | refine x_block_other (by decide) ?_)
            exact out1 rfl ⟨rfl, hM.ch⟩
          · skip
            repeat (first | ((with_reducible apply is_ld); first | refine kld hM ?_ | refine kldw hM ?_ | refine kle hM ?_ | refine klew hM ?_ | refine kldh hM ?_ | refine kld hM ?_ (hv := by first | exact hs_get _ _ _ | exact hs_get1 _ _ _ _)) | ((with_reducible apply is_sto); first | (refine kst hM ?_; intro w hM) | (refine kstw hM ?_; intro w hM)) | ((with_reducible apply is_st); refine su ?_) | ((with_reducible apply is_gd); first | refine gt ?_ | refine gf ?_ | refine gu ?_) | ((with_reducible apply is_en); refine en ?_) | (with_reducible apply c_region) | refine ws ?_ | refine x_block_other (by decide) ?_)
            (try ((with_reducible apply is_gd); first | refine gt ?_ | refine gf ?_ | refine gu ?_)); refine kca hM (lives20_any _ (out_ hM)) (fun w hM => ?_)
            repeat (first | ((with_reducible apply is_ld); first | refine kld hM ?_ | refine kldw hM ?_ | refine kle hM ?_ | refine klew hM ?_ | refine kldh hM ?_ | refine kld hM ?_ (hv := by first | exact hs_get _ _ _ | exact hs_get1 _ _ _ _)) | ((with_reducible apply is_sto); first | (refine kst hM ?_; intro w hM) | (refine kstw hM ?_; intro w hM)) | ((with_reducible apply is_st); refine su ?_) | ((with_reducible apply is_gd); first | refine gt ?_ | refine gf ?_ | refine gu ?_) | ((with_reducible apply is_en); refine en ?_) | (with_reducible apply c_region) | refine ws ?_ | refine x_block_other (by decide) ?_)
            exact out1 rfl ⟨rfl, hM.ch⟩
        · rw [decide_eq_false hab]
          repeat (first | ((with_reducible apply is_ld); first | refine kld hM ?_ | refine kldw hM ?_ | refine kle hM ?_ | refine klew hM ?_ | refine kldh hM ?_ | refine kld hM ?_ (hv := by first | exact hs_get _ _ _ | exact hs_get1 _ _ _ _)) | ((with_reducible apply is_sto); first | (refine kst hM ?_; intro w hM) | (refine kstw hM ?_; intro w hM)) | ((with_reducible apply is_st); refine su ?_) | ((with_reducible apply is_gd); first | refine gt ?_ | refine gf ?_ | refine gu ?_) | ((with_reducible apply is_en); refine en ?_) | (with_reducible apply c_region) | refine ws ?_ | refine x_block_other (by decide) ?_)
          (try ((with_reducible apply is_gd); first | refine gt ?_ | refine gf ?_ | refine gu ?_)); refine kca hM (lives20_any _ (out_ hM)) (fun w hM => ?_)
          repeat (first | ((with_reducible apply is_ld); first | refine kld hM ?_ | refine kldw hM ?_ | refine kle hM ?_ | refine klew hM ?_ | refine kldh hM ?_ | refine kld hM ?_ (hv := by first | exact hs_get _ _ _ | exact hs_get1 _ _ _ _)) | ((with_reducible apply is_sto); first | (refine kst hM ?_; intro w hM) | (refine kstw hM ?_; intro w hM)) | ((with_reducible apply is_st); refine su ?_) | ((with_reducible apply is_gd); first | refine gt ?_ | refine gf ?_ | refine gu ?_) | ((with_reducible apply is_en); refine en ?_) | (with_reducible apply c_region) | refine ws ?_ | refine x_block_other (by decide) ?_)
          exact out1 rfl ⟨rfl, hM.ch⟩

/- Walks of law 17: the document's examples; what is looked at; the law ReceiptChecks, the law ReceiptLies. -/
import Derived.Test.YtkpkfplcoakfcaaDoorRcp1
import Derived.Test.YtkpkfplcoakfcaaDoorRec6
set_option linter.unusedVariables false
set_option linter.unusedSimpArgs false
namespace Go.Proofs.YtkpkfplcoakfcaaDoor
open Go Go.RowKit Go.Proofs.E
attribute [local irreducible] Go.wpList Go.Code.wp Go.Proofs.E.exec Go.Proofs.E.wpLexG
def lifeW17 : List Pr := [([97], [49], false)]
theorem life17_good : recGood 1 0 false [] lifeW17 = true := by decide +kernel
theorem climb_one (h : Hs) : climbZ 1 0 h [] = (h, true) := by
  unfold climbZ
  have h1 : turnsN (1 : Int).toNat (0 : Int).toNat = [] := turns_one (by decide)
  rw [h1, if_pos ⟨by decide, rfl⟩]
  rfl
set_option maxHeartbeats 4000000 in
theorem wrote_any (w0 : World) : Calls Tryd.prog 32 #[.string (bst [97]), .string (bst [49])] w0 (Ret fun u w' => ∃ b, u = .agg (rC 1 0 false (.slice none 0 0) (.slice (some ⟨b, 0, none⟩) 1 1)).toArray ∧ Mem [] w0 w' [.row ePr 74 (.slice (some ⟨b, 0, none⟩) 1 1) lifeW17]) := by
  have hM := Mem.start w0
  refine enter [.string (bst [97]), .string (bst [49]), undef, undef, undef, undef, undef, undef, undef, undef] Tryd.func32 rfl rfl ?_
  repeat (first | ((with_reducible apply is_ld); first | refine kld hM ?_ | refine kldw hM ?_ | refine kle hM ?_ | refine klew hM ?_) | ((with_reducible apply is_sto); first | (refine kst hM ?_; intro w hM) | (refine kstw hM ?_; intro w hM)) | ((with_reducible apply is_st); refine su ?_) | ((with_reducible apply is_gd); first | refine gt ?_ | refine gf ?_ | refine gu ?_) | ((with_reducible apply is_en); refine en ?_) | (with_reducible apply c_region) | refine ws ?_ | refine x_block_other (by decide) ?_)
  refine kal hM (fun w b4 hM => ?_)
  have hM : Mem [] w0 w [.cell b4 (rC 0 0 false (.slice none 0 0) (.slice none 0 0)) 25] := hM
  repeat (first | ((with_reducible apply is_ld); first | refine kld hM ?_ | refine kldw hM ?_ | refine kle hM ?_ | refine klew hM ?_) | ((with_reducible apply is_sto); first | (refine kst hM ?_; intro w hM) | (refine kstw hM ?_; intro w hM)) | ((with_reducible apply is_st); refine su ?_) | ((with_reducible apply is_gd); first | refine gt ?_ | refine gf ?_ | refine gu ?_) | ((with_reducible apply is_en); refine en ?_) | (with_reducible apply c_region) | refine ws ?_ | refine x_block_other (by decide) ?_)
  (try ((with_reducible apply is_gd); first | refine gt ?_ | refine gf ?_ | refine gu ?_)); refine wl_val (r_bldS (vs := [(0, .string (bst [97])), (1, .string (bst [49]))]) (ePr.f ([97], [49], false)) (z := [.string (bst []), .string (bst []), .bool false]) (place := (#[(0, 1), (1, 1), (2, 1)][·]?)) (by intro ps; kernel_rfl) rfl (.cons rfl rfl (by simp) (.cons rfl rfl (by simp [spl, Value.cells]) (.nil rfl)))) ?_
  refine kbs (en := ePr) (vs := [.agg (ePr.f ([97], [49], false)).toArray]) lifeW17 hM (fun w b hM => ?_)
  repeat (first | ((with_reducible apply is_ld); first | refine kld hM ?_ | refine kldw hM ?_ | refine kle hM ?_ | refine klew hM ?_) | ((with_reducible apply is_sto); first | (refine kst hM ?_; intro w hM) | (refine kstw hM ?_; intro w hM)) | ((with_reducible apply is_st); refine su ?_) | ((with_reducible apply is_gd); first | refine gt ?_ | refine gf ?_ | refine gu ?_) | ((with_reducible apply is_en); refine en ?_) | (with_reducible apply c_region) | refine ws ?_ | refine x_block_other (by decide) ?_)
  (try ((with_reducible apply is_gd); first | refine gt ?_ | refine gf ?_ | refine gu ?_)); refine wl_val (r_bldS (vs := [(0, .int .i64 1), (4, .slice (some ⟨b, 0, none⟩) 1 1)]) (rC 1 0 false (.slice none 0 0) (.slice (some ⟨b, 0, none⟩) 1 1)) (z := rC 0 0 false (.slice none 0 0) (.slice none 0 0)) (place := (#[(0, 1), (1, 1), (2, 1), (3, 1), (4, 1)][·]?)) (by intro ps; kernel_rfl) rfl (.cons rfl rfl (by simp) (.cons rfl rfl (by simp [spl, Value.cells]) (.nil rfl)))) ?_
  refine kstw (vs := rC 1 0 false (.slice none 0 0) (.slice (some ⟨b, 0, none⟩) 1 1)) hM (fun w hM => ?_)
  repeat (first | ((with_reducible apply is_ld); first | refine kld hM ?_ | refine kldw hM ?_ | refine kle hM ?_ | refine klew hM ?_) | ((with_reducible apply is_sto); first | (refine kst hM ?_; intro w hM) | (refine kstw hM ?_; intro w hM)) | ((with_reducible apply is_st); refine su ?_) | ((with_reducible apply is_gd); first | refine gt ?_ | refine gf ?_ | refine gu ?_) | ((with_reducible apply is_en); refine en ?_) | (with_reducible apply c_region) | refine ws ?_ | refine x_block_other (by decide) ?_)
  exact koc hM rfl ⟨b, rfl, hM.sub (by (repeat constructor))⟩
theorem tC_one {a ses snap : Int} {strict : Bool} {vr vw vp : Value} {size : Int} {lg mp : Hs} (h1 : vr.oneCell' = true) (h2 : vw.oneCell' = true) (h3 : vp.oneCell' = true) : ∀ u ∈ tC a ses snap strict vr vw vp size lg mp, u.oneCell' = true := by
  intro u hu
  simp only [tC, List.mem_cons, List.mem_append] at hu
  rcases hu with rfl | rfl | rfl | rfl | rfl | rfl | rfl | rfl | hu | hu
  · rfl
  · rfl
  · rfl
  · rfl
  · exact h1
  · exact h2
  · exact h3
  · rfl
  · exact one_u8 u hu
  · exact one_u8 u hu
theorem tC_setlog (a ses snap : Int) (strict : Bool) (vr vw vp : Value) (size : Int) (lg mp l2 : Hs) : spl (tC a ses snap strict vr vw vp size lg mp) 8 (l2.1.map u8v) = tC a ses snap strict vr vw vp size l2 mp := by
  unfold spl
  rw [h32]
  show [.int .i64 a, .int .i64 ses, .int .i64 snap, .bool strict, vr, vw, vp, .int .i64 size] ++ _ ++ ((lg.1.map u8v ++ mp.1.map u8v).drop 32) = _
  rw [List.drop_left' (h32 lg)]
  simp [tC]
def plT : Nat → Option (Nat × Nat) := (#[(0, 1), (1, 5), (6, 1), (7, 65)][·]?)
theorem fl_life (b : Nat) : Fl plT (tC 0 0 0 false (.slice none 0 0) (.slice none 0 0) (.slice none 0 0) 0 zeroH zeroH) [(1, .agg (rC 1 0 false (.slice none 0 0) (.slice (some ⟨b, 0, none⟩) 1 1)).toArray), (3, .agg (dC 1 zeroH zeroH).toArray)]
    (tC 0 1 0 false (.slice none 0 0) (.slice (some ⟨b, 0, none⟩) 1 1) (.slice none 0 0) 1 zeroH zeroH) :=
  .cons rfl rfl (by decide) (.cons rfl rfl (Nat.le_of_ble_eq_true rfl) (.nil rfl))
set_option maxHeartbeats 8000000 in
theorem lives17_any (w0 : World) (hK : Laid w0) : Calls Tryd.prog 10 #[] w0 (Ret fun u w' => u = .bool true ∧ Ch [] w0 w') := by
  have hM := Mem.start w0
  refine enter [undef, undef, undef, undef, undef, undef, undef, undef, undef, undef, undef, undef] Tryd.func10 rfl rfl ?_
  repeat (first | ((with_reducible apply is_ld); first | refine kld hM ?_ | refine klrec hM ?_ | refine kllog hM ?_ | refine klmap hM ?_ | refine kldlog hM ?_ | refine kldw hM ?_ (hn := tC_len _ _ _ _ _ _ _ _ _ _) | refine kldw hM ?_ (hn := dC_len _ _ _) | refine kldw hM ?_ | refine kle hM ?_ | refine klew hM ?_) | ((with_reducible apply is_sto); first | (refine kst hM ?_; intro w hM) | (refine kstw hM ?_; intro w hM)) | ((with_reducible apply is_st); refine su ?_) | ((with_reducible apply is_gd); first | refine gt ?_ | refine gf ?_ | refine gu ?_) | ((with_reducible apply is_en); refine en ?_) | (with_reducible apply c_region) | refine ws ?_ | refine x_block_other (by decide) ?_)
  refine ca (wrote_any w0) ?_
  rintro _ w ⟨b, rfl, hN⟩
  have hM := hM.join hN (by intro a ha; simp at ha; subst ha; trivial)
  simp only [List.append_nil] at hM
  repeat (first | ((with_reducible apply is_ld); first | refine kld hM ?_ | refine klrec hM ?_ | refine kllog hM ?_ | refine klmap hM ?_ | refine kldlog hM ?_ | refine kldw hM ?_ (hn := tC_len _ _ _ _ _ _ _ _ _ _) | refine kldw hM ?_ (hn := dC_len _ _ _) | refine kldw hM ?_ | refine kle hM ?_ | refine klew hM ?_) | ((with_reducible apply is_sto); first | (refine kst hM ?_; intro w hM) | (refine kstw hM ?_; intro w hM)) | ((with_reducible apply is_st); refine su ?_) | ((with_reducible apply is_gd); first | refine gt ?_ | refine gf ?_ | refine gu ?_) | ((with_reducible apply is_en); refine en ?_) | (with_reducible apply c_region) | refine ws ?_ | refine x_block_other (by decide) ?_)
  (try ((with_reducible apply is_gd); first | refine gt ?_ | refine gf ?_ | refine gu ?_)); refine wl_val (r_bldS (vs := [(0, .int .i64 1)]) (dC 1 zeroH zeroH) (z := dC 0 zeroH zeroH) (place := (#[(0, 1), (1, 32), (33, 32)][·]?)) (by intro ps; kernel_rfl) rfl (.cons rfl rfl (by decide) (.nil rfl))) ?_
  (try ((with_reducible apply is_gd); first | refine gt ?_ | refine gf ?_ | refine gu ?_)); refine wl_val (r_bldS (vs := [(1, .agg (rC 1 0 false (.slice none 0 0) (.slice (some ⟨b, 0, none⟩) 1 1)).toArray), (3, .agg (dC 1 zeroH zeroH).toArray)]) (tC 0 1 0 false (.slice none 0 0) (.slice (some ⟨b, 0, none⟩) 1 1) (.slice none 0 0) 1 zeroH zeroH) (z := tC 0 0 0 false (.slice none 0 0) (.slice none 0 0) (.slice none 0 0) 0 zeroH zeroH) (place := plT) (by intro ps; kernel_rfl) rfl (fl_life b)) ?_
  refine kal hM (fun w b1 hM => ?_)
  have hM : Mem [] w0 w [.cell b1 (tC 0 0 0 false (.slice none 0 0) (.slice none 0 0) (.slice none 0 0) 0 zeroH zeroH) 32, .row ePr 74 (.slice (some ⟨b, 0, none⟩) 1 1) lifeW17] := hM
  refine kstw (vs := tC 0 1 0 false (.slice none 0 0) (.slice (some ⟨b, 0, none⟩) 1 1) (.slice none 0 0) 1 zeroH zeroH) hM (fun w hM => ?_) (hln := tC_len _ _ _ _ _ _ _ _ _ _) (hf := tC_len _ _ _ _ _ _ _ _ _ _) (h1 := tC_one rfl rfl rfl)
  repeat (first | ((with_reducible apply is_ld); first | refine kld hM ?_ | refine klrec hM ?_ | refine kllog hM ?_ | refine klmap hM ?_ | refine kldlog hM ?_ | refine kldw hM ?_ (hn := tC_len _ _ _ _ _ _ _ _ _ _) | refine kldw hM ?_ (hn := dC_len _ _ _) | refine kldw hM ?_ | refine kle hM ?_ | refine klew hM ?_) | ((with_reducible apply is_sto); first | (refine kst hM ?_; intro w hM) | (refine kstw hM ?_; intro w hM)) | ((with_reducible apply is_st); refine su ?_) | ((with_reducible apply is_gd); first | refine gt ?_ | refine gf ?_ | refine gu ?_) | ((with_reducible apply is_en); refine en ?_) | (with_reducible apply c_region) | refine ws ?_ | refine x_block_other (by decide) ?_)
  have hrm : ∀ {w}, Mem [] w0 w [.cell b1 (tC 0 1 0 false (.slice none 0 0) (.slice (some ⟨b, 0, none⟩) 1 1) (.slice none 0 0) 1 zeroH zeroH) 32, .row ePr 74 (.slice (some ⟨b, 0, none⟩) 1 1) lifeW17] → RecM w (.slice none 0 0) (.slice (some ⟨b, 0, none⟩) 1 1) [] lifeW17 := fun hM => ⟨Ty.Rd.nil _ _ _ _ _, (by simp), hM.rowRdO (en := ePr) (v := .slice (some ⟨b, 0, none⟩) 1 1) (xs := lifeW17) (by (repeat constructor))⟩
  have hsh : ShortL lifeW17 := by intro p hp; simp [lifeW17] at hp; subst hp; exact ⟨by decide, by decide⟩
  have hsr : ShortR [] := by intro u hu; cases hu
  refine kca hM (rrecLeaf_any 1 0 false _ _ [] lifeW17 _ trivial (hrm hM) hsr hsh) (fun w hM => ?_)
  obtain ⟨lf, hlf⟩ : ∃ lf, lf = leafHs (bytesB 1 0 false [] lifeW17) := ⟨_, rfl⟩
  rw [show leafOf (bytesB 1 0 false [] lifeW17) = lf.1 by rw [hlf]; rfl]
  repeat (first | ((with_reducible apply is_ld); first | refine kld hM ?_ | refine klrec hM ?_ | refine kllog hM ?_ | refine klmap hM ?_ | refine kldlog hM ?_ | refine kldw hM ?_ (hn := tC_len _ _ _ _ _ _ _ _ _ _) | refine kldw hM ?_ (hn := dC_len _ _ _) | refine kldw hM ?_ | refine kle hM ?_ | refine klew hM ?_) | ((with_reducible apply is_sto); first | (refine kst hM ?_; intro w hM) | (refine kstw hM ?_; intro w hM)) | ((with_reducible apply is_st); refine su ?_) | ((with_reducible apply is_gd); first | refine gt ?_ | refine gf ?_ | refine gu ?_) | ((with_reducible apply is_en); refine en ?_) | (with_reducible apply c_region) | refine ws ?_ | refine x_block_other (by decide) ?_)
  refine kstp (vs := lf.1.map u8v) hM (fun w hM => ?_) (tC_setlog 0 1 0 false (.slice none 0 0) (.slice (some ⟨b, 0, none⟩) 1 1) (.slice none 0 0) 1 zeroH zeroH lf) (hln := h32 lf) (hf := by rw [tC_len]; omega)
  repeat (first | ((with_reducible apply is_ld); first | refine kld hM ?_ | refine klrec hM ?_ | refine kllog hM ?_ | refine klmap hM ?_ | refine kldlog hM ?_ | refine kldw hM ?_ (hn := tC_len _ _ _ _ _ _ _ _ _ _) | refine kldw hM ?_ (hn := dC_len _ _ _) | refine kldw hM ?_ | refine kle hM ?_ | refine klew hM ?_) | ((with_reducible apply is_sto); first | (refine kst hM ?_; intro w hM) | (refine kstw hM ?_; intro w hM)) | ((with_reducible apply is_st); refine su ?_) | ((with_reducible apply is_gd); first | refine gt ?_ | refine gf ?_ | refine gu ?_) | ((with_reducible apply is_en); refine en ?_) | (with_reducible apply c_region) | refine ws ?_ | refine x_block_other (by decide) ?_)
  have hrt : RctM w (.slice none 0 0) (.slice (some ⟨b, 0, none⟩) 1 1) (.slice none 0 0) [] lifeW17 [] := ⟨⟨Ty.Rd.nil _ _ _ _ _, (by simp), hM.rowRdO (en := ePr) (v := .slice (some ⟨b, 0, none⟩) 1 1) (xs := lifeW17) (by (repeat constructor))⟩, Ty.Rd.nil _ _ _ _ _⟩
  refine kca hM (tcheck_any 0 1 0 false _ _ _ 1 lf zeroH [] lifeW17 [] _ (hK.ch hM.ch (by simp)) hrt hsr hsh) (fun w hM => ?_)
  rw [show check17 0 1 0 lf [] (recGood 1 0 false [] lifeW17) (leafHs (bytesB 1 0 false [] lifeW17)) = true by
    rw [← hlf, life17_good]
    unfold check17 checkZ
    rw [climb_one]
    simp [good17]]
  repeat (first | ((with_reducible apply is_ld); first | refine kld hM ?_ | refine klrec hM ?_ | refine kllog hM ?_ | refine klmap hM ?_ | refine kldlog hM ?_ | refine kldw hM ?_ (hn := tC_len _ _ _ _ _ _ _ _ _ _) | refine kldw hM ?_ (hn := dC_len _ _ _) | refine kldw hM ?_ | refine kle hM ?_ | refine klew hM ?_) | ((with_reducible apply is_sto); first | (refine kst hM ?_; intro w hM) | (refine kstw hM ?_; intro w hM)) | ((with_reducible apply is_st); refine su ?_) | ((with_reducible apply is_gd); first | refine gt ?_ | refine gf ?_ | refine gu ?_) | ((with_reducible apply is_en); refine en ?_) | (with_reducible apply c_region) | refine ws ?_ | refine x_block_other (by decide) ?_)
  exact out1 rfl ⟨rfl, hM.ch⟩
end Go.Proofs.YtkpkfplcoakfcaaDoor

/- Walks of law 17: the document's examples; what is looked at; the law ReceiptChecks, the law ReceiptLies. -/
import Derived.Test.YtkpkfplcoakfcaaDoorRcp1
import Derived.Test.YtkpkfplcoakfcaaDoorRec6
set_option linter.unusedVariables false
set_option linter.unusedSimpArgs false
namespace Go.Proofs.YtkpkfplcoakfcaaDoor
open Go Go.RowKit Go.Proofs.E
attribute [local irreducible] Go.wpList Go.Code.wp Go.Proofs.E.exec Go.Proofs.E.wpLexG
def lifeW17 : List Pr := [([97], [49], false)]
theorem life17_good : recGood 1 0 false [] lifeW17 = true := by decide +kernel
theorem climb_one (h : Hs) : climbZ 1 0 h [] = (h, true) := by
  unfold climbZ
  have h1 : turnsN (1 : Int).toNat (0 : Int).toNat = [] := turns_one (by decide)
  rw [h1, if_pos ⟨by decide, rfl⟩]
  rfl
set_option maxHeartbeats 4000000 in
theorem wrote_any (w0 : World) : Calls Tryd.prog 32 #[.string (bst [97]), .string (bst [49])] w0 (Ret fun u w' => ∃ b, u = .agg (rC 1 0 false (.slice none 0 0) (.slice (some ⟨b, 0, none⟩) 1 1)).toArray ∧ Mem [] w0 w' [.row ePr 74 (.slice (some ⟨b, 0, none⟩) 1 1) lifeW17]) := by
  have hM := Mem.start w0
  refine enter [.string (bst [97]), .string (bst [49]), undef, undef, undef, undef, undef, undef, undef, undef] Tryd.func32 rfl rfl ?_
  repeat (first | ((with_reducible apply is_ld); first | refine kld hM ?_ | refine kldw hM ?_ | refine kle hM ?_ | refine klew hM ?_) | ((with_reducible apply is_sto); first | (refine kst hM ?_; intro w hM) | (refine kstw hM ?_; intro w hM)) | ((with_reducible apply is_st); refine su ?_) | ((with_reducible apply is_gd); first | refine gt ?_ | refine gf ?_ | refine gu ?_) | ((with_reducible apply is_en); refine en ?_) | (with_reducible apply c_region) | refine ws ?_ | refine x_block_other (by decide) ?_)
  refine kal hM (fun w b4 hM => ?_)
  have hM : Mem [] w0 w [.cell b4 (rC 0 0 false (.slice none 0 0) (.slice none 0 0)) 25] := hM
  repeat (first | ((with_reducible apply is_ld); first | refine kld hM ?_ | refine kldw hM ?_ | refine kle hM ?_ | refine klew hM ?_) | ((with_reducible apply is_sto); first | (refine kst hM ?_; intro w hM) | (refine kstw hM ?_; intro w hM)) | ((with_reducible apply is_st); refine su ?_) | ((with_reducible apply is_gd); first | refine gt ?_ | refine gf ?_ | refine gu ?_) | ((with_reducible apply is_en); refine en ?_) | (with_reducible apply c_region) | refine ws ?_ | refine x_block_other (by decide) ?_)
  (try ((with_reducible apply is_gd); first | refine gt ?_ | refine gf ?_ | refine gu ?_)); refine wl_val (r_bldS (vs := [(0, .string (bst [97])), (1, .string (bst [49]))]) (ePr.f ([97], [49], false)) (z := [.string (bst []), .string (bst []), .bool false]) (place := (#[(0, 1), (1, 1), (2, 1)][·]?)) (by intro ps; kernel_rfl) rfl (.cons rfl rfl (by simp) (.cons rfl rfl (by simp [spl, Value.cells]) (.nil rfl)))) ?_
  refine kbs (en := ePr) (vs := [.agg (ePr.f ([97], [49], false)).toArray]) lifeW17 hM (fun w b hM => ?_)
  repeat (first | ((with_reducible apply is_ld); first | refine kld hM ?_ | refine kldw hM ?_ | refine kle hM ?_ | refine klew hM ?_) | ((with_reducible apply is_sto); first | (refine kst hM ?_; intro w hM) | (refine kstw hM ?_; intro w hM)) | ((with_reducible apply is_st); refine su ?_) | ((with_reducible apply is_gd); first | refine gt ?_ | refine gf ?_ | refine gu ?_) | ((with_reducible apply is_en); refine en ?_) | (with_reducible apply c_region) | refine ws ?_ | refine x_block_other (by decide) ?_)
  (try ((with_reducible apply is_gd); first | refine gt ?_ | refine gf ?_ | refine gu ?_)); refine wl_val (r_bldS (vs := [(0, .int .i64 1), (4, .slice (some ⟨b, 0, none⟩) 1 1)]) (rC 1 0 false (.slice none 0 0) (.slice (some ⟨b, 0, none⟩) 1 1)) (z := rC 0 0 false (.slice none 0 0) (.slice none 0 0)) (place := (#[(0, 1), (1, 1), (2, 1), (3, 1), (4, 1)][·]?)) (by intro ps; kernel_rfl) rfl (.cons rfl rfl (by simp) (.cons rfl rfl (by simp [spl, Value.cells]) (.nil rfl)))) ?_
  refine kstw (vs := rC 1 0 false (.slice none 0 0) (.slice (some ⟨b, 0, none⟩) 1 1)) hM (fun w hM => ?_)
  repeat (first | ((with_reducible apply is_ld); first | refine kld hM ?_ | refine kldw hM ?_ | refine kle hM ?_ | refine klew hM ?_) | ((with_reducible apply is_sto); first | (refine kst hM ?_; intro w hM) | (refine kstw hM ?_; intro w hM)) | ((with_reducible apply is_st); refine su ?_) | ((with_reducible apply is_gd); first | refine gt ?_ | refine gf ?_ | refine gu ?_) | ((with_reducible apply is_en); refine en ?_) | (with_reducible apply c_region) | refine ws ?_ | refine x_block_other (by decide) ?_)
  exact koc hM rfl ⟨b, rfl, hM.sub (by (repeat constructor))⟩
theorem tC_one {a ses snap : Int} {strict : Bool} {vr vw vp : Value} {size : Int} {lg mp : Hs} (h1 : vr.oneCell' = true) (h2 : vw.oneCell' = true) (h3 : vp.oneCell' = true) : ∀ u ∈ tC a ses snap strict vr vw vp size lg mp, u.oneCell' = true := by
  intro u hu
  simp only [tC, List.mem_cons, List.mem_append] at hu
  rcases hu with rfl | rfl | rfl | rfl | rfl | rfl | rfl | rfl | hu | hu
  · rfl
  · rfl
  · rfl
  · rfl
  · exact h1
  · exact h2
  · exact h3
  · rfl
  · exact one_u8 u hu
  · exact one_u8 u hu
theorem tC_setlog (a ses snap : Int) (strict : Bool) (vr vw vp : Value) (size : Int) (lg mp l2 : Hs) : spl (tC a ses snap strict vr vw vp size lg mp) 8 (l2.1.map u8v) = tC a ses snap strict vr vw vp size l2 mp := by
  unfold spl
  rw [h32]
  show [.int .i64 a, .int .i64 ses, .int .i64 snap, .bool strict, vr, vw, vp, .int .i64 size] ++ _ ++ ((lg.1.map u8v ++ mp.1.map u8v).drop 32) = _
  rw [List.drop_left' (h32 lg)]
  simp [tC]
def plT : Nat → Option (Nat × Nat) := (#[(0, 1), (1, 5), (6, 1), (7, 65)][·]?)
theorem fl_life (b : Nat) : Fl plT (tC 0 0 0 false (.slice none 0 0) (.slice none 0 0) (.slice none 0 0) 0 zeroH zeroH) [(1, .agg (rC 1 0 false (.slice none 0 0) (.slice (some ⟨b, 0, none⟩) 1 1)).toArray), (3, .agg (dC 1 zeroH zeroH).toArray)]
    (tC 0 1 0 false (.slice none 0 0) (.slice (some ⟨b, 0, none⟩) 1 1) (.slice none 0 0) 1 zeroH zeroH) :=
  .cons rfl rfl (by decide) (.cons rfl rfl (Nat.le_of_ble_eq_true rfl) (.nil rfl))
set_option maxHeartbeats 8000000 in
theorem lives17_any (w0 : World) (hK : Laid w0) : Calls Tryd.prog 10 #[] w0 (Ret fun u w' => u = .bool true ∧ Ch [] w0 w') := by
  have hM := Mem.start w0
  refine enter [undef, undef, undef, undef, undef, undef, undef, undef, undef, undef, undef, undef] Tryd.func10 rfl rfl ?_
  repeat (first | ((with_reducible apply is_ld); first | refine kld hM ?_ | refine klrec hM ?_ | refine kllog hM ?_ | refine klmap hM ?_ | refine kldlog hM ?_ | refine kldw hM ?_ (hn := tC_len _ _ _ _ _ _ _ _ _ _) | refine kldw hM ?_ (hn := dC_len _ _ _) | refine kldw hM ?_ | refine kle hM ?_ | refine klew hM ?_) | ((with_reducible apply is_sto); first | (refine kst hM ?_; intro w hM) | (refine kstw hM ?_; intro w hM)) | ((with_reducible apply is_st); refine su ?_) | ((with_reducible apply is_gd); first | refine gt ?_ | refine gf ?_ | refine gu ?_) | ((with_reducible apply is_en); refine en ?_) | (with_reducible apply c_region) | refine ws ?_ | refine x_block_other (by decide) ?_)
  refine ca (wrote_any w0) ?_
  rintro _ w ⟨b, rfl, hN⟩
  have hM := hM.join hN (by intro a ha; simp at ha; subst ha; trivial)
  simp only [List.append_nil] at hM
  repeat (first | ((with_reducible apply is_ld); first | refine kld hM ?_ | refine klrec hM ?_ | refine kllog hM ?_ | refine klmap hM ?_ | refine kldlog hM ?_ | refine kldw hM ?_ (hn := tC_len _ _ _ _ _ _ _ _ _ _) | refine kldw hM ?_ (hn := dC_len _ _ _) | refine kldw hM ?_ | refine kle hM ?_ | refine klew hM ?_) | ((with_reducible apply is_sto); first | (refine kst hM ?_; intro w hM) | (refine kstw hM ?_; intro w hM)) | ((with_reducible apply is_st); refine su ?_) | ((with_reducible apply is_gd); first | refine gt ?_ | refine gf ?_ | refine gu ?_) | ((with_reducible apply is_en); refine en ?_) | (with_reducible apply c_region) | refine ws ?_ | refine x_block_other (by decide) ?_)
  (try ((with_reducible apply is_gd); first | refine gt ?_ | refine gf ?_ | refine gu ?_)); refine wl_val (r_bldS (vs := [(0, .int .i64 1)]) (dC 1 zeroH zeroH) (z := dC 0 zeroH zeroH) (place := (#[(0, 1), (1, 32), (33, 32)][·]?)) (by intro ps; kernel_rfl) rfl (.cons rfl rfl (by decide) (.nil rfl))) ?_
  (try ((with_reducible apply is_gd); first | refine gt ?_ | refine gf ?_ | refine gu ?_)); refine wl_val (r_bldS (vs := [(1, .agg (rC 1 0 false (.slice none 0 0) (.slice (some ⟨b, 0, none⟩) 1 1)).toArray), (3, .agg (dC 1 zeroH zeroH).toArray)]) (tC 0 1 0 false (.slice none 0 0) (.slice (some ⟨b, 0, none⟩) 1 1) (.slice none 0 0) 1 zeroH zeroH) (z := tC 0 0 0 false (.slice none 0 0) (.slice none 0 0) (.slice none 0 0) 0 zeroH zeroH) (place := plT) (by intro ps; kernel_rfl) rfl (fl_life b)) ?_
  refine kal hM (fun w b1 hM => ?_)
  have hM : Mem [] w0 w [.cell b1 (tC 0 0 0 false (.slice none 0 0) (.slice none 0 0) (.slice none 0 0) 0 zeroH zeroH) 32, .row ePr 74 (.slice (some ⟨b, 0, none⟩) 1 1) lifeW17] := hM
  refine kstw (vs := tC 0 1 0 false (.slice none 0 0) (.slice (some ⟨b, 0, none⟩) 1 1) (.slice none 0 0) 1 zeroH zeroH) hM (fun w hM => ?_) (hln := tC_len _ _ _ _ _ _ _ _ _ _) (hf := tC_len _ _ _ _ _ _ _ _ _ _) (h1 := tC_one rfl rfl rfl)
  repeat (first | ((with_reducible apply is_ld); first | refine kld hM ?_ | refine klrec hM ?_ | refine kllog hM ?_ | refine klmap hM ?_ | refine kldlog hM ?_ | refine kldw hM ?_ (hn := tC_len _ _ _ _ _ _ _ _ _ _) | refine kldw hM ?_ (hn := dC_len _ _ _) | refine kldw hM ?_ | refine kle hM ?_ | refine klew hM ?_) | ((with_reducible apply is_sto); first | (refine kst hM ?_; intro w hM) | (refine kstw hM ?_; intro w hM)) | ((with_reducible apply is_st); refine su ?_) | ((with_reducible apply is_gd); first | refine gt ?_ | refine gf ?_ | refine gu ?_) | ((with_reducible apply is_en); refine en ?_) | (with_reducible apply c_region) | refine ws ?_ | refine x_block_other (by decide) ?_)
  have hrm : ∀ {w}, Mem [] w0 w [.cell b1 (tC 0 1 0 false (.slice none 0 0) (.slice (some ⟨b, 0, none⟩) 1 1) (.slice none 0 0) 1 zeroH zeroH) 32, .row ePr 74 (.slice (some ⟨b, 0, none⟩) 1 1) lifeW17] → RecM w (.slice none 0 0) (.slice (some ⟨b, 0, none⟩) 1 1) [] lifeW17 := fun hM => ⟨Ty.Rd.nil _ _ _ _ _, (by simp), hM.rowRdO (en := ePr) (v := .slice (some ⟨b, 0, none⟩) 1 1) (xs := lifeW17) (by (repeat constructor))⟩
  have hsh : ShortL lifeW17 := by intro p hp; simp [lifeW17] at hp; subst hp; exact ⟨by decide, by decide⟩
  have hsr : ShortR [] := by intro u hu; cases hu
  refine kca hM (rrecLeaf_any 1 0 false _ _ [] lifeW17 _ trivial (hrm hM) hsr hsh) (fun w hM => ?_)
  obtain ⟨lf, hlf⟩ : ∃ lf, lf = leafHs (bytesB 1 0 false [] lifeW17) := ⟨_, rfl⟩
  rw [show leafOf (bytesB 1 0 false [] lifeW17) = lf.1 by rw [hlf]; rfl]
  repeat (first | ((with_reducible apply is_ld); first | refine kld hM ?_ | refine klrec hM ?_ | refine kllog hM ?_ | refine klmap hM ?_ | refine kldlog hM ?_ | refine kldw hM ?_ (hn := tC_len _ _ _ _ _ _ _ _ _ _) | refine kldw hM ?_ (hn := dC_len _ _ _) | refine kldw hM ?_ | refine kle hM ?_ | refine klew hM ?_) | ((with_reducible apply is_sto); first | (refine kst hM ?_; intro w hM) | (refine kstw hM ?_; intro w hM)) | ((with_reducible apply is_st); refine su ?_) | ((with_reducible apply is_gd); first | refine gt ?_ | refine gf ?_ | refine gu ?_) | ((with_reducible apply is_en); refine en ?_) | (with_reducible apply c_region) | refine ws ?_ | refine x_block_other (by decide) ?_)
  refine kstp (vs := lf.1.map u8v) hM (fun w hM => ?_) (tC_setlog 0 1 0 false (.slice none 0 0) (.slice (some ⟨b, 0, none⟩) 1 1) (.slice none 0 0) 1 zeroH zeroH lf) (hln := h32 lf) (hf := by rw [tC_len]; omega)
  repeat (first | ((with_reducible apply is_ld); first | refine kld hM ?_ | refine klrec hM ?_ | refine kllog hM ?_ | refine klmap hM ?_ | refine kldlog hM ?_ | refine kldw hM ?_ (hn := tC_len _ _ _ _ _ _ _ _ _ _) | refine kldw hM ?_ (hn := dC_len _ _ _) | refine kldw hM ?_ | refine kle hM ?_ | refine klew hM ?_) | ((with_reducible apply is_sto); first | (refine kst hM ?_; intro w hM) | (refine kstw hM ?_; intro w hM)) | ((with_reducible apply is_st); refine su ?_) | ((with_reducible apply is_gd); first | refine gt ?_ | refine gf ?_ | refine gu ?_) | ((with_reducible apply is_en); refine en ?_) | (with_reducible apply c_region) | refine ws ?_ | refine x_block_other (by decide) ?_)
  have hrt : RctM w (.slice none 0 0) (.slice (some ⟨b, 0, none⟩) 1 1) (.slice none 0 0) [] lifeW17 [] := ⟨⟨Ty.Rd.nil _ _ _ _ _, (by simp), hM.rowRdO (en := ePr) (v := .slice (some ⟨b, 0, none⟩) 1 1) (xs := lifeW17) (by (repeat constructor))⟩, Ty.Rd.nil _ _ _ _ _⟩
  refine kca hM (tcheck_any 0 1 0 false _ _ _ 1 lf zeroH [] lifeW17 [] _ (hK.ch hM.ch (by simp)) hrt hsr hsh) (fun w hM => ?_)
  rw [show check17 0 1 0 lf [] (recGood 1 0 false [] lifeW17) (leafHs (bytesB 1 0 false [] lifeW17)) = true by
    rw [← hlf, life17_good]
    unfold check17 checkZ
    rw [climb_one]
    simp [good17]]
  repeat (first | ((with_reducible apply is_ld); first | refine kld hM ?_ | refine klrec hM ?_ | refine kllog hM ?_ | refine klmap hM ?_ | refine kldlog hM ?_ | refine kldw hM ?_ (hn := tC_len _ _ _ _ _ _ _ _ _ _) | refine kldw hM ?_ (hn := dC_len _ _ _) | refine kldw hM ?_ | refine kle hM ?_ | refine klew hM ?_) | ((with_reducible apply is_sto); first | (refine kst hM ?_; intro w hM) | (refine kstw hM ?_; intro w hM)) | ((with_reducible apply is_st); refine su ?_) | ((with_reducible apply is_gd); first | refine gt ?_ | refine gf ?_ | refine gu ?_) | ((with_reducible apply is_en); refine en ?_) | (with_reducible apply c_region) | refine ws ?_ | refine x_block_other (by decide) ?_)
  exact out1 rfl ⟨rfl, hM.ch⟩
set_option maxHeartbeats 4000000 in
theorem light17_any (a ses snap : Int) (strict : Bool) (vr vw vp : Value) (size : Int) (lg mp : Hs) (us : List (RR × List Pr)) (wz : List Pr) (path : List Hs) (w0 : World) (hA : RctM w0 vr vw vp us wz path) (hk : ShortR us) (hb : ShortL wz) :
    Calls Tryd.prog 8 #[.agg (tC a ses snap strict vr vw vp size lg mp).toArray] w0 (Ret fun u w' => (∃ v : Bool, u = .bool v ∧ (v = true → LightR us wz ∧ path.length ≤ 200)) ∧ Ch [] w0 w') := by
  have hM := Mem.start w0
  have hle := hA.p.le
  obtain ⟨A, c, rfl⟩ := hA.m.r.form
  obtain ⟨A2, c2, rfl⟩ := hA.m.w.form
  obtain ⟨A3, c3, rfl⟩ := hA.p.form
  refine enter [.agg (tC a ses snap strict (.slice A (us.map (fun u : RR × List Pr => u.1)).length c) (.slice A2 wz.length c2) (.slice A3 path.length c3) size lg mp).toArray, undef, undef, undef, undef, undef, undef, undef, undef, undef, undef, undef, undef] Tryd.func8 rfl rfl ?_
  repeat (first | ((with_reducible apply is_ld); first | refine kld hM ?_ | refine kldw hM ?_ | refine kle hM ?_ | refine klew hM ?_) | ((with_reducible apply is_sto); first | (refine kst hM ?_; intro w hM) | (refine kstw hM ?_; intro w hM)) | ((with_reducible apply is_st); refine su ?_) | ((with_reducible apply is_gd); first | refine gt ?_ | refine gf ?_ | refine gu ?_) | ((with_reducible apply is_en); refine en ?_) | (with_reducible apply c_region) | refine ws ?_ | refine x_block_other (by decide) ?_)
  refine kbx hM (fun w b1 hM => ?_)
  have hM : Mem [] w0 w [.cell b1 (tC a ses snap strict (.slice A (us.map (fun u : RR × List Pr => u.1)).length c) (.slice A2 wz.length c2) (.slice A3 path.length c3) size lg mp) 32] := hM
  repeat (first | ((with_reducible apply is_ld); first | refine kld hM ?_ | refine klrec hM ?_ | refine kllog hM ?_ | refine klmap hM ?_ | refine kldlog hM ?_ | refine kldw hM ?_ (hn := tC_len _ _ _ _ _ _ _ _ _ _) | refine kldw hM ?_ (hn := dC_len _ _ _) | refine kldw hM ?_ | refine kle hM ?_ | refine klew hM ?_) | ((with_reducible apply is_sto); first | (refine kst hM ?_; intro w hM) | (refine kstw hM ?_; intro w hM)) | ((with_reducible apply is_st); refine su ?_) | ((with_reducible apply is_gd); first | refine gt ?_ | refine gf ?_ | refine gu ?_) | ((with_reducible apply is_en); refine en ?_) | (with_reducible apply c_region) | refine ws ?_ | refine x_block_other (by decide) ?_)
  have hA1 := hA.m.ch hM.ch
  refine ca (rlight_any ses snap strict _ _ us wz w hA1.r hA1.u hA1.w hk hb) ?_
  rintro _ w1 ⟨⟨v, rfl, hv⟩, hc⟩
  have hM := hM.call hc
  by_cases q : 0 ≤ v
  · repeat (first | ((with_reducible apply is_ld); first | refine kld hM ?_ | refine klrec hM ?_ | refine kllog hM ?_ | refine klmap hM ?_ | refine kldlog hM ?_ | refine kldw hM ?_ (hn := tC_len _ _ _ _ _ _ _ _ _ _) | refine kldw hM ?_ (hn := dC_len _ _ _) | refine kldw hM ?_ | refine kle hM ?_ | refine klew hM ?_) | ((with_reducible apply is_sto); first | (refine kst hM ?_; intro w hM) | (refine kstw hM ?_; intro w hM)) | ((with_reducible apply is_st); refine su ?_) | ((with_reducible apply is_gd); first | refine gt ?_ | refine gf ?_ | refine gu ?_) | ((with_reducible apply is_en); refine en ?_) | (with_reducible apply c_region) | refine ws ?_ | refine x_block_other (by decide) ?_)
    rw [decide_eq_true q]
    repeat (first | ((with_reducible apply is_ld); first | refine kld hM ?_ | refine klrec hM ?_ | refine kllog hM ?_ | refine klmap hM ?_ | refine kldlog hM ?_ | refine kldw hM ?_ (hn := tC_len _ _ _ _ _ _ _ _ _ _) | refine kldw hM ?_ (hn := dC_len _ _ _) | refine kldw hM ?_ | refine kle hM ?_ | refine klew hM ?_) | ((with_reducible apply is_sto); first | (refine kst hM ?_; intro w hM) | (refine kstw hM ?_; intro w hM)) | ((with_reducible apply is_st); refine su ?_) | ((with_reducible apply is_gd); first | refine gt ?_ | refine gf ?_ | refine gu ?_) | ((with_reducible apply is_en); refine en ?_) | (with_reducible apply c_region) | refine ws ?_ | refine x_block_other (by decide) ?_)
    exact out1 rfl ⟨⟨_, rfl, fun h => ⟨hv q, by have := of_decide_eq_true h; omega⟩⟩, hM.ch⟩
  · repeat (first | ((with_reducible apply is_ld); first | refine kld hM ?_ | refine klrec hM ?_ | refine kllog hM ?_ | refine klmap hM ?_ | refine kldlog hM ?_ | refine kldw hM ?_ (hn := tC_len _ _ _ _ _ _ _ _ _ _) | refine kldw hM ?_ (hn := dC_len _ _ _) | refine kldw hM ?_ | refine kle hM ?_ | refine klew hM ?_) | ((with_reducible apply is_sto); first | (refine kst hM ?_; intro w hM) | (refine kstw hM ?_; intro w hM)) | ((with_reducible apply is_st); refine su ?_) | ((with_reducible apply is_gd); first | refine gt ?_ | refine gf ?_ | refine gu ?_) | ((with_reducible apply is_en); refine en ?_) | (with_reducible apply c_region) | refine ws ?_ | refine x_block_other (by decide) ?_)
    rw [decide_eq_false q]
    repeat (first | ((with_reducible apply is_ld); first | refine kld hM ?_ | refine klrec hM ?_ | refine kllog hM ?_ | refine klmap hM ?_ | refine kldlog hM ?_ | refine kldw hM ?_ (hn := tC_len _ _ _ _ _ _ _ _ _ _) | refine kldw hM ?_ (hn := dC_len _ _ _) | refine kldw hM ?_ | refine kle hM ?_ | refine klew hM ?_) | ((with_reducible apply is_sto); first | (refine kst hM ?_; intro w hM) | (refine kstw hM ?_; intro w hM)) | ((with_reducible apply is_st); refine su ?_) | ((with_reducible apply is_gd); first | refine gt ?_ | refine gf ?_ | refine gu ?_) | ((with_reducible apply is_en); refine en ?_) | (with_reducible apply c_region) | refine ws ?_ | refine x_block_other (by decide) ?_)
    exact out1 rfl ⟨⟨_, rfl, fun h => by cases h⟩, hM.ch⟩
theorem zero_rct : (Value.agg (List.replicate 3 (Value.int IntKind.i64 0) ++ [Value.bool false] ++ List.replicate 3 (Value.slice none 0 0) ++ [Value.int IntKind.i64 0] ++ List.replicate 64 (Value.int IntKind.u8 0)).toArray).cells.toList = tC 0 0 0 false (.slice none 0 0) (.slice none 0 0) (.slice none 0 0) 0 zeroH zeroH := by kernel_rfl
/-- A receipt stored, with what turned. -/
theorem kstwT {P : Program} {ops : Array Oper} {Q : Exit → Act → World → Prop} {rest : List Oper} {l : List Value} {O : List Nat} {w0 w : World} {L L' : List As} {T : TypeId} {pos : String} {after : Array Edge} {x y : Operand} {E t : TypeId} {b by_ : Nat} {cs vs : List Value} {z : Value} [hi : Inf P t z 72 by_] (hM : Mem O w0 w L) (h : ∀ w', Ch [b] w w' → Mem O w0 w' (.cell b vs E :: L') → wpList P ops Q rest (fr l) w')
    (hx : ev l x = .pointer (some ⟨b, 0, none⟩) := by exact rfl) (hp : Pick L (.cell b cs E) L' := by (repeat (first | exact Go.Proofs.E.Pick.here | apply Go.Proofs.E.Pick.there))) (hy : ev l y = .agg vs.toArray := by exact rfl) (hln : vs.length = 72 := by exact tC_len _ _ _ _ _ _ _ _ _ _) (hf : cs.length = 72 := by exact tC_len _ _ _ _ _ _ _ _ _ _)
    (h1 : ∀ u ∈ vs, u.oneCell' = true := by exact tC_one rfl rfl rfl) :
    wpList P ops Q ({ dst := none, op := .store t x y, type := T, pos := pos, after := after, guard := none } :: rest) (fr l) w :=
  stbw (hM.blk hp) hx hy hln hf h1 fun w' hB hc _ => h w' hc ((hM.pick hp).set hB hc)
set_option maxHeartbeats 32000000 in
theorem receiptChecks_any (a ses snap : Int) (strict : Bool) (vr vw vp : Value) (size : Int) (lg mp : Hs) (us : List (RR × List Pr)) (wz : List Pr) (path : List Hs) (dsize : Int) (dlg dmp : Hs) (vg : Value) (gp : List Hs) (w0 : World) (hK : Laid w0) (hA : RctM w0 vr vw vp us wz path) (hk : ShortR us) (hb : ShortL wz) (hG : (Ty.enc eH).Rd [] w0 vg gp) :
    Calls Tryd.prog 4 #[.agg (tC a ses snap strict vr vw vp size lg mp).toArray, .agg (dC dsize dlg dmp).toArray, vg] w0 (Ret fun u w' => u = .bool true ∧ Ch [] w0 w') := by
  have hM := Mem.start w0
  have hle := hG.le
  obtain ⟨A, c, rfl⟩ := hA.m.r.form
  obtain ⟨A2, c2, rfl⟩ := hA.m.w.form
  obtain ⟨A3, c3, rfl⟩ := hA.p.form
  obtain ⟨A4, c4, rfl⟩ := hG.form
  refine enter [.agg (tC a ses snap strict (.slice A (us.map (fun u : RR × List Pr => u.1)).length c) (.slice A2 wz.length c2) (.slice A3 path.length c3) size lg mp).toArray, .agg (dC dsize dlg dmp).toArray, .slice A4 gp.length c4, undef, undef, undef, undef, undef, undef, undef, undef, undef, undef, undef, undef, undef, undef, undef, undef, undef, undef, undef, undef, undef, undef, undef, undef, undef, undef, undef, undef, undef, undef, undef, undef, undef, undef, undef, undef, undef, undef, undef] Tryd.func4 rfl rfl ?_
  repeat (first | ((with_reducible apply is_ld); first | refine kld hM ?_ | refine kldw hM ?_ | refine kle hM ?_ | refine klew hM ?_) | ((with_reducible apply is_sto); first | (refine kst hM ?_; intro w hM) | (refine kstw hM ?_; intro w hM)) | ((with_reducible apply is_st); refine su ?_) | ((with_reducible apply is_gd); first | refine gt ?_ | refine gf ?_ | refine gu ?_) | ((with_reducible apply is_en); refine en ?_) | (with_reducible apply c_region) | refine ws ?_ | refine x_block_other (by decide) ?_)
  refine kbx hM (fun w b3 hM => ?_)
  refine kbx hM (fun w b4 hM => ?_)
  have hM : Mem [] w0 w [.cell b4 (dC dsize dlg dmp) 30, .cell b3 (tC a ses snap strict (.slice A (us.map (fun u : RR × List Pr => u.1)).length c) (.slice A2 wz.length c2) (.slice A3 path.length c3) size lg mp) 32] := hM
  repeat (first | ((with_reducible apply is_ld); first | refine kld hM ?_ | refine klrec hM ?_ | refine kllog hM ?_ | refine klmap hM ?_ | refine kldlog hM ?_ | refine kldw hM ?_ (hn := tC_len _ _ _ _ _ _ _ _ _ _) | refine kldw hM ?_ (hn := dC_len _ _ _) | refine kldw hM ?_ | refine kle hM ?_ | refine klew hM ?_) | ((with_reducible apply is_sto); first | (refine kst hM ?_; intro w hM) | (refine kstw hM ?_; intro w hM)) | ((with_reducible apply is_st); refine su ?_) | ((with_reducible apply is_gd); first | refine gt ?_ | refine gf ?_ | refine gu ?_) | ((with_reducible apply is_en); refine en ?_) | (with_reducible apply c_region) | refine ws ?_ | refine x_block_other (by decide) ?_)
  refine ca (light17_any a ses snap strict _ _ _ size lg mp us wz path w (hA.ch hM.ch) hk hb) ?_
  rintro _ w1 ⟨⟨l1, rfl, hl1⟩, hc⟩
  have hM := hM.call hc
  cases l1 with
  | false =>
    repeat (first | ((with_reducible apply is_ld); first | refine kld hM ?_ | refine klrec hM ?_ | refine kllog hM ?_ | refine klmap hM ?_ | refine kldlog hM ?_ | refine kldw hM ?_ (hn := tC_len _ _ _ _ _ _ _ _ _ _) | refine kldw hM ?_ (hn := dC_len _ _ _) | refine kldw hM ?_ | refine kle hM ?_ | refine klew hM ?_) | ((with_reducible apply is_sto); first | (refine kst hM ?_; intro w hM) | (refine kstw hM ?_; intro w hM)) | ((with_reducible apply is_st); refine su ?_) | ((with_reducible apply is_gd); first | refine gt ?_ | refine gf ?_ | refine gu ?_) | ((with_reducible apply is_en); refine en ?_) | (with_reducible apply c_region) | refine ws ?_ | refine x_block_other (by decide) ?_)
    refine c_condb rfl (fun _ => ?_) (fun h => by cases h)
    repeat (first | ((with_reducible apply is_ld); first | refine kld hM ?_ | refine klrec hM ?_ | refine kllog hM ?_ | refine klmap hM ?_ | refine kldlog hM ?_ | refine kldw hM ?_ (hn := tC_len _ _ _ _ _ _ _ _ _ _) | refine kldw hM ?_ (hn := dC_len _ _ _) | refine kldw hM ?_ | refine kle hM ?_ | refine klew hM ?_) | ((with_reducible apply is_sto); first | (refine kst hM ?_; intro w hM) | (refine kstw hM ?_; intro w hM)) | ((with_reducible apply is_st); refine su ?_) | ((with_reducible apply is_gd); first | refine gt ?_ | refine gf ?_ | refine gu ?_) | ((with_reducible apply is_en); refine en ?_) | (with_reducible apply c_region) | refine ws ?_ | refine x_block_other (by decide) ?_)
    refine kca hM (lives17_any _ (hK.ch hM.ch (by simp))) (fun w hM => ?_)
    repeat (first | ((with_reducible apply is_ld); first | refine kld hM ?_ | refine klrec hM ?_ | refine kllog hM ?_ | refine klmap hM ?_ | refine kldlog hM ?_ | refine kldw hM ?_ (hn := tC_len _ _ _ _ _ _ _ _ _ _) | refine kldw hM ?_ (hn := dC_len _ _ _) | refine kldw hM ?_ | refine kle hM ?_ | refine klew hM ?_) | ((with_reducible apply is_sto); first | (refine kst hM ?_; intro w hM) | (refine kstw hM ?_; intro w hM)) | ((with_reducible apply is_st); refine su ?_) | ((with_reducible apply is_gd); first | refine gt ?_ | refine gf ?_ | refine gu ?_) | ((with_reducible apply is_en); refine en ?_) | (with_reducible apply c_region) | refine ws ?_ | refine x_block_other (by decide) ?_)
    exact out1 rfl ⟨rfl, hM.ch⟩
  | true =>
  repeat (first | ((with_reducible apply is_ld); first | refine kld hM ?_ | refine klrec hM ?_ | refine kllog hM ?_ | refine klmap hM ?_ | refine kldlog hM ?_ | refine kldw hM ?_ (hn := tC_len _ _ _ _ _ _ _ _ _ _) | refine kldw hM ?_ (hn := dC_len _ _ _) | refine kldw hM ?_ | refine kle hM ?_ | refine klew hM ?_) | ((with_reducible apply is_sto); first | (refine kst hM ?_; intro w hM) | (refine kstw hM ?_; intro w hM)) | ((with_reducible apply is_st); refine su ?_) | ((with_reducible apply is_gd); first | refine gt ?_ | refine gf ?_ | refine gu ?_) | ((with_reducible apply is_en); refine en ?_) | (with_reducible apply c_region) | refine ws ?_ | refine x_block_other (by decide) ?_)
  by_cases q1 : (200 : Int) < (gp.length : Int)
  · rw [decide_eq_true q1]
    repeat (first | ((with_reducible apply is_ld); first | refine kld hM ?_ | refine klrec hM ?_ | refine kllog hM ?_ | refine klmap hM ?_ | refine kldlog hM ?_ | refine kldw hM ?_ (hn := tC_len _ _ _ _ _ _ _ _ _ _) | refine kldw hM ?_ (hn := dC_len _ _ _) | refine kldw hM ?_ | refine kle hM ?_ | refine klew hM ?_) | ((with_reducible apply is_sto); first | (refine kst hM ?_; intro w hM) | (refine kstw hM ?_; intro w hM)) | ((with_reducible apply is_st); refine su ?_) | ((with_reducible apply is_gd); first | refine gt ?_ | refine gf ?_ | refine gu ?_) | ((with_reducible apply is_en); refine en ?_) | (with_reducible apply c_region) | refine ws ?_ | refine x_block_other (by decide) ?_)
    refine c_condb rfl (fun _ => ?_) (fun h => by cases h)
    repeat (first | ((with_reducible apply is_ld); first | refine kld hM ?_ | refine klrec hM ?_ | refine kllog hM ?_ | refine klmap hM ?_ | refine kldlog hM ?_ | refine kldw hM ?_ (hn := tC_len _ _ _ _ _ _ _ _ _ _) | refine kldw hM ?_ (hn := dC_len _ _ _) | refine kldw hM ?_ | refine kle hM ?_ | refine klew hM ?_) | ((with_reducible apply is_sto); first | (refine kst hM ?_; intro w hM) | (refine kstw hM ?_; intro w hM)) | ((with_reducible apply is_st); refine su ?_) | ((with_reducible apply is_gd); first | refine gt ?_ | refine gf ?_ | refine gu ?_) | ((with_reducible apply is_en); refine en ?_) | (with_reducible apply c_region) | refine ws ?_ | refine x_block_other (by decide) ?_)
    refine kca hM (lives17_any _ (hK.ch hM.ch (by simp))) (fun w hM => ?_)
    repeat (first | ((with_reducible apply is_ld); first | refine kld hM ?_ | refine klrec hM ?_ | refine kllog hM ?_ | refine klmap hM ?_ | refine kldlog hM ?_ | refine kldw hM ?_ (hn := tC_len _ _ _ _ _ _ _ _ _ _) | refine kldw hM ?_ (hn := dC_len _ _ _) | refine kldw hM ?_ | refine kle hM ?_ | refine klew hM ?_) | ((with_reducible apply is_sto); first | (refine kst hM ?_; intro w hM) | (refine kstw hM ?_; intro w hM)) | ((with_reducible apply is_st); refine su ?_) | ((with_reducible apply is_gd); first | refine gt ?_ | refine gf ?_ | refine gu ?_) | ((with_reducible apply is_en); refine en ?_) | (with_reducible apply c_region) | refine ws ?_ | refine x_block_other (by decide) ?_)
    exact out1 rfl ⟨rfl, hM.ch⟩
  rw [decide_eq_false q1]
  repeat (first | ((with_reducible apply is_ld); first | refine kld hM ?_ | refine klrec hM ?_ | refine kllog hM ?_ | refine klmap hM ?_ | refine kldlog hM ?_ | refine kldw hM ?_ (hn := tC_len _ _ _ _ _ _ _ _ _ _) | refine kldw hM ?_ (hn := dC_len _ _ _) | refine kldw hM ?_ | refine kle hM ?_ | refine klew hM ?_) | ((with_reducible apply is_sto); first | (refine kst hM ?_; intro w hM) | (refine kstw hM ?_; intro w hM)) | ((with_reducible apply is_st); refine su ?_) | ((with_reducible apply is_gd); first | refine gt ?_ | refine gf ?_ | refine gu ?_) | ((with_reducible apply is_en); refine en ?_) | (with_reducible apply c_region) | refine ws ?_ | refine x_block_other (by decide) ?_)
  refine c_condb rfl (fun h => by cases h) (fun _ => ?_)
  repeat (first | ((with_reducible apply is_ld); first | refine kld hM ?_ | refine klrec hM ?_ | refine kllog hM ?_ | refine klmap hM ?_ | refine kldlog hM ?_ | refine kldw hM ?_ (hn := tC_len _ _ _ _ _ _ _ _ _ _) | refine kldw hM ?_ (hn := dC_len _ _ _) | refine kldw hM ?_ | refine kle hM ?_ | refine klew hM ?_) | ((with_reducible apply is_sto); first | (refine kst hM ?_; intro w hM) | (refine kstw hM ?_; intro w hM)) | ((with_reducible apply is_st); refine su ?_) | ((with_reducible apply is_gd); first | refine gt ?_ | refine gf ?_ | refine gu ?_) | ((with_reducible apply is_en); refine en ?_) | refine ws ?_ | refine x_block_other (by decide) ?_)
  refine c_ordY ([], []) [] (by kernel_rfl) (by kernel_rfl) (by kernel_rfl) (fun w hc hs => ?_)
  have hM := hM.call hc
  have hl3 := Blk.lt (hM.blk (b := b3) (by (repeat constructor)))
  have hl4 := Blk.lt (hM.blk (b := b4) (by (repeat constructor)))
  refine ynlr 0 rfl (hM.blk (b := b3) (by (repeat constructor))) (by omega) (by simp) rfl (ds := tC a ses snap strict (.slice A (us.map (fun u : RR × List Pr => u.1)).length c) (.slice A2 wz.length c2) (.slice A3 path.length c3) size lg mp) (by rw [List.drop_zero]; exact List.take_of_length_le (by rw [tC_len]; omega)) (tC_len _ _ _ _ _ _ _ _ _ _) ?_
  refine ynlr 2 rfl (hM.blk (b := b3) (by (repeat constructor))) (by omega) (by simp) rfl (ds := tC a ses snap strict (.slice A (us.map (fun u : RR × List Pr => u.1)).length c) (.slice A2 wz.length c2) (.slice A3 path.length c3) size lg mp) (by rw [List.drop_zero]; exact List.take_of_length_le (by rw [tC_len]; omega)) (tC_len _ _ _ _ _ _ _ _ _ _) ?_
  refine yk1 1 hM (by kernel_rfl) rfl (fun w h0 hM => ?_)
  refine ca (tgood_any a ses snap strict _ _ _ size lg mp us wz path _ (hA.ch hM.ch) hk hb) ?_
  rintro _ w2 ⟨rfl, hc⟩
  have hM := hM.call hc
  refine x_wy (.inl (hc.gy h0)) rfl ?_
  refine yk1 3 hM (by kernel_rfl) rfl (fun w h0 hM => ?_)
  refine ca (rtgood_any a ses snap strict _ _ _ size lg mp us wz path _ (hA.ch hM.ch) hk hb) ?_
  rintro _ w2 ⟨rfl, hc⟩
  have hM := hM.call hc
  refine x_wy (.inl (hc.gy h0)) rfl ?_
  refine ynp 4 rfl (by kernel_rfl) (by kernel_rfl) (fun _ => r_eqbs (a := good17 a size snap path.length (recGood ses snap strict us wz)) rfl rfl) rfl ?_
  (first | refine yn 5 rfl ?_ | refine ynt 5 rfl ?_ | refine ynff 5 rfl ?_)
  refine ynlrt 6 rfl (hM.blk (b := b3) (by (repeat constructor))) (by omega) (by simp) (ds := tC a ses snap strict (.slice A (us.map (fun u : RR × List Pr => u.1)).length c) (.slice A2 wz.length c2) (.slice A3 path.length c3) size lg mp) (by rw [List.drop_zero]; exact List.take_of_length_le (by rw [tC_len]; omega)) (tC_len _ _ _ _ _ _ _ _ _ _) ?_
  refine ynlrt 8 rfl (hM.blk (b := b3) (by (repeat constructor))) (by omega) (by simp) (ds := tC a ses snap strict (.slice A (us.map (fun u : RR × List Pr => u.1)).length c) (.slice A2 wz.length c2) (.slice A3 path.length c3) size lg mp) (by rw [List.drop_zero]; exact List.take_of_length_le (by rw [tC_len]; omega)) (tC_len _ _ _ _ _ _ _ _ _ _) ?_
  refine yk1 7 hM (by kernel_rfl) rfl (fun w h0 hM => ?_)
  refine gt ?_
  refine ca (tcheck_any a ses snap strict _ _ _ size lg mp us wz path _ (hK.ch hM.ch (by simp)) (hA.ch hM.ch) hk hb) ?_
  rintro _ w2 ⟨rfl, hc⟩
  have hM := hM.call hc
  refine x_wy (.inl (hc.gy h0)) rfl ?_
  refine yk1 9 hM (by kernel_rfl) rfl (fun w h0 hM => ?_)
  refine gt ?_
  refine ca (rtcheck_any a ses snap strict _ _ _ size lg mp us wz path _ trivial (hA.ch hM.ch) hk hb) ?_
  rintro _ w2 ⟨rfl, hc⟩
  have hM := hM.call hc
  refine x_wy (.inl (hc.gy h0)) rfl ?_
  refine ynvt 10 rfl (by kernel_rfl) (by kernel_rfl) rfl rfl (Nat.le_of_ble_eq_true rfl) rfl (fun w1 hG => r_eqbs (a := check17 a size snap lg path (recGood ses snap strict us wz) (leafHs (bytesB ses snap strict us wz))) rfl rfl) rfl ?_
  (first | refine yn 11 rfl ?_ | refine ynt 11 rfl ?_ | refine ynff 11 rfl ?_); (first | refine yn 12 rfl ?_ | refine ynt 12 rfl ?_ | refine ynff 12 rfl ?_)
  refine ynlrt 13 rfl (hM.blk (b := b3) (by (repeat constructor))) (by omega) (by simp) (ds := tC a ses snap strict (.slice A (us.map (fun u : RR × List Pr => u.1)).length c) (.slice A2 wz.length c2) (.slice A3 path.length c3) size lg mp) (by rw [List.drop_zero]; exact List.take_of_length_le (by rw [tC_len]; omega)) (tC_len _ _ _ _ _ _ _ _ _ _) ?_
  refine ynlrt 14 rfl (hM.blk (b := b4) (by (repeat constructor))) (by omega) (by simp) (ds := dC dsize dlg dmp) (by rw [List.drop_zero]; exact List.take_of_length_le (by rw [dC_len]; omega)) (dC_len _ _ _) ?_
  (first | refine yn 15 rfl ?_ | refine ynt 15 rfl ?_ | refine ynff 15 rfl ?_)
  refine ynlrt 17 rfl (hM.blk (b := b3) (by (repeat constructor))) (by omega) (by simp) (ds := tC a ses snap strict (.slice A (us.map (fun u : RR × List Pr => u.1)).length c) (.slice A2 wz.length c2) (.slice A3 path.length c3) size lg mp) (by rw [List.drop_zero]; exact List.take_of_length_le (by rw [tC_len]; omega)) (tC_len _ _ _ _ _ _ _ _ _ _) ?_
  refine ynlrt 18 rfl (hM.blk (b := b4) (by (repeat constructor))) (by omega) (by simp) (ds := dC dsize dlg dmp) (by rw [List.drop_zero]; exact List.take_of_length_le (by rw [dC_len]; omega)) (dC_len _ _ _) ?_
  (first | refine yn 19 rfl ?_ | refine ynt 19 rfl ?_ | refine ynff 19 rfl ?_)
  refine yk1 16 hM (by kernel_rfl) rfl (fun w h0 hM => ?_)
  refine gt ?_
  refine ca (tlater_any a ses snap strict _ _ _ size lg mp us wz path dsize dlg dmp _ gp _ (hK.ch hM.ch (by simp)) (hA.ch hM.ch) hk hb (hG.ch hM.ch)) ?_
  rintro _ w2 ⟨rfl, hc⟩
  have hM := hM.call hc
  refine x_wy (.inl (hc.gy h0)) rfl ?_
  refine yk1 20 hM (by kernel_rfl) rfl (fun w h0 hM => ?_)
  refine gt ?_
  refine ca (rtlater_any a ses snap strict _ _ _ size lg mp us wz path dsize dlg dmp _ gp _ trivial (hA.ch hM.ch) hk hb (hG.ch hM.ch)) ?_
  rintro _ w2 ⟨rfl, hc⟩
  have hM := hM.call hc
  refine x_wy (.inl (hc.gy h0)) rfl ?_
  refine ynvt 21 rfl (by kernel_rfl) (by kernel_rfl) rfl rfl (Nat.le_of_ble_eq_true rfl) rfl (fun w1 hG => r_eqbs (a := later17 (check17 a size snap lg path (recGood ses snap strict us wz) (leafHs (bytesB ses snap strict us wz))) lg dlg size dsize gp) rfl rfl) rfl ?_
  (first | refine yn 22 rfl ?_ | refine ynt 22 rfl ?_ | refine ynff 22 rfl ?_); (first | refine yn 23 rfl ?_ | refine ynt 23 rfl ?_ | refine ynff 23 rfl ?_)
  refine yk1 24 hM (by kernel_rfl) rfl (fun w h0 hM => ?_)
  refine gt ?_
  refine ca (lives17_any _ (hK.ch hM.ch (by simp))) ?_
  rintro _ w2 ⟨rfl, hc⟩
  have hM := hM.call hc
  refine x_wy (.inl (hc.gy h0)) rfl ?_
  (first | refine yn 25 rfl ?_ | refine ynt 25 rfl ?_ | refine ynff 25 rfl ?_); (first | refine yn 26 rfl ?_ | refine ynt 26 rfl ?_ | refine ynff 26 rfl ?_)
  refine wy_done (by kernel_rfl) (fun w hc => ?_)
  have hM := hM.call hc
  repeat (first | ((with_reducible apply is_ld); first | refine kld hM ?_ | refine kldw hM ?_ | refine kle hM ?_ | refine klew hM ?_) | ((with_reducible apply is_sto); first | (refine kst hM ?_; intro w hM) | (refine kstw hM ?_; intro w hM)) | ((with_reducible apply is_st); refine su ?_) | ((with_reducible apply is_gd); first | refine gt ?_ | refine gf ?_ | refine gu ?_) | ((with_reducible apply is_en); refine en ?_) | (with_reducible apply c_region) | refine ws ?_ | refine x_block_other (by decide) ?_)
  exact out1 rfl ⟨rfl, hM.ch⟩
theorem check_good {a size snap : Int} {lg : Hs} {path : List Hs} {g : Bool} {leaf : Hs} (h : check17 a size snap lg path g leaf = true) : size = a + 1 ∧ (climbZ size a leaf path).1 = lg := by
  unfold check17 good17 checkZ at h
  simp only [Bool.and_eq_true, decide_eq_true_eq] at h
  exact ⟨h.1.1.2.2.1, h.2.2⟩
theorem lie_at {a size snap : Int} {lg : Hs} {path : List Hs} {g : Bool} {leaf : Hs} {x : Int} (h : check17 a size snap lg path g leaf = true) (hx : x ≠ a) : check17 x size snap lg path g leaf = false := by
  have := (check_good h).1
  unfold check17
  rw [good17_f (by omega), Bool.false_and]
theorem lie_size {a size snap : Int} {lg : Hs} {path : List Hs} {g : Bool} {leaf : Hs} {x : Int} (h : check17 a size snap lg path g leaf = true) (hx : x ≠ size) : check17 a x snap lg path g leaf = false := by
  have := (check_good h).1
  unfold check17
  rw [good17_f (by omega), Bool.false_and]
theorem lie_log {a size snap : Int} {lg : Hs} {path : List Hs} {g : Bool} {leaf : Hs} {x : Hs} (h : check17 a size snap lg path g leaf = true) (hx : x.1 ≠ lg.1) : check17 a size snap x path g leaf = false := by
  have := (check_good h).2
  unfold check17 checkZ
  rw [decide_eq_false (fun e => hx (by rw [← e, this])), Bool.and_false, Bool.and_false]
set_option maxHeartbeats 32000000 in
theorem receiptLies_any (a ses snap : Int) (strict : Bool) (vr vw vp : Value) (size : Int) (lg mp : Hs) (us : List (RR × List Pr)) (wz : List Pr) (path : List Hs) (x : Int) (log : Hs) (w0 : World) (hK : Laid w0) (hA : RctM w0 vr vw vp us wz path) (hk : ShortR us) (hb : ShortL wz) :
    Calls Tryd.prog 3 #[.agg (tC a ses snap strict vr vw vp size lg mp).toArray, .int .i64 x, hv log.1] w0 (Ret fun u w' => u = .bool true ∧ Ch [] w0 w') := by
  have hM := Mem.start w0
  obtain ⟨A, c, rfl⟩ := hA.m.r.form
  obtain ⟨A2, c2, rfl⟩ := hA.m.w.form
  obtain ⟨A3, c3, rfl⟩ := hA.p.form
  refine enter [.agg (tC a ses snap strict (.slice A (us.map (fun u : RR × List Pr => u.1)).length c) (.slice A2 wz.length c2) (.slice A3 path.length c3) size lg mp).toArray, .int .i64 x, hv log.1, undef, undef, undef, undef, undef, undef, undef, undef, undef, undef, undef, undef, undef, undef, undef, undef, undef, undef, undef, undef, undef, undef, undef, undef, undef, undef, undef, undef, undef, undef, undef, undef, undef, undef, undef, undef, undef, undef, undef, undef, undef, undef, undef, undef, undef, undef, undef, undef, undef, undef, undef, undef, undef, undef, undef, undef, undef, undef, undef, undef, undef, undef, undef] Tryd.func3 rfl rfl ?_
  repeat (first | ((with_reducible apply is_ld); first | refine kld hM ?_ | refine kldw hM ?_ | refine kle hM ?_ | refine klew hM ?_) | ((with_reducible apply is_sto); first | (refine kst hM ?_; intro w hM) | (refine kstw hM ?_; intro w hM)) | ((with_reducible apply is_st); refine su ?_) | ((with_reducible apply is_gd); first | refine gt ?_ | refine gf ?_ | refine gu ?_) | ((with_reducible apply is_en); refine en ?_) | (with_reducible apply c_region) | refine ws ?_ | refine x_block_other (by decide) ?_)
  refine kbx hM (fun w b3 hM => ?_)
  refine kbx hM (fun w b5 hM => ?_)
  have hM : Mem [] w0 w [.cell b5 (log.1.map u8v) 28, .cell b3 (tC a ses snap strict (.slice A (us.map (fun u : RR × List Pr => u.1)).length c) (.slice A2 wz.length c2) (.slice A3 path.length c3) size lg mp) 32] := hM
  repeat (first | ((with_reducible apply is_ld); first | refine kld hM ?_ | refine klrec hM ?_ | refine kllog hM ?_ | refine klmap hM ?_ | refine kldlog hM ?_ | refine kldw hM ?_ (hn := tC_len _ _ _ _ _ _ _ _ _ _) | refine kldw hM ?_ (hn := dC_len _ _ _) | refine kldw hM ?_ | refine kle hM ?_ | refine klew hM ?_) | ((with_reducible apply is_sto); first | (refine kst hM ?_; intro w hM) | (refine kstw hM ?_; intro w hM)) | ((with_reducible apply is_st); refine su ?_) | ((with_reducible apply is_gd); first | refine gt ?_ | refine gf ?_ | refine gu ?_) | ((with_reducible apply is_en); refine en ?_) | (with_reducible apply c_region) | refine ws ?_ | refine x_block_other (by decide) ?_)
  refine ca (light17_any a ses snap strict _ _ _ size lg mp us wz path w (hA.ch hM.ch) hk hb) ?_
  rintro _ w1 ⟨⟨l1, rfl, hl1⟩, hc⟩
  have hM := hM.call hc
  cases l1 with
  | false =>
    repeat (first | ((with_reducible apply is_ld); first | refine kld hM ?_ | refine klrec hM ?_ | refine kllog hM ?_ | refine klmap hM ?_ | refine kldlog hM ?_ | refine kldw hM ?_ (hn := tC_len _ _ _ _ _ _ _ _ _ _) | refine kldw hM ?_ (hn := dC_len _ _ _) | refine kldw hM ?_ | refine kle hM ?_ | refine klew hM ?_) | ((with_reducible apply is_sto); first | (refine kst hM ?_; intro w hM) | (refine kstw hM ?_; intro w hM)) | ((with_reducible apply is_st); refine su ?_) | ((with_reducible apply is_gd); first | refine gt ?_ | refine gf ?_ | refine gu ?_) | ((with_reducible apply is_en); refine en ?_) | (with_reducible apply c_region) | refine ws ?_ | refine x_block_other (by decide) ?_)
    refine c_condb rfl (fun _ => ?_) (fun h => by cases h)
    repeat (first | ((with_reducible apply is_ld); first | refine kld hM ?_ | refine klrec hM ?_ | refine kllog hM ?_ | refine klmap hM ?_ | refine kldlog hM ?_ | refine kldw hM ?_ (hn := tC_len _ _ _ _ _ _ _ _ _ _) | refine kldw hM ?_ (hn := dC_len _ _ _) | refine kldw hM ?_ | refine kle hM ?_ | refine klew hM ?_) | ((with_reducible apply is_sto); first | (refine kst hM ?_; intro w hM) | (refine kstw hM ?_; intro w hM)) | ((with_reducible apply is_st); refine su ?_) | ((with_reducible apply is_gd); first | refine gt ?_ | refine gf ?_ | refine gu ?_) | ((with_reducible apply is_en); refine en ?_) | (with_reducible apply c_region) | refine ws ?_ | refine x_block_other (by decide) ?_)
    refine kca hM (lives17_any _ (hK.ch hM.ch (by simp))) (fun w hM => ?_)
    repeat (first | ((with_reducible apply is_ld); first | refine kld hM ?_ | refine klrec hM ?_ | refine kllog hM ?_ | refine klmap hM ?_ | refine kldlog hM ?_ | refine kldw hM ?_ (hn := tC_len _ _ _ _ _ _ _ _ _ _) | refine kldw hM ?_ (hn := dC_len _ _ _) | refine kldw hM ?_ | refine kle hM ?_ | refine klew hM ?_) | ((with_reducible apply is_sto); first | (refine kst hM ?_; intro w hM) | (refine kstw hM ?_; intro w hM)) | ((with_reducible apply is_st); refine su ?_) | ((with_reducible apply is_gd); first | refine gt ?_ | refine gf ?_ | refine gu ?_) | ((with_reducible apply is_en); refine en ?_) | (with_reducible apply c_region) | refine ws ?_ | refine x_block_other (by decide) ?_)
    exact out1 rfl ⟨rfl, hM.ch⟩
  | true =>
  repeat (first | ((with_reducible apply is_ld); first | refine kld hM ?_ | refine klrec hM ?_ | refine kllog hM ?_ | refine klmap hM ?_ | refine kldlog hM ?_ | refine kldw hM ?_ (hn := tC_len _ _ _ _ _ _ _ _ _ _) | refine kldw hM ?_ (hn := dC_len _ _ _) | refine kldw hM ?_ | refine kle hM ?_ | refine klew hM ?_) | ((with_reducible apply is_sto); first | (refine kst hM ?_; intro w hM) | (refine kstw hM ?_; intro w hM)) | ((with_reducible apply is_st); refine su ?_) | ((with_reducible apply is_gd); first | refine gt ?_ | refine gf ?_ | refine gu ?_) | ((with_reducible apply is_en); refine en ?_) | (with_reducible apply c_region) | refine ws ?_ | refine x_block_other (by decide) ?_)
  (try ((with_reducible apply is_gd); first | refine gt ?_ | refine gf ?_ | refine gu ?_)); refine kca hM (tcheck_any a ses snap strict _ _ _ size lg mp us wz path _ (hK.ch hM.ch (by simp)) (hA.ch hM.ch) hk hb) (fun w hM => ?_)
  cases hck : check17 a size snap lg path (recGood ses snap strict us wz) (leafHs (bytesB ses snap strict us wz)) with
  | false =>
    repeat (first | ((with_reducible apply is_ld); first | refine kld hM ?_ | refine klrec hM ?_ | refine kllog hM ?_ | refine klmap hM ?_ | refine kldlog hM ?_ | refine kldw hM ?_ (hn := tC_len _ _ _ _ _ _ _ _ _ _) | refine kldw hM ?_ (hn := dC_len _ _ _) | refine kldw hM ?_ | refine kle hM ?_ | refine klew hM ?_) | ((with_reducible apply is_sto); first | (refine kst hM ?_; intro w hM) | (refine kstw hM ?_; intro w hM)) | ((with_reducible apply is_st); refine su ?_) | ((with_reducible apply is_gd); first | refine gt ?_ | refine gf ?_ | refine gu ?_) | ((with_reducible apply is_en); refine en ?_) | (with_reducible apply c_region) | refine ws ?_ | refine x_block_other (by decide) ?_)
    refine c_condb rfl (fun _ => ?_) (fun h => by cases h)
    repeat (first | ((with_reducible apply is_ld); first | refine kld hM ?_ | refine klrec hM ?_ | refine kllog hM ?_ | refine klmap hM ?_ | refine kldlog hM ?_ | refine kldw hM ?_ (hn := tC_len _ _ _ _ _ _ _ _ _ _) | refine kldw hM ?_ (hn := dC_len _ _ _) | refine kldw hM ?_ | refine kle hM ?_ | refine klew hM ?_) | ((with_reducible apply is_sto); first | (refine kst hM ?_; intro w hM) | (refine kstw hM ?_; intro w hM)) | ((with_reducible apply is_st); refine su ?_) | ((with_reducible apply is_gd); first | refine gt ?_ | refine gf ?_ | refine gu ?_) | ((with_reducible apply is_en); refine en ?_) | (with_reducible apply c_region) | refine ws ?_ | refine x_block_other (by decide) ?_)
    refine kca hM (lives17_any _ (hK.ch hM.ch (by simp))) (fun w hM => ?_)
    repeat (first | ((with_reducible apply is_ld); first | refine kld hM ?_ | refine klrec hM ?_ | refine kllog hM ?_ | refine klmap hM ?_ | refine kldlog hM ?_ | refine kldw hM ?_ (hn := tC_len _ _ _ _ _ _ _ _ _ _) | refine kldw hM ?_ (hn := dC_len _ _ _) | refine kldw hM ?_ | refine kle hM ?_ | refine klew hM ?_) | ((with_reducible apply is_sto); first | (refine kst hM ?_; intro w hM) | (refine kstw hM ?_; intro w hM)) | ((with_reducible apply is_st); refine su ?_) | ((with_reducible apply is_gd); first | refine gt ?_ | refine gf ?_ | refine gu ?_) | ((with_reducible apply is_en); refine en ?_) | (with_reducible apply c_region) | refine ws ?_ | refine x_block_other (by decide) ?_)
    exact out1 rfl ⟨rfl, hM.ch⟩
  | true =>
  repeat (first | ((with_reducible apply is_ld); first | refine kld hM ?_ | refine klrec hM ?_ | refine kllog hM ?_ | refine klmap hM ?_ | refine kldlog hM ?_ | refine kldw hM ?_ (hn := tC_len _ _ _ _ _ _ _ _ _ _) | refine kldw hM ?_ (hn := dC_len _ _ _) | refine kldw hM ?_ | refine kle hM ?_ | refine klew hM ?_) | ((with_reducible apply is_sto); first | (refine kst hM ?_; intro w hM) | (refine kstw hM ?_; intro w hM)) | ((with_reducible apply is_st); refine su ?_) | ((with_reducible apply is_gd); first | refine gt ?_ | refine gf ?_ | refine gu ?_) | ((with_reducible apply is_en); refine en ?_) | (with_reducible apply c_region) | refine ws ?_ | refine x_block_other (by decide) ?_)
  refine c_condb rfl (fun h => by cases h) (fun _ => ?_)
  repeat (first | ((with_reducible apply is_ld); first | refine kld hM ?_ | refine klrec hM ?_ | refine kllog hM ?_ | refine klmap hM ?_ | refine kldlog hM ?_ | refine kldw hM ?_ (hn := tC_len _ _ _ _ _ _ _ _ _ _) | refine kldw hM ?_ (hn := dC_len _ _ _) | refine kldw hM ?_ | refine kle hM ?_ | refine klew hM ?_) | ((with_reducible apply is_sto); first | (refine kst hM ?_; intro w hM) | (refine kstw hM ?_; intro w hM)) | ((with_reducible apply is_st); refine su ?_) | ((with_reducible apply is_gd); first | refine gt ?_ | refine gf ?_ | refine gu ?_) | ((with_reducible apply is_en); refine en ?_) | refine ws ?_ | refine x_block_other (by decide) ?_)
  refine c_ordY ([], []) [] (by kernel_rfl) (by kernel_rfl) (by kernel_rfl) (fun w hc hs => ?_)
  have hM := hM.call hc
  have hl3 := Blk.lt (hM.blk (b := b3) (by (repeat constructor)))
  refine ynlr 0 rfl (hM.blk (b := b3) (by (repeat constructor))) (by omega) (by simp) rfl (ds := tC a ses snap strict (.slice A (us.map (fun u : RR × List Pr => u.1)).length c) (.slice A2 wz.length c2) (.slice A3 path.length c3) size lg mp) (by rw [List.drop_zero]; exact List.take_of_length_le (by rw [tC_len]; omega)) (tC_len _ _ _ _ _ _ _ _ _ _) ?_
  refine ynlr 1 rfl (hM.blk (b := b3) (by (repeat constructor))) (by omega) (by simp) rfl (ds := tC a ses snap strict (.slice A (us.map (fun u : RR × List Pr => u.1)).length c) (.slice A2 wz.length c2) (.slice A3 path.length c3) size lg mp) (by rw [List.drop_zero]; exact List.take_of_length_le (by rw [tC_len]; omega)) (tC_len _ _ _ _ _ _ _ _ _ _) ?_
  refine ynlr 2 rfl (hM.blk (b := b3) (by (repeat constructor))) (by omega) (by simp) rfl (ds := tC a ses snap strict (.slice A (us.map (fun u : RR × List Pr => u.1)).length c) (.slice A2 wz.length c2) (.slice A3 path.length c3) size lg mp) (by rw [List.drop_zero]; exact List.take_of_length_le (by rw [tC_len]; omega)) (tC_len _ _ _ _ _ _ _ _ _ _) ?_
  refine wy_cont (X := Nat × Nat × Nat) (fun x N w => (N ≤ x.1 ∧ N ≤ x.2.1 ∧ N ≤ x.2.2) ∧ Mem [] w0 w [.cell x.1 (tC 0 0 0 false (.slice none 0 0) (.slice none 0 0) (.slice none 0 0) 0 zeroH zeroH) 32, .cell x.2.1 (tC 0 0 0 false (.slice none 0 0) (.slice none 0 0) (.slice none 0 0) 0 zeroH zeroH) 32, .cell x.2.2 (tC 0 0 0 false (.slice none 0 0) (.slice none 0 0) (.slice none 0 0) 0 zeroH zeroH) 32, .cell b5 (log.1.map u8v) 28, .cell b3 (tC a ses snap strict (.slice A (us.map (fun u : RR × List Pr => u.1)).length c) (.slice A2 wz.length c2) (.slice A3 path.length c3) size lg mp) 32])
    (fun x l => ((l.set 7 (.pointer (some ⟨x.1, 0, none⟩))).set 8 (.pointer (some ⟨x.2.1, 0, none⟩))).set 9 (.pointer (some ⟨x.2.2, 0, none⟩))) #[true, true, true, true, true, true, false, false, false] (fuel := 3) (fun hkk => ?_) ?_
  · skip
    refine yk3 3 4 5 hM (by kernel_rfl) rfl rfl rfl (fun w h0 hM => ?_) (fun w h0 hM => ?_) (fun w h0 hM => ?_)
    · skip
      refine kalN hM (fun w b7 hb7 hc hM => ?_)
      have hb7 := Nat.le_trans h0 hb7
      rw [zero_rct] at hM
      refine x_wy (.inl (hc.gy h0)) rfl ?_
      refine yk2 4 5 hM (by kernel_rfl) rfl rfl (fun w h0 hM => ?_) (fun w h0 hM => ?_)
      · skip
        refine kalN hM (fun w b8 hb8 hc hM => ?_)
        have hb8 := Nat.le_trans h0 hb8
        rw [zero_rct] at hM
        refine x_wy (.inl (hc.gy h0)) rfl ?_
        refine yk1 5 hM (by kernel_rfl) rfl (fun w h0 hM => ?_)
        refine kalN hM (fun w b9 hb9 hc hM => ?_)
        have hb9 := Nat.le_trans h0 hb9
        rw [zero_rct] at hM
        refine x_wy (.inl (hc.gy h0)) rfl ?_
        exact hkk (b7, b8, b9) _ _ _ (by kernel_rfl) rfl ⟨⟨hb7, hb8, hb9⟩, hM.sub (by (repeat constructor))⟩
      · skip
        refine kalN hM (fun w b9 hb9 hc hM => ?_)
        have hb9 := Nat.le_trans h0 hb9
        rw [zero_rct] at hM
        refine x_wy (.inl (hc.gy h0)) rfl ?_
        refine yk1 4 hM (by kernel_rfl) rfl (fun w h0 hM => ?_)
        refine kalN hM (fun w b8 hb8 hc hM => ?_)
        have hb8 := Nat.le_trans h0 hb8
        rw [zero_rct] at hM
        refine x_wy (.inl (hc.gy h0)) rfl ?_
        exact hkk (b7, b8, b9) _ _ _ (by kernel_rfl) rfl ⟨⟨hb7, hb8, hb9⟩, hM.sub (by (repeat constructor))⟩
    · skip
      refine kalN hM (fun w b8 hb8 hc hM => ?_)
      have hb8 := Nat.le_trans h0 hb8
      rw [zero_rct] at hM
      refine x_wy (.inl (hc.gy h0)) rfl ?_
      refine yk2 3 5 hM (by kernel_rfl) rfl rfl (fun w h0 hM => ?_) (fun w h0 hM => ?_)
      · skip
        refine kalN hM (fun w b7 hb7 hc hM => ?_)
        have hb7 := Nat.le_trans h0 hb7
        rw [zero_rct] at hM
        refine x_wy (.inl (hc.gy h0)) rfl ?_
        refine yk1 5 hM (by kernel_rfl) rfl (fun w h0 hM => ?_)
        refine kalN hM (fun w b9 hb9 hc hM => ?_)
        have hb9 := Nat.le_trans h0 hb9
        rw [zero_rct] at hM
        refine x_wy (.inl (hc.gy h0)) rfl ?_
        exact hkk (b7, b8, b9) _ _ _ (by kernel_rfl) rfl ⟨⟨hb7, hb8, hb9⟩, hM.sub (by (repeat constructor))⟩
      · skip
        refine kalN hM (fun w b9 hb9 hc hM => ?_)
        have hb9 := Nat.le_trans h0 hb9
        rw [zero_rct] at hM
        refine x_wy (.inl (hc.gy h0)) rfl ?_
        refine yk1 3 hM (by kernel_rfl) rfl (fun w h0 hM => ?_)
        refine kalN hM (fun w b7 hb7 hc hM => ?_)
        have hb7 := Nat.le_trans h0 hb7
        rw [zero_rct] at hM
        refine x_wy (.inl (hc.gy h0)) rfl ?_
        exact hkk (b7, b8, b9) _ _ _ (by kernel_rfl) rfl ⟨⟨hb7, hb8, hb9⟩, hM.sub (by (repeat constructor))⟩
    · skip
      refine kalN hM (fun w b9 hb9 hc hM => ?_)
      have hb9 := Nat.le_trans h0 hb9
      rw [zero_rct] at hM
      refine x_wy (.inl (hc.gy h0)) rfl ?_
      refine yk2 3 4 hM (by kernel_rfl) rfl rfl (fun w h0 hM => ?_) (fun w h0 hM => ?_)
      · skip
        refine kalN hM (fun w b7 hb7 hc hM => ?_)
        have hb7 := Nat.le_trans h0 hb7
        rw [zero_rct] at hM
        refine x_wy (.inl (hc.gy h0)) rfl ?_
        refine yk1 4 hM (by kernel_rfl) rfl (fun w h0 hM => ?_)
        refine kalN hM (fun w b8 hb8 hc hM => ?_)
        have hb8 := Nat.le_trans h0 hb8
        rw [zero_rct] at hM
        refine x_wy (.inl (hc.gy h0)) rfl ?_
        exact hkk (b7, b8, b9) _ _ _ (by kernel_rfl) rfl ⟨⟨hb7, hb8, hb9⟩, hM.sub (by (repeat constructor))⟩
      · skip
        refine kalN hM (fun w b8 hb8 hc hM => ?_)
        have hb8 := Nat.le_trans h0 hb8
        rw [zero_rct] at hM
        refine x_wy (.inl (hc.gy h0)) rfl ?_
        refine yk1 3 hM (by kernel_rfl) rfl (fun w h0 hM => ?_)
        refine kalN hM (fun w b7 hb7 hc hM => ?_)
        have hb7 := Nat.le_trans h0 hb7
        rw [zero_rct] at hM
        refine x_wy (.inl (hc.gy h0)) rfl ?_
        exact hkk (b7, b8, b9) _ _ _ (by kernel_rfl) rfl ⟨⟨hb7, hb8, hb9⟩, hM.sub (by (repeat constructor))⟩
  clear hM
  rintro ⟨b7, b8, b9⟩ w ⟨⟨hb7, hb8, hb9⟩, hM⟩
  simp only at hb7 hb8 hb9 hM
  refine wy_nf ?_
  refine yk1 6 hM (by kernel_rfl) rfl (fun w h0 hM => ?_)
  refine kstwT (vs := tC a ses snap strict (.slice A (us.map (fun u : RR × List Pr => u.1)).length c) (.slice A2 wz.length c2) (.slice A3 path.length c3) size lg mp) hM (fun w hc hM => ?_)
  refine x_wy (.inl (hc.bwn h0 (.inl hb7))) rfl ?_
  refine yk1 7 hM (by kernel_rfl) rfl (fun w h0 hM => ?_)
  refine kstwT (vs := tC a ses snap strict (.slice A (us.map (fun u : RR × List Pr => u.1)).length c) (.slice A2 wz.length c2) (.slice A3 path.length c3) size lg mp) hM (fun w hc hM => ?_)
  refine x_wy (.inl (hc.bwn h0 (.inl hb8))) rfl ?_
  refine yk1 8 hM (by kernel_rfl) rfl (fun w h0 hM => ?_)
  refine kstwT (vs := tC a ses snap strict (.slice A (us.map (fun u : RR × List Pr => u.1)).length c) (.slice A2 wz.length c2) (.slice A3 path.length c3) size lg mp) hM (fun w hc hM => ?_)
  refine x_wy (.inl (hc.bwn h0 (.inl hb9))) rfl ?_
  refine wy_done (by kernel_rfl) (fun w hc => ?_)
  have hM := hM.call hc
  have hA1 := hA
  repeat (first | ((with_reducible apply is_ld); first | refine kld hM ?_ | refine klrec hM ?_ | refine kllog hM ?_ | refine klmap hM ?_ | refine kldlog hM ?_ | refine kldw hM ?_ (hn := tC_len _ _ _ _ _ _ _ _ _ _) | refine kldw hM ?_ (hn := dC_len _ _ _) | refine kldw hM ?_ | refine kle hM ?_ | refine klew hM ?_) | ((with_reducible apply is_sto); first | (refine kst hM ?_; intro w hM) | (refine kstw hM ?_; intro w hM)) | ((with_reducible apply is_st); refine su ?_) | ((with_reducible apply is_gd); first | refine gt ?_ | refine gf ?_ | refine gu ?_) | ((with_reducible apply is_en); refine en ?_) | (with_reducible apply c_region) | refine ws ?_ | refine x_block_other (by decide) ?_)
  refine kstp (vs := log.1.map u8v) hM (fun w hM => ?_) (tC_setlog a ses snap strict (.slice A (us.map (fun u : RR × List Pr => u.1)).length c) (.slice A2 wz.length c2) (.slice A3 path.length c3) size lg mp log) (hln := h32 log) (hf := by rw [tC_len]; omega)
  repeat (first | ((with_reducible apply is_ld); first | refine kld hM ?_ | refine klrec hM ?_ | refine kllog hM ?_ | refine klmap hM ?_ | refine kldlog hM ?_ | refine kldw hM ?_ (hn := tC_len _ _ _ _ _ _ _ _ _ _) | refine kldw hM ?_ (hn := dC_len _ _ _) | refine kldw hM ?_ | refine kle hM ?_ | refine klew hM ?_) | ((with_reducible apply is_sto); first | (refine kst hM ?_; intro w hM) | (refine kstw hM ?_; intro w hM)) | ((with_reducible apply is_st); refine su ?_) | ((with_reducible apply is_gd); first | refine gt ?_ | refine gf ?_ | refine gu ?_) | ((with_reducible apply is_en); refine en ?_) | (with_reducible apply c_region) | refine ws ?_ | refine x_block_other (by decide) ?_)
  by_cases q1 : x = a
  · rw [decide_eq_true q1]
    repeat (first | ((with_reducible apply is_ld); first | refine kld hM ?_ | refine klrec hM ?_ | refine kllog hM ?_ | refine klmap hM ?_ | refine kldlog hM ?_ | refine kldw hM ?_ (hn := tC_len _ _ _ _ _ _ _ _ _ _) | refine kldw hM ?_ (hn := dC_len _ _ _) | refine kldw hM ?_ | refine kle hM ?_ | refine klew hM ?_) | ((with_reducible apply is_sto); first | (refine kst hM ?_; intro w hM) | (refine kstw hM ?_; intro w hM)) | ((with_reducible apply is_st); refine su ?_) | ((with_reducible apply is_gd); first | refine gt ?_ | refine gf ?_ | refine gu ?_) | ((with_reducible apply is_en); refine en ?_) | (with_reducible apply c_region) | refine ws ?_ | refine x_block_other (by decide) ?_)
    by_cases q2 : x = size
    · rw [decide_eq_true q2]
      repeat (first | ((with_reducible apply is_ld); first | refine kld hM ?_ | refine klrec hM ?_ | refine kllog hM ?_ | refine klmap hM ?_ | refine kldlog hM ?_ | refine kldw hM ?_ (hn := tC_len _ _ _ _ _ _ _ _ _ _) | refine kldw hM ?_ (hn := dC_len _ _ _) | refine kldw hM ?_ | refine kle hM ?_ | refine klew hM ?_) | ((with_reducible apply is_sto); first | (refine kst hM ?_; intro w hM) | (refine kstw hM ?_; intro w hM)) | ((with_reducible apply is_st); refine su ?_) | ((with_reducible apply is_gd); first | refine gt ?_ | refine gf ?_ | refine gu ?_) | ((with_reducible apply is_en); refine en ?_) | (with_reducible apply c_region) | refine ws ?_ | refine x_block_other (by decide) ?_)
      (try ((with_reducible apply is_gd); first | refine gt ?_ | refine gf ?_ | refine gu ?_)); refine wl_val (r_eql8 (n := 32) (a := log.1) (b := lg.1) (by kernel_rfl) rfl rfl log.2 lg.2) ?_
      by_cases q3 : log.1 = lg.1
      · rw [decide_eq_true q3]
        repeat (first | ((with_reducible apply is_ld); first | refine kld hM ?_ | refine klrec hM ?_ | refine kllog hM ?_ | refine klmap hM ?_ | refine kldlog hM ?_ | refine kldw hM ?_ (hn := tC_len _ _ _ _ _ _ _ _ _ _) | refine kldw hM ?_ (hn := dC_len _ _ _) | refine kldw hM ?_ | refine kle hM ?_ | refine klew hM ?_) | ((with_reducible apply is_sto); first | (refine kst hM ?_; intro w hM) | (refine kstw hM ?_; intro w hM)) | ((with_reducible apply is_st); refine su ?_) | ((with_reducible apply is_gd); first | refine gt ?_ | refine gf ?_ | refine gu ?_) | ((with_reducible apply is_en); refine en ?_) | (with_reducible apply c_region) | refine ws ?_ | refine x_block_other (by decide) ?_)
        (try ((with_reducible apply is_gd); first | refine gt ?_ | refine gf ?_ | refine gu ?_)); refine kca hM (lives17_any _ (hK.ch hM.ch (by simp))) (fun w hM => ?_)
        repeat (first | ((with_reducible apply is_ld); first | refine kld hM ?_ | refine klrec hM ?_ | refine kllog hM ?_ | refine klmap hM ?_ | refine kldlog hM ?_ | refine kldw hM ?_ (hn := tC_len _ _ _ _ _ _ _ _ _ _) | refine kldw hM ?_ (hn := dC_len _ _ _) | refine kldw hM ?_ | refine kle hM ?_ | refine klew hM ?_) | ((with_reducible apply is_sto); first | (refine kst hM ?_; intro w hM) | (refine kstw hM ?_; intro w hM)) | ((with_reducible apply is_st); refine su ?_) | ((with_reducible apply is_gd); first | refine gt ?_ | refine gf ?_ | refine gu ?_) | ((with_reducible apply is_en); refine en ?_) | (with_reducible apply c_region) | refine ws ?_ | refine x_block_other (by decide) ?_)
        exact out1 rfl ⟨rfl, hM.ch⟩
      · rw [decide_eq_false q3]
        repeat (first | ((with_reducible apply is_ld); first | refine kld hM ?_ | refine klrec hM ?_ | refine kllog hM ?_ | refine klmap hM ?_ | refine kldlog hM ?_ | refine kldw hM ?_ (hn := tC_len _ _ _ _ _ _ _ _ _ _) | refine kldw hM ?_ (hn := dC_len _ _ _) | refine kldw hM ?_ | refine kle hM ?_ | refine klew hM ?_) | ((with_reducible apply is_sto); first | (refine kst hM ?_; intro w hM) | (refine kstw hM ?_; intro w hM)) | ((with_reducible apply is_st); refine su ?_) | ((with_reducible apply is_gd); first | refine gt ?_ | refine gf ?_ | refine gu ?_) | ((with_reducible apply is_en); refine en ?_) | (with_reducible apply c_region) | refine ws ?_ | refine x_block_other (by decide) ?_)
        (try ((with_reducible apply is_gd); first | refine gt ?_ | refine gf ?_ | refine gu ?_)); refine kca hM (tcheck_any a ses snap strict _ _ _ size log mp us wz path _ (hK.ch hM.ch (by simp)) (hA.ch hM.ch) hk hb) (fun w hM => ?_)
        rw [lie_log hck q3]
        repeat (first | ((with_reducible apply is_ld); first | refine kld hM ?_ | refine klrec hM ?_ | refine kllog hM ?_ | refine klmap hM ?_ | refine kldlog hM ?_ | refine kldw hM ?_ (hn := tC_len _ _ _ _ _ _ _ _ _ _) | refine kldw hM ?_ (hn := dC_len _ _ _) | refine kldw hM ?_ | refine kle hM ?_ | refine klew hM ?_) | ((with_reducible apply is_sto); first | (refine kst hM ?_; intro w hM) | (refine kstw hM ?_; intro w hM)) | ((with_reducible apply is_st); refine su ?_) | ((with_reducible apply is_gd); first | refine gt ?_ | refine gf ?_ | refine gu ?_) | ((with_reducible apply is_en); refine en ?_) | (with_reducible apply c_region) | refine ws ?_ | refine x_block_other (by decide) ?_)
        (try ((with_reducible apply is_gd); first | refine gt ?_ | refine gf ?_ | refine gu ?_)); refine kca hM (lives17_any _ (hK.ch hM.ch (by simp))) (fun w hM => ?_)
        repeat (first | ((with_reducible apply is_ld); first | refine kld hM ?_ | refine klrec hM ?_ | refine kllog hM ?_ | refine klmap hM ?_ | refine kldlog hM ?_ | refine kldw hM ?_ (hn := tC_len _ _ _ _ _ _ _ _ _ _) | refine kldw hM ?_ (hn := dC_len _ _ _) | refine kldw hM ?_ | refine kle hM ?_ | refine klew hM ?_) | ((with_reducible apply is_sto); first | (refine kst hM ?_; intro w hM) | (refine kstw hM ?_; intro w hM)) | ((with_reducible apply is_st); refine su ?_) | ((with_reducible apply is_gd); first | refine gt ?_ | refine gf ?_ | refine gu ?_) | ((with_reducible apply is_en); refine en ?_) | (with_reducible apply c_region) | refine ws ?_ | refine x_block_other (by decide) ?_)
        exact out1 rfl ⟨rfl, hM.ch⟩
    · rw [decide_eq_false q2]
      repeat (first | ((with_reducible apply is_ld); first | refine kld hM ?_ | refine klrec hM ?_ | refine kllog hM ?_ | refine klmap hM ?_ | refine kldlog hM ?_ | refine kldw hM ?_ (hn := tC_len _ _ _ _ _ _ _ _ _ _) | refine kldw hM ?_ (hn := dC_len _ _ _) | refine kldw hM ?_ | refine kle hM ?_ | refine klew hM ?_) | ((with_reducible apply is_sto); first | (refine kst hM ?_; intro w hM) | (refine kstw hM ?_; intro w hM)) | ((with_reducible apply is_st); refine su ?_) | ((with_reducible apply is_gd); first | refine gt ?_ | refine gf ?_ | refine gu ?_) | ((with_reducible apply is_en); refine en ?_) | (with_reducible apply c_region) | refine ws ?_ | refine x_block_other (by decide) ?_)
      (try ((with_reducible apply is_gd); first | refine gt ?_ | refine gf ?_ | refine gu ?_)); refine kca hM (tcheck_any a ses snap strict _ _ _ x lg mp us wz path _ (hK.ch hM.ch (by simp)) (hA.ch hM.ch) hk hb) (fun w hM => ?_)
      rw [lie_size hck q2]
      repeat (first | ((with_reducible apply is_ld); first | refine kld hM ?_ | refine klrec hM ?_ | refine kllog hM ?_ | refine klmap hM ?_ | refine kldlog hM ?_ | refine kldw hM ?_ (hn := tC_len _ _ _ _ _ _ _ _ _ _) | refine kldw hM ?_ (hn := dC_len _ _ _) | refine kldw hM ?_ | refine kle hM ?_ | refine klew hM ?_) | ((with_reducible apply is_sto); first | (refine kst hM ?_; intro w hM) | (refine kstw hM ?_; intro w hM)) | ((with_reducible apply is_st); refine su ?_) | ((with_reducible apply is_gd); first | refine gt ?_ | refine gf ?_ | refine gu ?_) | ((with_reducible apply is_en); refine en ?_) | (with_reducible apply c_region) | refine ws ?_ | refine x_block_other (by decide) ?_)
      (try ((with_reducible apply is_gd); first | refine gt ?_ | refine gf ?_ | refine gu ?_)); refine wl_val (r_eql8 (n := 32) (a := log.1) (b := lg.1) (by kernel_rfl) rfl rfl log.2 lg.2) ?_
      by_cases q3 : log.1 = lg.1
      · rw [decide_eq_true q3]
        repeat (first | ((with_reducible apply is_ld); first | refine kld hM ?_ | refine klrec hM ?_ | refine kllog hM ?_ | refine klmap hM ?_ | refine kldlog hM ?_ | refine kldw hM ?_ (hn := tC_len _ _ _ _ _ _ _ _ _ _) | refine kldw hM ?_ (hn := dC_len _ _ _) | refine kldw hM ?_ | refine kle hM ?_ | refine klew hM ?_) | ((with_reducible apply is_sto); first | (refine kst hM ?_; intro w hM) | (refine kstw hM ?_; intro w hM)) | ((with_reducible apply is_st); refine su ?_) | ((with_reducible apply is_gd); first | refine gt ?_ | refine gf ?_ | refine gu ?_) | ((with_reducible apply is_en); refine en ?_) | (with_reducible apply c_region) | refine ws ?_ | refine x_block_other (by decide) ?_)
        (try ((with_reducible apply is_gd); first | refine gt ?_ | refine gf ?_ | refine gu ?_)); refine kca hM (lives17_any _ (hK.ch hM.ch (by simp))) (fun w hM => ?_)
        repeat (first | ((with_reducible apply is_ld); first | refine kld hM ?_ | refine klrec hM ?_ | refine kllog hM ?_ | refine klmap hM ?_ | refine kldlog hM ?_ | refine kldw hM ?_ (hn := tC_len _ _ _ _ _ _ _ _ _ _) | refine kldw hM ?_ (hn := dC_len _ _ _) | refine kldw hM ?_ | refine kle hM ?_ | refine klew hM ?_) | ((with_reducible apply is_sto); first | (refine kst hM ?_; intro w hM) | (refine kstw hM ?_; intro w hM)) | ((with_reducible apply is_st); refine su ?_) | ((with_reducible apply is_gd); first | refine gt ?_ | refine gf ?_ | refine gu ?_) | ((with_reducible apply is_en); refine en ?_) | (with_reducible apply c_region) | refine ws ?_ | refine x_block_other (by decide) ?_)
        exact out1 rfl ⟨rfl, hM.ch⟩
      · rw [decide_eq_false q3]
        repeat (first | ((with_reducible apply is_ld); first | refine kld hM ?_ | refine klrec hM ?_ | refine kllog hM ?_ | refine klmap hM ?_ | refine kldlog hM ?_ | refine kldw hM ?_ (hn := tC_len _ _ _ _ _ _ _ _ _ _) | refine kldw hM ?_ (hn := dC_len _ _ _) | refine kldw hM ?_ | refine kle hM ?_ | refine klew hM ?_) | ((with_reducible apply is_sto); first | (refine kst hM ?_; intro w hM) | (refine kstw hM ?_; intro w hM)) | ((with_reducible apply is_st); refine su ?_) | ((with_reducible apply is_gd); first | refine gt ?_ | refine gf ?_ | refine gu ?_) | ((with_reducible apply is_en); refine en ?_) | (with_reducible apply c_region) | refine ws ?_ | refine x_block_other (by decide) ?_)
        (try ((with_reducible apply is_gd); first | refine gt ?_ | refine gf ?_ | refine gu ?_)); refine kca hM (tcheck_any a ses snap strict _ _ _ size log mp us wz path _ (hK.ch hM.ch (by simp)) (hA.ch hM.ch) hk hb) (fun w hM => ?_)
        rw [lie_log hck q3]
        repeat (first | ((with_reducible apply is_ld); first | refine kld hM ?_ | refine klrec hM ?_ | refine kllog hM ?_ | refine klmap hM ?_ | refine kldlog hM ?_ | refine kldw hM ?_ (hn := tC_len _ _ _ _ _ _ _ _ _ _) | refine kldw hM ?_ (hn := dC_len _ _ _) | refine kldw hM ?_ | refine kle hM ?_ | refine klew hM ?_) | ((with_reducible apply is_sto); first | (refine kst hM ?_; intro w hM) | (refine kstw hM ?_; intro w hM)) | ((with_reducible apply is_st); refine su ?_) | ((with_reducible apply is_gd); first | refine gt ?_ | refine gf ?_ | refine gu ?_) | ((with_reducible apply is_en); refine en ?_) | (with_reducible apply c_region) | refine ws ?_ | refine x_block_other (by decide) ?_)
        (try ((with_reducible apply is_gd); first | refine gt ?_ | refine gf ?_ | refine gu ?_)); refine kca hM (lives17_any _ (hK.ch hM.ch (by simp))) (fun w hM => ?_)
        repeat (first | ((with_reducible apply is_ld); first | refine kld hM ?_ | refine klrec hM ?_ | refine kllog hM ?_ | refine klmap hM ?_ | refine kldlog hM ?_ | refine kldw hM ?_ (hn := tC_len _ _ _ _ _ _ _ _ _ _) | refine kldw hM ?_ (hn := dC_len _ _ _) | refine kldw hM ?_ | refine kle hM ?_ | refine klew hM ?_) | ((with_reducible apply is_sto); first | (refine kst hM ?_; intro w hM) | (refine kstw hM ?_; intro w hM)) | ((with_reducible apply is_st); refine su ?_) | ((with_reducible apply is_gd); first | refine gt ?_ | refine gf ?_ | refine gu ?_) | ((with_reducible apply is_en); refine en ?_) | (with_reducible apply c_region) | refine ws ?_ | refine x_block_other (by decide) ?_)
        exact out1 rfl ⟨rfl, hM.ch⟩
  · rw [decide_eq_false q1]
    repeat (first | ((with_reducible apply is_ld); first | refine kld hM ?_ | refine klrec hM ?_ | refine kllog hM ?_ | refine klmap hM ?_ | refine kldlog hM ?_ | refine kldw hM ?_ (hn := tC_len _ _ _ _ _ _ _ _ _ _) | refine kldw hM ?_ (hn := dC_len _ _ _) | refine kldw hM ?_ | refine kle hM ?_ | refine klew hM ?_) | ((with_reducible apply is_sto); first | (refine kst hM ?_; intro w hM) | (refine kstw hM ?_; intro w hM)) | ((with_reducible apply is_st); refine su ?_) | ((with_reducible apply is_gd); first | refine gt ?_ | refine gf ?_ | refine gu ?_) | ((with_reducible apply is_en); refine en ?_) | (with_reducible apply c_region) | refine ws ?_ | refine x_block_other (by decide) ?_)
    (try ((with_reducible apply is_gd); first | refine gt ?_ | refine gf ?_ | refine gu ?_)); refine kca hM (tcheck_any x ses snap strict _ _ _ size lg mp us wz path _ (hK.ch hM.ch (by simp)) (hA.ch hM.ch) hk hb) (fun w hM => ?_)
    rw [lie_at hck q1]
    repeat (first | ((with_reducible apply is_ld); first | refine kld hM ?_ | refine klrec hM ?_ | refine kllog hM ?_ | refine klmap hM ?_ | refine kldlog hM ?_ | refine kldw hM ?_ (hn := tC_len _ _ _ _ _ _ _ _ _ _) | refine kldw hM ?_ (hn := dC_len _ _ _) | refine kldw hM ?_ | refine kle hM ?_ | refine klew hM ?_) | ((with_reducible apply is_sto); first | (refine kst hM ?_; intro w hM) | (refine kstw hM ?_; intro w hM)) | ((with_reducible apply is_st); refine su ?_) | ((with_reducible apply is_gd); first | refine gt ?_ | refine gf ?_ | refine gu ?_) | ((with_reducible apply is_en); refine en ?_) | (with_reducible apply c_region) | refine ws ?_ | refine x_block_other (by decide) ?_)
    by_cases q2 : x = size
    · rw [decide_eq_true q2]
      repeat (first | ((with_reducible apply is_ld); first | refine kld hM ?_ | refine klrec hM ?_ | refine kllog hM ?_ | refine klmap hM ?_ | refine kldlog hM ?_ | refine kldw hM ?_ (hn := tC_len _ _ _ _ _ _ _ _ _ _) | refine kldw hM ?_ (hn := dC_len _ _ _) | refine kldw hM ?_ | refine kle hM ?_ | refine klew hM ?_) | ((with_reducible apply is_sto); first | (refine kst hM ?_; intro w hM) | (refine kstw hM ?_; intro w hM)) | ((with_reducible apply is_st); refine su ?_) | ((with_reducible apply is_gd); first | refine gt ?_ | refine gf ?_ | refine gu ?_) | ((with_reducible apply is_en); refine en ?_) | (with_reducible apply c_region) | refine ws ?_ | refine x_block_other (by decide) ?_)
      (try ((with_reducible apply is_gd); first | refine gt ?_ | refine gf ?_ | refine gu ?_)); refine wl_val (r_eql8 (n := 32) (a := log.1) (b := lg.1) (by kernel_rfl) rfl rfl log.2 lg.2) ?_
      by_cases q3 : log.1 = lg.1
      · rw [decide_eq_true q3]
        repeat (first | ((with_reducible apply is_ld); first | refine kld hM ?_ | refine klrec hM ?_ | refine kllog hM ?_ | refine klmap hM ?_ | refine kldlog hM ?_ | refine kldw hM ?_ (hn := tC_len _ _ _ _ _ _ _ _ _ _) | refine kldw hM ?_ (hn := dC_len _ _ _) | refine kldw hM ?_ | refine kle hM ?_ | refine klew hM ?_) | ((with_reducible apply is_sto); first | (refine kst hM ?_; intro w hM) | (refine kstw hM ?_; intro w hM)) | ((with_reducible apply is_st); refine su ?_) | ((with_reducible apply is_gd); first | refine gt ?_ | refine gf ?_ | refine gu ?_) | ((with_reducible apply is_en); refine en ?_) | (with_reducible apply c_region) | refine ws ?_ | refine x_block_other (by decide) ?_)
        (try ((with_reducible apply is_gd); first | refine gt ?_ | refine gf ?_ | refine gu ?_)); refine kca hM (lives17_any _ (hK.ch hM.ch (by simp))) (fun w hM => ?_)
        repeat (first | ((with_reducible apply is_ld); first | refine kld hM ?_ | refine klrec hM ?_ | refine kllog hM ?_ | refine klmap hM ?_ | refine kldlog hM ?_ | refine kldw hM ?_ (hn := tC_len _ _ _ _ _ _ _ _ _ _) | refine kldw hM ?_ (hn := dC_len _ _ _) | refine kldw hM ?_ | refine kle hM ?_ | refine klew hM ?_) | ((with_reducible apply is_sto); first | (refine kst hM ?_; intro w hM) | (refine kstw hM ?_; intro w hM)) | ((with_reducible apply is_st); refine su ?_) | ((with_reducible apply is_gd); first | refine gt ?_ | refine gf ?_ | refine gu ?_) | ((with_reducible apply is_en); refine en ?_) | (with_reducible apply c_region) | refine ws ?_ | refine x_block_other (by decide) ?_)
        exact out1 rfl ⟨rfl, hM.ch⟩
      · rw [decide_eq_false q3]
        repeat (first | ((with_reducible apply is_ld); first | refine kld hM ?_ | refine klrec hM ?_ | refine kllog hM ?_ | refine klmap hM ?_ | refine kldlog hM ?_ | refine kldw hM ?_ (hn := tC_len _ _ _ _ _ _ _ _ _ _) | refine kldw hM ?_ (hn := dC_len _ _ _) | refine kldw hM ?_ | refine kle hM ?_ | refine klew hM ?_) | ((with_reducible apply is_sto); first | (refine kst hM ?_; intro w hM) | (refine kstw hM ?_; intro w hM)) | ((with_reducible apply is_st); refine su ?_) | ((with_reducible apply is_gd); first | refine gt ?_ | refine gf ?_ | refine gu ?_) | ((with_reducible apply is_en); refine en ?_) | (with_reducible apply c_region) | refine ws ?_ | refine x_block_other (by decide) ?_)
        (try ((with_reducible apply is_gd); first | refine gt ?_ | refine gf ?_ | refine gu ?_)); refine kca hM (tcheck_any a ses snap strict _ _ _ size log mp us wz path _ (hK.ch hM.ch (by simp)) (hA.ch hM.ch) hk hb) (fun w hM => ?_)
        rw [lie_log hck q3]
        repeat (first | ((with_reducible apply is_ld); first | refine kld hM ?_ | refine klrec hM ?_ | refine kllog hM ?_ | refine klmap hM ?_ | refine kldlog hM ?_ | refine kldw hM ?_ (hn := tC_len _ _ _ _ _ _ _ _ _ _) | refine kldw hM ?_ (hn := dC_len _ _ _) | refine kldw hM ?_ | refine kle hM ?_ | refine klew hM ?_) | ((with_reducible apply is_sto); first | (refine kst hM ?_; intro w hM) | (refine kstw hM ?_; intro w hM)) | ((with_reducible apply is_st); refine su ?_) | ((with_reducible apply is_gd); first | refine gt ?_ | refine gf ?_ | refine gu ?_) | ((with_reducible apply is_en); refine en ?_) | (with_reducible apply c_region) | refine ws ?_ | refine x_block_other (by decide) ?_)
        (try ((with_reducible apply is_gd); first | refine gt ?_ | refine gf ?_ | refine gu ?_)); refine kca hM (lives17_any _ (hK.ch hM.ch (by simp))) (fun w hM => ?_)
        repeat (first | ((with_reducible apply is_ld); first | refine kld hM ?_ | refine klrec hM ?_ | refine kllog hM ?_ | refine klmap hM ?_ | refine kldlog hM ?_ | refine kldw hM ?_ (hn := tC_len _ _ _ _ _ _ _ _ _ _) | refine kldw hM ?_ (hn := dC_len _ _ _) | refine kldw hM ?_ | refine kle hM ?_ | refine klew hM ?_) | ((with_reducible apply is_sto); first | (refine kst hM ?_; intro w hM) | (refine kstw hM ?_; intro w hM)) | ((with_reducible apply is_st); refine su ?_) | ((with_reducible apply is_gd); first | refine gt ?_ | refine gf ?_ | refine gu ?_) | ((with_reducible apply is_en); refine en ?_) | (with_reducible apply c_region) | refine ws ?_ | refine x_block_other (by decide) ?_)
        exact out1 rfl ⟨rfl, hM.ch⟩
    · rw [decide_eq_false q2]
      repeat (first | ((with_reducible apply is_ld); first | refine kld hM ?_ | refine klrec hM ?_ | refine kllog hM ?_ | refine klmap hM ?_ | refine kldlog hM ?_ | refine kldw hM ?_ (hn := tC_len _ _ _ _ _ _ _ _ _ _) | refine kldw hM ?_ (hn := dC_len _ _ _) | refine kldw hM ?_ | refine kle hM ?_ | refine klew hM ?_) | ((with_reducible apply is_sto); first | (refine kst hM ?_; intro w hM) | (refine kstw hM ?_; intro w hM)) | ((with_reducible apply is_st); refine su ?_) | ((with_reducible apply is_gd); first | refine gt ?_ | refine gf ?_ | refine gu ?_) | ((with_reducible apply is_en); refine en ?_) | (with_reducible apply c_region) | refine ws ?_ | refine x_block_other (by decide) ?_)
      (try ((with_reducible apply is_gd); first | refine gt ?_ | refine gf ?_ | refine gu ?_)); refine kca hM (tcheck_any a ses snap strict _ _ _ x lg mp us wz path _ (hK.ch hM.ch (by simp)) (hA.ch hM.ch) hk hb) (fun w hM => ?_)
      rw [lie_size hck q2]
      repeat (first | ((with_reducible apply is_ld); first | refine kld hM ?_ | refine klrec hM ?_ | refine kllog hM ?_ | refine klmap hM ?_ | refine kldlog hM ?_ | refine kldw hM ?_ (hn := tC_len _ _ _ _ _ _ _ _ _ _) | refine kldw hM ?_ (hn := dC_len _ _ _) | refine kldw hM ?_ | refine kle hM ?_ | refine klew hM ?_) | ((with_reducible apply is_sto); first | (refine kst hM ?_; intro w hM) | (refine kstw hM ?_; intro w hM)) | ((with_reducible apply is_st); refine su ?_) | ((with_reducible apply is_gd); first | refine gt ?_ | refine gf ?_ | refine gu ?_) | ((with_reducible apply is_en); refine en ?_) | (with_reducible apply c_region) | refine ws ?_ | refine x_block_other (by decide) ?_)
      (try ((with_reducible apply is_gd); first | refine gt ?_ | refine gf ?_ | refine gu ?_)); refine wl_val (r_eql8 (n := 32) (a := log.1) (b := lg.1) (by kernel_rfl) rfl rfl log.2 lg.2) ?_
      by_cases q3 : log.1 = lg.1
      · rw [decide_eq_true q3]
        repeat (first | ((with_reducible apply is_ld); first | refine kld hM ?_ | refine klrec hM ?_ | refine kllog hM ?_ | refine klmap hM ?_ | refine kldlog hM ?_ | refine kldw hM ?_ (hn := tC_len _ _ _ _ _ _ _ _ _ _) | refine kldw hM ?_ (hn := dC_len _ _ _) | refine kldw hM ?_ | refine kle hM ?_ | refine klew hM ?_) | ((with_reducible apply is_sto); first | (refine kst hM ?_; intro w hM) | (refine kstw hM ?_; intro w hM)) | ((with_reducible apply is_st); refine su ?_) | ((with_reducible apply is_gd); first | refine gt ?_ | refine gf ?_ | refine gu ?_) | ((with_reducible apply is_en); refine en ?_) | (with_reducible apply c_region) | refine ws ?_ | refine x_block_other (by decide) ?_)
        (try ((with_reducible apply is_gd); first | refine gt ?_ | refine gf ?_ | refine gu ?_)); refine kca hM (lives17_any _ (hK.ch hM.ch (by simp))) (fun w hM => ?_)
        repeat (first | ((with_reducible apply is_ld); first | refine kld hM ?_ | refine klrec hM ?_ | refine kllog hM ?_ | refine klmap hM ?_ | refine kldlog hM ?_ | refine kldw hM ?_ (hn := tC_len _ _ _ _ _ _ _ _ _ _) | refine kldw hM ?_ (hn := dC_len _ _ _) | refine kldw hM ?_ | refine kle hM ?_ | refine klew hM ?_) | ((with_reducible apply is_sto); first | (refine kst hM ?_; intro w hM) | (refine kstw hM ?_; intro w hM)) | ((with_reducible apply is_st); refine su ?_) | ((with_reducible apply is_gd); first | refine gt ?_ | refine gf ?_ | refine gu ?_) | ((with_reducible apply is_en); refine en ?_) | (with_reducible apply c_region) | refine ws ?_ | refine x_block_other (by decide) ?_)
        exact out1 rfl ⟨rfl, hM.ch⟩
      · rw [decide_eq_false q3]
        repeat (first | ((with_reducible apply is_ld); first | refine kld hM ?_ | refine klrec hM ?_ | refine kllog hM ?_ | refine klmap hM ?_ | refine kldlog hM ?_ | refine kldw hM ?_ (hn := tC_len _ _ _ _ _ _ _ _ _ _) | refine kldw hM ?_ (hn := dC_len _ _ _) | refine kldw hM ?_ | refine kle hM ?_ | refine klew hM ?_) | ((with_reducible apply is_sto); first | (refine kst hM ?_; intro w hM) | (refine kstw hM ?_; intro w hM)) | ((with_reducible apply is_st); refine su ?_) | ((with_reducible apply is_gd); first | refine gt ?_ | refine gf ?_ | refine gu ?_) | ((with_reducible apply is_en); refine en ?_) | (with_reducible apply c_region) | refine ws ?_ | refine x_block_other (by decide) ?_)
        (try ((with_reducible apply is_gd); first | refine gt ?_ | refine gf ?_ | refine gu ?_)); refine kca hM (tcheck_any a ses snap strict _ _ _ size log mp us wz path _ (hK.ch hM.ch (by simp)) (hA.ch hM.ch) hk hb) (fun w hM => ?_)
        rw [lie_log hck q3]
        repeat (first | ((with_reducible apply is_ld); first | refine kld hM ?_ | refine klrec hM ?_ | refine kllog hM ?_ | refine klmap hM ?_ | refine kldlog hM ?_ | refine kldw hM ?_ (hn := tC_len _ _ _ _ _ _ _ _ _ _) | refine kldw hM ?_ (hn := dC_len _ _ _) | refine kldw hM ?_ | refine kle hM ?_ | refine klew hM ?_) | ((with_reducible apply is_sto); first | (refine kst hM ?_; intro w hM) | (refine kstw hM ?_; intro w hM)) | ((with_reducible apply is_st); refine su ?_) | ((with_reducible apply is_gd); first | refine gt ?_ | refine gf ?_ | refine gu ?_) | ((with_reducible apply is_en); refine en ?_) | (with_reducible apply c_region) | refine ws ?_ | refine x_block_other (by decide) ?_)
        (try ((with_reducible apply is_gd); first | refine gt ?_ | refine gf ?_ | refine gu ?_)); refine kca hM (lives17_any _ (hK.ch hM.ch (by simp))) (fun w hM => ?_)
        repeat (first | ((with_reducible apply is_ld); first | refine kld hM ?_ | refine klrec hM ?_ | refine kllog hM ?_ | refine klmap hM ?_ | refine kldlog hM ?_ | refine kldw hM ?_ (hn := tC_len _ _ _ _ _ _ _ _ _ _) | refine kldw hM ?_ (hn := dC_len _ _ _) | refine kldw hM ?_ | refine kle hM ?_ | refine klew hM ?_) | ((with_reducible apply is_sto); first | (refine kst hM ?_; intro w hM) | (refine kstw hM ?_; intro w hM)) | ((with_reducible apply is_st); refine su ?_) | ((with_reducible apply is_gd); first | refine gt ?_ | refine gf ?_ | refine gu ?_) | ((with_reducible apply is_en); refine en ?_) | (with_reducible apply c_region) | refine ws ?_ | refine x_block_other (by decide) ?_)
        exact out1 rfl ⟨rfl, hM.ch⟩
end Go.Proofs.YtkpkfplcoakfcaaDoor

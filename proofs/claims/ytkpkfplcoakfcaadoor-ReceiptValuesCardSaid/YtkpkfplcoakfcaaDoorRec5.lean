/- Walks: Good and Bytes of records, both. -/
import Derived.Test.YtkpkfplcoakfcaaDoorRec4
set_option linter.unusedVariables false
set_option linter.unusedSimpArgs false
namespace Go.Proofs.YtkpkfplcoakfcaaDoor
open Go Go.RowKit Go.Proofs.E
attribute [local irreducible] Go.wpList Go.Code.wp Go.Proofs.E.exec Go.Proofs.E.wpLexG
abbrev ShortL (ps : List Pr) : Prop := ∀ p ∈ ps, p.1.length ≤ 140737488355328 ∧ p.2.1.length ≤ 140737488355328
abbrev ShortR (us : List (RR × List Pr)) : Prop := ∀ u ∈ us, u.1.2.1.length ≤ 140737488355328 ∧ u.1.2.2.1.length ≤ 140737488355328 ∧ ∀ p ∈ u.2, p.1.length ≤ 140737488355328 ∧ p.2.1.length ≤ 140737488355328
theorem goodPB_small {p : Pr} (h : goodPB p = true) : SmallP p := by
  unfold goodPB at h
  simp only [Bool.and_eq_true, decide_eq_true_eq] at h
  exact ⟨by omega, by omega⟩
theorem goodL_all : ∀ (q : Option Bs) (ps : List Pr), goodL q ps = true → ∀ p ∈ ps, goodPB p = true
  | _, [], _, p, hp => by cases hp
  | q, x :: r, h, p, hp => by
    rw [goodL_cons, Bool.and_eq_true, Bool.and_eq_true] at h
    rcases List.mem_cons.1 hp with rfl | hp
    · exact h.1
    · exact goodL_all _ r h.2.2 p hp
theorem goodR_parts {x : RR} {ps : List Pr} (h : goodRB x ps = true) : x.2.1.length ≤ 64 ∧ x.2.2.1.length ≤ 64 ∧ ps.length ≤ 200 ∧ goodL none ps = true ∧ (x.1 = true ∨ x.2.1 ≠ [] ∧ x.2.2.1 = [] ∧ ps.length ≤ 1) ∧ ps.all (inB x) = true := by
  unfold goodRB at h
  simp only [Bool.and_eq_true, Bool.or_eq_true, decide_eq_true_eq] at h
  exact h
theorem readsGo_all : ∀ (ks : List Bs) (us : List (RR × List Pr)), readsGo ks us = true → ∀ u ∈ us, goodRB u.1 u.2 = true
  | _, [], _, p, hp => by cases hp
  | ks, x :: r, h, p, hp => by
    rw [readsGo_cons, Bool.and_eq_true, Bool.and_eq_true] at h
    rcases List.mem_cons.1 hp with rfl | hp
    · exact h.1
    · exact readsGo_all _ r h.2.2 p hp
theorem right_parts {ses snap : Int} {us : List (RR × List Pr)} {wz : List Pr} (h : rightB ses snap us wz = true) : (1 ≤ ses ∧ ses ≤ 8 ∧ 0 ≤ snap ∧ snap ≤ 1099511627776 ∧ us.length ≤ 64 ∧ wz.length ≤ 64 ∧ goodL none wz = true) ∧ readsGo [] us = true := by
  unfold rightB at h
  rw [Bool.and_eq_true, decide_eq_true_eq] at h
  exact h
theorem right_small {ses snap : Int} {us : List (RR × List Pr)} {wz : List Pr} (h : rightB ses snap us wz = true) : SmallR us wz := by
  obtain ⟨⟨h1, h2, h3, h4, h5, h6, h7⟩, h8⟩ := right_parts h
  refine ⟨by omega, by omega, fun u hu => ?_, fun p hp => goodPB_small (goodL_all _ _ h7 p hp)⟩
  obtain ⟨g1, g2, g3, g4, _, _⟩ := goodR_parts (readsGo_all _ _ h8 u hu)
  exact ⟨by omega, by omega, by omega, fun p hp => goodPB_small (goodL_all _ _ g4 p hp)⟩
def bytesB (ses snap : Int) (strict : Bool) (us : List (RR × List Pr)) (wz : List Pr) : Bs := if rightB ses snap us wz = true then recB ses.toNat snap.toNat strict us wz else []
def recGood (ses snap : Int) (strict : Bool) (us : List (RR × List Pr)) (wz : List Pr) : Bool := rightB ses snap us wz && decide ((recB ses.toNat snap.toNat strict us wz).length ≤ 8192)
theorem recB_len {ses snap : Nat} {strict : Bool} {us : List (RR × List Pr)} {wz : List Pr} (h1 : ses < 2 ^ 63) (h2 : snap < 2 ^ 63) (hS : SmallR us wz) : (recB ses snap strict us wz).length ≤ 19000000 := by
  unfold recB
  have n1 := numB_len (n := ses) (by omega)
  have n2 := numB_len (n := snap) (by omega)
  obtain ⟨hs1, hs2, hs3, hs4⟩ := hS
  have n3 := numB_len (n := us.length) (by omega)
  have n4 := numB_len (n := wz.length) (by omega)
  have h4 := flat_le (f := readB) (C := 186500) us (fun u hu => readB_len (hs3 u hu))
  have h5 := flat_le (f := writeB) (C := 619) wz (fun u hu => writeB_len (hs4 u hu))
  have h6 : us.length * 186500 ≤ 100 * 186500 := Nat.mul_le_mul_right _ hs1
  have h7 : wz.length * 619 ≤ 100 * 619 := Nat.mul_le_mul_right _ hs2
  simp only [List.length_append, flagB_len]
  omega

set_option maxHeartbeats 8000000 in
theorem recGood_any (ses snap : Int) (strict : Bool) (vr vw : Value) (us : List (RR × List Pr)) (wz : List Pr) (w0 : World) (hR : (Ty.enc eRr).Rd [] w0 vr (us.map (fun u : RR × List Pr => u.1))) (hU : ∀ u ∈ us, (Ty.enc ePr).Rd [] w0 (slv u.1.2.2.2) u.2) (hW : (Ty.enc ePr).Rd [] w0 vw wz)
    (hk : ShortR us) (hb : ShortL wz) :
    Calls Tryd.prog 33 #[.agg (rC ses snap strict vr vw).toArray] w0 (Ret fun u w' => u = .bool (recGood ses snap strict us wz) ∧ Ch [] w0 w') := by
  have hM := Mem.start w0
  obtain ⟨A, c, rfl⟩ := hR.form
  obtain ⟨A2, c2, rfl⟩ := hW.form
  simp only [List.length_map] at hR ⊢
  unfold recGood
  refine enter [.agg (rC ses snap strict (.slice A us.length c) (.slice A2 wz.length c2)).toArray, undef, undef, undef, undef, undef, undef, undef, undef, undef, undef] Tryd.func33 rfl rfl ?_
  repeat (first | ((with_reducible apply is_ld); first | refine kld hM ?_ | refine kldw hM ?_ | refine kle hM ?_ | refine klew hM ?_) | ((with_reducible apply is_sto); first | (refine kst hM ?_; intro w hM) | (refine kstw hM ?_; intro w hM)) | ((with_reducible apply is_st); refine su ?_) | ((with_reducible apply is_gd); first | refine gt ?_ | refine gf ?_ | refine gu ?_) | ((with_reducible apply is_en); refine en ?_) | (with_reducible apply c_region) | refine ws ?_ | refine x_block_other (by decide) ?_)
  refine kbx hM (fun w b1 hM => ?_)
  have hM : Mem [] w0 w [.cell b1 (rC ses snap strict (.slice A us.length c) (.slice A2 wz.length c2)) 25] := hM
  repeat (first | ((with_reducible apply is_ld); first | refine kld hM ?_ | refine kldw hM ?_ | refine kle hM ?_ | refine klew hM ?_) | ((with_reducible apply is_sto); first | (refine kst hM ?_; intro w hM) | (refine kstw hM ?_; intro w hM)) | ((with_reducible apply is_st); refine su ?_) | ((with_reducible apply is_gd); first | refine gt ?_ | refine gf ?_ | refine gu ?_) | ((with_reducible apply is_en); refine en ?_) | (with_reducible apply c_region) | refine ws ?_ | refine x_block_other (by decide) ?_)
  refine kca hM (right_any ses snap strict _ _ us wz w (hR.ch hM.ch) (fun u hu => (hU u hu).ch hM.ch) (hW.ch hM.ch) hk hb) (fun w hM => ?_)
  cases hr : rightB ses snap us wz with
  | false =>
    repeat (first | ((with_reducible apply is_ld); first | refine kld hM ?_ | refine kldw hM ?_ | refine kle hM ?_ | refine klew hM ?_) | ((with_reducible apply is_sto); first | (refine kst hM ?_; intro w hM) | (refine kstw hM ?_; intro w hM)) | ((with_reducible apply is_st); refine su ?_) | ((with_reducible apply is_gd); first | refine gt ?_ | refine gf ?_ | refine gu ?_) | ((with_reducible apply is_en); refine en ?_) | (with_reducible apply c_region) | refine ws ?_ | refine x_block_other (by decide) ?_)
    exact out1 rfl ⟨rfl, hM.ch⟩
  | true =>
    have hS := right_small hr
    obtain ⟨⟨h1, h2, h3, h4, h5, h6, h7⟩, h8⟩ := right_parts hr
    obtain ⟨sn, rfl⟩ := Int.eq_ofNat_of_zero_le (show 0 ≤ ses by omega)
    obtain ⟨pn, rfl⟩ := Int.eq_ofNat_of_zero_le (show 0 ≤ snap by omega)
    have hlen := recB_len (ses := sn) (snap := pn) (strict := strict) (by omega) (by omega) hS
    repeat (first | ((with_reducible apply is_ld); first | refine kld hM ?_ | refine kldw hM ?_ | refine kle hM ?_ | refine klew hM ?_) | ((with_reducible apply is_sto); first | (refine kst hM ?_; intro w hM) | (refine kstw hM ?_; intro w hM)) | ((with_reducible apply is_st); refine su ?_) | ((with_reducible apply is_gd); first | refine gt ?_ | refine gf ?_ | refine gu ?_) | ((with_reducible apply is_en); refine en ?_) | (with_reducible apply c_region) | refine ws ?_ | refine x_block_other (by decide) ?_)
    (try ((with_reducible apply is_gd); first | refine gt ?_ | refine gf ?_ | refine gu ?_)); refine kcr hM (written_any sn pn strict _ _ us wz w (hR.ch hM.ch) (fun u hu => (hU u hu).ch hM.ch) (hW.ch hM.ch) hS (by omega) (by omega)) (fun v w hM => ?_)
    have hV := hM.rowRd (en := eU8) (v := v) (by (repeat constructor)) (by omega)
    obtain ⟨A9, c9, rfl⟩ := hV.form
    repeat (first | ((with_reducible apply is_ld); first | refine kld hM ?_ | refine kldw hM ?_ | refine kle hM ?_ | refine klew hM ?_) | ((with_reducible apply is_sto); first | (refine kst hM ?_; intro w hM) | (refine kstw hM ?_; intro w hM)) | ((with_reducible apply is_st); refine su ?_) | ((with_reducible apply is_gd); first | refine gt ?_ | refine gf ?_ | refine gu ?_) | ((with_reducible apply is_en); refine en ?_) | (with_reducible apply c_region) | refine ws ?_ | refine x_block_other (by decide) ?_)
    refine out1 rfl ⟨?_, hM.ch⟩
    simp only [Int.toNat_natCast, Bool.true_and]
    show Value.bool _ = _
    congr 1
    rw [Bool.eq_iff_iff, decide_eq_true_eq, decide_eq_true_eq]
    omega
set_option maxHeartbeats 8000000 in
theorem recBytes_any (ses snap : Int) (strict : Bool) (vr vw : Value) (us : List (RR × List Pr)) (wz : List Pr) (w0 : World) (hR : (Ty.enc eRr).Rd [] w0 vr (us.map (fun u : RR × List Pr => u.1))) (hU : ∀ u ∈ us, (Ty.enc ePr).Rd [] w0 (slv u.1.2.2.2) u.2) (hW : (Ty.enc ePr).Rd [] w0 vw wz)
    (hk : ShortR us) (hb : ShortL wz) :
    Calls Tryd.prog 60 #[.agg (rC ses snap strict vr vw).toArray] w0 (Ret fun u w' => Ch [] w0 w' ∧ Go.Proofs.E.Own eU8 w' w0.heap.size 5 u (bytesB ses snap strict us wz)) := by
  have hM := Mem.start w0
  obtain ⟨A, c, rfl⟩ := hR.form
  obtain ⟨A2, c2, rfl⟩ := hW.form
  simp only [List.length_map] at hR ⊢
  unfold bytesB
  refine enter [.agg (rC ses snap strict (.slice A us.length c) (.slice A2 wz.length c2)).toArray, undef, undef, undef, undef, undef, undef, undef] Tryd.func60 rfl rfl ?_
  repeat (first | ((with_reducible apply is_ld); first | refine kld hM ?_ | refine kldw hM ?_ | refine kle hM ?_ | refine klew hM ?_) | ((with_reducible apply is_sto); first | (refine kst hM ?_; intro w hM) | (refine kstw hM ?_; intro w hM)) | ((with_reducible apply is_st); refine su ?_) | ((with_reducible apply is_gd); first | refine gt ?_ | refine gf ?_ | refine gu ?_) | ((with_reducible apply is_en); refine en ?_) | (with_reducible apply c_region) | refine ws ?_ | refine x_block_other (by decide) ?_)
  refine kbx hM (fun w b1 hM => ?_)
  have hM : Mem [] w0 w [.cell b1 (rC ses snap strict (.slice A us.length c) (.slice A2 wz.length c2)) 25] := hM
  repeat (first | ((with_reducible apply is_ld); first | refine kld hM ?_ | refine kldw hM ?_ | refine kle hM ?_ | refine klew hM ?_) | ((with_reducible apply is_sto); first | (refine kst hM ?_; intro w hM) | (refine kstw hM ?_; intro w hM)) | ((with_reducible apply is_st); refine su ?_) | ((with_reducible apply is_gd); first | refine gt ?_ | refine gf ?_ | refine gu ?_) | ((with_reducible apply is_en); refine en ?_) | (with_reducible apply c_region) | refine ws ?_ | refine x_block_other (by decide) ?_)
  refine kca hM (right_any ses snap strict _ _ us wz w (hR.ch hM.ch) (fun u hu => (hU u hu).ch hM.ch) (hW.ch hM.ch) hk hb) (fun w hM => ?_)
  cases hr : rightB ses snap us wz with
  | false =>
    repeat (first | ((with_reducible apply is_ld); first | refine kld hM ?_ | refine kldw hM ?_ | refine kle hM ?_ | refine klew hM ?_) | ((with_reducible apply is_sto); first | (refine kst hM ?_; intro w hM) | (refine kstw hM ?_; intro w hM)) | ((with_reducible apply is_st); refine su ?_) | ((with_reducible apply is_gd); first | refine gt ?_ | refine gf ?_ | refine gu ?_) | ((with_reducible apply is_en); refine en ?_) | (with_reducible apply c_region) | refine ws ?_ | refine x_block_other (by decide) ?_)
    refine c_condb rfl (fun _ => ?_) (fun h => by cases h)
    repeat (first | ((with_reducible apply is_ld); first | refine kld hM ?_ | refine kldw hM ?_ | refine kle hM ?_ | refine klew hM ?_) | ((with_reducible apply is_sto); first | (refine kst hM ?_; intro w hM) | (refine kstw hM ?_; intro w hM)) | ((with_reducible apply is_st); refine su ?_) | ((with_reducible apply is_gd); first | refine gt ?_ | refine gf ?_ | refine gu ?_) | ((with_reducible apply is_en); refine en ?_) | (with_reducible apply c_region) | refine ws ?_ | refine x_block_other (by decide) ?_)
    exact out1 rfl ⟨hM.ch, Own.nil _ _ _ _⟩
  | true =>
    have hS := right_small hr
    obtain ⟨⟨h1, h2, h3, h4, h5, h6, h7⟩, h8⟩ := right_parts hr
    obtain ⟨sn, rfl⟩ := Int.eq_ofNat_of_zero_le (show 0 ≤ ses by omega)
    obtain ⟨pn, rfl⟩ := Int.eq_ofNat_of_zero_le (show 0 ≤ snap by omega)
    repeat (first | ((with_reducible apply is_ld); first | refine kld hM ?_ | refine kldw hM ?_ | refine kle hM ?_ | refine klew hM ?_) | ((with_reducible apply is_sto); first | (refine kst hM ?_; intro w hM) | (refine kstw hM ?_; intro w hM)) | ((with_reducible apply is_st); refine su ?_) | ((with_reducible apply is_gd); first | refine gt ?_ | refine gf ?_ | refine gu ?_) | ((with_reducible apply is_en); refine en ?_) | (with_reducible apply c_region) | refine ws ?_ | refine x_block_other (by decide) ?_)
    refine c_condb rfl (fun h => by cases h) (fun _ => ?_)
    repeat (first | ((with_reducible apply is_ld); first | refine kld hM ?_ | refine kldw hM ?_ | refine kle hM ?_ | refine klew hM ?_) | ((with_reducible apply is_sto); first | (refine kst hM ?_; intro w hM) | (refine kstw hM ?_; intro w hM)) | ((with_reducible apply is_st); refine su ?_) | ((with_reducible apply is_gd); first | refine gt ?_ | refine gf ?_ | refine gu ?_) | ((with_reducible apply is_en); refine en ?_) | (with_reducible apply c_region) | refine ws ?_ | refine x_block_other (by decide) ?_)
    refine kcr hM (written_any sn pn strict _ _ us wz w (hR.ch hM.ch) (fun u hu => (hU u hu).ch hM.ch) (hW.ch hM.ch) hS (by omega) (by omega)) (fun v w hM => ?_)
    repeat (first | ((with_reducible apply is_ld); first | refine kld hM ?_ | refine kldw hM ?_ | refine kle hM ?_ | refine klew hM ?_) | ((with_reducible apply is_sto); first | (refine kst hM ?_; intro w hM) | (refine kstw hM ?_; intro w hM)) | ((with_reducible apply is_st); refine su ?_) | ((with_reducible apply is_gd); first | refine gt ?_ | refine gf ?_ | refine gu ?_) | ((with_reducible apply is_en); refine en ?_) | (with_reducible apply c_region) | refine ws ?_ | refine x_block_other (by decide) ?_)
    exact out1 rfl ⟨hM.ch, hM.row (v := v) (by (repeat constructor))⟩
end Go.Proofs.YtkpkfplcoakfcaaDoor

/- Walks: the document's examples.
   Walks: law 20's light and short; ClashLeaves. -/
import Derived.Test.YtnkkeehoejmcnaaDoorG1
import Derived.Test.YtnkkeehoejmcnaaDoorClashG
set_option linter.unusedVariables false
set_option linter.unusedSimpArgs false
namespace Go.Proofs.YtnkkeehoejmcnaaDoor
open Go Go.RowKit Go.Proofs.E
attribute [local irreducible] Go.wpList Go.Code.wp Go.Proofs.E.exec Go.Proofs.E.wpLexG
theorem rleaf_any (v : Value) (bs : List UInt8) (w0 : World) (hR : tU8.Rd [] w0 v bs) (hb : bs.length ≤ 1000000000) : Calls Tryd.prog 35 #[v] w0 (Ret fun u w' => u = hv (shaH (0 :: bs)).1 ∧ Ch [] w0 w') := by
  have hM := Mem.start w0
  obtain ⟨uv, rfl⟩ := hR.slv
  refine enter [slv uv, undef, undef, undef, undef, undef] Tryd.func35 rfl rfl ?_
  repeat (first | ((with_reducible apply is_ld); first | refine kld hM ?_ | refine kldw hM ?_ | refine kle hM ?_ | refine klew hM ?_) | ((with_reducible apply is_sto); first | (refine kst hM ?_; intro w hM) | (refine kstw hM ?_; intro w hM)) | ((with_reducible apply is_st); refine su ?_) | ((with_reducible apply is_gd); first | refine gt ?_ | refine gf ?_ | refine gu ?_) | ((with_reducible apply is_en); refine en ?_) | (with_reducible apply c_region) | refine ws ?_ | refine x_block_other (by decide) ?_)
  refine kal hM (fun w b2 hM => ?_)
  repeat (first | ((with_reducible apply is_ld); first | refine kld hM ?_ | refine kldw hM ?_ | refine kle hM ?_ | refine klew hM ?_) | ((with_reducible apply is_sto); first | (refine kst hM ?_; intro w hM) | (refine kstw hM ?_; intro w hM)) | ((with_reducible apply is_st); refine su ?_) | ((with_reducible apply is_gd); first | refine gt ?_ | refine gf ?_ | refine gu ?_) | ((with_reducible apply is_en); refine en ?_) | (with_reducible apply c_region) | refine ws ?_ | refine x_block_other (by decide) ?_)
  refine kbs (en := eSl) (vs := [slv uv]) [uv] hM (fun w b4 hM => ?_)
  have hRb : (Ty.sl tU8).Rd [] w _ ([(uv, bs)].map (fun p : SlV × List UInt8 => p.2)) := Ty.Rd.unraw (hM.rowRd (en := eSl) (xs := [uv]) (by (repeat constructor)) (by simp)) (fun p hp => by simp at hp; subst hp; exact hR.ch hM.ch)
  refine kca hM (rof_any 0 _ _ w hRb (by simp; omega)) (X := hv (shaH (0 :: [bs].flatten)).1) (fun w hM => ?_)
  refine kstw (vs := (shaH (0 :: [bs].flatten)).1.map u8v) hM (fun w hM => ?_)
  rw [show [bs].flatten = bs by simp] at hM
  repeat (first | ((with_reducible apply is_ld); first | refine kld hM ?_ | refine kldw hM ?_ | refine kle hM ?_ | refine klew hM ?_) | ((with_reducible apply is_sto); first | (refine kst hM ?_; intro w hM) | (refine kstw hM ?_; intro w hM)) | ((with_reducible apply is_st); refine su ?_) | ((with_reducible apply is_gd); first | refine gt ?_ | refine gf ?_ | refine gu ?_) | ((with_reducible apply is_en); refine en ?_) | (with_reducible apply c_region) | refine ws ?_ | refine x_block_other (by decide) ?_)
  exact koc hM rfl ⟨rfl, hM.ch⟩
theorem upsZ_ex : upsZ 1 0 [97] [] = [[0, 97]] ∧ (climbZ 1 0 zeroH []).2 = true := by
  have h1 : turnsN 1 0 = [] := turns_one (by omega)
  have h2 : (climbZ 1 0 zeroH []).2 = true := climbZ_ok.2 ⟨by decide, by show (turnsN 1 0).length = 0; rw [h1]; rfl⟩
  refine ⟨?_, h2⟩
  unfold upsZ
  rw [if_pos h2]
  unfold sidesB
  rw [show turnsN (1 : Int).toNat (0 : Int).toNat = [] from h1]
  rfl
theorem leavesZ_ex : leavesZ 1 0 [97] [] [97] [] = none := by
  unfold leavesZ
  rw [if_pos ⟨upsZ_ex.2, upsZ_ex.2⟩, upsZ_ex.1]
  show firstL [([0, 97], [0, 97])] = none
  rw [firstL, if_pos rfl]
  rfl
set_option maxHeartbeats 8000000 in
theorem lives20_any (w0 : World) (hK : Laid w0) : Calls Tryd.prog 27 #[] w0 (Ret fun u w' => u = .bool true ∧ Ch [] w0 w') := by
  have hM := Mem.start w0
  refine enter [undef, undef, undef, undef, undef, undef, undef, undef, undef, undef, undef, undef, undef, undef, undef, undef, undef, undef, undef, undef, undef, undef, undef, undef, undef, undef, undef, undef, undef, undef, undef, undef, undef, undef, undef, undef, undef, undef, undef, undef, undef, undef, undef, undef, undef] Tryd.func27 rfl rfl ?_
  repeat (first | ((with_reducible apply is_ld); first | refine kld hM ?_ | refine kldw hM ?_ | refine kle hM ?_ | refine klew hM ?_) | ((with_reducible apply is_sto); first | (refine kst hM ?_; intro w hM) | (refine kstw hM ?_; intro w hM)) | ((with_reducible apply is_st); refine su ?_) | ((with_reducible apply is_gd); first | refine gt ?_ | refine gf ?_ | refine gu ?_) | ((with_reducible apply is_en); refine en ?_) | (with_reducible apply c_region) | refine ws ?_ | refine x_block_other (by decide) ?_)
  refine wl_make (n := 1) (c := 1) rfl rfl (Nat.le_refl _) (by decide) (by decide) (fun w b1 cs hN hcs => ?_)
  have hM := hM.alloc hN
  repeat (first | ((with_reducible apply is_ld); first | refine kld hM ?_ | refine kldw hM ?_ | refine kle hM ?_ | refine klew hM ?_) | ((with_reducible apply is_sto); first | (refine kst hM ?_; intro w hM) | (refine kstw hM ?_; intro w hM)) | ((with_reducible apply is_st); refine su ?_) | ((with_reducible apply is_gd); first | refine gt ?_ | refine gf ?_ | refine gu ?_) | ((with_reducible apply is_en); refine en ?_) | (with_reducible apply c_region) | refine ws ?_ | refine x_block_other (by decide) ?_)
  refine kbs (en := eU8) (vs := [u8v 97]) [97] hM (fun w b9 hM => ?_) (hm := by intro v hv; simp at hv; subst hv; rfl)
  refine kc88 hM (fun w hc hM => ?_)
  repeat (first | ((with_reducible apply is_ld); first | refine kld hM ?_ | refine kldw hM ?_ | refine kle hM ?_ | refine klew hM ?_) | ((with_reducible apply is_sto); first | (refine kst hM ?_; intro w hM) | (refine kstw hM ?_; intro w hM)) | ((with_reducible apply is_st); refine su ?_) | ((with_reducible apply is_gd); first | refine gt ?_ | refine gf ?_ | refine gu ?_) | ((with_reducible apply is_en); refine en ?_) | (with_reducible apply c_region) | refine ws ?_ | refine x_block_other (by decide) ?_)
  refine kca hM (rleaf_any _ [97] w (hM.frdRd (by (repeat constructor))) (by decide)) (fun w hM => ?_)
  repeat (first | ((with_reducible apply is_ld); first | refine kld hM ?_ | refine kldw hM ?_ | refine kle hM ?_ | refine klew hM ?_) | ((with_reducible apply is_sto); first | (refine kst hM ?_; intro w hM) | (refine kstw hM ?_; intro w hM)) | ((with_reducible apply is_st); refine su ?_) | ((with_reducible apply is_gd); first | refine gt ?_ | refine gf ?_ | refine gu ?_) | ((with_reducible apply is_en); refine en ?_) | (with_reducible apply c_region) | refine ws ?_ | refine x_block_other (by decide) ?_)
  (try ((with_reducible apply is_gd); first | refine gt ?_ | refine gf ?_ | refine gu ?_)); refine wl_val (r_indexAddr (i := 0) rfl rfl (by decide) (by decide)) ?_
  refine kstw (vs := (shaH (0 :: [97])).1.map u8v) hM (fun w hM => ?_) (hf := by omega)
  repeat (first | ((with_reducible apply is_ld); first | refine kld hM ?_ | refine kldw hM ?_ | refine kle hM ?_ | refine klew hM ?_) | ((with_reducible apply is_sto); first | (refine kst hM ?_; intro w hM) | (refine kstw hM ?_; intro w hM)) | ((with_reducible apply is_st); refine su ?_) | ((with_reducible apply is_gd); first | refine gt ?_ | refine gf ?_ | refine gu ?_) | ((with_reducible apply is_en); refine en ?_) | (with_reducible apply c_region) | refine ws ?_ | refine x_block_other (by decide) ?_)
  refine kbs (en := eU8) (vs := [u8v 97]) [97] hM (fun w b14 hM => ?_) (hm := by intro v hv; simp at hv; subst hv; rfl)
  refine kc88 hM (fun w hc hM => ?_)
  repeat (first | ((with_reducible apply is_ld); first | refine kld hM ?_ | refine kldw hM ?_ | refine kle hM ?_ | refine klew hM ?_) | ((with_reducible apply is_sto); first | (refine kst hM ?_; intro w hM) | (refine kstw hM ?_; intro w hM)) | ((with_reducible apply is_st); refine su ?_) | ((with_reducible apply is_gd); first | refine gt ?_ | refine gf ?_ | refine gu ?_) | ((with_reducible apply is_en); refine en ?_) | (with_reducible apply c_region) | refine ws ?_ | refine x_block_other (by decide) ?_)
  refine ca (cups_any 1 0 _ (.slice none 0 0) [97] [] w (hK.ch hM.ch (by simp)) (hM.frdRd (xs := [97]) (by (repeat constructor))) (Ty.Rd.nil _ _ _ _ _) (by decide)) ?_
  rintro _ w1 ⟨v2, B, rfl, hN2⟩
  rw [upsZ_ex.1] at hN2
  rw [upsZ_ex.2]
  have hM := hM.nil.join hN2 (by simp [As.plain])
  repeat (first | ((with_reducible apply is_ld); first | refine kld hM ?_ | refine kldw hM ?_ | refine kle hM ?_ | refine klew hM ?_) | ((with_reducible apply is_sto); first | (refine kst hM ?_; intro w hM) | (refine kstw hM ?_; intro w hM)) | ((with_reducible apply is_st); refine su ?_) | ((with_reducible apply is_gd); first | refine gt ?_ | refine gf ?_ | refine gu ?_) | ((with_reducible apply is_en); refine en ?_) | (with_reducible apply c_region) | refine ws ?_ | refine x_block_other (by decide) ?_)
  refine kbs (en := eU8) (vs := [u8v 97]) [97] hM (fun w b20 hM => ?_) (hm := by intro v hv; simp at hv; subst hv; rfl)
  refine kc88 hM (fun w hc hM => ?_)
  repeat (first | ((with_reducible apply is_ld); first | refine kld hM ?_ | refine kldw hM ?_ | refine kle hM ?_ | refine klew hM ?_) | ((with_reducible apply is_sto); first | (refine kst hM ?_; intro w hM) | (refine kstw hM ?_; intro w hM)) | ((with_reducible apply is_st); refine su ?_) | ((with_reducible apply is_gd); first | refine gt ?_ | refine gf ?_ | refine gu ?_) | ((with_reducible apply is_en); refine en ?_) | (with_reducible apply c_region) | refine ws ?_ | refine x_block_other (by decide) ?_)
  refine kbs (en := eU8) (vs := [u8v 97]) [97] hM (fun w b22 hM => ?_) (hm := by intro v hv; simp at hv; subst hv; rfl)
  refine kc88 hM (fun w hc hM => ?_)
  repeat (first | ((with_reducible apply is_ld); first | refine kld hM ?_ | refine kldw hM ?_ | refine kle hM ?_ | refine klew hM ?_) | ((with_reducible apply is_sto); first | (refine kst hM ?_; intro w hM) | (refine kstw hM ?_; intro w hM)) | ((with_reducible apply is_st); refine su ?_) | ((with_reducible apply is_gd); first | refine gt ?_ | refine gf ?_ | refine gu ?_) | ((with_reducible apply is_en); refine en ?_) | (with_reducible apply c_region) | refine ws ?_ | refine x_block_other (by decide) ?_)
  refine ca (cleaves_any 1 0 (.slice (some ⟨b20, 0, none⟩) 1 1) (.slice none 0 0) (.slice (some ⟨b22, 0, none⟩) 1 1) (.slice none 0 0) [97] [97] [] [] w (hK.ch hM.ch (by simp)) (hM.frdRd (by (repeat constructor))) (Ty.Rd.nil _ _ _ _ _) (hM.frdRd (by (repeat constructor))) (Ty.Rd.nil _ _ _ _ _) (by decide) (by decide) (by decide)) ?_
  rintro _ w2 ⟨v4, v5, rfl, hN4⟩
  rw [leavesZ_ex] at hN4 ⊢
  have hM := hM.join hN4 (by simp [As.plain])
  have hR2 := hM.frdRd (t := Ty.sl tU8) (v := v2) (xs := [[0, 97]]) (by (repeat constructor))
  obtain ⟨ps, hps, hP, hp⟩ := hR2.raw
  obtain ⟨u, rfl⟩ : ∃ u : SlV, ps = [(u, [0, 97])] := by
    cases ps with
    | nil => cases hps
    | cons q ps =>
      cases ps with
      | nil => simp at hps; exact ⟨q.1, by rw [← hps]⟩
      | cons r ps => simp at hps
  obtain ⟨A, c, rfl⟩ := hP.form
  repeat (first | ((with_reducible apply is_ld); first | refine kld hM ?_ | refine kldw hM ?_ | refine kle hM ?_ | refine klew hM ?_) | ((with_reducible apply is_sto); first | (refine kst hM ?_; intro w hM) | (refine kstw hM ?_; intro w hM)) | ((with_reducible apply is_st); refine su ?_) | ((with_reducible apply is_gd); first | refine gt ?_ | refine gf ?_ | refine gu ?_) | ((with_reducible apply is_en); refine en ?_) | (with_reducible apply c_region) | refine ws ?_ | refine x_block_other (by decide) ?_)
  (try ((with_reducible apply is_gd); first | refine gt ?_ | refine gf ?_ | refine gu ?_)); refine ix hP (fun b o x hx hA => ?_)
  (try ((with_reducible apply is_gd); first | refine gt ?_ | refine gf ?_ | refine gu ?_)); refine ld hA ?_
  obtain rfl : u = x := by simpa using hx
  (try ((with_reducible apply is_gd); first | refine gt ?_ | refine gf ?_ | refine gu ?_)); refine wl_val (r_b2s (hp (u, [0, 97]) (by simp))) ?_
  (try ((with_reducible apply is_gd); first | refine gt ?_ | refine gf ?_ | refine gu ?_)); refine wl_val (r_eqst (b := [0, 97])) ?_
  repeat (first | ((with_reducible apply is_ld); first | refine kld hM ?_ | refine kldw hM ?_ | refine kle hM ?_ | refine klew hM ?_) | ((with_reducible apply is_sto); first | (refine kst hM ?_; intro w hM) | (refine kstw hM ?_; intro w hM)) | ((with_reducible apply is_st); refine su ?_) | ((with_reducible apply is_gd); first | refine gt ?_ | refine gf ?_ | refine gu ?_) | ((with_reducible apply is_en); refine en ?_) | (with_reducible apply c_region) | refine ws ?_ | refine x_block_other (by decide) ?_)
  exact out1 rfl ⟨rfl, hM.ch⟩
end Go.Proofs.YtnkkeehoejmcnaaDoor
set_option linter.unusedVariables false
set_option linter.unusedSimpArgs false
namespace Go.Proofs.YtnkkeehoejmcnaaDoor
open Go Go.RowKit Go.Proofs.E
attribute [local irreducible] Go.wpList Go.Code.wp Go.Proofs.E.exec Go.Proofs.E.wpLexG
abbrev eLf : En (SlV × SlV) := { f := fun x => [slv x.1, slv x.2], n := 2, hl := fun _ => rfl, h1 := fun x u hu => by simp at hu; rcases hu with rfl | rfl <;> rfl }
def okLf (x : SlV × SlV) : Bool := decide (x.1.2.1 ≤ 500) && decide (x.2.2.1 ≤ 100)
theorem slv_len {α : Type} {t : Ty α} {S : List Nat} {w : World} {u : SlV} {xs : List α} (h : t.Rd S w (slv u) xs) : u.2.1 = xs.length := by
  obtain ⟨A, c, h⟩ := h.form
  unfold slv at h
  injection h
set_option maxHeartbeats 4000000 in
theorem light20_any (v : Value) (us : List (SlV × SlV)) (w0 : World) (hR : (Ty.enc eLf).Rd [] w0 v us) (hl : us.length ≤ 1000000) : Calls Tryd.prog 26 #[v] w0 (Ret fun u w' => u = .bool (us.all okLf) ∧ Ch [] w0 w') := by
  have hM := Mem.start w0
  obtain ⟨A, c, rfl⟩ := hR.form
  refine enter [.slice A us.length c, undef, undef, undef, undef, undef, undef, undef, undef, undef, undef, undef, undef, undef, undef, undef, undef, undef, undef, undef, undef, undef] Tryd.func26 rfl rfl ?_
  repeat (first | ((with_reducible apply is_ld); first | refine kld hM ?_ | refine kldw hM ?_ | refine kle hM ?_ | refine klew hM ?_) | ((with_reducible apply is_sto); first | (refine kst hM ?_; intro w hM) | (refine kstw hM ?_; intro w hM)) | ((with_reducible apply is_st); refine su ?_) | ((with_reducible apply is_gd); first | refine gt ?_ | refine gf ?_ | refine gu ?_) | ((with_reducible apply is_en); refine en ?_) | (with_reducible apply c_region) | refine ws ?_ | refine x_block_other (by decide) ?_)
  
  refine c_loop (fun k l w => ∃ (j : Nat), (∃ jj : Nat → Value, l = [jj 0, jj 1, .bool false, jj 3, jj 4, .slice A us.length c, .int .i64 (us.length : Int), .int .i64 (j : Int), jj 8, jj 9, jj 10, jj 11, jj 12, jj 13, jj 14, jj 15, jj 16, jj 17, jj 18, jj 19, jj 20, jj 21]) ∧ k + j = us.length ∧ Mem [] w0 w [] ∧ us.all okLf = (us.drop j).all okLf) us.length
    ⟨0, exj rfl, rfl, hM, rfl⟩ ?_
  clear hM
  rintro k l w ⟨j, ⟨jj, rfl⟩, hkj, hM, hf⟩
  repeat (first | ((with_reducible apply is_ld); first | refine kld hM ?_ | refine kldw hM ?_ | refine kle hM ?_ | refine klew hM ?_) | ((with_reducible apply is_sto); first | (refine kst hM ?_; intro w hM) | (refine kstw hM ?_; intro w hM)) | ((with_reducible apply is_st); refine su ?_) | ((with_reducible apply is_gd); first | refine gt ?_ | refine gf ?_ | refine gu ?_) | ((with_reducible apply is_en); refine en ?_) | (with_reducible apply c_region) | refine ws ?_ | refine x_block_other (by decide) ?_)
  refine c_cond rfl (fun hj => ?_) (fun hj => ?_)
  · repeat (first | ((with_reducible apply is_ld); first | refine kld hM ?_ | refine kldw hM ?_ | refine kle hM ?_ | refine klew hM ?_) | ((with_reducible apply is_sto); first | (refine kst hM ?_; intro w hM) | (refine kstw hM ?_; intro w hM)) | ((with_reducible apply is_st); refine su ?_) | ((with_reducible apply is_gd); first | refine gt ?_ | refine gf ?_ | refine gu ?_) | ((with_reducible apply is_en); refine en ?_) | (with_reducible apply c_region) | refine ws ?_ | refine x_block_other (by decide) ?_)
    refine kix hR (fun b o x hx hA => ?_)
    rw [Int.toNat_natCast] at hx
    have hd : us.drop j = x :: us.drop (j + 1) := by
      obtain ⟨hlt, he⟩ := List.getElem?_eq_some_iff.1 hx
      rw [List.drop_eq_getElem_cons hlt, he]
    rw [hd, List.all_cons] at hf
    refine katr hM hA ?_
    refine kal hM (fun w b4 hM => ?_)
    refine kstw (vs := [slv x.1, slv x.2]) hM (fun w hM => ?_)
    repeat (first | ((with_reducible apply is_ld); first | refine kld hM ?_ | refine kldw hM ?_ | refine kle hM ?_ | refine klew hM ?_) | ((with_reducible apply is_sto); first | (refine kst hM ?_; intro w hM) | (refine kstw hM ?_; intro w hM)) | ((with_reducible apply is_st); refine su ?_) | ((with_reducible apply is_gd); first | refine gt ?_ | refine gf ?_ | refine gu ?_) | ((with_reducible apply is_en); refine en ?_) | (with_reducible apply c_region) | refine ws ?_ | refine x_block_other (by decide) ?_)
    by_cases h1 : x.1.2.1 ≤ 500
    · rw [decide_eq_false (by omega : ¬ ((x.1.2.1 : Int) > 500))]
      repeat (first | ((with_reducible apply is_ld); first | refine kld hM ?_ | refine kldw hM ?_ | refine kle hM ?_ | refine klew hM ?_) | ((with_reducible apply is_sto); first | (refine kst hM ?_; intro w hM) | (refine kstw hM ?_; intro w hM)) | ((with_reducible apply is_st); refine su ?_) | ((with_reducible apply is_gd); first | refine gt ?_ | refine gf ?_ | refine gu ?_) | ((with_reducible apply is_en); refine en ?_) | (with_reducible apply c_region) | refine ws ?_ | refine x_block_other (by decide) ?_)
      by_cases h2 : x.2.2.1 ≤ 100
      · rw [decide_eq_false (by omega : ¬ ((x.2.2.1 : Int) > 100))]
        repeat (first | ((with_reducible apply is_ld); first | refine kld hM ?_ | refine kldw hM ?_ | refine kle hM ?_ | refine klew hM ?_) | ((with_reducible apply is_sto); first | (refine kst hM ?_; intro w hM) | (refine kstw hM ?_; intro w hM)) | ((with_reducible apply is_st); refine su ?_) | ((with_reducible apply is_gd); first | refine gt ?_ | refine gf ?_ | refine gu ?_) | ((with_reducible apply is_en); refine en ?_) | (with_reducible apply c_region) | refine ws ?_ | refine x_block_other (by decide) ?_)
        refine c_condb rfl (fun h => by cases h) (fun _ => ?_)
        repeat (first | ((with_reducible apply is_ld); first | refine kld hM ?_ | refine kldw hM ?_ | refine kle hM ?_ | refine klew hM ?_) | ((with_reducible apply is_sto); first | (refine kst hM ?_; intro w hM) | (refine kstw hM ?_; intro w hM)) | ((with_reducible apply is_st); refine su ?_) | ((with_reducible apply is_gd); first | refine gt ?_ | refine gf ?_ | refine gu ?_) | ((with_reducible apply is_en); refine en ?_) | (with_reducible apply c_region) | refine ws ?_ | refine x_block_other (by decide) ?_)
        refine x_goes (k - 1) rfl (by omega) ⟨j + 1, exj rfl, by omega, hM.nil, ?_⟩
        rw [hf, show okLf x = true by unfold okLf; rw [decide_eq_true h1, decide_eq_true h2]; rfl, Bool.true_and]
      · rw [decide_eq_true (by omega : ((x.2.2.1 : Int) > 100))]
        repeat (first | ((with_reducible apply is_ld); first | refine kld hM ?_ | refine kldw hM ?_ | refine kle hM ?_ | refine klew hM ?_) | ((with_reducible apply is_sto); first | (refine kst hM ?_; intro w hM) | (refine kstw hM ?_; intro w hM)) | ((with_reducible apply is_st); refine su ?_) | ((with_reducible apply is_gd); first | refine gt ?_ | refine gf ?_ | refine gu ?_) | ((with_reducible apply is_en); refine en ?_) | (with_reducible apply c_region) | refine ws ?_ | refine x_block_other (by decide) ?_)
        refine c_condb rfl (fun _ => ?_) (fun h => by cases h)
        repeat (first | ((with_reducible apply is_ld); first | refine kld hM ?_ | refine kldw hM ?_ | refine kle hM ?_ | refine klew hM ?_) | ((with_reducible apply is_sto); first | (refine kst hM ?_; intro w hM) | (refine kstw hM ?_; intro w hM)) | ((with_reducible apply is_st); refine su ?_) | ((with_reducible apply is_gd); first | refine gt ?_ | refine gf ?_ | refine gu ?_) | ((with_reducible apply is_en); refine en ?_) | (with_reducible apply c_region) | refine ws ?_ | refine x_block_other (by decide) ?_)
        refine out1 rfl ⟨?_, hM.ch⟩
        rw [hf, show okLf x = false by unfold okLf; rw [decide_eq_true h1, decide_eq_false h2]; rfl]
        rfl
    · rw [decide_eq_true (by omega : ((x.1.2.1 : Int) > 500))]
      repeat (first | ((with_reducible apply is_ld); first | refine kld hM ?_ | refine kldw hM ?_ | refine kle hM ?_ | refine klew hM ?_) | ((with_reducible apply is_sto); first | (refine kst hM ?_; intro w hM) | (refine kstw hM ?_; intro w hM)) | ((with_reducible apply is_st); refine su ?_) | ((with_reducible apply is_gd); first | refine gt ?_ | refine gf ?_ | refine gu ?_) | ((with_reducible apply is_en); refine en ?_) | (with_reducible apply c_region) | refine ws ?_ | refine x_block_other (by decide) ?_)
      refine c_condb rfl (fun _ => ?_) (fun h => by cases h)
      repeat (first | ((with_reducible apply is_ld); first | refine kld hM ?_ | refine kldw hM ?_ | refine kle hM ?_ | refine klew hM ?_) | ((with_reducible apply is_sto); first | (refine kst hM ?_; intro w hM) | (refine kstw hM ?_; intro w hM)) | ((with_reducible apply is_st); refine su ?_) | ((with_reducible apply is_gd); first | refine gt ?_ | refine gf ?_ | refine gu ?_) | ((with_reducible apply is_en); refine en ?_) | (with_reducible apply c_region) | refine ws ?_ | refine x_block_other (by decide) ?_)
      refine out1 rfl ⟨?_, hM.ch⟩
      rw [hf, show okLf x = false by unfold okLf; rw [decide_eq_false h1]; rfl]
      rfl
  · repeat (first | ((with_reducible apply is_ld); first | refine kld hM ?_ | refine kldw hM ?_ | refine kle hM ?_ | refine klew hM ?_) | ((with_reducible apply is_sto); first | (refine kst hM ?_; intro w hM) | (refine kstw hM ?_; intro w hM)) | ((with_reducible apply is_st); refine su ?_) | ((with_reducible apply is_gd); first | refine gt ?_ | refine gf ?_ | refine gu ?_) | ((with_reducible apply is_en); refine en ?_) | (with_reducible apply c_region) | refine ws ?_ | refine x_block_other (by decide) ?_)
    refine out1 rfl ⟨?_, hM.ch⟩
    rw [hf, List.drop_eq_nil_of_le (by omega)]
    rfl
end Go.Proofs.YtnkkeehoejmcnaaDoor

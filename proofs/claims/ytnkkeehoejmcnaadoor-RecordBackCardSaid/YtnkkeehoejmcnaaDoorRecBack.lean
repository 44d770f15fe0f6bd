/- Walk: the law RecordBack. -/
import Derived.Test.YtnkkeehoejmcnaaDoorRd
import Derived.Test.YtnkkeehoejmcnaaDoorLeaf16
import Derived.Test.YtnkkeehoejmcnaaDoorLr
import Derived.Test.YtnkkeehoejmcnaaDoorYapp
set_option linter.unusedVariables false
set_option linter.unusedSimpArgs false
namespace Go.Proofs.YtnkkeehoejmcnaaDoor
open Go Go.RowKit Go.Proofs.E
attribute [local irreducible] Go.wpList Go.Code.wp Go.Proofs.E.exec Go.Proofs.E.wpLexG
theorem bytesB_V {ses snap : Nat} {strict : Bool} {us : List (RR × List Pr)} {wz : List Pr} (h : goodV (ses, snap, strict, us.map dat, wz) = true) : bytesB (ses : Int) (snap : Int) strict us wz = recD (ses, snap, strict, us.map dat, wz) := by
  have h1 := (goodV_parts h).1
  rw [rightB_dat (vs := us) (map_undat _)] at h1
  unfold bytesB
  rw [if_pos h1, recD_dat]
  rfl
theorem readZ_val {bs : Bs} {x : RecV} (h : readZ bs = some x) : (recS (bs, false)).1 = x ∧ True := by
  unfold readZ at h
  split at h
  · cases h
  split at h
  · cases h
  · injection h with h
    exact ⟨h, trivial⟩
theorem recGood_rt {ses snap : Int} {strict : Bool} {us : List (RR × List Pr)} {wz : List Pr} (h : recGood ses snap strict us wz = true) : rightB ses snap us wz = true := by
  unfold recGood at h
  rw [Bool.and_eq_true] at h
  exact h.1
theorem sameB_rfl {ses snap : Int} {strict : Bool} {us vs : List (RR × List Pr)} {wz : List Pr} (h : us.map dat = vs.map dat) : sameB ses snap strict us wz ses snap strict vs wz = true := by simp [sameB, h]
theorem recD_pos (x : RecV) : 0 < (recD x).length := by
  unfold recD
  simp only [List.length_append, flagB_len]
  omega
set_option maxHeartbeats 32000000 in
theorem recordBack_any (ses snap : Int) (strict : Bool) (vr vw : Value) (us : List (RR × List Pr)) (wz : List Pr) (v : Value) (bs : Bs) (N : Nat) (w0 : World) (hK : Laid w0) (hA : RecM w0 vr vw us wz) (hk : ShortR us) (hb : ShortL wz) (hR : tU8.Rd [] w0 v bs) (hN : N < 2 ^ 64) :
    Calls Tryd.prog 14 #[.agg (rC ses snap strict vr vw).toArray, v, .int .u64 (N : Int)] w0 (Ret fun u w' => u = .bool true ∧ Ch [] w0 w') := by
  have hM := Mem.start w0
  have hle := hR.le
  obtain ⟨A0, c0, rfl⟩ := hR.form
  obtain ⟨A, c, rfl⟩ := hA.r.form
  obtain ⟨A2, c2, rfl⟩ := hA.w.form
  simp only [List.length_map] at hA ⊢
  refine enter [.agg (rC ses snap strict (.slice A us.length c) (.slice A2 wz.length c2)).toArray, .slice A0 bs.length c0, .int .u64 (N : Int), undef, undef, undef, undef, undef, undef, undef, undef, undef, undef, undef, undef, undef, undef, undef, undef, undef, undef, undef, undef, undef, undef, undef, undef, undef, undef, undef, undef, undef, undef, undef, undef, undef, undef, undef, undef, undef, undef, undef, undef, undef, undef, undef, undef, undef, undef, undef, undef, undef, undef, undef, undef, undef, undef, undef, undef, undef, undef, undef, undef, undef, undef, undef, undef, undef, undef, undef, undef, undef, undef, undef, undef, undef, undef, undef, undef, undef, undef, undef, undef, undef, undef, undef, undef, undef, undef, undef, undef] Tryd.func14 rfl rfl ?_
  repeat (first | ((with_reducible apply is_ld); first | refine kld hM ?_ | refine kldw hM ?_ | refine kle hM ?_ | refine klew hM ?_) | ((with_reducible apply is_sto); first | (refine kst hM ?_; intro w hM) | (refine kstw hM ?_; intro w hM)) | ((with_reducible apply is_st); refine su ?_) | ((with_reducible apply is_gd); first | refine gt ?_ | refine gf ?_ | refine gu ?_) | ((with_reducible apply is_en); refine en ?_) | (with_reducible apply c_region) | refine ws ?_ | refine x_block_other (by decide) ?_)
  refine kbx hM (fun w b3 hM => ?_)
  have hM : Mem [] w0 w [.cell b3 (rC ses snap strict (.slice A us.length c) (.slice A2 wz.length c2)) 25] := hM
  repeat (first | ((with_reducible apply is_ld); first | refine kld hM ?_ | refine kldw hM ?_ | refine kle hM ?_ | refine klew hM ?_) | ((with_reducible apply is_sto); first | (refine kst hM ?_; intro w hM) | (refine kstw hM ?_; intro w hM)) | ((with_reducible apply is_st); refine su ?_) | ((with_reducible apply is_gd); first | refine gt ?_ | refine gf ?_ | refine gu ?_) | ((with_reducible apply is_en); refine en ?_) | (with_reducible apply c_region) | refine ws ?_ | refine x_block_other (by decide) ?_)
  refine ca (light_any ses snap strict _ _ us wz w (hA.ch hM.ch) hk hb) ?_
  rintro _ w1 ⟨⟨l1, rfl, hl1⟩, hc⟩
  have hM := hM.call hc
  cases l1 with
  | false =>
    repeat (first | ((with_reducible apply is_ld); first | refine kld hM ?_ | refine kldw hM ?_ | refine kle hM ?_ | refine klew hM ?_) | ((with_reducible apply is_sto); first | (refine kst hM ?_; intro w hM) | (refine kstw hM ?_; intro w hM)) | ((with_reducible apply is_st); refine su ?_) | ((with_reducible apply is_gd); first | refine gt ?_ | refine gf ?_ | refine gu ?_) | ((with_reducible apply is_en); refine en ?_) | (with_reducible apply c_region) | refine ws ?_ | refine x_block_other (by decide) ?_)
    refine c_condb rfl (fun _ => ?_) (fun h => by cases h)
    repeat (first | ((with_reducible apply is_ld); first | refine kld hM ?_ | refine kldw hM ?_ | refine kle hM ?_ | refine klew hM ?_) | ((with_reducible apply is_sto); first | (refine kst hM ?_; intro w hM) | (refine kstw hM ?_; intro w hM)) | ((with_reducible apply is_st); refine su ?_) | ((with_reducible apply is_gd); first | refine gt ?_ | refine gf ?_ | refine gu ?_) | ((with_reducible apply is_en); refine en ?_) | (with_reducible apply c_region) | refine ws ?_ | refine x_block_other (by decide) ?_)
    refine kca hM (lives_any _) (fun w hM => ?_)
    repeat (first | ((with_reducible apply is_ld); first | refine kld hM ?_ | refine kldw hM ?_ | refine kle hM ?_ | refine klew hM ?_) | ((with_reducible apply is_sto); first | (refine kst hM ?_; intro w hM) | (refine kstw hM ?_; intro w hM)) | ((with_reducible apply is_st); refine su ?_) | ((with_reducible apply is_gd); first | refine gt ?_ | refine gf ?_ | refine gu ?_) | ((with_reducible apply is_en); refine en ?_) | (with_reducible apply c_region) | refine ws ?_ | refine x_block_other (by decide) ?_)
    exact out1 rfl ⟨rfl, hM.ch⟩
  | true =>
  repeat (first | ((with_reducible apply is_ld); first | refine kld hM ?_ | refine kldw hM ?_ | refine kle hM ?_ | refine klew hM ?_) | ((with_reducible apply is_sto); first | (refine kst hM ?_; intro w hM) | (refine kstw hM ?_; intro w hM)) | ((with_reducible apply is_st); refine su ?_) | ((with_reducible apply is_gd); first | refine gt ?_ | refine gf ?_ | refine gu ?_) | ((with_reducible apply is_en); refine en ?_) | (with_reducible apply c_region) | refine ws ?_ | refine x_block_other (by decide) ?_)
  by_cases q1 : (3000 : Int) < (bs.length : Int)
  · rw [decide_eq_true q1]
    refine c_condb rfl (fun _ => ?_) (fun h => by cases h)
    repeat (first | ((with_reducible apply is_ld); first | refine kld hM ?_ | refine kldw hM ?_ | refine kle hM ?_ | refine klew hM ?_) | ((with_reducible apply is_sto); first | (refine kst hM ?_; intro w hM) | (refine kstw hM ?_; intro w hM)) | ((with_reducible apply is_st); refine su ?_) | ((with_reducible apply is_gd); first | refine gt ?_ | refine gf ?_ | refine gu ?_) | ((with_reducible apply is_en); refine en ?_) | (with_reducible apply c_region) | refine ws ?_ | refine x_block_other (by decide) ?_)
    refine kca hM (lives_any _) (fun w hM => ?_)
    repeat (first | ((with_reducible apply is_ld); first | refine kld hM ?_ | refine kldw hM ?_ | refine kle hM ?_ | refine klew hM ?_) | ((with_reducible apply is_sto); first | (refine kst hM ?_; intro w hM) | (refine kstw hM ?_; intro w hM)) | ((with_reducible apply is_st); refine su ?_) | ((with_reducible apply is_gd); first | refine gt ?_ | refine gf ?_ | refine gu ?_) | ((with_reducible apply is_en); refine en ?_) | (with_reducible apply c_region) | refine ws ?_ | refine x_block_other (by decide) ?_)
    exact out1 rfl ⟨rfl, hM.ch⟩
  rw [decide_eq_false q1]
  refine c_condb rfl (fun h => by cases h) (fun _ => ?_)
  repeat (first | ((with_reducible apply is_ld); first | refine kld hM ?_ | refine kldw hM ?_ | refine kle hM ?_ | refine klew hM ?_) | ((with_reducible apply is_sto); first | (refine kst hM ?_; intro w hM) | (refine kstw hM ?_; intro w hM)) | ((with_reducible apply is_st); refine su ?_) | ((with_reducible apply is_gd); first | refine gt ?_ | refine gf ?_ | refine gu ?_) | ((with_reducible apply is_en); refine en ?_) | (with_reducible apply c_region) | refine ws ?_ | refine x_block_other (by decide) ?_)
  refine ca (recRead_any _ bs _ (hR.ch hM.ch)) ?_
  rintro _ w1 ⟨vr1, vw1, us1, rfl, hd1, hK1⟩
  have hm1 := rows_recM hK1
  obtain ⟨Ar1, cr1, rfl⟩ := hm1.r.form
  obtain ⟨Aw1, cw1, rfl⟩ := hm1.w.form
  clear hm1
  have hM := hM.join hK1 rows_plain
  clear hK1
  obtain ⟨zx, hzx⟩ : ∃ x, readZ bs = x := ⟨_, rfl⟩
  have hsound : ∀ x, zx = some x → bs = recD x ∧ goodV x = true := fun x hx => readZ_sound (hzx.trans hx)
  rw [hzx] at hM hd1 ⊢
  obtain ⟨⟨ses1, snap1, strict1, ds1, wz1⟩, hrs⟩ : ∃ x, resR zx = x := ⟨_, rfl⟩
  rw [hrs] at hM hd1 ⊢
  simp only at hM hd1 ⊢
  obtain ⟨e1, he1⟩ : ∃ e, errR zx = e := ⟨_, rfl⟩
  rw [he1]
  obtain ⟨TL, hTL⟩ : ∃ TL, TL = rows16 (.slice Ar1 (us1.map (fun u : RR × List Pr => u.1)).length cr1) (.slice Aw1 wz1.length cw1) us1 wz1 := ⟨_, rfl⟩
  rw [← hTL] at hM
  have hM := hM.perm List.perm_append_comm
  simp only [List.cons_append, List.nil_append] at hM
  repeat (first | ((with_reducible apply is_ld); first | refine kld hM ?_ | refine kldw hM ?_ | refine kle hM ?_ | refine klew hM ?_) | ((with_reducible apply is_sto); first | (refine kst hM ?_; intro w hM) | (refine kstw hM ?_; intro w hM)) | ((with_reducible apply is_st); refine su ?_) | ((with_reducible apply is_gd); first | refine gt ?_ | refine gf ?_ | refine gu ?_) | ((with_reducible apply is_en); refine en ?_) | (with_reducible apply c_region) | refine ws ?_ | refine x_block_other (by decide) ?_)
  refine kal hM (fun w b7 hM => ?_)
  refine kstw (vs := rC ses1 snap1 strict1 (.slice Ar1 (us1.map (fun u : RR × List Pr => u.1)).length cr1) (.slice Aw1 wz1.length cw1)) hM (fun w hM => ?_)
  repeat (first | ((with_reducible apply is_ld); first | refine kld hM ?_ | refine kldw hM ?_ | refine kle hM ?_ | refine klew hM ?_) | ((with_reducible apply is_sto); first | (refine kst hM ?_; intro w hM) | (refine kstw hM ?_; intro w hM)) | ((with_reducible apply is_st); refine su ?_) | ((with_reducible apply is_gd); first | refine gt ?_ | refine gf ?_ | refine gu ?_) | ((with_reducible apply is_en); refine en ?_) | refine ws ?_ | refine x_block_other (by decide) ?_)
  
  refine c_cutJ (fun l w => (∃ jj : Nat → Value, l = [jj 0, .slice A0 bs.length c0, .int .u64 (N : Int), .pointer (some ⟨b3, 0, none⟩), jj 4, jj 5, .bool false, jj 7, jj 8, jj 9, jj 10, jj 11, jj 12, jj 13, jj 14, jj 15, jj 16, jj 17, jj 18, jj 19, jj 20, jj 21, jj 22, jj 23, jj 24, jj 25, jj 26, jj 27, jj 28, jj 29, jj 30, jj 31, jj 32, jj 33, jj 34, jj 35, jj 36, jj 37, jj 38, jj 39, jj 40, jj 41, .bool false, jj 43, jj 44, jj 45, jj 46, jj 47, jj 48, jj 49, jj 50, jj 51, jj 52, jj 53, jj 54, jj 55, jj 56, jj 57, jj 58, jj 59, jj 60, jj 61, jj 62, jj 63, jj 64, jj 65, jj 66, jj 67, jj 68, jj 69, jj 70, jj 71, jj 72, jj 73, jj 74, jj 75, jj 76, jj 77, jj 78, jj 79, jj 80, jj 81, jj 82, jj 83, jj 84, jj 85, jj 86, jj 87, jj 88, jj 89, jj 90]) ∧ Mem [] w0 w [.cell b3 (rC ses snap strict (.slice A us.length c) (.slice A2 wz.length c2)) 25]) ?_ ?_
  · cases zx with
    | none =>
      have he1 : e1 = 4 := he1.symm
      subst he1
      refine kdr hM (by kernel_rfl) (by kernel_rfl) (fun w hM => ?_)
      repeat (first | ((with_reducible apply is_ldg); first | refine kldg hM ?_ | refine kldwg hM ?_) | ((with_reducible apply is_sg); refine sgu ?_) | ((with_reducible apply is_gg); first | refine gtg ?_ | refine gfg ?_ | refine gug ?_) | ((with_reducible apply is_eg); refine eg ?_))
      (intro w hc; have hM := hM.call hc)
      exact outJ ⟨exj rfl, hM.sub (by (repeat (first | exact Go.Proofs.E.Sub.refl _ | exact Go.Proofs.E.Sub.nil | (apply Go.Proofs.E.Sub.cons; (repeat (first | exact Go.Proofs.E.Pick.here | apply Go.Proofs.E.Pick.there))) | apply Go.Proofs.E.Sub.tail)))⟩
    | some y =>
      have he1 : e1 = 0 := he1.symm
      subst he1
      obtain ⟨hbs, hgd⟩ := hsound y rfl
      have hrs : y = (ses1, snap1, strict1, ds1, wz1) := hrs
      subst hrs
      have hV : goodV (ses1, snap1, strict1, us1.map dat, wz1) = true := by rw [hd1]; exact hgd
      have hbs1 : bytesB (ses1 : Int) (snap1 : Int) strict1 us1 wz1 = bs := by rw [bytesB_V hV, hd1, ← hbs]
      have hsm : SmV (ses1, snap1, strict1, ds1, wz1) := by
        rw [← (readZ_val hzx).1]
        exact recS_sm _
      obtain ⟨hk1, hb1⟩ := smV_short (us := us1) hsm hd1
      refine c_ordY ([], []) [] (by kernel_rfl) (by kernel_rfl) (by kernel_rfl) (fun w hc hs => ?_)
      have hM := hM.call hc
      have hl7 := Blk.lt (hM.blk (b := b7) (by (repeat constructor)))
      (first | refine yn 0 rfl ?_ | refine ynt 0 rfl ?_ | refine ynff 0 rfl ?_); (first | refine yn 1 rfl ?_ | refine ynt 1 rfl ?_ | refine ynff 1 rfl ?_); (first | refine yn 2 rfl ?_ | refine ynt 2 rfl ?_ | refine ynff 2 rfl ?_)
      refine ynlrt 3 rfl (hM.blk (b := b7) (by (repeat constructor))) (by omega) (by simp) rfl rfl ?_
      refine yk1 4 hM (by kernel_rfl) rfl (fun w h0 hM => ?_)
      refine gt ?_
      have hrm := rows_recM (hTL ▸ hM.drop.drop)
      refine ca (recGood_any ses1 snap1 strict1 _ _ us1 wz1 w hrm.r hrm.u hrm.w hk1 hb1) ?_
      rintro _ w2 ⟨rfl, hc⟩
      have hM := hM.call hc
      rw [recGood_V, hV]
      refine x_wy (.inl (hc.gy h0)) rfl ?_
      (first | refine yn 5 rfl ?_ | refine ynt 5 rfl ?_ | refine ynff 5 rfl ?_); (first | refine yn 6 rfl ?_ | refine ynt 6 rfl ?_ | refine ynff 6 rfl ?_)
      have hB7 := hM.blk (b := b7) (by (repeat constructor))
      refine ynvt 7 rfl (by kernel_rfl) (by kernel_rfl) rfl rfl (Nat.le_of_ble_eq_true rfl) rfl (fun w1 hG => r_load_row (n := 5) (cs := rC ses1 snap1 strict1 (.slice Ar1 (us1.map (fun u : RR × List Pr => u.1)).length cr1) (.slice Aw1 wz1.length cw1)) rfl ((hB7.bw hG (by omega) (by simp)).row (n := 5) rfl) rfl) rfl ?_
      (first | refine yn 10 rfl ?_ | refine ynt 10 rfl ?_ | refine ynff 10 rfl ?_)
      refine wy_cont (X := Value) (fun x N w => Mem [] w0 w [.cell b3 (rC ses snap strict (.slice A us.length c) (.slice A2 wz.length c2)) 25])
        (fun x l => (((l.set 36 x).set 37 (.string (bst bs))).set 39 (.string (bst bs))).set 40 (.bool (!decide (bs = bs)))) #[true, true, true, true, true, true, true, true, true, true, true, true, true, false, false] (fuel := 2) (fun hkk => ?_) ?_
      · skip
        refine yk2 8 11 hM (by kernel_rfl) rfl rfl (fun w h0 hM => ?_) (fun w h0 hM => ?_)
        · skip
          refine gt ?_
          have hrm := rows_recM (hTL ▸ hM.drop.drop)
          refine ca (recBytes_any ses1 snap1 strict1 _ _ us1 wz1 w hrm.r hrm.u hrm.w hk1 hb1) ?_
          rintro v36 w2 ⟨hc, hO⟩
          rw [hbs1] at hO
          have hM := hM.got hc hO
          refine x_wy (.inl (hc.gy h0)) rfl ?_
          refine yk2 9 11 hM (by kernel_rfl) rfl rfl (fun w h0 hM => ?_) (fun w h0 hM => ?_)
          · skip
            refine gt ?_
            refine wl_val (r_b2s (hM.rowRdO (en := eU8) (xs := bs) (v := v36) (by (repeat constructor)))) ?_
            have hc := Ch.refl [] w
            refine x_wy (.inl (hc.gy h0)) rfl ?_
            refine yk1 11 hM (by kernel_rfl) rfl (fun w h0 hM => ?_)
            refine gt ?_
            refine wl_val (r_b2s (hR.ch hM.ch)) ?_
            have hc := Ch.refl [] w
            refine x_wy (.inl (hc.gy h0)) rfl ?_
            refine ynvt 12 rfl (by kernel_rfl) (by kernel_rfl) rfl rfl (Nat.le_of_ble_eq_true rfl) rfl (fun w1 hG => r_neqst (a := bs) (b := bs)) rfl ?_
            exact hkk v36 _ _ _ (by kernel_rfl) rfl (hM.sub (by (repeat (first | exact Go.Proofs.E.Sub.refl _ | exact Go.Proofs.E.Sub.nil | (apply Go.Proofs.E.Sub.cons; (repeat (first | exact Go.Proofs.E.Pick.here | apply Go.Proofs.E.Pick.there))) | apply Go.Proofs.E.Sub.tail))))
          · skip
            refine gt ?_
            refine wl_val (r_b2s (hR.ch hM.ch)) ?_
            have hc := Ch.refl [] w
            refine x_wy (.inl (hc.gy h0)) rfl ?_
            refine yk1 9 hM (by kernel_rfl) rfl (fun w h0 hM => ?_)
            refine gt ?_
            refine wl_val (r_b2s (hM.rowRdO (en := eU8) (xs := bs) (v := v36) (by (repeat constructor)))) ?_
            have hc := Ch.refl [] w
            refine x_wy (.inl (hc.gy h0)) rfl ?_
            refine ynvt 12 rfl (by kernel_rfl) (by kernel_rfl) rfl rfl (Nat.le_of_ble_eq_true rfl) rfl (fun w1 hG => r_neqst (a := bs) (b := bs)) rfl ?_
            exact hkk v36 _ _ _ (by kernel_rfl) rfl (hM.sub (by (repeat (first | exact Go.Proofs.E.Sub.refl _ | exact Go.Proofs.E.Sub.nil | (apply Go.Proofs.E.Sub.cons; (repeat (first | exact Go.Proofs.E.Pick.here | apply Go.Proofs.E.Pick.there))) | apply Go.Proofs.E.Sub.tail))))
        · skip
          refine gt ?_
          refine wl_val (r_b2s (hR.ch hM.ch)) ?_
          have hc := Ch.refl [] w
          refine x_wy (.inl (hc.gy h0)) rfl ?_
          refine yk1 8 hM (by kernel_rfl) rfl (fun w h0 hM => ?_)
          refine gt ?_
          have hrm := rows_recM (hTL ▸ hM.drop.drop)
          refine ca (recBytes_any ses1 snap1 strict1 _ _ us1 wz1 w hrm.r hrm.u hrm.w hk1 hb1) ?_
          rintro v36 w2 ⟨hc, hO⟩
          rw [hbs1] at hO
          have hM := hM.got hc hO
          refine x_wy (.inl (hc.gy h0)) rfl ?_
          refine yk1 9 hM (by kernel_rfl) rfl (fun w h0 hM => ?_)
          refine gt ?_
          refine wl_val (r_b2s (hM.rowRdO (en := eU8) (xs := bs) (v := v36) (by (repeat constructor)))) ?_
          have hc := Ch.refl [] w
          refine x_wy (.inl (hc.gy h0)) rfl ?_
          refine ynvt 12 rfl (by kernel_rfl) (by kernel_rfl) rfl rfl (Nat.le_of_ble_eq_true rfl) rfl (fun w1 hG => r_neqst (a := bs) (b := bs)) rfl ?_
          exact hkk v36 _ _ _ (by kernel_rfl) rfl (hM.sub (by (repeat (first | exact Go.Proofs.E.Sub.refl _ | exact Go.Proofs.E.Sub.nil | (apply Go.Proofs.E.Sub.cons; (repeat (first | exact Go.Proofs.E.Pick.here | apply Go.Proofs.E.Pick.there))) | apply Go.Proofs.E.Sub.tail))))
      clear hM
      rintro v36 w hM
      rw [decide_eq_true (rfl : bs = bs)]
      refine wy_nf ?_
      (first | refine yn 13 rfl ?_ | refine ynt 13 rfl ?_ | refine ynff 13 rfl ?_); (first | refine yn 14 rfl ?_ | refine ynt 14 rfl ?_ | refine ynff 14 rfl ?_)
      refine wy_done (by kernel_rfl) (fun w hc => ?_)
      have hM := hM.call hc
      exact outJ ⟨exj rfl, hM⟩
  clear hM hTL hrs he1 hsound hzx hd1
  rintro l w ⟨⟨jj, rfl⟩, hM⟩
  repeat (first | ((with_reducible apply is_ld); first | refine kld hM ?_ | refine kldw hM ?_ | refine kle hM ?_ | refine klew hM ?_) | ((with_reducible apply is_sto); first | (refine kst hM ?_; intro w hM) | (refine kstw hM ?_; intro w hM)) | ((with_reducible apply is_st); refine su ?_) | ((with_reducible apply is_gd); first | refine gt ?_ | refine gf ?_ | refine gu ?_) | ((with_reducible apply is_en); refine en ?_) | (with_reducible apply c_region) | refine ws ?_ | refine x_block_other (by decide) ?_)
  refine c_condb rfl (fun h => by cases h) (fun _ => ?_)
  repeat (first | ((with_reducible apply is_ld); first | refine kld hM ?_ | refine kldw hM ?_ | refine kle hM ?_ | refine klew hM ?_) | ((with_reducible apply is_sto); first | (refine kst hM ?_; intro w hM) | (refine kstw hM ?_; intro w hM)) | ((with_reducible apply is_st); refine su ?_) | ((with_reducible apply is_gd); first | refine gt ?_ | refine gf ?_ | refine gu ?_) | ((with_reducible apply is_en); refine en ?_) | (with_reducible apply c_region) | refine ws ?_ | refine x_block_other (by decide) ?_)
  have hA1 := hA.ch hM.ch
  refine kca hM (recGood_any ses snap strict _ _ us wz _ hA1.r hA1.u hA1.w hk hb) (fun w hM => ?_)
  cases hg : recGood ses snap strict us wz with
  | false =>
    repeat (first | ((with_reducible apply is_ld); first | refine kld hM ?_ | refine kldw hM ?_ | refine kle hM ?_ | refine klew hM ?_) | ((with_reducible apply is_sto); first | (refine kst hM ?_; intro w hM) | (refine kstw hM ?_; intro w hM)) | ((with_reducible apply is_st); refine su ?_) | ((with_reducible apply is_gd); first | refine gt ?_ | refine gf ?_ | refine gu ?_) | ((with_reducible apply is_en); refine en ?_) | (with_reducible apply c_region) | refine ws ?_ | refine x_block_other (by decide) ?_)
    refine c_condb rfl (fun _ => ?_) (fun h => by cases h)
    repeat (first | ((with_reducible apply is_ld); first | refine kld hM ?_ | refine kldw hM ?_ | refine kle hM ?_ | refine klew hM ?_) | ((with_reducible apply is_sto); first | (refine kst hM ?_; intro w hM) | (refine kstw hM ?_; intro w hM)) | ((with_reducible apply is_st); refine su ?_) | ((with_reducible apply is_gd); first | refine gt ?_ | refine gf ?_ | refine gu ?_) | ((with_reducible apply is_en); refine en ?_) | (with_reducible apply c_region) | refine ws ?_ | refine x_block_other (by decide) ?_)
    refine kca hM (lives_any _) (fun w hM => ?_)
    repeat (first | ((with_reducible apply is_ld); first | refine kld hM ?_ | refine kldw hM ?_ | refine kle hM ?_ | refine klew hM ?_) | ((with_reducible apply is_sto); first | (refine kst hM ?_; intro w hM) | (refine kstw hM ?_; intro w hM)) | ((with_reducible apply is_st); refine su ?_) | ((with_reducible apply is_gd); first | refine gt ?_ | refine gf ?_ | refine gu ?_) | ((with_reducible apply is_en); refine en ?_) | (with_reducible apply c_region) | refine ws ?_ | refine x_block_other (by decide) ?_)
    exact out1 rfl ⟨rfl, hM.ch⟩
  | true =>
  repeat (first | ((with_reducible apply is_ld); first | refine kld hM ?_ | refine kldw hM ?_ | refine kle hM ?_ | refine klew hM ?_) | ((with_reducible apply is_sto); first | (refine kst hM ?_; intro w hM) | (refine kstw hM ?_; intro w hM)) | ((with_reducible apply is_st); refine su ?_) | ((with_reducible apply is_gd); first | refine gt ?_ | refine gf ?_ | refine gu ?_) | ((with_reducible apply is_en); refine en ?_) | (with_reducible apply c_region) | refine ws ?_ | refine x_block_other (by decide) ?_)
  refine c_condb rfl (fun h => by cases h) (fun _ => ?_)
  obtain ⟨⟨r1, r2, r3, r4, _⟩, _⟩ := right_parts (recGood_rt hg)
  obtain ⟨sn, rfl⟩ := Int.eq_ofNat_of_zero_le (show 0 ≤ ses by omega)
  obtain ⟨pn, rfl⟩ := Int.eq_ofNat_of_zero_le (show 0 ≤ snap by omega)
  rw [recGood_V] at hg
  have hcb := bytesB_V hg
  have hz1 := readZ_comp hg
  have hpos := recD_pos (sn, pn, strict, us.map dat, wz)
  have hcut := fun k => readZ_cut (k := k) hg
  repeat (first | ((with_reducible apply is_ld); first | refine kld hM ?_ | refine kldw hM ?_ | refine kle hM ?_ | refine klew hM ?_) | ((with_reducible apply is_sto); first | (refine kst hM ?_; intro w hM) | (refine kstw hM ?_; intro w hM)) | ((with_reducible apply is_st); refine su ?_) | ((with_reducible apply is_gd); first | refine gt ?_ | refine gf ?_ | refine gu ?_) | ((with_reducible apply is_en); refine en ?_) | (with_reducible apply c_region) | refine ws ?_ | refine x_block_other (by decide) ?_)
  have hA2 := hA.ch hM.ch
  refine kcr hM (recBytes_any sn pn strict _ _ us wz _ hA2.r hA2.u hA2.w hk hb) (fun v9 w hM => ?_)
  have hlen := bytesB_len (ses := sn) (snap := pn) (strict := strict) (us := us) (wz := wz)
  rw [hcb] at hM hlen
  have hleaf := hcb
  generalize recD (sn, pn, strict, us.map dat, wz) = cb at hM hlen hz1 hpos hcut hleaf
  clear hcb
  obtain ⟨A9, c9, rfl, _⟩ := Own.form (hM.row (v := v9) (xs := cb) (by (repeat constructor)))
  repeat (first | ((with_reducible apply is_ld); first | refine kld hM ?_ | refine kldw hM ?_ | refine kle hM ?_ | refine klew hM ?_) | ((with_reducible apply is_sto); first | (refine kst hM ?_; intro w hM) | (refine kstw hM ?_; intro w hM)) | ((with_reducible apply is_st); refine su ?_) | ((with_reducible apply is_gd); first | refine gt ?_ | refine gf ?_ | refine gu ?_) | ((with_reducible apply is_en); refine en ?_) | (with_reducible apply c_region) | refine ws ?_ | refine x_block_other (by decide) ?_)
  refine ca (recRead_any _ cb _ (hM.rowRdO (en := eU8) (v := .slice A9 cb.length c9) (by (repeat constructor)))) ?_
  rintro _ w1 ⟨vr1, vw1, us1, rfl, hd1, hK1⟩
  rw [hz1] at hd1 hK1 ⊢
  have hd1 : us1.map dat = us.map dat := hd1
  have hm1 := rows_recM hK1
  obtain ⟨Ar1, cr1, rfl⟩ := hm1.r.form
  obtain ⟨Aw1, cw1, rfl⟩ := hm1.w.form
  clear hm1
  have hM := hM.join hK1 rows_plain
  have hM : Mem [] w0 w1 (rows16 (.slice Ar1 (us1.map (fun u : RR × List Pr => u.1)).length cr1) (.slice Aw1 wz.length cw1) us1 wz ++ [.row eU8 5 (.slice A9 cb.length c9) cb, .cell b3 (rC sn pn strict (.slice A us.length c) (.slice A2 wz.length c2)) 25]) := hM
  clear hK1
  obtain ⟨TL, hTL⟩ : ∃ TL, TL = rows16 (.slice Ar1 (us1.map (fun u : RR × List Pr => u.1)).length cr1) (.slice Aw1 wz.length cw1) us1 wz := ⟨_, rfl⟩
  rw [← hTL] at hM
  have hM := hM.perm List.perm_append_comm
  simp only [List.cons_append, List.nil_append] at hM
  obtain ⟨e2, he2⟩ : ∃ e, errR (some (sn, pn, strict, us.map dat, wz)) = e := ⟨_, rfl⟩
  rw [he2]
  have he2 : e2 = 0 := he2.symm
  subst he2
  repeat (first | ((with_reducible apply is_ld); first | refine kld hM ?_ | refine kldw hM ?_ | refine kle hM ?_ | refine klew hM ?_) | ((with_reducible apply is_sto); first | (refine kst hM ?_; intro w hM) | (refine kstw hM ?_; intro w hM)) | ((with_reducible apply is_st); refine su ?_) | ((with_reducible apply is_gd); first | refine gt ?_ | refine gf ?_ | refine gu ?_) | ((with_reducible apply is_en); refine en ?_) | (with_reducible apply c_region) | refine ws ?_ | refine x_block_other (by decide) ?_)
  refine kal hM (fun w b10 hM => ?_)
  refine kstw (vs := rC sn pn strict (.slice Ar1 (us1.map (fun u : RR × List Pr => u.1)).length cr1) (.slice Aw1 wz.length cw1)) hM (fun w hM => ?_)
  repeat (first | ((with_reducible apply is_ld); first | refine kld hM ?_ | refine kldw hM ?_ | refine kle hM ?_ | refine klew hM ?_) | ((with_reducible apply is_sto); first | (refine kst hM ?_; intro w hM) | (refine kstw hM ?_; intro w hM)) | ((with_reducible apply is_st); refine su ?_) | ((with_reducible apply is_gd); first | refine gt ?_ | refine gf ?_ | refine gu ?_) | ((with_reducible apply is_en); refine en ?_) | (with_reducible apply c_region) | refine ws ?_ | refine x_block_other (by decide) ?_)
  have hA3 := hA.ch hM.ch
  have hrm := rows_recM (hTL ▸ hM.drop.drop.drop)
  (try ((with_reducible apply is_gd); first | refine gt ?_ | refine gf ?_ | refine gu ?_)); refine kca hM (same_any sn pn strict _ _ us1 wz sn pn strict _ _ us wz _ hrm hA3) (fun w hM => ?_)
  rw [sameB_rfl hd1]
  repeat (first | ((with_reducible apply is_ld); first | refine kld hM ?_ | refine kldw hM ?_ | refine kle hM ?_ | refine klew hM ?_) | ((with_reducible apply is_sto); first | (refine kst hM ?_; intro w hM) | (refine kstw hM ?_; intro w hM)) | ((with_reducible apply is_st); refine su ?_) | ((with_reducible apply is_gd); first | refine gt ?_ | refine gf ?_ | refine gu ?_) | ((with_reducible apply is_en); refine en ?_) | (with_reducible apply c_region) | refine ws ?_ | refine x_block_other (by decide) ?_)
  rw [decide_eq_false (by omega : ¬ ((cb.length : Int) = 0))]
  repeat (first | ((with_reducible apply is_ld); first | refine kld hM ?_ | refine kldw hM ?_ | refine kle hM ?_ | refine klew hM ?_) | ((with_reducible apply is_sto); first | (refine kst hM ?_; intro w hM) | (refine kstw hM ?_; intro w hM)) | ((with_reducible apply is_st); refine su ?_) | ((with_reducible apply is_gd); first | refine gt ?_ | refine gf ?_ | refine gu ?_) | ((with_reducible apply is_en); refine en ?_) | (with_reducible apply c_region) | refine ws ?_ | refine x_block_other (by decide) ?_)
  refine c_condb rfl (fun h => by cases h) (fun _ => ?_)
  repeat ((fail_if_success (with_reducible apply Go.Proofs.E.is_dst (d := 73))); first | ((with_reducible apply is_ld); first | refine kld hM ?_ | refine kldw hM ?_ | refine kle hM ?_ | refine klew hM ?_) | ((with_reducible apply is_sto); first | (refine kst hM ?_; intro w hM) | (refine kstw hM ?_; intro w hM)) | ((with_reducible apply is_st); refine su ?_) | ((with_reducible apply is_gd); first | refine gt ?_ | refine gf ?_ | refine gu ?_) | ((with_reducible apply is_en); refine en ?_) | (with_reducible apply c_region) | refine ws ?_ | refine x_block_other (by decide) ?_)
  (try ((with_reducible apply is_gd); first | refine gt ?_ | refine gf ?_ | refine gu ?_)); refine wl_val (r_remN N cb.length rfl rfl hpos rfl rfl) ?_
  have hkl := Nat.mod_lt N hpos
  generalize N % cb.length = k at hkl ⊢
  repeat (first | ((with_reducible apply is_ld); first | refine kld hM ?_ | refine kldw hM ?_ | refine kle hM ?_ | refine klew hM ?_) | ((with_reducible apply is_sto); first | (refine kst hM ?_; intro w hM) | (refine kstw hM ?_; intro w hM)) | ((with_reducible apply is_st); refine su ?_) | ((with_reducible apply is_gd); first | refine gt ?_ | refine gf ?_ | refine gu ?_) | ((with_reducible apply is_en); refine en ?_) | (with_reducible apply c_region) | refine ws ?_ | refine x_block_other (by decide) ?_)
  refine kcuth (hM.rowRdO (en := eU8) (v := .slice A9 cb.length c9) (xs := cb) (by (repeat constructor))) (j := (k : Int)) (fun v75 hV => ?_)
  rw [Int.toNat_natCast] at hV
  refine ca (recRead_any _ (cb.take k) _ hV) ?_
  rintro _ w2 ⟨vr2, vw2, us2, rfl, hd2, hK2⟩
  rw [hcut k hkl] at hd2 hK2 ⊢
  have hm2 := rows_recM hK2
  obtain ⟨Ar2, cr2, rfl⟩ := hm2.r.form
  obtain ⟨Aw2, cw2, rfl⟩ := hm2.w.form
  clear hm2
  have hM := hM.call hK2.ch
  clear hK2
  repeat (first | ((with_reducible apply is_ld); first | refine kld hM ?_ | refine kldw hM ?_ | refine kle hM ?_ | refine klew hM ?_) | ((with_reducible apply is_sto); first | (refine kst hM ?_; intro w hM) | (refine kstw hM ?_; intro w hM)) | ((with_reducible apply is_st); refine su ?_) | ((with_reducible apply is_gd); first | refine gt ?_ | refine gf ?_ | refine gu ?_) | ((with_reducible apply is_en); refine en ?_) | (with_reducible apply c_region) | refine ws ?_ | refine x_block_other (by decide) ?_)
  refine kal hM (fun w b12 hM => ?_)
  refine kstw (vs := rC 0 0 false (.slice Ar2 (us2.map (fun u : RR × List Pr => u.1)).length cr2) (.slice Aw2 ([] : List Pr).length cw2)) hM (fun w hM => ?_)
  repeat (first | ((with_reducible apply is_ld); first | refine kld hM ?_ | refine kldw hM ?_ | refine kle hM ?_ | refine klew hM ?_) | ((with_reducible apply is_sto); first | (refine kst hM ?_; intro w hM) | (refine kstw hM ?_; intro w hM)) | ((with_reducible apply is_st); refine su ?_) | ((with_reducible apply is_gd); first | refine gt ?_ | refine gf ?_ | refine gu ?_) | ((with_reducible apply is_en); refine en ?_) | (with_reducible apply c_region) | refine ws ?_ | refine x_block_other (by decide) ?_)
  have hA4 := hA.ch hM.ch
  (try ((with_reducible apply is_gd); first | refine gt ?_ | refine gf ?_ | refine gu ?_)); refine kca hM (recLeaf_any sn pn strict _ _ us wz _ (hK.ch hM.ch (by simp)) hA4 hk hb) (fun w hM => ?_)
  rw [hleaf]
  repeat (first | ((with_reducible apply is_ld); first | refine kld hM ?_ | refine kldw hM ?_ | refine kle hM ?_ | refine klew hM ?_) | ((with_reducible apply is_sto); first | (refine kst hM ?_; intro w hM) | (refine kstw hM ?_; intro w hM)) | ((with_reducible apply is_st); refine su ?_) | ((with_reducible apply is_gd); first | refine gt ?_ | refine gf ?_ | refine gu ?_) | ((with_reducible apply is_en); refine en ?_) | (with_reducible apply c_region) | refine ws ?_ | refine x_block_other (by decide) ?_)
  (try ((with_reducible apply is_gd); first | refine gt ?_ | refine gf ?_ | refine gu ?_)); refine kca hM (rleafB_any _ cb _ (hM.rowRdO (en := eU8) (v := .slice A9 cb.length c9) (xs := cb) (by (repeat constructor))) (by omega)) (fun w hM => ?_)
  repeat (first | ((with_reducible apply is_ld); first | refine kld hM ?_ | refine kldw hM ?_ | refine kle hM ?_ | refine klew hM ?_) | ((with_reducible apply is_sto); first | (refine kst hM ?_; intro w hM) | (refine kstw hM ?_; intro w hM)) | ((with_reducible apply is_st); refine su ?_) | ((with_reducible apply is_gd); first | refine gt ?_ | refine gf ?_ | refine gu ?_) | ((with_reducible apply is_en); refine en ?_) | (with_reducible apply c_region) | refine ws ?_ | refine x_block_other (by decide) ?_)
  (try ((with_reducible apply is_gd); first | refine gt ?_ | refine gf ?_ | refine gu ?_)); refine wl_val (r_eql8 (n := 32) (a := leafOf cb) (b := leafOf cb) (by kernel_rfl) rfl rfl (leafOf_len _) (leafOf_len _)) ?_
  rw [decide_eq_true (rfl : leafOf cb = leafOf cb)]
  repeat (first | ((with_reducible apply is_ld); first | refine kld hM ?_ | refine kldw hM ?_ | refine kle hM ?_ | refine klew hM ?_) | ((with_reducible apply is_sto); first | (refine kst hM ?_; intro w hM) | (refine kstw hM ?_; intro w hM)) | ((with_reducible apply is_st); refine su ?_) | ((with_reducible apply is_gd); first | refine gt ?_ | refine gf ?_ | refine gu ?_) | ((with_reducible apply is_en); refine en ?_) | (with_reducible apply c_region) | refine ws ?_ | refine x_block_other (by decide) ?_)
  (try ((with_reducible apply is_gd); first | refine gt ?_ | refine gf ?_ | refine gu ?_)); refine kca hM (lives_any _) (fun w hM => ?_)
  repeat (first | ((with_reducible apply is_ld); first | refine kld hM ?_ | refine kldw hM ?_ | refine kle hM ?_ | refine klew hM ?_) | ((with_reducible apply is_sto); first | (refine kst hM ?_; intro w hM) | (refine kstw hM ?_; intro w hM)) | ((with_reducible apply is_st); refine su ?_) | ((with_reducible apply is_gd); first | refine gt ?_ | refine gf ?_ | refine gu ?_) | ((with_reducible apply is_en); refine en ?_) | (with_reducible apply c_region) | refine ws ?_ | refine x_block_other (by decide) ?_)
  exact out1 rfl ⟨rfl, hM.ch⟩
end Go.Proofs.YtnkkeehoejmcnaaDoor

/- Walk: the law ReceiptBack. -/
import Derived.Test.YtkdbinchlpdkmaaDoorQReceiptBack28
import Derived.Test.YtkdbinchlpdkmaaDoorQReceiptBack29
import Derived.Test.YtkdbinchlpdkmaaDoorQReceiptBack30
set_option linter.unusedVariables false
set_option linter.unusedSimpArgs false
namespace Go.Proofs.YtkdbinchlpdkmaaDoor
open Go Go.RowKit Go.Proofs.E
attribute [local irreducible] Go.wpList Go.Code.wp Go.Proofs.E.exec Go.Proofs.E.wpLexG
theorem tBytes_V {a size ses snap : Nat} {strict : Bool} {us : List (RR × List Pr)} {wz : List Pr} {lg mp : Hs} {path : List Hs} (h : goodT ((ses, snap, strict, us.map dat, wz), a, size, lg, mp, path) = true) :
    tBytes (a : Int) (size : Int) lg mp path (snap : Int) (recGood (ses : Int) (snap : Int) strict us wz) (bytesB (ses : Int) (snap : Int) strict us wz) = rtB ((ses, snap, strict, us.map dat, wz), a, size, lg, mp, path) := by
  have h1 := (goodT_parts h).1
  unfold tBytes
  rw [recGood_V]
  have h2 : good17 (a : Int) (size : Int) (snap : Int) path.length (goodV (ses, snap, strict, us.map dat, wz)) = true := h
  rw [if_pos h2, bytesB_V h1, Int.toNat_natCast, Int.toNat_natCast]
  rfl
theorem readR_sm {bs : Bs} {x : RtV} (h : readR bs = some x) : SmV x.1 := by
  unfold readR at h
  split at h
  · cases h
  split at h
  · cases h
  rename_i y hy
  split at h
  · injection h with h
    subst h
    exact readZ_sm hy
  · cases h
theorem rtB_pos (x : RtV) : 0 < (rtB x).length := by
  unfold rtB rctB
  simp only [List.length_append, x.2.2.2.1.2]
  omega
theorem sameT_rfl {a size : Int} {lg mp : Hs} {path : List Hs} : sameT a size lg mp path a size lg mp path true = true := by simp [sameT]
theorem rct_plain {vp vr vw : Value} {us : List (RR × List Pr)} {wz : List Pr} {path : List Hs} : ∀ x ∈ (As.row eH 30 vp path :: rows16 vr vw us wz), x.plain := fun x hx => by
  rcases List.mem_cons.1 hx with rfl | hx
  · trivial
  · exact rows_plain x hx
theorem rct_parts {a ses snap : Int} {strict : Bool} {size : Int} {us : List (RR × List Pr)} {wz : List Pr} {n : Nat} (h : good17 a size snap n (recGood ses snap strict us wz) = true) : 0 ≤ a ∧ 0 ≤ size ∧ 0 ≤ ses ∧ 0 ≤ snap := by
  unfold good17 at h
  rw [Bool.and_eq_true, decide_eq_true_eq] at h
  obtain ⟨⟨r1, r2, r3, r4, _⟩, _⟩ := right_parts (recGood_rt h.2)
  omega
set_option maxHeartbeats 32000000 in
theorem receiptBack_any (a ses snap : Int) (strict : Bool) (vr vw vp : Value) (size : Int) (lg mp : Hs) (us : List (RR × List Pr)) (wz : List Pr) (path : List Hs) (v : Value) (bs : Bs) (N : Nat) (w0 : World) (hK : Laid w0) (hA : RctM w0 vr vw vp us wz path) (hk : ShortR us) (hb : ShortL wz) (hR : tU8.Rd [] w0 v bs) (hN : N < 2 ^ 64) :
    Calls Tryd.prog 11 #[.agg (tC a ses snap strict vr vw vp size lg mp).toArray, v, .int .u64 (N : Int)] w0 (Ret fun u w' => u = .bool true ∧ Ch [] w0 w') := by
  have hM := Mem.start w0
  have hle := hR.le
  obtain ⟨A0, c0, rfl⟩ := hR.form
  obtain ⟨A, c, rfl⟩ := hA.m.r.form
  obtain ⟨A2, c2, rfl⟩ := hA.m.w.form
  obtain ⟨A3, c3, rfl⟩ := hA.p.form
  refine enter [.agg (tC a ses snap strict (.slice A (us.map (fun u : RR × List Pr => u.1)).length c) (.slice A2 wz.length c2) (.slice A3 path.length c3) size lg mp).toArray, .slice A0 bs.length c0, .int .u64 (N : Int), undef, undef, undef, undef, undef, undef, undef, undef, undef, undef, undef, undef, undef, undef, undef, undef, undef, undef, undef, undef, undef, undef, undef, undef, undef, undef, undef, undef, undef, undef, undef, undef, undef, undef, undef, undef, undef, undef, undef, undef, undef, undef, undef, undef, undef, undef, undef, undef, undef, undef, undef, undef, undef, undef, undef, undef, undef, undef, undef, undef, undef, undef, undef, undef, undef, undef, undef, undef, undef, undef, undef, undef, undef, undef, undef, undef, undef, undef, undef, undef, undef, undef, undef, undef, undef, undef, undef] Tryd.func11 rfl rfl ?_
  repeat (first | refine gw ?_ | (refine ks ?_; intro w hM))
  refine kbx hM (fun w b3 hM => ?_)
  have hM : Mem [] w0 w [.cell b3 (tC a ses snap strict (.slice A (us.map (fun u : RR × List Pr => u.1)).length c) (.slice A2 wz.length c2) (.slice A3 path.length c3) size lg mp) 100] := hM
  repeat (first | refine gr ?_ | (refine ks ?_; intro w hM))
  refine ca (light17_any a ses snap strict _ _ _ size lg mp us wz path w (hA.ch hM.ch) hk hb) ?_
  rintro _ w1 ⟨⟨l1, rfl, hl1⟩, hc⟩
  have hM := hM.call hc
  cases l1 with
  | false =>
    repeat (first | refine gr ?_ | (refine ks ?_; intro w hM))
    refine c_condb rfl (fun _ => ?_) (fun h => by cases h)
    repeat (first | refine gr ?_ | (refine ks ?_; intro w hM))
    refine kca hM (lives17_any _ (hK.ch hM.ch (by simp))) (fun w hM => ?_)
    repeat (first | refine gr ?_ | (refine ks ?_; intro w hM))
    exact out1 rfl ⟨rfl, hM.ch⟩
  | true =>
  repeat (first | refine gr ?_ | (refine ks ?_; intro w hM))
  by_cases q1 : (3000 : Int) < (bs.length : Int)
  · rw [decide_eq_true q1]
    refine c_condb rfl (fun _ => ?_) (fun h => by cases h)
    repeat (first | refine gr ?_ | (refine ks ?_; intro w hM))
    refine kca hM (lives17_any _ (hK.ch hM.ch (by simp))) (fun w hM => ?_)
    repeat (first | refine gr ?_ | (refine ks ?_; intro w hM))
    exact out1 rfl ⟨rfl, hM.ch⟩
  rw [decide_eq_false q1]
  refine c_condb rfl (fun h => by cases h) (fun _ => ?_)
  repeat (first | refine gw ?_ | (refine ks ?_; intro w hM))
  refine ca (rctRead_any _ bs _ (hR.ch hM.ch)) ?_
  rintro _ w1 ⟨vr1, vw1, vp1, us1, rfl, hd1, hK1⟩
  have hm1 := rows_recM hK1.drop
  obtain ⟨Ar1, cr1, rfl⟩ := hm1.r.form
  obtain ⟨Aw1, cw1, rfl⟩ := hm1.w.form
  obtain ⟨Ap1, cp1, rfl, _⟩ := Own.form (hK1.row (v := vp1) (by (repeat constructor)))
  clear hm1
  have hM := hM.join hK1 rct_plain
  clear hK1
  obtain ⟨zx, hzx⟩ : ∃ x, readR bs = x := ⟨_, rfl⟩
  have hsound : ∀ x, zx = some x → bs = rtB x ∧ goodT x = true := fun x hx => readR_sound (hzx.trans hx)
  have hsm1 : ∀ x, zx = some x → SmV x.1 := fun x hx => readR_sm (hzx.trans hx)
  rw [hzx] at hM hd1 ⊢
  obtain ⟨⟨⟨ses1, snap1, strict1, ds1, wz1⟩, at1, size1, lg1, mp1, path1⟩, hrs⟩ : ∃ x, resT zx = x := ⟨_, rfl⟩
  rw [hrs] at hM hd1 ⊢
  simp only at hM hd1 ⊢
  obtain ⟨e1, he1⟩ : ∃ e, errT zx = e := ⟨_, rfl⟩
  rw [he1]
  obtain ⟨TL, hTL⟩ : ∃ TL, TL = rows16 (.slice Ar1 (us1.map (fun u : RR × List Pr => u.1)).length cr1) (.slice Aw1 wz1.length cw1) us1 wz1 := ⟨_, rfl⟩
  rw [← hTL] at hM
  have hM : Mem [] w0 w1 (.cell b3 (tC a ses snap strict (.slice A (us.map (fun u : RR × List Pr => u.1)).length c) (.slice A2 wz.length c2) (.slice A3 path.length c3) size lg mp) 100 :: .row eH 30 (.slice Ap1 path1.length cp1) path1 :: TL) := by
    have := hM.perm List.perm_append_comm
    simpa only [List.cons_append, List.nil_append] using this
  repeat (first | refine gr ?_ | (refine ks ?_; intro w hM))
  refine kal hM (fun w b7 hM => ?_)
  rw [zero_rct] at hM
  refine kstwT (vs := tC at1 ses1 snap1 strict1 (.slice Ar1 (us1.map (fun u : RR × List Pr => u.1)).length cr1) (.slice Aw1 wz1.length cw1) (.slice Ap1 path1.length cp1) size1 lg1 mp1) hM (fun w hc hM => ?_)
  repeat (first | refine grb ?_ | (refine ks ?_; intro w hM))
  
  refine c_cutJ (fun l w => (∃ jj : Nat → Value, l = [jj 0, .slice A0 bs.length c0, .int .u64 (N : Int), .pointer (some ⟨b3, 0, none⟩), jj 4, jj 5, .bool false, jj 7, jj 8, jj 9, jj 10, jj 11, jj 12, jj 13, jj 14, jj 15, jj 16, jj 17, jj 18, jj 19, jj 20, jj 21, jj 22, jj 23, jj 24, jj 25, jj 26, jj 27, jj 28, jj 29, jj 30, jj 31, jj 32, jj 33, jj 34, jj 35, jj 36, jj 37, jj 38, jj 39, jj 40, jj 41, .bool false, jj 43, jj 44, jj 45, jj 46, jj 47, jj 48, jj 49, jj 50, jj 51, jj 52, jj 53, jj 54, jj 55, jj 56, jj 57, jj 58, jj 59, jj 60, jj 61, jj 62, jj 63, jj 64, jj 65, jj 66, jj 67, jj 68, jj 69, jj 70, jj 71, jj 72, jj 73, jj 74, jj 75, jj 76, jj 77, jj 78, jj 79, jj 80, jj 81, jj 82, jj 83, jj 84, jj 85, jj 86, jj 87, jj 88, jj 89]) ∧ Mem [] w0 w [.cell b3 (tC a ses snap strict (.slice A (us.map (fun u : RR × List Pr => u.1)).length c) (.slice A2 wz.length c2) (.slice A3 path.length c3) size lg mp) 100]) ?_ ?_
  · cases zx with
    | none =>
      have he1 : e1 = 4 := he1.symm
      subst he1
      refine kdr hM (by kernel_rfl) (by kernel_rfl) (fun w hM => ?_)
      (try refine gwg ?_)
      (intro w hc; have hM := hM.call hc)
      exact outJ ⟨exj rfl, hM.sub (by (repeat (first | exact Go.Proofs.E.Sub.refl _ | exact Go.Proofs.E.Sub.nil | (apply Go.Proofs.E.Sub.cons; (repeat (first | exact Go.Proofs.E.Pick.here | apply Go.Proofs.E.Pick.there))) | apply Go.Proofs.E.Sub.tail)))⟩
    | some y =>
      have he1 : e1 = 0 := he1.symm
      subst he1
      obtain ⟨hbs, hgd⟩ := hsound y rfl
      have hsm := hsm1 y rfl
      have hrs : y = ((ses1, snap1, strict1, ds1, wz1), at1, size1, lg1, mp1, path1) := hrs
      subst hrs
      obtain ⟨hk1, hb1⟩ := smV_short (us := us1) hsm hd1
      subst hd1
      have hbs1 := tBytes_V hgd
      rw [← hbs] at hbs1
      refine c_ordY ([], []) [] (by kernel_rfl) (by kernel_rfl) (by kernel_rfl) (fun w hc hs => ?_)
      have hM := hM.call hc
      have hl7 := Blk.lt (hM.blk (b := b7) (by (repeat constructor)))
      have hrct : ∀ {w}, Mem [] w0 w (.cell b7 (tC at1 ses1 snap1 strict1 (.slice Ar1 (us1.map (fun u : RR × List Pr => u.1)).length cr1) (.slice Aw1 wz1.length cw1) (.slice Ap1 path1.length cp1) size1 lg1 mp1) 100 :: .cell b3 (tC a ses snap strict (.slice A (us.map (fun u : RR × List Pr => u.1)).length c) (.slice A2 wz.length c2) (.slice A3 path.length c3) size lg mp) 100 :: .row eH 30 (.slice Ap1 path1.length cp1) path1 :: TL) → RctM w (.slice Ar1 (us1.map (fun u : RR × List Pr => u.1)).length cr1) (.slice Aw1 wz1.length cw1) (.slice Ap1 path1.length cp1) us1 wz1 path1 := fun hM => ⟨rows_recM (hTL ▸ hM.drop.drop.drop), hM.rowRdO (en := eH) (by (repeat constructor))⟩
      (first | refine yn 0 rfl ?_ | refine ynt 0 rfl ?_ | refine ynff 0 rfl ?_); (first | refine yn 1 rfl ?_ | refine ynt 1 rfl ?_ | refine ynff 1 rfl ?_); (first | refine yn 2 rfl ?_ | refine ynt 2 rfl ?_ | refine ynff 2 rfl ?_)
      refine ynlrt 3 rfl (hM.blk (b := b7) (by (repeat constructor))) (by omega) (by simp) (ds := tC at1 ses1 snap1 strict1 (.slice Ar1 (us1.map (fun u : RR × List Pr => u.1)).length cr1) (.slice Aw1 wz1.length cw1) (.slice Ap1 path1.length cp1) size1 lg1 mp1) (by rw [List.drop_zero]; exact List.take_of_length_le (by rw [tC_len]; omega)) (tC_len _ _ _ _ _ _ _ _ _ _) ?_
      refine yk1 4 hM (by kernel_rfl) rfl (fun w h0 hM => ?_)
      refine gt ?_
      refine ca (tgood_any (at1 : Int) (ses1 : Int) (snap1 : Int) strict1 _ _ _ (size1 : Int) lg1 mp1 us1 wz1 path1 w (hrct hM) hk1 hb1) ?_
      rintro _ w2 ⟨rfl, hc⟩
      have hM := hM.call hc
      rw [show good17 (at1 : Int) (size1 : Int) (snap1 : Int) path1.length (recGood (ses1 : Int) (snap1 : Int) strict1 us1 wz1) = true by rw [recGood_V]; exact hgd]
      refine x_wy (.inl (hc.gy h0)) rfl ?_
      (first | refine yn 5 rfl ?_ | refine ynt 5 rfl ?_ | refine ynff 5 rfl ?_); (first | refine yn 6 rfl ?_ | refine ynt 6 rfl ?_ | refine ynff 6 rfl ?_)
      have hB7 := hM.blk (b := b7) (by (repeat constructor))
      refine ynvt 7 rfl (by kernel_rfl) (by kernel_rfl) rfl rfl (Nat.le_of_ble_eq_true rfl) rfl (fun w1 hG => r_load_row (n := 72) (cs := tC at1 ses1 snap1 strict1 (.slice Ar1 (us1.map (fun u : RR × List Pr => u.1)).length cr1) (.slice Aw1 wz1.length cw1) (.slice Ap1 path1.length cp1) size1 lg1 mp1) rfl ((hB7.bw hG (by omega) (by simp)).row (n := 72) (by rw [List.drop_zero]; exact List.take_of_length_le (by rw [tC_len]; omega))) (tC_len _ _ _ _ _ _ _ _ _ _)) rfl ?_
      (first | refine yn 10 rfl ?_ | refine ynt 10 rfl ?_ | refine ynff 10 rfl ?_)
      refine wy_cont (X := Value) (fun x N w => Mem [] w0 w [.cell b3 (tC a ses snap strict (.slice A (us.map (fun u : RR × List Pr => u.1)).length c) (.slice A2 wz.length c2) (.slice A3 path.length c3) size lg mp) 100])
        (fun x l => (((l.set 36 x).set 37 (.string (bst bs))).set 39 (.string (bst bs))).set 40 (.bool (!decide (bs = bs)))) #[true, true, true, true, true, true, true, true, true, true, true, true, true, false, false] (fuel := 2) (fun hkk => ?_) ?_
      · skip
        refine yk2 8 11 hM (by kernel_rfl) rfl rfl (fun w h0 hM => ?_) (fun w h0 hM => ?_)
        · skip
          refine gt ?_
          refine ca (tbytes_any (at1 : Int) (ses1 : Int) (snap1 : Int) strict1 _ _ _ (size1 : Int) lg1 mp1 us1 wz1 path1 w (hrct hM) hk1 hb1) ?_
          rintro v36 w2 ⟨hc, hO⟩
          rw [hbs1] at hO
          have hM := hM.got hc hO
          refine x_wy (.inl (hc.gy h0)) rfl ?_
          refine yk2 9 11 hM (by kernel_rfl) rfl rfl (fun w h0 hM => ?_) (fun w h0 hM => ?_)
          · skip
            refine gt ?_
            refine wl_val (r_b2s (hM.rowRdO (en := eU8) (xs := bs) (v := v36) (by (repeat constructor)))) ?_
            have hc := Ch.refl [] w
            refine x_wy (.inl (hc.gy h0)) rfl ?_
            refine yk1 11 hM (by kernel_rfl) rfl (fun w h0 hM => ?_)
            refine gt ?_
            refine wl_val (r_b2s (hR.ch hM.ch)) ?_
            have hc := Ch.refl [] w
            refine x_wy (.inl (hc.gy h0)) rfl ?_
            refine ynvt 12 rfl (by kernel_rfl) (by kernel_rfl) rfl rfl (Nat.le_of_ble_eq_true rfl) rfl (fun w1 hG => r_neqst (a := bs) (b := bs)) rfl ?_
            exact hkk v36 _ _ _ (by kernel_rfl) rfl (hM.sub (by (repeat (first | exact Go.Proofs.E.Sub.refl _ | exact Go.Proofs.E.Sub.nil | (apply Go.Proofs.E.Sub.cons; (repeat (first | exact Go.Proofs.E.Pick.here | apply Go.Proofs.E.Pick.there))) | apply Go.Proofs.E.Sub.tail))))
          · skip
            refine gt ?_
            refine wl_val (r_b2s (hR.ch hM.ch)) ?_
            have hc := Ch.refl [] w
            refine x_wy (.inl (hc.gy h0)) rfl ?_
            refine yk1 9 hM (by kernel_rfl) rfl (fun w h0 hM => ?_)
            refine gt ?_
            refine wl_val (r_b2s (hM.rowRdO (en := eU8) (xs := bs) (v := v36) (by (repeat constructor)))) ?_
            have hc := Ch.refl [] w
            refine x_wy (.inl (hc.gy h0)) rfl ?_
            refine ynvt 12 rfl (by kernel_rfl) (by kernel_rfl) rfl rfl (Nat.le_of_ble_eq_true rfl) rfl (fun w1 hG => r_neqst (a := bs) (b := bs)) rfl ?_
            exact hkk v36 _ _ _ (by kernel_rfl) rfl (hM.sub (by (repeat (first | exact Go.Proofs.E.Sub.refl _ | exact Go.Proofs.E.Sub.nil | (apply Go.Proofs.E.Sub.cons; (repeat (first | exact Go.Proofs.E.Pick.here | apply Go.Proofs.E.Pick.there))) | apply Go.Proofs.E.Sub.tail))))
        · skip
          refine gt ?_
          refine wl_val (r_b2s (hR.ch hM.ch)) ?_
          have hc := Ch.refl [] w
          refine x_wy (.inl (hc.gy h0)) rfl ?_
          refine yk1 8 hM (by kernel_rfl) rfl (fun w h0 hM => ?_)
          refine gt ?_
          refine ca (tbytes_any (at1 : Int) (ses1 : Int) (snap1 : Int) strict1 _ _ _ (size1 : Int) lg1 mp1 us1 wz1 path1 w (hrct hM) hk1 hb1) ?_
          rintro v36 w2 ⟨hc, hO⟩
          rw [hbs1] at hO
          have hM := hM.got hc hO
          refine x_wy (.inl (hc.gy h0)) rfl ?_
          refine yk1 9 hM (by kernel_rfl) rfl (fun w h0 hM => ?_)
          refine gt ?_
          refine wl_val (r_b2s (hM.rowRdO (en := eU8) (xs := bs) (v := v36) (by (repeat constructor)))) ?_
          have hc := Ch.refl [] w
          refine x_wy (.inl (hc.gy h0)) rfl ?_
          refine ynvt 12 rfl (by kernel_rfl) (by kernel_rfl) rfl rfl (Nat.le_of_ble_eq_true rfl) rfl (fun w1 hG => r_neqst (a := bs) (b := bs)) rfl ?_
          exact hkk v36 _ _ _ (by kernel_rfl) rfl (hM.sub (by (repeat (first | exact Go.Proofs.E.Sub.refl _ | exact Go.Proofs.E.Sub.nil | (apply Go.Proofs.E.Sub.cons; (repeat (first | exact Go.Proofs.E.Pick.here | apply Go.Proofs.E.Pick.there))) | apply Go.Proofs.E.Sub.tail))))
      clear hM
      rintro v36 w hM
      rw [decide_eq_true (rfl : bs = bs)]
      refine wy_nf ?_
      (first | refine yn 13 rfl ?_ | refine ynt 13 rfl ?_ | refine ynff 13 rfl ?_); (first | refine yn 14 rfl ?_ | refine ynt 14 rfl ?_ | refine ynff 14 rfl ?_)
      refine wy_done (by kernel_rfl) (fun w hc => ?_)
      have hM := hM.call hc
      exact outJ ⟨exj rfl, hM⟩
  clear hM hTL hrs he1 hsound hsm1 hzx hd1
  rintro l w ⟨⟨jj, rfl⟩, hM⟩
  repeat (first | refine gr ?_ | (refine ks ?_; intro w hM))
  refine c_condb rfl (fun h => by cases h) (fun _ => ?_)
  repeat (first | refine gr ?_ | (refine ks ?_; intro w hM))
  refine kca hM (tgood_any a ses snap strict _ _ _ size lg mp us wz path _ (hA.ch hM.ch) hk hb) (fun w hM => ?_)
  cases hg : good17 a size snap path.length (recGood ses snap strict us wz) with
  | false =>
    repeat (first | refine gr ?_ | (refine ks ?_; intro w hM))
    refine c_condb rfl (fun _ => ?_) (fun h => by cases h)
    repeat (first | refine gr ?_ | (refine ks ?_; intro w hM))
    refine kcr hM (tbytes_any a ses snap strict _ _ _ size lg mp us wz path _ (hA.ch hM.ch) hk hb) (fun v47 w hM => ?_)
    have he : tBytes a size lg mp path snap (recGood ses snap strict us wz) (bytesB ses snap strict us wz) = [] := by
      unfold tBytes
      rw [if_neg (by rw [hg]; simp)]
    rw [he] at hM
    obtain ⟨A9, c9, rfl, _⟩ := Own.form (hM.row (v := v47) (xs := ([] : Bs)) (by (repeat constructor)))
    repeat (first | refine gr ?_ | (refine ks ?_; intro w hM))
    (try ((with_reducible apply is_gd); first | refine gt ?_ | refine gf ?_ | refine gu ?_)); refine kca hM (lives17_any _ (hK.ch hM.ch (by simp))) (fun w hM => ?_)
    repeat (first | refine gr ?_ | (refine ks ?_; intro w hM))
    exact out1 rfl ⟨rfl, hM.ch⟩
  | true =>
  repeat (first | refine gr ?_ | (refine ks ?_; intro w hM))
  refine c_condb rfl (fun h => by cases h) (fun _ => ?_)
  obtain ⟨r1, r2, r3, r4⟩ := rct_parts hg
  obtain ⟨an, rfl⟩ := Int.eq_ofNat_of_zero_le r1
  obtain ⟨sz, rfl⟩ := Int.eq_ofNat_of_zero_le r2
  obtain ⟨sn, rfl⟩ := Int.eq_ofNat_of_zero_le r3
  obtain ⟨pn, rfl⟩ := Int.eq_ofNat_of_zero_le r4
  rw [recGood_V] at hg
  have hg : goodT ((sn, pn, strict, us.map dat, wz), an, sz, lg, mp, path) = true := hg
  have hcb := tBytes_V hg
  have hz1 := readR_comp hg
  have hpos := rtB_pos ((sn, pn, strict, us.map dat, wz), an, sz, lg, mp, path)
  have hcut := fun k => readR_cut (k := k) hg
  repeat (first | refine gr ?_ | (refine ks ?_; intro w hM))
  refine kcr hM (tbytes_any (an : Int) (sn : Int) (pn : Int) strict _ _ _ (sz : Int) lg mp us wz path _ (hA.ch hM.ch) hk hb) (fun v9 w hM => ?_)
  rw [hcb] at hM
  generalize rtB ((sn, pn, strict, us.map dat, wz), an, sz, lg, mp, path) = cb at hM hz1 hpos hcut
  clear hcb
  have hcl := (hM.row (v := v9) (xs := cb) (by (repeat constructor))).le
  obtain ⟨A9, c9, rfl, _⟩ := Own.form (hM.row (v := v9) (xs := cb) (by (repeat constructor)))
  repeat (first | refine gr ?_ | (refine ks ?_; intro w hM))
  refine ca (rctRead_any _ cb _ (hM.rowRdO (en := eU8) (v := .slice A9 cb.length c9) (by (repeat constructor)))) ?_
  rintro _ w1 ⟨vr1, vw1, vp1, us1, rfl, hd1, hK1⟩
  rw [hz1] at hd1 hK1 ⊢
  have hd1 : us1.map dat = us.map dat := hd1
  have hm1 := rows_recM hK1.drop
  obtain ⟨Ar1, cr1, rfl⟩ := hm1.r.form
  obtain ⟨Aw1, cw1, rfl⟩ := hm1.w.form
  obtain ⟨Ap1, cp1, rfl, _⟩ := Own.form (hK1.row (v := vp1) (by (repeat constructor)))
  clear hm1
  have hM := hM.join hK1 rct_plain
  obtain ⟨TL, hTL⟩ : ∃ TL, TL = rows16 (.slice Ar1 (us1.map (fun u : RR × List Pr => u.1)).length cr1) (.slice Aw1 wz.length cw1) us1 wz := ⟨_, rfl⟩
  have hM : Mem [] w0 w1 ((.row eH 30 (.slice Ap1 path.length cp1) path :: rows16 (.slice Ar1 (us1.map (fun u : RR × List Pr => u.1)).length cr1) (.slice Aw1 wz.length cw1) us1 wz) ++ [.row eU8 5 (.slice A9 cb.length c9) cb, .cell b3 (tC an sn pn strict (.slice A (us.map (fun u : RR × List Pr => u.1)).length c) (.slice A2 wz.length c2) (.slice A3 path.length c3) sz lg mp) 100]) := hM
  clear hK1
  rw [← hTL] at hM
  have hM := hM.perm List.perm_append_comm
  simp only [List.cons_append, List.nil_append] at hM
  obtain ⟨e2, he2⟩ : ∃ e, errT (some ((sn, pn, strict, us.map dat, wz), an, sz, lg, mp, path)) = e := ⟨_, rfl⟩
  rw [he2]
  have he2 : e2 = 0 := he2.symm
  subst he2
  repeat (first | refine gr ?_ | (refine ks ?_; intro w hM))
  refine kal hM (fun w b10 hM => ?_)
  rw [zero_rct] at hM
  refine kstwT (vs := tC an sn pn strict (.slice Ar1 (us1.map (fun u : RR × List Pr => u.1)).length cr1) (.slice Aw1 wz.length cw1) (.slice Ap1 path.length cp1) sz lg mp) hM (fun w hc hM => ?_)
  repeat (first | refine gr ?_ | (refine ks ?_; intro w hM))
  have hrm : RctM w (.slice Ar1 (us1.map (fun u : RR × List Pr => u.1)).length cr1) (.slice Aw1 wz.length cw1) (.slice Ap1 path.length cp1) us1 wz path := ⟨rows_recM (hTL ▸ hM.drop.drop.drop.drop), hM.rowRdO (en := eH) (by (repeat constructor))⟩
  (try ((with_reducible apply is_gd); first | refine gt ?_ | refine gf ?_ | refine gu ?_)); refine kca hM (tsame_any (an : Int) (sn : Int) (pn : Int) strict _ _ _ (sz : Int) lg mp us1 wz path (an : Int) (sn : Int) (pn : Int) strict _ _ _ (sz : Int) lg mp us wz path _ hrm (hA.ch hM.ch)) (fun w hM => ?_)
  rw [sameB_rfl hd1, sameT_rfl]
  repeat (first | refine gr ?_ | (refine ks ?_; intro w hM))
  rw [decide_eq_false (by omega : ¬ ((cb.length : Int) = 0))]
  repeat (first | refine gr ?_ | (refine ks ?_; intro w hM))
  refine c_condb rfl (fun h => by cases h) (fun _ => ?_)
  repeat ((fail_if_success (with_reducible apply Go.Proofs.E.is_dst (d := 79))); first | ((with_reducible apply is_ld); first | refine kld hM ?_ | refine kldw hM ?_ | refine kle hM ?_ | refine klew hM ?_) | ((with_reducible apply is_sto); first | (refine kst hM ?_; intro w hM) | (refine kstw hM ?_; intro w hM)) | ((with_reducible apply is_st); refine su ?_) | ((with_reducible apply is_gd); first | refine gt ?_ | refine gf ?_ | refine gu ?_) | ((with_reducible apply is_en); refine en ?_) | (with_reducible apply c_region) | refine ws ?_ | refine x_block_other (by decide) ?_)
  (try ((with_reducible apply is_gd); first | refine gt ?_ | refine gf ?_ | refine gu ?_)); refine wl_val (r_remN N cb.length rfl rfl hpos rfl rfl) ?_
  have hkl := Nat.mod_lt N hpos
  generalize N % cb.length = k at hkl ⊢
  repeat (first | refine gr ?_ | (refine ks ?_; intro w hM))
  refine kcuth (hM.rowRdO (en := eU8) (v := .slice A9 cb.length c9) (xs := cb) (by (repeat constructor))) (j := (k : Int)) (fun v81 hV => ?_)
  rw [Int.toNat_natCast] at hV
  refine ca (rctRead_any _ (cb.take k) _ hV) ?_
  rintro _ w2 ⟨vr2, vw2, vp2, us2, rfl, hd2, hK2⟩
  rw [hcut k hkl] at hd2 hK2 ⊢
  have hm2 := rows_recM hK2.drop
  obtain ⟨Ar2, cr2, rfl⟩ := hm2.r.form
  obtain ⟨Aw2, cw2, rfl⟩ := hm2.w.form
  obtain ⟨Ap2, cp2, rfl, _⟩ := Own.form (hK2.row (v := vp2) (by (repeat constructor)))
  clear hm2
  have hM := hM.call hK2.ch
  clear hK2
  repeat (first | refine gr ?_ | (refine ks ?_; intro w hM))
  refine kal hM (fun w b12 hM => ?_)
  rw [zero_rct] at hM
  refine kstwT (vs := tC 0 0 0 false (.slice Ar2 (us2.map (fun u : RR × List Pr => u.1)).length cr2) (.slice Aw2 ([] : List Pr).length cw2) (.slice Ap2 ([] : List Hs).length cp2) 0 zeroH zeroH) hM (fun w hc hM => ?_)
  repeat (first | refine gr ?_ | (refine ks ?_; intro w hM))
  (try ((with_reducible apply is_gd); first | refine gt ?_ | refine gf ?_ | refine gu ?_)); refine kca hM (lives17_any _ (hK.ch hM.ch (by simp))) (fun w hM => ?_)
  repeat (first | refine gr ?_ | (refine ks ?_; intro w hM))
  exact out1 rfl ⟨rfl, hM.ch⟩
end Go.Proofs.YtkdbinchlpdkmaaDoor

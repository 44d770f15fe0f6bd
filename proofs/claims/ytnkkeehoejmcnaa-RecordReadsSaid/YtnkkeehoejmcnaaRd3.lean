/- Walk: record.Read. -/
import Derived.Test.YtnkkeehoejmcnaaRd2
set_option linter.unusedVariables false
set_option linter.unusedSimpArgs false
namespace Go.Proofs.Ytnkkeehoejmcnaa
open Go Go.RowKit Go.Proofs.E
attribute [local irreducible] Go.wpList Go.Code.wp Go.Proofs.E.exec Go.Proofs.E.wpLexG
theorem bEq_any (v1 v2 : Value) (a b : List UInt8) (w : World) (h1 : tU8.Rd [] w v1 a) (h2 : tU8.Rd [] w v2 b) :
    Calls Try.prog 33 #[v1, v2] w (Ret fun u w' => u = .bool (decide (a = b)) ∧ w' = w) := by
  refine enter [v1, v2, undef, undef, undef, undef, undef, undef, undef, undef] Try.func33 rfl rfl ?_
  repeat (first | ((with_reducible apply is_st); refine su ?_) | ((with_reducible apply is_gd); first | refine gt ?_ | refine gf ?_ | refine gu ?_) | ((with_reducible apply is_en); refine en ?_) | (with_reducible apply c_region) | refine ws ?_ | refine x_block_other (by decide) ?_)
  (try ((with_reducible apply is_gd); first | refine gt ?_ | refine gf ?_ | refine gu ?_)); refine wl_val (r_b2s h1) ?_
  repeat (first | ((with_reducible apply is_st); refine su ?_) | ((with_reducible apply is_gd); first | refine gt ?_ | refine gf ?_ | refine gu ?_) | ((with_reducible apply is_en); refine en ?_) | (with_reducible apply c_region) | refine ws ?_ | refine x_block_other (by decide) ?_)
  (try ((with_reducible apply is_gd); first | refine gt ?_ | refine gf ?_ | refine gu ?_)); refine wl_val (r_b2s h2) ?_
  (try ((with_reducible apply is_gd); first | refine gt ?_ | refine gf ?_ | refine gu ?_)); refine wl_val (r_eqst) ?_
  repeat (first | ((with_reducible apply is_st); refine su ?_) | ((with_reducible apply is_gd); first | refine gt ?_ | refine gf ?_ | refine gu ?_) | ((with_reducible apply is_en); refine en ?_) | (with_reducible apply c_region) | refine ws ?_ | refine x_block_other (by decide) ?_)
  exact out1 rfl ⟨rfl, rfl⟩
/-- What record.Read hands back. -/
def ReadPost (bs : Bs) (w0 : World) (u : Value) (w' : World) : Prop :=
  ∃ (vr vw : Value) (us : List (RR × List Pr)), u = .tuple #[.agg (rC (resR (readZ bs)).1 (resR (readZ bs)).2.1 (resR (readZ bs)).2.2.1 vr vw).toArray, .int .i64 (errR (readZ bs))] ∧ us.map dat = (resR (readZ bs)).2.2.2.1 ∧ Mem [] w0 w' (rows16 vr vw us (resR (readZ bs)).2.2.2.2)
theorem readPost_none {bs : Bs} {w0 w : World} {L : List As} (hz : readZ bs = none) (hM : Mem [] w0 w L) : ReadPost bs w0 (.tuple #[.agg (rC 0 0 false (.slice none 0 0) (.slice none 0 0)).toArray, .int .i64 4]) w := by
  unfold ReadPost
  rw [hz]
  exact ⟨_, _, [], rfl, rfl, (hM.nil.nilRow ePr 32).nilRow eRr 30⟩
theorem readZ_long {bs : Bs} (h : 8192 < bs.length) : readZ bs = none := by
  unfold readZ
  rw [if_pos h]
theorem readZ_bad {bs : Bs} (h : (recS (bs, false)).2.2 = true ∨ (recS (bs, false)).2.1 ≠ [] ∨ goodV (recS (bs, false)).1 = false) : readZ bs = none := by
  unfold readZ
  by_cases hl : 8192 < bs.length
  · rw [if_pos hl]
  · rw [if_neg hl, if_pos h]
theorem readZ_good {bs : Bs} (hl : ¬ 8192 < bs.length) (h1 : (recS (bs, false)).2.2 = false) (h2 : (recS (bs, false)).2.1 = []) (h3 : goodV (recS (bs, false)).1 = true) : readZ bs = some (recS (bs, false)).1 := by
  unfold readZ
  rw [if_neg hl, if_neg]
  rintro (h | h | h)
  · rw [h1] at h
    cases h
  · exact h h2
  · rw [h3] at h
    cases h
theorem recS_eq (s : St) : recS s = (((numT 8 s).1, (numT 1099511627776 (numT 8 s).2).1, (flagT (numT 1099511627776 (numT 8 s).2).2).1, (timesT 64 readS (flagT (numT 1099511627776 (numT 8 s).2).2).2).1, (timesT 64 writeS (timesT 64 readS (flagT (numT 1099511627776 (numT 8 s).2).2).2).2).1), (timesT 64 writeS (timesT 64 readS (flagT (numT 1099511627776 (numT 8 s).2).2).2).2).2) := rfl
set_option maxHeartbeats 16000000 in
theorem recRead_any (v : Value) (bs : Bs) (w0 : World) (hR : tU8.Rd [] w0 v bs) :
    Calls Try.prog 14 #[v] w0 (Ret fun u w' => ReadPost bs w0 u w') := by
  have hM := Mem.start w0
  have hle := hR.le
  obtain ⟨A, c, rfl⟩ := hR.form
  refine enter [.slice A bs.length c, undef, undef, undef, undef, undef, undef, undef, undef, undef, undef, undef, undef, undef, undef, undef, undef, undef, undef, undef, undef, undef, undef, undef, undef, undef, undef, undef, undef, undef, undef, undef, undef, undef, undef, undef, undef, undef, undef, undef, undef, undef, undef, undef, undef, undef, undef, undef, undef, undef, undef, undef, undef, undef] Try.func14 rfl rfl ?_
  repeat (first | ((with_reducible apply is_ld); first | refine kld hM ?_ | refine kldw hM ?_ | refine kle hM ?_ | refine klew hM ?_) | ((with_reducible apply is_sto); first | (refine kst hM ?_; intro w hM) | (refine kstw hM ?_; intro w hM)) | ((with_reducible apply is_st); refine su ?_) | ((with_reducible apply is_gd); first | refine gt ?_ | refine gf ?_ | refine gu ?_) | ((with_reducible apply is_en); refine en ?_) | (with_reducible apply c_region) | refine ws ?_ | refine x_block_other (by decide) ?_)
  refine kal hM (fun w b2 hM => ?_)
  have hM : Mem [] w0 w [.cell b2 (rC 0 0 false (.slice none 0 0) (.slice none 0 0)) 25] := hM
  repeat (first | ((with_reducible apply is_ld); first | refine kld hM ?_ | refine kldw hM ?_ | refine kle hM ?_ | refine klew hM ?_) | ((with_reducible apply is_sto); first | (refine kst hM ?_; intro w hM) | (refine kstw hM ?_; intro w hM)) | ((with_reducible apply is_st); refine su ?_) | ((with_reducible apply is_gd); first | refine gt ?_ | refine gf ?_ | refine gu ?_) | ((with_reducible apply is_en); refine en ?_) | (with_reducible apply c_region) | refine ws ?_ | refine x_block_other (by decide) ?_)
  by_cases q : 8192 < bs.length
  · rw [decide_eq_true (by omega : (8192 : Int) < (bs.length : Int))]
    refine c_condb rfl (fun _ => ?_) (fun h => by cases h)
    repeat (first | ((with_reducible apply is_ld); first | refine kld hM ?_ | refine kldw hM ?_ | refine kle hM ?_ | refine klew hM ?_) | ((with_reducible apply is_sto); first | (refine kst hM ?_; intro w hM) | (refine kstw hM ?_; intro w hM)) | ((with_reducible apply is_st); refine su ?_) | ((with_reducible apply is_gd); first | refine gt ?_ | refine gf ?_ | refine gu ?_) | ((with_reducible apply is_en); refine en ?_) | (with_reducible apply c_region) | refine ws ?_ | refine x_block_other (by decide) ?_)
    (try ((with_reducible apply is_gd); first | refine gt ?_ | refine gf ?_ | refine gu ?_)); refine wl_val (r_bldS (vs := []) (rC 0 0 false (.slice none 0 0) (.slice none 0 0)) (z := rC 0 0 false (.slice none 0 0) (.slice none 0 0)) (place := (#[(0, 1), (1, 1), (2, 1), (3, 1), (4, 1)][·]?)) (by intro ps; kernel_rfl) rfl (.nil rfl)) ?_
    repeat (first | ((with_reducible apply is_ld); first | refine kld hM ?_ | refine kldw hM ?_ | refine kle hM ?_ | refine klew hM ?_) | ((with_reducible apply is_sto); first | (refine kst hM ?_; intro w hM) | (refine kstw hM ?_; intro w hM)) | ((with_reducible apply is_st); refine su ?_) | ((with_reducible apply is_gd); first | refine gt ?_ | refine gf ?_ | refine gu ?_) | ((with_reducible apply is_en); refine en ?_) | (with_reducible apply c_region) | refine ws ?_ | refine x_block_other (by decide) ?_)
    exact koc2 hM rfl (readPost_none (readZ_long q) hM)
  rw [decide_eq_false (by omega : ¬ (8192 : Int) < (bs.length : Int))]
  refine c_condb rfl (fun h => by cases h) (fun _ => ?_)
  repeat (first | ((with_reducible apply is_ld); first | refine kld hM ?_ | refine kldw hM ?_ | refine kle hM ?_ | refine klew hM ?_) | ((with_reducible apply is_sto); first | (refine kst hM ?_; intro w hM) | (refine kstw hM ?_; intro w hM)) | ((with_reducible apply is_st); refine su ?_) | ((with_reducible apply is_gd); first | refine gt ?_ | refine gf ?_ | refine gu ?_) | ((with_reducible apply is_en); refine en ?_) | (with_reducible apply c_region) | refine ws ?_ | refine x_block_other (by decide) ?_)
  (try ((with_reducible apply is_gd); first | refine gt ?_ | refine gf ?_ | refine gu ?_)); refine wl_val (r_bldS (vs := [(0, .slice A bs.length c)]) (sC (.slice A bs.length c) false) (z := sC (.slice none 0 0) false) (place := (#[(0, 1), (1, 1)][·]?)) (by intro ps; kernel_rfl) rfl (.cons rfl rfl (by simp) (.nil rfl))) ?_
  refine kbx (v := .agg (sC (.slice A bs.length c) false).toArray) hM (fun w bS hM => ?_)
  have hM : Mem [] w0 w [.cell bS (sC (.slice A bs.length c) false) 53, .cell b2 (rC 0 0 false (.slice none 0 0) (.slice none 0 0)) 25] := hM
  refine kal hM (fun w bP hM => ?_)
  repeat (first | ((with_reducible apply is_ld); first | refine kld hM ?_ | refine kldw hM ?_ | refine kle hM ?_ | refine klew hM ?_) | ((with_reducible apply is_sto); first | (refine kst hM ?_; intro w hM) | (refine kstw hM ?_; intro w hM)) | ((with_reducible apply is_st); refine su ?_) | ((with_reducible apply is_gd); first | refine gt ?_ | refine gf ?_ | refine gu ?_) | ((with_reducible apply is_en); refine en ?_) | (with_reducible apply c_region) | refine ws ?_ | refine x_block_other (by decide) ?_)
  obtain ⟨s, hs⟩ : ∃ s : St, s = (bs, false) := ⟨_, rfl⟩
  have hx : tU8.Rd [] w0 (.slice A bs.length c) s.1 := by rw [hs]; exact hR
  have hM : Mem [] w0 w [.cell bP [.pointer (some ⟨bS, 0, none⟩)] 51, .cell bS (sC (.slice A bs.length c) s.2) 53, .cell b2 (rC 0 0 false (.slice none 0 0) (.slice none 0 0)) 25] := by rw [hs]; exact hM
  have hrec := recS_eq s
  refine ca (snum_any bS _ s 8 w0 w (hM.blk (b := bS) (by (repeat constructor))) (hx.ch hM.ch) hx (by omega)) ?_
  rintro _ w1 ⟨rfl, vb1, hc, hB1, hx1⟩
  have hM := hM.cellSet hB1 hc
  generalize numT 8 s = n1 at hB1 hx1 hM hrec ⊢
  obtain ⟨ses, s1⟩ := n1
  simp only at hx1 hM hrec ⊢
  repeat (first | ((with_reducible apply is_ld); first | refine kld hM ?_ | refine kldw hM ?_ | refine kle hM ?_ | refine klew hM ?_) | ((with_reducible apply is_sto); first | (refine kst hM ?_; intro w hM) | (refine kstw hM ?_; intro w hM)) | ((with_reducible apply is_st); refine su ?_) | ((with_reducible apply is_gd); first | refine gt ?_ | refine gf ?_ | refine gu ?_) | ((with_reducible apply is_en); refine en ?_) | (with_reducible apply c_region) | refine ws ?_ | refine x_block_other (by decide) ?_)
  (try ((with_reducible apply is_gd); first | refine gt ?_ | refine gf ?_ | refine gu ?_)); refine wl_val (r_bldS (vs := [(0, .int .i64 (ses : Int))]) (rC ses 0 false (.slice none 0 0) (.slice none 0 0)) (z := rC 0 0 false (.slice none 0 0) (.slice none 0 0)) (place := (#[(0, 1), (1, 1), (2, 1), (3, 1), (4, 1)][·]?)) (by intro ps; kernel_rfl) rfl (.cons rfl rfl (by simp) (.nil rfl))) ?_
  refine kal hM (fun w bR hM => ?_)
  refine kstw (vs := rC ses 0 false (.slice none 0 0) (.slice none 0 0)) hM (fun w hM => ?_)
  repeat (first | ((with_reducible apply is_ld); first | refine kld hM ?_ | refine kldw hM ?_ | refine kle hM ?_ | refine klew hM ?_) | ((with_reducible apply is_sto); first | (refine kst hM ?_; intro w hM) | (refine kstw hM ?_; intro w hM)) | ((with_reducible apply is_st); refine su ?_) | ((with_reducible apply is_gd); first | refine gt ?_ | refine gf ?_ | refine gu ?_) | ((with_reducible apply is_en); refine en ?_) | (with_reducible apply c_region) | refine ws ?_ | refine x_block_other (by decide) ?_)
  refine ca (snum_any bS _ s1 1099511627776 w0 w (hM.blk (b := bS) (by (repeat constructor))) (hx1.ch hM.ch) hx1 (by omega)) ?_
  rintro _ w2 ⟨rfl, vb2, hc, hB2, hx2⟩
  have hM := hM.cellSet hB2 hc
  generalize numT 1099511627776 s1 = n2 at hB2 hx2 hM hrec ⊢
  obtain ⟨snap, s2⟩ := n2
  simp only at hx2 hM hrec ⊢
  repeat (first | ((with_reducible apply is_ld); first | refine kld hM ?_ | refine kldw hM ?_ | refine kle hM ?_ | refine klew hM ?_) | ((with_reducible apply is_sto); first | (refine kst hM ?_; intro w hM) | (refine kstw hM ?_; intro w hM)) | ((with_reducible apply is_st); refine su ?_) | ((with_reducible apply is_gd); first | refine gt ?_ | refine gf ?_ | refine gu ?_) | ((with_reducible apply is_en); refine en ?_) | (with_reducible apply c_region) | refine ws ?_ | refine x_block_other (by decide) ?_)
  refine ca (sflag_any bS _ s2 w0 w (hM.blk (b := bS) (by (repeat constructor))) (hx2.ch hM.ch) hx2) ?_
  rintro _ w3 ⟨rfl, vb3, hc, hB3, hx3⟩
  have hM := hM.cellSet hB3 hc
  generalize flagT s2 = n3 at hB3 hx3 hM hrec ⊢
  obtain ⟨strict, s3⟩ := n3
  simp only at hx3 hM hrec ⊢
  repeat (first | ((with_reducible apply is_ld); first | refine kld hM ?_ | refine kldw hM ?_ | refine kle hM ?_ | refine klew hM ?_) | ((with_reducible apply is_sto); first | (refine kst hM ?_; intro w hM) | (refine kstw hM ?_; intro w hM)) | ((with_reducible apply is_st); refine su ?_) | ((with_reducible apply is_gd); first | refine gt ?_ | refine gf ?_ | refine gu ?_) | ((with_reducible apply is_en); refine en ?_) | (with_reducible apply c_region) | refine ws ?_ | refine x_block_other (by decide) ?_)
  (try ((with_reducible apply is_gd); first | refine gt ?_ | refine gf ?_ | refine gu ?_)); refine wl_val (r_makeFunc (cs := [.tmp 5, .tmp 4])) ?_
  have hI : RdInv1 [.cell b2 (rC 0 0 false (.slice none 0 0) (.slice none 0 0)) 25] w0 bS bP bR ses snap strict [] s3 w := ⟨vb3, .slice none 0 0, [], rfl, (hM.nilRow eRr 30).sub (by (repeat constructor)), hx3⟩
  clear hM
  refine ca (times_any (f := 29) bS w0 #[.pointer (some ⟨bR, 0, none⟩), .pointer (some ⟨bP, 0, none⟩)] 64 readS (RdInv1 [.cell b2 (rC 0 0 false (.slice none 0 0) (.slice none 0 0)) 25] w0 bS bP bR ses snap strict) ?hI ?hn ?hs (by omega) s3 w hI) ?_
  case hI =>
    rintro a s w ⟨vb, vr, us, _, hM, hx⟩
    exact ⟨vb, hM.blk (b := bS) (by (repeat constructor)), hx.ch hM.ch, hx⟩
  case hn =>
    rintro a s w w' s' ⟨vb, vr, us, he, hM, hx⟩ ⟨vb', hc, hB, hx'⟩
    exact ⟨vb', vr, us, he, hM.cellSet hB hc, hx'⟩
  case hs =>
    intro a s w hI hf hl
    exact rdA_any bS bP bR ses snap strict a s w0 w hI hl
  rintro u4 w ⟨vb4, vr, us, hus, hM, hx4⟩
  generalize timesT 64 readS s3 = n4 at hus hM hx4 hrec ⊢
  obtain ⟨ds, s4⟩ := n4
  simp only at hus hM hx4 hrec ⊢
  subst hus
  repeat (first | ((with_reducible apply is_ld); first | refine kld hM ?_ | refine kldw hM ?_ | refine kle hM ?_ | refine klew hM ?_) | ((with_reducible apply is_sto); first | (refine kst hM ?_; intro w hM) | (refine kstw hM ?_; intro w hM)) | ((with_reducible apply is_st); refine su ?_) | ((with_reducible apply is_gd); first | refine gt ?_ | refine gf ?_ | refine gu ?_) | ((with_reducible apply is_en); refine en ?_) | (with_reducible apply c_region) | refine ws ?_ | refine x_block_other (by decide) ?_)
  (try ((with_reducible apply is_gd); first | refine gt ?_ | refine gf ?_ | refine gu ?_)); refine wl_val (r_makeFunc (cs := [.tmp 4, .tmp 5])) ?_
  have hI : RdInv2 (.row eRr 30 vr (us.map (fun u : RR × List Pr => u.1)) :: (us.map prow ++ [.cell b2 (rC 0 0 false (.slice none 0 0) (.slice none 0 0)) 25])) w0 bS bP bR ses snap strict vr [] s4 w :=
    ⟨vb4, .slice none 0 0, (hM.nilRow ePr 32).perm (by classical exact List.perm_iff_count.2 (fun x => by simp only [List.count_cons] <;> omega)), hx4⟩
  obtain ⟨LL, hLL⟩ : ∃ LL, LL = (.row eRr 30 vr (us.map (fun u : RR × List Pr => u.1)) :: (us.map prow ++ [.cell b2 (rC 0 0 false (.slice none 0 0) (.slice none 0 0)) 25]) : List As) := ⟨_, rfl⟩
  rw [← hLL] at hI
  clear hM
  refine ca (times_any (f := 31) bS w0 #[.pointer (some ⟨bP, 0, none⟩), .pointer (some ⟨bR, 0, none⟩)] 64 writeS (RdInv2 LL w0 bS bP bR ses snap strict vr) ?hI ?hn ?hs (by omega) s4 w hI) ?_
  case hI =>
    rintro a s w ⟨vb, vw, hM, hx⟩
    exact ⟨vb, hM.blk (b := bS) (by (repeat constructor)), hx.ch hM.ch, hx⟩
  case hn =>
    rintro a s w w' s' ⟨vb, vw, hM, hx⟩ ⟨vb', hc, hB, hx'⟩
    exact ⟨vb', vw, hM.cellSet hB hc, hx'⟩
  case hs =>
    intro a s w hI hf hl
    exact rdB_any bS bP bR ses snap strict vr a s w0 w hI hl
  rintro u5 w ⟨vb5, vw, hM, hx5⟩
  generalize timesT 64 writeS s4 = n5 at hM hx5 hrec ⊢
  obtain ⟨wz, rest, bad⟩ := n5
  simp only at hM hx5 hrec ⊢
  rw [hLL] at hM
  clear hLL hI
  have hM : Mem [] w0 w (.cell bS (sC vb5 bad) 53 :: .cell bP [.pointer (some ⟨bS, 0, none⟩)] 51 :: .cell bR (rC ses snap strict vr vw) 25 :: .cell b2 (rC 0 0 false (.slice none 0 0) (.slice none 0 0)) 25 :: rows16 vr vw us wz) := hM.perm (by
    classical exact List.perm_iff_count.2 (fun x => by simp only [rows16, List.count_cons, List.count_append, List.count_nil] <;> omega))
  rw [hs] at hrec
  have hsm := recS_sm (bs, false)
  have hdone := recS_whole (bs := bs)
  rw [hrec] at hsm hdone
  simp only at hsm hdone
  obtain ⟨hk, hb⟩ := smV_short (us := us) hsm rfl
  have hbad := readZ_bad (bs := bs)
  have hgd := readZ_good (bs := bs) q
  rw [hrec] at hbad hgd
  simp only at hbad hgd
  obtain ⟨A5, c5, rfl⟩ := hx5.form
  obtain ⟨TL, hTL⟩ : ∃ TL, TL = rows16 vr vw us wz := ⟨_, rfl⟩
  rw [← hTL] at hM
  have hrows : ∀ {w}, Mem [] w0 w (.cell bS (sC (.slice A5 rest.length c5) bad) 53 :: .cell bP [.pointer (some ⟨bS, 0, none⟩)] 51 :: .cell bR (rC ses snap strict vr vw) 25 :: .cell b2 (rC 0 0 false (.slice none 0 0) (.slice none 0 0)) 25 :: TL) → RecM w vr vw us wz := fun hM => rows_recM (hM.drop.drop.drop.drop.perm (by rw [hTL]))
  clear hrec
  repeat (first | ((with_reducible apply is_ld); first | refine kld hM ?_ | refine kldw hM ?_ | refine kle hM ?_ | refine klew hM ?_) | ((with_reducible apply is_sto); first | (refine kst hM ?_; intro w hM) | (refine kstw hM ?_; intro w hM)) | ((with_reducible apply is_st); refine su ?_) | ((with_reducible apply is_gd); first | refine gt ?_ | refine gf ?_ | refine gu ?_) | ((with_reducible apply is_en); refine en ?_) | (with_reducible apply c_region) | refine ws ?_ | refine x_block_other (by decide) ?_)
  cases bad with
  | true =>
    repeat (first | ((with_reducible apply is_ld); first | refine kld hM ?_ | refine kldw hM ?_ | refine kle hM ?_ | refine klew hM ?_) | ((with_reducible apply is_sto); first | (refine kst hM ?_; intro w hM) | (refine kstw hM ?_; intro w hM)) | ((with_reducible apply is_st); refine su ?_) | ((with_reducible apply is_gd); first | refine gt ?_ | refine gf ?_ | refine gu ?_) | ((with_reducible apply is_en); refine en ?_) | (with_reducible apply c_region) | refine ws ?_ | refine x_block_other (by decide) ?_)
    refine c_condb rfl (fun _ => ?_) (fun h => by cases h)
    repeat (first | ((with_reducible apply is_ld); first | refine kld hM ?_ | refine kldw hM ?_ | refine kle hM ?_ | refine klew hM ?_) | ((with_reducible apply is_sto); first | (refine kst hM ?_; intro w hM) | (refine kstw hM ?_; intro w hM)) | ((with_reducible apply is_st); refine su ?_) | ((with_reducible apply is_gd); first | refine gt ?_ | refine gf ?_ | refine gu ?_) | ((with_reducible apply is_en); refine en ?_) | (with_reducible apply c_region) | refine ws ?_ | refine x_block_other (by decide) ?_)
    (try ((with_reducible apply is_gd); first | refine gt ?_ | refine gf ?_ | refine gu ?_)); refine wl_val (r_bldS (vs := []) (rC 0 0 false (.slice none 0 0) (.slice none 0 0)) (z := rC 0 0 false (.slice none 0 0) (.slice none 0 0)) (place := (#[(0, 1), (1, 1), (2, 1), (3, 1), (4, 1)][·]?)) (by intro ps; kernel_rfl) rfl (.nil rfl)) ?_
    repeat (first | ((with_reducible apply is_ld); first | refine kld hM ?_ | refine kldw hM ?_ | refine kle hM ?_ | refine klew hM ?_) | ((with_reducible apply is_sto); first | (refine kst hM ?_; intro w hM) | (refine kstw hM ?_; intro w hM)) | ((with_reducible apply is_st); refine su ?_) | ((with_reducible apply is_gd); first | refine gt ?_ | refine gf ?_ | refine gu ?_) | ((with_reducible apply is_en); refine en ?_) | (with_reducible apply c_region) | refine ws ?_ | refine x_block_other (by decide) ?_)
    exact koc2 hM rfl (readPost_none (hbad (.inl rfl)) hM)
  | false =>
    repeat (first | ((with_reducible apply is_ld); first | refine kld hM ?_ | refine kldw hM ?_ | refine kle hM ?_ | refine klew hM ?_) | ((with_reducible apply is_sto); first | (refine kst hM ?_; intro w hM) | (refine kstw hM ?_; intro w hM)) | ((with_reducible apply is_st); refine su ?_) | ((with_reducible apply is_gd); first | refine gt ?_ | refine gf ?_ | refine gu ?_) | ((with_reducible apply is_en); refine en ?_) | (with_reducible apply c_region) | refine ws ?_ | refine x_block_other (by decide) ?_)
    by_cases q1 : (0 : Int) < (rest.length : Int)
    · rw [decide_eq_true q1]
      repeat (first | ((with_reducible apply is_ld); first | refine kld hM ?_ | refine kldw hM ?_ | refine kle hM ?_ | refine klew hM ?_) | ((with_reducible apply is_sto); first | (refine kst hM ?_; intro w hM) | (refine kstw hM ?_; intro w hM)) | ((with_reducible apply is_st); refine su ?_) | ((with_reducible apply is_gd); first | refine gt ?_ | refine gf ?_ | refine gu ?_) | ((with_reducible apply is_en); refine en ?_) | (with_reducible apply c_region) | refine ws ?_ | refine x_block_other (by decide) ?_)
      refine c_condb rfl (fun _ => ?_) (fun h => by cases h)
      repeat (first | ((with_reducible apply is_ld); first | refine kld hM ?_ | refine kldw hM ?_ | refine kle hM ?_ | refine klew hM ?_) | ((with_reducible apply is_sto); first | (refine kst hM ?_; intro w hM) | (refine kstw hM ?_; intro w hM)) | ((with_reducible apply is_st); refine su ?_) | ((with_reducible apply is_gd); first | refine gt ?_ | refine gf ?_ | refine gu ?_) | ((with_reducible apply is_en); refine en ?_) | (with_reducible apply c_region) | refine ws ?_ | refine x_block_other (by decide) ?_)
      (try ((with_reducible apply is_gd); first | refine gt ?_ | refine gf ?_ | refine gu ?_)); refine wl_val (r_bldS (vs := []) (rC 0 0 false (.slice none 0 0) (.slice none 0 0)) (z := rC 0 0 false (.slice none 0 0) (.slice none 0 0)) (place := (#[(0, 1), (1, 1), (2, 1), (3, 1), (4, 1)][·]?)) (by intro ps; kernel_rfl) rfl (.nil rfl)) ?_
      repeat (first | ((with_reducible apply is_ld); first | refine kld hM ?_ | refine kldw hM ?_ | refine kle hM ?_ | refine klew hM ?_) | ((with_reducible apply is_sto); first | (refine kst hM ?_; intro w hM) | (refine kstw hM ?_; intro w hM)) | ((with_reducible apply is_st); refine su ?_) | ((with_reducible apply is_gd); first | refine gt ?_ | refine gf ?_ | refine gu ?_) | ((with_reducible apply is_en); refine en ?_) | (with_reducible apply c_region) | refine ws ?_ | refine x_block_other (by decide) ?_)
      exact koc2 hM rfl (readPost_none (hbad (.inr (.inl (by intro h; subst h; simp at q1)))) hM)
    rw [decide_eq_false q1]
    have hrest : rest = [] := List.eq_nil_of_length_eq_zero (by omega)
    have hbs := hdone rfl hrest
    repeat (first | ((with_reducible apply is_ld); first | refine kld hM ?_ | refine kldw hM ?_ | refine kle hM ?_ | refine klew hM ?_) | ((with_reducible apply is_sto); first | (refine kst hM ?_; intro w hM) | (refine kstw hM ?_; intro w hM)) | ((with_reducible apply is_st); refine su ?_) | ((with_reducible apply is_gd); first | refine gt ?_ | refine gf ?_ | refine gu ?_) | ((with_reducible apply is_en); refine en ?_) | (with_reducible apply c_region) | refine ws ?_ | refine x_block_other (by decide) ?_)
    (try ((with_reducible apply is_gd); first | refine gt ?_ | refine gf ?_ | refine gu ?_)); refine kca hM (recGood_any ses snap strict vr vw us wz w (hrows hM).r (hrows hM).u (hrows hM).w hk hb) (fun w hM => ?_)
    rw [recGood_V]
    cases hg : goodV (ses, snap, strict, us.map dat, wz) with
    | false =>
      repeat (first | ((with_reducible apply is_ld); first | refine kld hM ?_ | refine kldw hM ?_ | refine kle hM ?_ | refine klew hM ?_) | ((with_reducible apply is_sto); first | (refine kst hM ?_; intro w hM) | (refine kstw hM ?_; intro w hM)) | ((with_reducible apply is_st); refine su ?_) | ((with_reducible apply is_gd); first | refine gt ?_ | refine gf ?_ | refine gu ?_) | ((with_reducible apply is_en); refine en ?_) | (with_reducible apply c_region) | refine ws ?_ | refine x_block_other (by decide) ?_)
      refine c_condb rfl (fun _ => ?_) (fun h => by cases h)
      repeat (first | ((with_reducible apply is_ld); first | refine kld hM ?_ | refine kldw hM ?_ | refine kle hM ?_ | refine klew hM ?_) | ((with_reducible apply is_sto); first | (refine kst hM ?_; intro w hM) | (refine kstw hM ?_; intro w hM)) | ((with_reducible apply is_st); refine su ?_) | ((with_reducible apply is_gd); first | refine gt ?_ | refine gf ?_ | refine gu ?_) | ((with_reducible apply is_en); refine en ?_) | (with_reducible apply c_region) | refine ws ?_ | refine x_block_other (by decide) ?_)
      (try ((with_reducible apply is_gd); first | refine gt ?_ | refine gf ?_ | refine gu ?_)); refine wl_val (r_bldS (vs := []) (rC 0 0 false (.slice none 0 0) (.slice none 0 0)) (z := rC 0 0 false (.slice none 0 0) (.slice none 0 0)) (place := (#[(0, 1), (1, 1), (2, 1), (3, 1), (4, 1)][·]?)) (by intro ps; kernel_rfl) rfl (.nil rfl)) ?_
      repeat (first | ((with_reducible apply is_ld); first | refine kld hM ?_ | refine kldw hM ?_ | refine kle hM ?_ | refine klew hM ?_) | ((with_reducible apply is_sto); first | (refine kst hM ?_; intro w hM) | (refine kstw hM ?_; intro w hM)) | ((with_reducible apply is_st); refine su ?_) | ((with_reducible apply is_gd); first | refine gt ?_ | refine gf ?_ | refine gu ?_) | ((with_reducible apply is_en); refine en ?_) | (with_reducible apply c_region) | refine ws ?_ | refine x_block_other (by decide) ?_)
      exact koc2 hM rfl (readPost_none (hbad (.inr (.inr hg))) hM)
    | true =>
      have hbytes : recB ses snap strict us wz = bs := by rw [hbs, recD_dat]
      obtain ⟨hright, _⟩ := goodV_parts hg
      rw [rightB_dat (vs := us) (map_undat _)] at hright
      have hsmall := right_small hright
      obtain ⟨⟨g1, g2, g3, g4, _⟩, _⟩ := right_parts hright
      simp only at g1 g2 g3 g4
      repeat (first | ((with_reducible apply is_ld); first | refine kld hM ?_ | refine kldw hM ?_ | refine kle hM ?_ | refine klew hM ?_) | ((with_reducible apply is_sto); first | (refine kst hM ?_; intro w hM) | (refine kstw hM ?_; intro w hM)) | ((with_reducible apply is_st); refine su ?_) | ((with_reducible apply is_gd); first | refine gt ?_ | refine gf ?_ | refine gu ?_) | ((with_reducible apply is_en); refine en ?_) | (with_reducible apply c_region) | refine ws ?_ | refine x_block_other (by decide) ?_)
      (try ((with_reducible apply is_gd); first | refine gt ?_ | refine gf ?_ | refine gu ?_)); refine kcr hM (written_any ses snap strict vr vw us wz w (hrows hM).r (hrows hM).u (hrows hM).w hsmall (by omega) (by omega)) (fun v47 w hM => ?_)
      rw [hbytes] at hM
      obtain ⟨A47, c47, rfl, _⟩ := Own.form (hM.row (v := v47) (xs := bs) (by (repeat constructor)))
      repeat (first | ((with_reducible apply is_ld); first | refine kld hM ?_ | refine kldw hM ?_ | refine kle hM ?_ | refine klew hM ?_) | ((with_reducible apply is_sto); first | (refine kst hM ?_; intro w hM) | (refine kstw hM ?_; intro w hM)) | ((with_reducible apply is_st); refine su ?_) | ((with_reducible apply is_gd); first | refine gt ?_ | refine gf ?_ | refine gu ?_) | ((with_reducible apply is_en); refine en ?_) | (with_reducible apply c_region) | refine ws ?_ | refine x_block_other (by decide) ?_)
      (try ((with_reducible apply is_gd); first | refine gt ?_ | refine gf ?_ | refine gu ?_)); refine kcs (bEq_any _ _ bs bs w (hM.rowRdO (en := eU8) (v := .slice A47 bs.length c47) (by (repeat constructor))) (hR.ch hM.ch)) ?_
      rw [decide_eq_true rfl]
      repeat (first | ((with_reducible apply is_ld); first | refine kld hM ?_ | refine kldw hM ?_ | refine kle hM ?_ | refine klew hM ?_) | ((with_reducible apply is_sto); first | (refine kst hM ?_; intro w hM) | (refine kstw hM ?_; intro w hM)) | ((with_reducible apply is_st); refine su ?_) | ((with_reducible apply is_gd); first | refine gt ?_ | refine gf ?_ | refine gu ?_) | ((with_reducible apply is_en); refine en ?_) | (with_reducible apply c_region) | refine ws ?_ | refine x_block_other (by decide) ?_)
      refine c_condb rfl (fun h => by cases h) (fun _ => ?_)
      have hrm := hrows hM.drop
      obtain ⟨Ar, cr, rfl⟩ := hrm.r.form
      obtain ⟨Aw, cw, rfl⟩ := hrm.w.form
      repeat (first | ((with_reducible apply is_ld); first | refine kld hM ?_ | refine kldw hM ?_ | refine kle hM ?_ | refine klew hM ?_) | ((with_reducible apply is_sto); first | (refine kst hM ?_; intro w hM) | (refine kstw hM ?_; intro w hM)) | ((with_reducible apply is_st); refine su ?_) | ((with_reducible apply is_gd); first | refine gt ?_ | refine gf ?_ | refine gu ?_) | ((with_reducible apply is_en); refine en ?_) | (with_reducible apply c_region) | refine ws ?_ | refine x_block_other (by decide) ?_)
      refine koc2 hM rfl ?_
      unfold ReadPost
      rw [hgd rfl hrest hg]
      refine ⟨_, _, us, rfl, rfl, ?_⟩
      show Mem [] w0 w (rows16 _ _ us wz)
      rw [← hTL]
      exact hM.sub (by (repeat (first | exact Go.Proofs.E.Sub.refl _ | exact Go.Proofs.E.Sub.nil | (apply Go.Proofs.E.Sub.cons; (repeat (first | exact Go.Proofs.E.Pick.here | apply Go.Proofs.E.Pick.there))) | apply Go.Proofs.E.Sub.tail)))
end Go.Proofs.Ytnkkeehoejmcnaa

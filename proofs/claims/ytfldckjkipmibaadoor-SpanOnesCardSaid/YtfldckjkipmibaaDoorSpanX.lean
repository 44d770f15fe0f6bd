/- Walks: the root that leaves and sides have, the reference's. -/
import Derived.Test.YtfldckjkipmibaaDoorSpanR
set_option linter.unusedVariables false
set_option linter.unusedSimpArgs false
namespace Go.Proofs.YtfldckjkipmibaaDoor
open Go Go.RowKit Go.Proofs.E
attribute [local irreducible] Go.wpList Go.Code.wp Go.Proofs.E.exec Go.Proofs.E.wpLexG
theorem rcount_any (n a b : Int) (w : World) : Calls Tryd.prog 59 #[.int .i64 n, .int .i64 a, .int .i64 b] w (Ret fun u w' => u = .int .i64 ((sidesZ n a b).length : Int) ∧ Ch [] w w') := by
  refine enter [.int .i64 n, .int .i64 a, .int .i64 b, undef, undef, undef, undef, undef, undef, undef, undef, undef] Tryd.func59 rfl rfl ?_
  repeat (first | ((with_reducible apply is_st); refine su ?_) | ((with_reducible apply is_gd); first | refine gt ?_ | refine gf ?_ | refine gu ?_) | ((with_reducible apply is_en); refine en ?_) | (with_reducible first | apply x_then | apply wp_seq | apply c_region | apply wp_block | apply wp_skip | apply wp_exit | apply wp_ret | apply wp_label | apply wp_scope_straight | apply x_ng | apply x_ng_ret | apply x_ng_exit | apply x_then_ret | apply x_then_exit | apply x_block | apply x_block_ret | apply x_block_exit | refine x_block_other (by decide) ?_))
  (try ((with_reducible apply is_gd); first | refine gt ?_ | refine gf ?_ | refine gu ?_)); refine ca (rSides_any n a b w) ?_
  rintro v w1 ⟨hc1, hR, hl⟩
  have hR := hR [] (by simp)
  obtain ⟨A, c, rfl⟩ := hR.form
  repeat (first | ((with_reducible apply is_st); refine su ?_) | ((with_reducible apply is_gd); first | refine gt ?_ | refine gf ?_ | refine gu ?_) | ((with_reducible apply is_en); refine en ?_) | (with_reducible first | apply x_then | apply wp_seq | apply c_region | apply wp_block | apply wp_skip | apply wp_exit | apply wp_ret | apply wp_label | apply wp_scope_straight | apply x_ng | apply x_ng_ret | apply x_ng_exit | apply x_then_ret | apply x_then_exit | apply x_block | apply x_block_ret | apply x_block_exit | refine x_block_other (by decide) ?_))
  exact out1 rfl ⟨rfl, hc1⟩
set_option maxHeartbeats 16000000 in
theorem rtop_any (a : Nat) (lv : List Hs) (hlv : lv.length ≤ 1000000) (ha : a ≤ 1099511627776) (b7 : Nat) (vl : Value) (wB : World) (N : Nat) : ∀ (lo hi : Nat) (s : List Hs) (v : Value) (w0 : World), hi - lo = N → lo < hi → hi ≤ 1099511627776 → cntN a (a + lv.length) lo hi ≤ s.length →
    (Ty.enc eH).Rd [b7] wB vl lv → Ch [b7] wB w0 → Blk w0 b7 [v] 102 → (Ty.enc eH).Rd [b7] wB v s →
    Calls Tryd.prog 60 #[.pointer (some ⟨b7, 0, none⟩), .int .i64 (lo : Int), .int .i64 (hi : Int), .int .i64 (a : Int), vl] w0
      (Ret fun u w' => u = hv (valN a (a + lv.length) lv lo hi s).1 ∧ Ch [b7] w0 w' ∧ ∃ v', Blk w' b7 [v'] 102 ∧ (Ty.enc eH).Rd [b7] wB v' (s.drop (cntN a (a + lv.length) lo hi))) := by
  induction N using Nat.strongRecOn with
  | _ N ih =>
  intro lo hi s v w0 hN hlh hhi hcnt hRl hcB hB hR
  have hM := Mem.take hB
  obtain ⟨A1, c1, rfl⟩ := hRl.form
  refine enter [.pointer (some ⟨b7, 0, none⟩), .int .i64 (lo : Int), .int .i64 (hi : Int), .int .i64 (a : Int), .slice A1 lv.length c1, undef, undef, undef, undef, undef, undef, undef, undef, undef, undef, undef, undef, undef, undef, undef, undef, undef, undef, undef, undef, undef, undef, undef, undef, undef, undef, undef, undef, undef, undef, undef, undef, undef, undef, undef, undef, undef, undef, undef, undef, undef, undef, undef, undef, undef, undef, undef, undef, undef, undef, undef, undef, undef, undef, undef, undef, undef, undef, undef, undef, undef, undef, undef, undef, undef, undef, undef] Tryd.func60 rfl rfl ?_
  obtain ⟨b, hbe⟩ : ∃ b, a + lv.length = b := ⟨_, rfl⟩
  rw [hbe] at hcnt ⊢
  simp only [hbe] at ih
  repeat (first | ((with_reducible apply is_ld); first | refine kld hM ?_ | refine kldw hM ?_ | refine kle hM ?_ | refine klew hM ?_) | ((with_reducible apply is_sto); first | (refine kst hM ?_; intro w hM) | (refine kstw hM ?_; intro w hM)) | ((with_reducible apply is_st); refine su ?_) | ((with_reducible apply is_gd); first | refine gt ?_ | refine gf ?_ | refine gu ?_) | ((with_reducible apply is_en); refine en ?_) | (with_reducible first | apply x_then | apply wp_seq | apply c_region | apply wp_block | apply wp_skip | apply wp_exit | apply wp_ret | apply wp_label | apply wp_scope_straight | apply x_ng | apply x_ng_ret | apply x_ng_exit | apply x_then_ret | apply x_then_exit | apply x_block | apply x_block_ret | apply x_block_exit | refine x_block_other (by decide) ?_))
  refine kal hM (fun w b10 hM => ?_)
  repeat (first | ((with_reducible apply is_ld); first | refine kld hM ?_ | refine kldw hM ?_ | refine kle hM ?_ | refine klew hM ?_) | ((with_reducible apply is_sto); first | (refine kst hM ?_; intro w hM) | (refine kstw hM ?_; intro w hM)) | ((with_reducible apply is_st); refine su ?_) | ((with_reducible apply is_gd); first | refine gt ?_ | refine gf ?_ | refine gu ?_) | ((with_reducible apply is_en); refine en ?_) | (with_reducible first | apply x_then | apply wp_seq | apply c_region | apply wp_block | apply wp_skip | apply wp_exit | apply wp_ret | apply wp_label | apply wp_scope_straight | apply x_ng | apply x_ng_ret | apply x_ng_exit | apply x_then_ret | apply x_then_exit | apply x_block | apply x_block_ret | apply x_block_exit | refine x_block_other (by decide) ?_))
  rw [show (a : Int) + (lv.length : Int) = (b : Int) by omega]
  by_cases ho : hi ≤ a ∨ b ≤ lo
  · have hz : valN a b lv lo hi s = s.headD zeroH := val_out hlh ho
    have hcn : cntN a b lo hi = 1 := by unfold cntN; rw [sides_out hlh ho]; rfl
    rw [hz, hcn]
    rw [hcn] at hcnt
    obtain ⟨y, ys, rfl⟩ : ∃ y ys, s = y :: ys := by cases s with | nil => simp at hcnt | cons y ys => exact ⟨y, ys, rfl⟩
    obtain ⟨A2, c2, rfl⟩ := hR.form
    rcases ho with ho | ho
    all_goals
      repeat (first | ((with_reducible apply is_ld); first | refine kld hM ?_ | refine kldw hM ?_ | refine kle hM ?_ | refine klew hM ?_) | ((with_reducible apply is_sto); first | (refine kst hM ?_; intro w hM) | (refine kstw hM ?_; intro w hM)) | ((with_reducible apply is_co); first | (refine c_condb rfl (fun _ => ?_) ?hf; (case hf => intro h; cases h; done)) | (refine c_condb rfl ?ht (fun _ => ?_); (case ht => intro h; cases h; done)) | (refine c_cond rfl (fun _ => ?_) ?hf; (case hf => intro h; exfalso; apply h; omega)) | (refine c_cond rfl ?ht (fun _ => ?_); (case ht => intro h; exfalso; omega))) | ((with_reducible apply is_st); refine su ?_) | ((with_reducible apply is_gd); first | refine gt ?_ | refine gf ?_ | refine gu ?_) | ((with_reducible apply is_en); refine en ?_) | (with_reducible first | apply x_then | apply wp_seq | apply c_region | apply wp_block | apply wp_skip | apply wp_exit | apply wp_ret | apply wp_label | apply wp_scope_straight | apply x_ng | apply x_ng_ret | apply x_ng_exit | apply x_then_ret | apply x_then_exit | apply x_block | apply x_block_ret | apply x_block_exit | refine x_block_other (by decide) ?_))
      refine kix (hR.ch hcB) (fun b5 o5 x hx hA => ?_)
      obtain rfl := Option.some.inj hx
      refine katr hM hA ?_
      refine kal hM (fun w b12 hM => ?_)
      refine kstw (vs := y.1.map u8v) hM (fun w hM => ?_)
      repeat (first | ((with_reducible apply is_ld); first | refine kld hM ?_ | refine kldw hM ?_ | refine kle hM ?_ | refine klew hM ?_) | ((with_reducible apply is_sto); first | (refine kst hM ?_; intro w hM) | (refine kstw hM ?_; intro w hM)) | ((with_reducible apply is_st); refine su ?_) | ((with_reducible apply is_gd); first | refine gt ?_ | refine gf ?_ | refine gu ?_) | ((with_reducible apply is_en); refine en ?_) | (with_reducible first | apply x_then | apply wp_seq | apply c_region | apply wp_block | apply wp_skip | apply wp_exit | apply wp_ret | apply wp_label | apply wp_scope_straight | apply x_ng | apply x_ng_ret | apply x_ng_exit | apply x_then_ret | apply x_then_exit | apply x_block | apply x_block_ret | apply x_block_exit | refine x_block_other (by decide) ?_))
      refine kcutl hR (fun v' hV => ?_)
      obtain ⟨A', c', rfl⟩ := hV.form
      repeat (first | ((with_reducible apply is_ld); first | refine kld hM ?_ | refine kldw hM ?_ | refine kle hM ?_ | refine klew hM ?_) | ((with_reducible apply is_sto); first | (refine kst hM ?_; intro w hM) | (refine kstw hM ?_; intro w hM)) | ((with_reducible apply is_st); refine su ?_) | ((with_reducible apply is_gd); first | refine gt ?_ | refine gf ?_ | refine gu ?_) | ((with_reducible apply is_en); refine en ?_) | (with_reducible first | apply x_then | apply wp_seq | apply c_region | apply wp_block | apply wp_skip | apply wp_exit | apply wp_ret | apply wp_label | apply wp_scope_straight | apply x_ng | apply x_ng_ret | apply x_ng_exit | apply x_then_ret | apply x_then_exit | apply x_block | apply x_block_ret | apply x_block_exit | refine x_block_other (by decide) ?_))
      exact koc hM rfl ⟨rfl, hM.ch, _, hM.blk (by (repeat (first | exact Go.Proofs.E.Pick.here | apply Go.Proofs.E.Pick.there))), hV⟩
  · have ho1 : a < hi := by omega
    have ho2 : lo < b := by omega
    by_cases h1 : hi = lo + 1
    · obtain ⟨x, hx⟩ : ∃ x, lv[lo - a]? = some x := ⟨_, List.getElem?_eq_getElem (by omega)⟩
      rw [val_leaf h1 ho hx, cnt_in hlh ho (.inl (by omega))]
      repeat (first | ((with_reducible apply is_ld); first | refine kld hM ?_ | refine kldw hM ?_ | refine kle hM ?_ | refine klew hM ?_) | ((with_reducible apply is_sto); first | (refine kst hM ?_; intro w hM) | (refine kstw hM ?_; intro w hM)) | ((with_reducible apply is_co); first | (refine c_condb rfl (fun _ => ?_) ?hf; (case hf => intro h; cases h; done)) | (refine c_condb rfl ?ht (fun _ => ?_); (case ht => intro h; cases h; done)) | (refine c_cond rfl (fun _ => ?_) ?hf; (case hf => intro h; exfalso; apply h; omega)) | (refine c_cond rfl ?ht (fun _ => ?_); (case ht => intro h; exfalso; omega))) | ((with_reducible apply is_st); refine su ?_) | ((with_reducible apply is_gd); first | refine gt ?_ | refine gf ?_ | refine gu ?_) | ((with_reducible apply is_en); refine en ?_) | (with_reducible first | apply x_then | apply wp_seq | apply c_region | apply wp_block | apply wp_skip | apply wp_exit | apply wp_ret | apply wp_label | apply wp_scope_straight | apply x_ng | apply x_ng_ret | apply x_ng_exit | apply x_then_ret | apply x_then_exit | apply x_block | apply x_block_ret | apply x_block_exit | refine x_block_other (by decide) ?_))
      refine kix (hRl.ch hcB) (fun b5 o5 x' hx' hA => ?_)
      rw [show ((lo : Int) - (a : Int)).toNat = lo - a by omega, hx] at hx'
      obtain rfl := Option.some.inj hx'
      refine katr hM hA ?_
      refine kstw (vs := x.1.map u8v) hM (fun w hM => ?_)
      repeat (first | ((with_reducible apply is_ld); first | refine kld hM ?_ | refine kldw hM ?_ | refine kle hM ?_ | refine klew hM ?_) | ((with_reducible apply is_sto); first | (refine kst hM ?_; intro w hM) | (refine kstw hM ?_; intro w hM)) | ((with_reducible apply is_st); refine su ?_) | ((with_reducible apply is_gd); first | refine gt ?_ | refine gf ?_ | refine gu ?_) | ((with_reducible apply is_en); refine en ?_) | (with_reducible first | apply x_then | apply wp_seq | apply c_region | apply wp_block | apply wp_skip | apply wp_exit | apply wp_ret | apply wp_label | apply wp_scope_straight | apply x_ng | apply x_ng_ret | apply x_ng_exit | apply x_then_ret | apply x_then_exit | apply x_block | apply x_block_ret | apply x_block_exit | refine x_block_other (by decide) ?_))
      exact koc hM rfl ⟨rfl, hM.ch, v, hM.blk (by (repeat (first | exact Go.Proofs.E.Pick.here | apply Go.Proofs.E.Pick.there))), hR⟩
    · have hsp := splitN_lt (n := hi - lo) (by omega) (by omega)
      obtain ⟨hz, hcn⟩ := val_split (a := a) (b := b) (lv := lv) (s := s) (lo := lo) (hi := hi) (by omega) (by omega) ho (by omega) (by omega)
      rw [hz]
      obtain ⟨m, hm⟩ : ∃ m, lo + splitN (hi - lo) = m := ⟨_, rfl⟩
      rw [hm] at hcn ⊢
      repeat (first | ((with_reducible apply is_ld); first | refine kld hM ?_ | refine kldw hM ?_ | refine kle hM ?_ | refine klew hM ?_) | ((with_reducible apply is_sto); first | (refine kst hM ?_; intro w hM) | (refine kstw hM ?_; intro w hM)) | ((with_reducible apply is_co); first | (refine c_condb rfl (fun _ => ?_) ?hf; (case hf => intro h; cases h; done)) | (refine c_condb rfl ?ht (fun _ => ?_); (case ht => intro h; cases h; done)) | (refine c_cond rfl (fun _ => ?_) ?hf; (case hf => intro h; exfalso; apply h; omega)) | (refine c_cond rfl ?ht (fun _ => ?_); (case ht => intro h; exfalso; omega))) | ((with_reducible apply is_st); refine su ?_) | ((with_reducible apply is_gd); first | refine gt ?_ | refine gf ?_ | refine gu ?_) | ((with_reducible apply is_en); refine en ?_) | (with_reducible first | apply x_then | apply wp_seq | apply c_region | apply wp_block | apply wp_skip | apply wp_exit | apply wp_ret | apply wp_label | apply wp_scope_straight | apply x_ng | apply x_ng_ret | apply x_ng_exit | apply x_then_ret | apply x_then_exit | apply x_block | apply x_block_ret | apply x_block_exit | refine x_block_other (by decide) ?_))
      refine kcs (rsplit_any ((hi : Int) - (lo : Int)) (by omega) w) ?_
      rw [show (hi : Int) - (lo : Int) = ((hi - lo : Nat) : Int) by omega, splitZ_nat]
      repeat (first | ((with_reducible apply is_ld); first | refine kld hM ?_ | refine kldw hM ?_ | refine kle hM ?_ | refine klew hM ?_) | ((with_reducible apply is_sto); first | (refine kst hM ?_; intro w hM) | (refine kstw hM ?_; intro w hM)) | ((with_reducible apply is_st); refine su ?_) | ((with_reducible apply is_gd); first | refine gt ?_ | refine gf ?_ | refine gu ?_) | ((with_reducible apply is_en); refine en ?_) | (with_reducible first | apply x_then | apply wp_seq | apply c_region | apply wp_block | apply wp_skip | apply wp_exit | apply wp_ret | apply wp_label | apply wp_scope_straight | apply x_ng | apply x_ng_ret | apply x_ng_exit | apply x_then_ret | apply x_then_exit | apply x_block | apply x_block_ret | apply x_block_exit | refine x_block_other (by decide) ?_))
      rw [show (lo : Int) + (splitN (hi - lo) : Int) = (m : Int) by omega]
      refine ca (ih (m - lo) (by omega) lo m s v w rfl (by omega) (by omega) (by omega) hRl (hcB.then hM.ch) (hM.blk (by (repeat (first | exact Go.Proofs.E.Pick.here | apply Go.Proofs.E.Pick.there)))) hR) ?_
      rintro _ w ⟨rfl, hc, v1, hB1, hR1⟩
      have hM := hM.cellSet hB1 hc
      generalize valN a b lv lo m s = X
      repeat (first | ((with_reducible apply is_ld); first | refine kld hM ?_ | refine kldw hM ?_ | refine kle hM ?_ | refine klew hM ?_) | ((with_reducible apply is_sto); first | (refine kst hM ?_; intro w hM) | (refine kstw hM ?_; intro w hM)) | ((with_reducible apply is_st); refine su ?_) | ((with_reducible apply is_gd); first | refine gt ?_ | refine gf ?_ | refine gu ?_) | ((with_reducible apply is_en); refine en ?_) | (with_reducible first | apply x_then | apply wp_seq | apply c_region | apply wp_block | apply wp_skip | apply wp_exit | apply wp_ret | apply wp_label | apply wp_scope_straight | apply x_ng | apply x_ng_ret | apply x_ng_exit | apply x_then_ret | apply x_then_exit | apply x_block | apply x_block_ret | apply x_block_exit | refine x_block_other (by decide) ?_))
      refine kal hM (fun w b14 hM => ?_)
      refine kstw (vs := X.1.map u8v) hM (fun w hM => ?_)
      repeat (first | ((with_reducible apply is_ld); first | refine kld hM ?_ | refine kldw hM ?_ | refine kle hM ?_ | refine klew hM ?_) | ((with_reducible apply is_sto); first | (refine kst hM ?_; intro w hM) | (refine kstw hM ?_; intro w hM)) | ((with_reducible apply is_st); refine su ?_) | ((with_reducible apply is_gd); first | refine gt ?_ | refine gf ?_ | refine gu ?_) | ((with_reducible apply is_en); refine en ?_) | (with_reducible first | apply x_then | apply wp_seq | apply c_region | apply wp_block | apply wp_skip | apply wp_exit | apply wp_ret | apply wp_label | apply wp_scope_straight | apply x_ng | apply x_ng_ret | apply x_ng_exit | apply x_then_ret | apply x_then_exit | apply x_block | apply x_block_ret | apply x_block_exit | refine x_block_other (by decide) ?_))
      have hlt := (hM.blk (b := b14) (by (repeat (first | exact Go.Proofs.E.Pick.here | apply Go.Proofs.E.Pick.there)))).lt'
      have hlt10 := (hM.blk (b := b10) (by (repeat (first | exact Go.Proofs.E.Pick.here | apply Go.Proofs.E.Pick.there)))).lt'
      have n14 := hM.nin (b := b7) (c := b14) (by (repeat (first | exact Go.Proofs.E.Pick.here | apply Go.Proofs.E.Pick.there))) (by (repeat (first | exact Go.Proofs.E.Pick.here | apply Go.Proofs.E.Pick.there)))
      have n10 := hM.nin (b := b7) (c := b10) (by (repeat (first | exact Go.Proofs.E.Pick.here | apply Go.Proofs.E.Pick.there))) (by (repeat (first | exact Go.Proofs.E.Pick.here | apply Go.Proofs.E.Pick.there)))
      refine c_ordY ([], []) [b7, b10] (by kernel_rfl) (by kernel_rfl) (by kernel_rfl) (fun w hc hs => ?_)
      have z1 := hc.size
      have hM := hM.call hc
      refine ynlr 0 rfl (n := 32) (hM.blk (b := b14) (by (repeat (first | exact Go.Proofs.E.Pick.here | apply Go.Proofs.E.Pick.there)))) hlt (by have := hM.nin (b := b10) (c := b14) (by (repeat (first | exact Go.Proofs.E.Pick.here | apply Go.Proofs.E.Pick.there))) (by (repeat (first | exact Go.Proofs.E.Pick.here | apply Go.Proofs.E.Pick.there))); simp at this n14 ⊢; exact ⟨n14, this⟩) rfl (ds := X.1.map u8v) (by simp [List.take_of_length_le, X.2]) (by simp [X.2]) ?_
      (first | refine yn 1 rfl ?_ | refine ynt 1 rfl ?_ | refine ynff 1 rfl ?_); (first | refine yn 2 rfl ?_ | refine ynt 2 rfl ?_ | refine ynff 2 rfl ?_); (first | refine yn 3 rfl ?_ | refine ynt 3 rfl ?_ | refine ynff 3 rfl ?_); (first | refine yn 4 rfl ?_ | refine ynt 4 rfl ?_ | refine ynff 4 rfl ?_); (first | refine yn 5 rfl ?_ | refine ynt 5 rfl ?_ | refine ynff 5 rfl ?_)
      refine yn1 6 (by kernel_rfl) rfl (fun w hc => ?_)
      have z2 := hc.size
      have hM := hM.call hc
      refine ca (ih (hi - m) (by omega) m hi (s.drop (cntN a b lo m)) v1 w rfl (by omega) (by omega) (by rw [List.length_drop]; omega) hRl (hcB.then hM.ch) (hM.blk (by (repeat (first | exact Go.Proofs.E.Pick.here | apply Go.Proofs.E.Pick.there)))) hR1) ?_
      rintro _ w ⟨rfl, hc, v2, hB2, hR2⟩
      have z3 := hc.size
      have hM := hM.cellSet hB2 hc
      generalize valN a b lv m hi (s.drop (cntN a b lo m)) = Y
      refine x_wy (.inl ((hc.mono (fun x _ hx => by simp at hx ⊢; exact .inl hx)).bw (by omega))) rfl (wy_nf ?_)
      refine ync (vs := [hv X.1, hv Y.1]) 7 rfl (by kernel_rfl) (by kernel_rfl) rfl (fun w1 hc1 => rnode_any X.1 Y.1 X.2 Y.2 w1) rfl (wy_nf ?_)
      refine yst (n := 32) (vs := (nodeH X Y).1.map u8v) 8 (by kernel_rfl) rfl (hM.blk (by (repeat (first | exact Go.Proofs.E.Pick.here | apply Go.Proofs.E.Pick.there)))) (.inr (by simp)) rfl rfl (by simp [(nodeH X Y).2]) rfl one_u8 (fun w hB hc => ?_)
      have hM := hM.cellSet hB hc
      refine wy_done (by kernel_rfl) (fun w hc => ?_)
      have hM := hM.call hc
      repeat (first | ((with_reducible apply is_ld); first | refine kld hM ?_ | refine kldw hM ?_ | refine kle hM ?_ | refine klew hM ?_) | ((with_reducible apply is_sto); first | (refine kst hM ?_; intro w hM) | (refine kstw hM ?_; intro w hM)) | ((with_reducible apply is_st); refine su ?_) | ((with_reducible apply is_gd); first | refine gt ?_ | refine gf ?_ | refine gu ?_) | ((with_reducible apply is_en); refine en ?_) | (with_reducible first | apply x_then | apply wp_seq | apply c_region | apply wp_block | apply wp_skip | apply wp_exit | apply wp_ret | apply wp_label | apply wp_scope_straight | apply x_ng | apply x_ng_ret | apply x_ng_exit | apply x_then_ret | apply x_then_exit | apply x_block | apply x_block_ret | apply x_block_exit | refine x_block_other (by decide) ?_))
      refine koc hM rfl ⟨rfl, hM.ch, v2, hM.blk (by (repeat (first | exact Go.Proofs.E.Pick.here | apply Go.Proofs.E.Pick.there))), ?_⟩
      rw [hcn, ← List.drop_drop]
      exact hR2
set_option maxHeartbeats 8000000 in
theorem rroot28_any (n a : Int) (v1 v2 : Value) (lv sd : List Hs) (w0 : World) (hR1 : (Ty.enc eH).Rd [] w0 v1 lv) (hR2 : (Ty.enc eH).Rd [] w0 v2 sd) (hlv : lv.length ≤ 1000000) :
    Calls Tryd.prog 19 #[.int .i64 n, .int .i64 a, v1, v2] w0 (Ret fun u w' => u = .tuple #[hv (rootZ n a lv sd).1.1, .bool (rootZ n a lv sd).2] ∧ Ch [] w0 w') := by
  have hM := Mem.start w0
  obtain ⟨A1, c1, rfl⟩ := hR1.form
  obtain ⟨A2, c2, rfl⟩ := hR2.form
  have hl2 := hR2.le
  refine enter [.int .i64 n, .int .i64 a, .slice A1 lv.length c1, .slice A2 sd.length c2, undef, undef, undef, undef, undef, undef, undef, undef, undef, undef, undef, undef, undef, undef, undef, undef, undef, undef, undef, undef, undef, undef, undef, undef, undef, undef, undef, undef, undef, undef, undef, undef, undef, undef, undef, undef, undef, undef, undef, undef, undef, undef, undef, undef, undef, undef, undef, undef, undef, undef, undef, undef] Tryd.func19 rfl rfl ?_
  repeat (first | ((with_reducible apply is_ld); first | refine kld hM ?_ | refine kldw hM ?_ | refine kle hM ?_ | refine klew hM ?_) | ((with_reducible apply is_sto); first | (refine kst hM ?_; intro w hM) | (refine kstw hM ?_; intro w hM)) | ((with_reducible apply is_st); refine su ?_) | ((with_reducible apply is_gd); first | refine gt ?_ | refine gf ?_ | refine gu ?_) | ((with_reducible apply is_en); refine en ?_) | (with_reducible first | apply x_then | apply wp_seq | apply c_region | apply wp_block | apply wp_skip | apply wp_exit | apply wp_ret | apply wp_label | apply wp_scope_straight | apply x_ng | apply x_ng_ret | apply x_ng_exit | apply x_then_ret | apply x_then_exit | apply x_block | apply x_block_ret | apply x_block_exit | refine x_block_other (by decide) ?_))
  refine kal hM (fun w b8 hM => ?_)
  by_cases g : 0 ≤ a ∧ n ≤ 1099511627776 ∧ a ≤ n ∧ lv.length ≠ 0 ∧ (lv.length : Int) ≤ n - a
  · obtain ⟨g1, g2, g3, g4, g5⟩ := g
    obtain ⟨a', rfl⟩ := Int.eq_ofNat_of_zero_le g1
    obtain ⟨N, rfl⟩ := Int.eq_ofNat_of_zero_le (by omega : 0 ≤ n)
    repeat (first | ((with_reducible apply is_ld); first | refine kld hM ?_ | refine kldw hM ?_ | refine kle hM ?_ | refine klew hM ?_) | ((with_reducible apply is_sto); first | (refine kst hM ?_; intro w hM) | (refine kstw hM ?_; intro w hM)) | ((with_reducible apply is_st); refine su ?_) | ((with_reducible apply is_gd); first | refine gt ?_ | refine gf ?_ | refine gu ?_) | ((with_reducible apply is_en); refine en ?_) | (with_reducible first | apply x_then | apply wp_seq | apply c_region | apply wp_block | apply wp_skip | apply wp_exit | apply wp_ret | apply wp_label | apply wp_scope_straight | apply x_ng | apply x_ng_ret | apply x_ng_exit | apply x_then_ret | apply x_then_exit | apply x_block | apply x_block_ret | apply x_block_exit | refine x_block_other (by decide) ?_))
    refine kca hM (rcount_any (N : Int) (a' : Int) ((a' : Int) + (lv.length : Int)) w) (fun w hM => ?_)
    have e : (a' : Int) + (lv.length : Int) = ((a' + lv.length : Nat) : Int) := by omega
    have hm : mayZ (N : Int) (a' : Int) ((a' : Int) + (lv.length : Int)) = true := mayZ_t g1 (by omega) (by omega) g2
    have hs : sidesZ (N : Int) (a' : Int) ((a' : Int) + (lv.length : Int)) = sidesN a' (a' + lv.length) 0 N := by unfold sidesZ; rw [hm, e]; rfl
    by_cases hc : sd.length = (sidesZ (N : Int) (a' : Int) ((a' : Int) + (lv.length : Int))).length
    · have hz : rootZ (N : Int) (a' : Int) lv sd = (valN a' (a' + lv.length) lv 0 N sd, true) := by
        unfold rootZ
        rw [if_pos ⟨g1, g2, g3, g4, g5, hc⟩, e]
        rfl
      rw [hz]
      repeat (first | ((with_reducible apply is_ld); first | refine kld hM ?_ | refine kldw hM ?_ | refine kle hM ?_ | refine klew hM ?_) | ((with_reducible apply is_sto); first | (refine kst hM ?_; intro w hM) | (refine kstw hM ?_; intro w hM)) | ((with_reducible apply is_co); first | (refine c_condb rfl (fun _ => ?_) ?hf; (case hf => intro h; cases h; done)) | (refine c_condb rfl ?ht (fun _ => ?_); (case ht => intro h; cases h; done)) | (refine c_cond rfl (fun _ => ?_) ?hf; (case hf => intro h; exfalso; apply h; omega)) | (refine c_cond rfl ?ht (fun _ => ?_); (case ht => intro h; exfalso; omega))) | ((with_reducible apply is_st); refine su ?_) | ((with_reducible apply is_gd); first | refine gt ?_ | refine gf ?_ | refine gu ?_) | ((with_reducible apply is_en); refine en ?_) | (with_reducible first | apply x_then | apply wp_seq | apply c_region | apply wp_block | apply wp_skip | apply wp_exit | apply wp_ret | apply wp_label | apply wp_scope_straight | apply x_ng | apply x_ng_ret | apply x_ng_exit | apply x_then_ret | apply x_then_exit | apply x_block | apply x_block_ret | apply x_block_exit | refine x_block_other (by decide) ?_))
      (try ((with_reducible apply is_gd); first | refine gt ?_ | refine gf ?_ | refine gu ?_)); refine wl_val (r_bld (vs := [(0, .slice A2 sd.length c2)]) (cells := #[.slice A2 sd.length c2]) rfl (by kernel_rfl)) ?_
      refine kbx hM (fun w b10 hM => ?_)
      have hM : Mem [] w0 w [.cell b10 [.slice A2 sd.length c2] 102, .cell b8 ((List.replicate 32 (0 : UInt8)).map u8v) 29] := hM
      repeat (first | ((with_reducible apply is_ld); first | refine kld hM ?_ | refine kldw hM ?_ | refine kle hM ?_ | refine klew hM ?_) | ((with_reducible apply is_sto); first | (refine kst hM ?_; intro w hM) | (refine kstw hM ?_; intro w hM)) | ((with_reducible apply is_st); refine su ?_) | ((with_reducible apply is_gd); first | refine gt ?_ | refine gf ?_ | refine gu ?_) | ((with_reducible apply is_en); refine en ?_) | (with_reducible first | apply x_then | apply wp_seq | apply c_region | apply wp_block | apply wp_skip | apply wp_exit | apply wp_ret | apply wp_label | apply wp_scope_straight | apply x_ng | apply x_ng_ret | apply x_ng_exit | apply x_then_ret | apply x_then_exit | apply x_block | apply x_block_ret | apply x_block_exit | refine x_block_other (by decide) ?_))
      refine ca (rtop_any a' lv hlv (by omega) b10 _ w N 0 N sd _ w rfl (by omega) (by omega) (by rw [hs] at hc; unfold cntN; omega) (hM.rdNew (by (repeat (first | exact Go.Proofs.E.Pick.here | apply Go.Proofs.E.Pick.there))) hR1) (Ch.refl _ _) (hM.blk (by (repeat (first | exact Go.Proofs.E.Pick.here | apply Go.Proofs.E.Pick.there)))) (hM.rdNew (by (repeat (first | exact Go.Proofs.E.Pick.here | apply Go.Proofs.E.Pick.there))) hR2)) ?_
      rintro _ w ⟨rfl, hc, v', hB', hR'⟩
      have hM := hM.cellSet hB' hc
      refine kstw (vs := (valN a' (a' + lv.length) lv 0 N sd).1.map u8v) hM (fun w hM => ?_)
      repeat (first | ((with_reducible apply is_ld); first | refine kld hM ?_ | refine kldw hM ?_ | refine kle hM ?_ | refine klew hM ?_) | ((with_reducible apply is_sto); first | (refine kst hM ?_; intro w hM) | (refine kstw hM ?_; intro w hM)) | ((with_reducible apply is_st); refine su ?_) | ((with_reducible apply is_gd); first | refine gt ?_ | refine gf ?_ | refine gu ?_) | ((with_reducible apply is_en); refine en ?_) | (with_reducible first | apply x_then | apply wp_seq | apply c_region | apply wp_block | apply wp_skip | apply wp_exit | apply wp_ret | apply wp_label | apply wp_scope_straight | apply x_ng | apply x_ng_ret | apply x_ng_exit | apply x_then_ret | apply x_then_exit | apply x_block | apply x_block_ret | apply x_block_exit | refine x_block_other (by decide) ?_))
      exact koc2 hM rfl ⟨rfl, hM.ch⟩
    · rw [rootZ_f (fun h => hc h.2.2.2.2.2)]
      repeat (first | ((with_reducible apply is_ld); first | refine kld hM ?_ | refine kldw hM ?_ | refine kle hM ?_ | refine klew hM ?_) | ((with_reducible apply is_sto); first | (refine kst hM ?_; intro w hM) | (refine kstw hM ?_; intro w hM)) | ((with_reducible apply is_co); first | (refine c_condb rfl (fun _ => ?_) ?hf; (case hf => intro h; cases h; done)) | (refine c_condb rfl ?ht (fun _ => ?_); (case ht => intro h; cases h; done)) | (refine c_cond rfl (fun _ => ?_) ?hf; (case hf => intro h; exfalso; apply h; omega)) | (refine c_cond rfl ?ht (fun _ => ?_); (case ht => intro h; exfalso; omega))) | ((with_reducible apply is_st); refine su ?_) | ((with_reducible apply is_gd); first | refine gt ?_ | refine gf ?_ | refine gu ?_) | ((with_reducible apply is_en); refine en ?_) | (with_reducible first | apply x_then | apply wp_seq | apply c_region | apply wp_block | apply wp_skip | apply wp_exit | apply wp_ret | apply wp_label | apply wp_scope_straight | apply x_ng | apply x_ng_ret | apply x_ng_exit | apply x_then_ret | apply x_then_exit | apply x_block | apply x_block_ret | apply x_block_exit | refine x_block_other (by decide) ?_))
      (try ((with_reducible apply is_gd); first | refine gt ?_ | refine gf ?_ | refine gu ?_)); refine wl_val (r_build_arr0 (e := 5)) ?_
      refine kstw (vs := zeroH.1.map u8v) hM (fun w hM => ?_)
      repeat (first | ((with_reducible apply is_ld); first | refine kld hM ?_ | refine kldw hM ?_ | refine kle hM ?_ | refine klew hM ?_) | ((with_reducible apply is_sto); first | (refine kst hM ?_; intro w hM) | (refine kstw hM ?_; intro w hM)) | ((with_reducible apply is_st); refine su ?_) | ((with_reducible apply is_gd); first | refine gt ?_ | refine gf ?_ | refine gu ?_) | ((with_reducible apply is_en); refine en ?_) | (with_reducible first | apply x_then | apply wp_seq | apply c_region | apply wp_block | apply wp_skip | apply wp_exit | apply wp_ret | apply wp_label | apply wp_scope_straight | apply x_ng | apply x_ng_ret | apply x_ng_exit | apply x_then_ret | apply x_then_exit | apply x_block | apply x_block_ret | apply x_block_exit | refine x_block_other (by decide) ?_))
      exact koc2 hM rfl ⟨rfl, hM.ch⟩
  · rw [rootZ_f (fun h => g ⟨h.1, h.2.1, h.2.2.1, h.2.2.2.1, h.2.2.2.2.1⟩)]
    have g' : a < 0 ∨ (0 ≤ a ∧ n < a) ∨ (0 ≤ a ∧ a ≤ n ∧ 1099511627776 < n) ∨ (0 ≤ a ∧ a ≤ n ∧ n ≤ 1099511627776 ∧ lv.length = 0) ∨ (0 ≤ a ∧ a ≤ n ∧ n ≤ 1099511627776 ∧ lv.length ≠ 0 ∧ n - a < (lv.length : Int)) := by omega
    rcases g' with g' | ⟨g1, g'⟩ | ⟨g1, g2, g'⟩ | ⟨g1, g2, g3, g'⟩ | ⟨g1, g2, g3, g4, g'⟩
    all_goals
      repeat (first | ((with_reducible apply is_ld); first | refine kld hM ?_ | refine kldw hM ?_ | refine kle hM ?_ | refine klew hM ?_) | ((with_reducible apply is_sto); first | (refine kst hM ?_; intro w hM) | (refine kstw hM ?_; intro w hM)) | ((with_reducible apply is_co); first | (refine c_condb rfl (fun _ => ?_) ?hf; (case hf => intro h; cases h; done)) | (refine c_condb rfl ?ht (fun _ => ?_); (case ht => intro h; cases h; done)) | (refine c_cond rfl (fun _ => ?_) ?hf; (case hf => intro h; exfalso; apply h; omega)) | (refine c_cond rfl ?ht (fun _ => ?_); (case ht => intro h; exfalso; omega))) | ((with_reducible apply is_st); refine su ?_) | ((with_reducible apply is_gd); first | refine gt ?_ | refine gf ?_ | refine gu ?_) | ((with_reducible apply is_en); refine en ?_) | (with_reducible first | apply x_then | apply wp_seq | apply c_region | apply wp_block | apply wp_skip | apply wp_exit | apply wp_ret | apply wp_label | apply wp_scope_straight | apply x_ng | apply x_ng_ret | apply x_ng_exit | apply x_then_ret | apply x_then_exit | apply x_block | apply x_block_ret | apply x_block_exit | refine x_block_other (by decide) ?_))
      (try ((with_reducible apply is_gd); first | refine gt ?_ | refine gf ?_ | refine gu ?_)); refine wl_val (r_build_arr0 (e := 5)) ?_
      refine kstw (vs := zeroH.1.map u8v) hM (fun w hM => ?_)
      repeat (first | ((with_reducible apply is_ld); first | refine kld hM ?_ | refine kldw hM ?_ | refine kle hM ?_ | refine klew hM ?_) | ((with_reducible apply is_sto); first | (refine kst hM ?_; intro w hM) | (refine kstw hM ?_; intro w hM)) | ((with_reducible apply is_st); refine su ?_) | ((with_reducible apply is_gd); first | refine gt ?_ | refine gf ?_ | refine gu ?_) | ((with_reducible apply is_en); refine en ?_) | (with_reducible first | apply x_then | apply wp_seq | apply c_region | apply wp_block | apply wp_skip | apply wp_exit | apply wp_ret | apply wp_label | apply wp_scope_straight | apply x_ng | apply x_ng_ret | apply x_ng_exit | apply x_then_ret | apply x_then_exit | apply x_block | apply x_block_ret | apply x_block_exit | refine x_block_other (by decide) ?_))
      exact koc2 hM rfl ⟨rfl, hM.ch⟩
end Go.Proofs.YtfldckjkipmibaaDoor

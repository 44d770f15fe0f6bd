/- Walks: lists of parts compared; the law's examples. -/
import Derived.Test.YtfldckjkipmibaaSides
import Derived.Test.YtfldckjkipmibaaK
set_option linter.unusedVariables false
set_option linter.unusedSimpArgs false
namespace Go.Proofs.Ytfldckjkipmibaa
open Go Go.RowKit Go.Proofs.E
attribute [local irreducible] Go.wpList Go.Code.wp Go.Proofs.E.exec Go.Proofs.E.wpLexG
theorem take_eq_succ {α : Type} {xs ys : List α} {i : Nat} {x y : α} (h : xs.take i = ys.take i) (hx : xs[i]? = some x) (hy : ys[i]? = some y) : xs.take (i + 1) = ys.take (i + 1) ↔ x = y := by
  rw [List.take_add_one, List.take_add_one, hx, hy, h]
  simp
set_option maxHeartbeats 4000000 in
theorem pairs_any (v1 v2 : Value) (xs ys : List (Nat × Nat)) (w0 : World) (hR1 : (Ty.enc eP).Rd [] w0 v1 xs) (hR2 : (Ty.enc eP).Rd [] w0 v2 ys) :
    Calls Try.prog 7 #[v1, v2] w0 (Ret fun u w' => u = .bool (decide (xs = ys)) ∧ Ch [] w0 w') := by
  have hM := Mem.start w0
  have hl1 := hR1.le
  obtain ⟨A1, c1, rfl⟩ := hR1.form
  obtain ⟨A2, c2, rfl⟩ := hR2.form
  refine enter [.slice A1 xs.length c1, .slice A2 ys.length c2, undef, undef, undef, undef, undef, undef, undef, undef, undef, undef, undef, undef, undef, undef, undef, undef, undef, undef, undef, undef, undef, undef, undef, undef] Try.func7 rfl rfl ?_
  by_cases hlen : xs.length = ys.length
  · repeat (first | ((with_reducible apply is_ld); first | refine kld hM ?_ | refine kldw hM ?_ | refine kle hM ?_ | refine klew hM ?_) | ((with_reducible apply is_sto); first | (refine kst hM ?_; intro w hM) | (refine kstw hM ?_; intro w hM)) | ((with_reducible apply is_co); first | (refine c_condb rfl (fun _ => ?_) ?hf; (case hf => intro h; cases h; done)) | (refine c_condb rfl ?ht (fun _ => ?_); (case ht => intro h; cases h; done)) | (refine c_cond rfl (fun _ => ?_) ?hf; (case hf => intro h; exfalso; apply h; omega)) | (refine c_cond rfl ?ht (fun _ => ?_); (case ht => intro h; exfalso; omega))) | ((with_reducible apply is_st); refine su ?_) | ((with_reducible apply is_gd); first | refine gt ?_ | refine gf ?_ | refine gu ?_) | ((with_reducible apply is_en); refine en ?_) | (with_reducible first | apply x_then | apply wp_seq | apply c_region | apply wp_block | apply wp_skip | apply wp_exit | apply wp_ret | apply wp_label | apply wp_scope_straight | apply x_ng | apply x_ng_ret | apply x_ng_exit | apply x_then_ret | apply x_then_exit | apply x_block | apply x_block_ret | apply x_block_exit | refine x_block_other (by decide) ?_))
    
    refine c_loop (fun k l w => ∃ (i : Nat), (∃ jj : Nat → Value, l = [.slice A1 xs.length c1, .slice A2 ys.length c2, jj 2, jj 3, jj 4, jj 5, jj 6, jj 7, jj 8, jj 9, jj 10, jj 11, .int .i64 (xs.length : Int), .int .i64 (i : Int), jj 14, jj 15, jj 16, jj 17, jj 18, jj 19, jj 20, jj 21, jj 22, jj 23, jj 24, jj 25]) ∧ k + i = xs.length ∧ xs.take i = ys.take i ∧ Mem [] w0 w []) xs.length ⟨0, exj rfl, rfl, rfl, hM⟩ ?_
    rintro k l w ⟨i, ⟨jj, rfl⟩, hki, ht, hM⟩
    repeat (first | ((with_reducible apply is_ld); first | refine kld hM ?_ | refine kldw hM ?_ | refine kle hM ?_ | refine klew hM ?_) | ((with_reducible apply is_sto); first | (refine kst hM ?_; intro w hM) | (refine kstw hM ?_; intro w hM)) | ((with_reducible apply is_st); refine su ?_) | ((with_reducible apply is_gd); first | refine gt ?_ | refine gf ?_ | refine gu ?_) | ((with_reducible apply is_en); refine en ?_) | (with_reducible first | apply x_then | apply wp_seq | apply c_region | apply wp_block | apply wp_skip | apply wp_exit | apply wp_ret | apply wp_label | apply wp_scope_straight | apply x_ng | apply x_ng_ret | apply x_ng_exit | apply x_then_ret | apply x_then_exit | apply x_block | apply x_block_ret | apply x_block_exit | refine x_block_other (by decide) ?_))
    refine c_cond rfl (fun hi => ?_) (fun hi => ?_)
    · repeat (first | ((with_reducible apply is_ld); first | refine kld hM ?_ | refine kldw hM ?_ | refine kle hM ?_ | refine klew hM ?_) | ((with_reducible apply is_sto); first | (refine kst hM ?_; intro w hM) | (refine kstw hM ?_; intro w hM)) | ((with_reducible apply is_st); refine su ?_) | ((with_reducible apply is_gd); first | refine gt ?_ | refine gf ?_ | refine gu ?_) | ((with_reducible apply is_en); refine en ?_) | (with_reducible first | apply x_then | apply wp_seq | apply c_region | apply wp_block | apply wp_skip | apply wp_exit | apply wp_ret | apply wp_label | apply wp_scope_straight | apply x_ng | apply x_ng_ret | apply x_ng_exit | apply x_then_ret | apply x_then_exit | apply x_block | apply x_block_ret | apply x_block_exit | refine x_block_other (by decide) ?_))
      refine kdr hM (by kernel_rfl) (by kernel_rfl) (fun w hM => ?_)
      repeat (first | ((with_reducible apply is_ldg); first | refine kldg hM ?_ | refine kldwg hM ?_) | ((with_reducible apply is_sg); refine sgu ?_) | ((with_reducible apply is_gg); first | refine gtg ?_ | refine gfg ?_ | refine gug ?_) | ((with_reducible apply is_eg); refine eg ?_))
      refine kixg hR1 (fun b5 o5 x hx hA => ?_)
      rw [Int.toNat_natCast] at hx
      refine katrg hM hA ?_
      repeat (first | ((with_reducible apply is_ldg); first | refine kldg hM ?_ | refine kldwg hM ?_) | ((with_reducible apply is_sg); refine sgu ?_) | ((with_reducible apply is_gg); first | refine gtg ?_ | refine gfg ?_ | refine gug ?_) | ((with_reducible apply is_eg); refine eg ?_))
      refine kixg hR2 (fun b6 o6 y hy hB => ?_)
      rw [Int.toNat_natCast] at hy
      refine katrg hM hB ?_
      refine wg_val (fun _ _ => r_neqI (k := .i64) (n := 2) (a := [(x.1 : Int), (x.2 : Int)]) (b := [(y.1 : Int), (y.2 : Int)]) Try.eqGuardType25 rfl rfl rfl rfl) ?_
      repeat (first | ((with_reducible apply is_ldg); first | refine kldg hM ?_ | refine kldwg hM ?_) | ((with_reducible apply is_sg); refine sgu ?_) | ((with_reducible apply is_gg); first | refine gtg ?_ | refine gfg ?_ | refine gug ?_) | ((with_reducible apply is_eg); refine eg ?_))
      (intro w hc; have hM := hM.call hc)
      have hiff := take_eq_succ ht hx hy
      by_cases hxy : x = y
      · subst hxy
        rw [decide_eq_true rfl]
        repeat (first | ((with_reducible apply is_ld); first | refine kld hM ?_ | refine kldw hM ?_ | refine kle hM ?_ | refine klew hM ?_) | ((with_reducible apply is_sto); first | (refine kst hM ?_; intro w hM) | (refine kstw hM ?_; intro w hM)) | ((with_reducible apply is_co); first | (refine c_condb rfl (fun _ => ?_) ?hf; (case hf => intro h; cases h; done)) | (refine c_condb rfl ?ht (fun _ => ?_); (case ht => intro h; cases h; done)) | (refine c_cond rfl (fun _ => ?_) ?hf; (case hf => intro h; exfalso; apply h; omega)) | (refine c_cond rfl ?ht (fun _ => ?_); (case ht => intro h; exfalso; omega))) | ((with_reducible apply is_st); refine su ?_) | ((with_reducible apply is_gd); first | refine gt ?_ | refine gf ?_ | refine gu ?_) | ((with_reducible apply is_en); refine en ?_) | (with_reducible first | apply x_then | apply wp_seq | apply c_region | apply wp_block | apply wp_skip | apply wp_exit | apply wp_ret | apply wp_label | apply wp_scope_straight | apply x_ng | apply x_ng_ret | apply x_ng_exit | apply x_then_ret | apply x_then_exit | apply x_block | apply x_block_ret | apply x_block_exit | refine x_block_other (by decide) ?_))
        exact x_goes (k - 1) rfl (by omega) ⟨i + 1, exj rfl, by omega, hiff.2 rfl, hM⟩
      · have hne : ¬ [(x.1 : Int), (x.2 : Int)] = [(y.1 : Int), (y.2 : Int)] := fun h => hxy (by
          simp at h
          exact Prod.ext (by omega) (by omega))
        rw [decide_eq_false hne]
        have hno : ¬ xs = ys := fun h => hxy (hiff.1 (by rw [h]))
        repeat (first | ((with_reducible apply is_ld); first | refine kld hM ?_ | refine kldw hM ?_ | refine kle hM ?_ | refine klew hM ?_) | ((with_reducible apply is_sto); first | (refine kst hM ?_; intro w hM) | (refine kstw hM ?_; intro w hM)) | ((with_reducible apply is_co); first | (refine c_condb rfl (fun _ => ?_) ?hf; (case hf => intro h; cases h; done)) | (refine c_condb rfl ?ht (fun _ => ?_); (case ht => intro h; cases h; done)) | (refine c_cond rfl (fun _ => ?_) ?hf; (case hf => intro h; exfalso; apply h; omega)) | (refine c_cond rfl ?ht (fun _ => ?_); (case ht => intro h; exfalso; omega))) | ((with_reducible apply is_st); refine su ?_) | ((with_reducible apply is_gd); first | refine gt ?_ | refine gf ?_ | refine gu ?_) | ((with_reducible apply is_en); refine en ?_) | (with_reducible first | apply x_then | apply wp_seq | apply c_region | apply wp_block | apply wp_skip | apply wp_exit | apply wp_ret | apply wp_label | apply wp_scope_straight | apply x_ng | apply x_ng_ret | apply x_ng_exit | apply x_then_ret | apply x_then_exit | apply x_block | apply x_block_ret | apply x_block_exit | refine x_block_other (by decide) ?_))
        exact out1 rfl ⟨by rw [decide_eq_false hno]; rfl, hM.ch⟩
    · repeat (first | ((with_reducible apply is_ld); first | refine kld hM ?_ | refine kldw hM ?_ | refine kle hM ?_ | refine klew hM ?_) | ((with_reducible apply is_sto); first | (refine kst hM ?_; intro w hM) | (refine kstw hM ?_; intro w hM)) | ((with_reducible apply is_st); refine su ?_) | ((with_reducible apply is_gd); first | refine gt ?_ | refine gf ?_ | refine gu ?_) | ((with_reducible apply is_en); refine en ?_) | (with_reducible first | apply x_then | apply wp_seq | apply c_region | apply wp_block | apply wp_skip | apply wp_exit | apply wp_ret | apply wp_label | apply wp_scope_straight | apply x_ng | apply x_ng_ret | apply x_ng_exit | apply x_then_ret | apply x_then_exit | apply x_block | apply x_block_ret | apply x_block_exit | refine x_block_other (by decide) ?_))
      rw [List.take_of_length_le (by omega), List.take_of_length_le (by omega)] at ht
      exact out1 rfl ⟨by rw [decide_eq_true ht]; rfl, hM.ch⟩
  · have hno : ¬ xs = ys := fun h => hlen (by rw [h])
    repeat (first | ((with_reducible apply is_ld); first | refine kld hM ?_ | refine kldw hM ?_ | refine kle hM ?_ | refine klew hM ?_) | ((with_reducible apply is_sto); first | (refine kst hM ?_; intro w hM) | (refine kstw hM ?_; intro w hM)) | ((with_reducible apply is_co); first | (refine c_condb rfl (fun _ => ?_) ?hf; (case hf => intro h; cases h; done)) | (refine c_condb rfl ?ht (fun _ => ?_); (case ht => intro h; cases h; done)) | (refine c_cond rfl (fun _ => ?_) ?hf; (case hf => intro h; exfalso; apply h; omega)) | (refine c_cond rfl ?ht (fun _ => ?_); (case ht => intro h; exfalso; omega))) | ((with_reducible apply is_st); refine su ?_) | ((with_reducible apply is_gd); first | refine gt ?_ | refine gf ?_ | refine gu ?_) | ((with_reducible apply is_en); refine en ?_) | (with_reducible first | apply x_then | apply wp_seq | apply c_region | apply wp_block | apply wp_skip | apply wp_exit | apply wp_ret | apply wp_label | apply wp_scope_straight | apply x_ng | apply x_ng_ret | apply x_ng_exit | apply x_then_ret | apply x_then_exit | apply x_block | apply x_block_ret | apply x_block_exit | refine x_block_other (by decide) ?_))
    exact out1 rfl ⟨by rw [decide_eq_false hno]; rfl, hM.ch⟩
theorem ex_sides : sidesZ 4 1 3 = [(0, 1), (3, 4)] := by decide +kernel
theorem lives28_any (w0 : World) : Calls Try.prog 6 #[] w0 (Ret fun u w' => u = .bool true ∧ Ch [] w0 w') := by
  have hM := Mem.start w0
  refine enter [undef, undef, undef, undef, undef, undef] Try.func6 rfl rfl ?_
  repeat (first | ((with_reducible apply is_ld); first | refine kld hM ?_ | refine kldw hM ?_ | refine kle hM ?_ | refine klew hM ?_) | ((with_reducible apply is_sto); first | (refine kst hM ?_; intro w hM) | (refine kstw hM ?_; intro w hM)) | ((with_reducible apply is_st); refine su ?_) | ((with_reducible apply is_gd); first | refine gt ?_ | refine gf ?_ | refine gu ?_) | ((with_reducible apply is_en); refine en ?_) | (with_reducible first | apply x_then | apply wp_seq | apply c_region | apply wp_block | apply wp_skip | apply wp_exit | apply wp_ret | apply wp_label | apply wp_scope_straight | apply x_ng | apply x_ng_ret | apply x_ng_exit | apply x_then_ret | apply x_then_exit | apply x_block | apply x_block_ret | apply x_block_exit | refine x_block_other (by decide) ?_))
  refine ca (vs := [.int .i64 4, .int .i64 1, .int .i64 3]) (sides_any 4 1 3 w0) ?_
  rintro v1 w ⟨hc, hS, hl⟩
  have hM := hM.gotRd hc hS
  rw [ex_sides] at hM
  obtain ⟨A1, c1, rfl⟩ := (hM.rdRd .here).form
  (try ((with_reducible apply is_gd); first | refine gt ?_ | refine gf ?_ | refine gu ?_)); refine wl_val (r_build_arr (e := 3) (m := 1) (vs := [.int .i64 0, .int .i64 1]) rfl rfl (by simp [Value.cells])) ?_
  (try ((with_reducible apply is_gd); first | refine gt ?_ | refine gf ?_ | refine gu ?_)); refine wl_val (r_build_arr (e := 3) (m := 1) (vs := [.int .i64 3, .int .i64 4]) rfl rfl (by simp [Value.cells])) ?_
  refine kbs (en := eP) (vs := [pv 0 1, pv 3 4]) [(0, 1), (3, 4)] hM (fun w b hM => ?_) (hm := by simp [pv, Value.cells])
  refine kca hM (pairs_any _ _ _ _ w (hM.rdRd (by (repeat (first | exact Go.Proofs.E.Pick.here | apply Go.Proofs.E.Pick.there)))) (hM.rowRd (by (repeat (first | exact Go.Proofs.E.Pick.here | apply Go.Proofs.E.Pick.there))) (by simp))) (fun w hM => ?_)
  repeat (first | ((with_reducible apply is_ld); first | refine kld hM ?_ | refine kldw hM ?_ | refine kle hM ?_ | refine klew hM ?_) | ((with_reducible apply is_sto); first | (refine kst hM ?_; intro w hM) | (refine kstw hM ?_; intro w hM)) | ((with_reducible apply is_st); refine su ?_) | ((with_reducible apply is_gd); first | refine gt ?_ | refine gf ?_ | refine gu ?_) | ((with_reducible apply is_en); refine en ?_) | (with_reducible first | apply x_then | apply wp_seq | apply c_region | apply wp_block | apply wp_skip | apply wp_exit | apply wp_ret | apply wp_label | apply wp_scope_straight | apply x_ng | apply x_ng_ret | apply x_ng_exit | apply x_then_ret | apply x_then_exit | apply x_block | apply x_block_ret | apply x_block_exit | refine x_block_other (by decide) ?_))
  exact out1 rfl ⟨rfl, hM.ch⟩
end Go.Proofs.Ytfldckjkipmibaa

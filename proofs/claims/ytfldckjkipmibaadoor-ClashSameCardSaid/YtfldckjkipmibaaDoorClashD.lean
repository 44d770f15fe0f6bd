/- Walks: the sides of a leaf's way. -/
import Derived.Test.YtfldckjkipmibaaDoorRg
import Derived.Test.YtfldckjkipmibaaDoorTurns
set_option linter.unusedVariables false
set_option linter.unusedSimpArgs false
namespace Go.Proofs.YtfldckjkipmibaaDoor
open Go Go.RowKit Go.Proofs.E
attribute [local irreducible] Go.wpList Go.Code.wp Go.Proofs.E.exec Go.Proofs.E.wpLexG
theorem flat_bool (xs : List Bool) : xs.flatMap eBool.f = xs.map Value.bool := List.map_eq_flatMap.symm
theorem bool_at {ys : List Bool} {more : List Value} {i : Nat} {a : Bool} (h : ys[i]? = some a) : (ys.map Value.bool ++ more)[i]? = some (.bool a) := by
  have hi := (List.getElem?_eq_some_iff.1 h).1
  rw [List.getElem?_append_left (by simpa using hi), List.getElem?_map, h]
  rfl
theorem bool_set {ys : List Bool} {more : List Value} {i : Nat} {a : Bool} (hi : i < ys.length) : (ys.map Value.bool ++ more).set i (.bool a) = (ys.set i a).map Value.bool ++ more := by
  rw [List.set_append_left _ _ (by simpa using hi), List.map_set]
set_option maxHeartbeats 8000000 in
theorem revb_any (v : Value) (xs : List Bool) (w : World) (base : Nat) (hO : Go.Proofs.E.Own eBool w base 4 v xs) (hlen : xs.length ≤ 1099511627776) :
    Calls Tryd.prog 100 #[v] w (Ret fun u w' => Go.Proofs.E.Own eBool w' base 4 v xs.reverse ∧ Ch v.ownBlock.toList w w') := by
  refine enter [v, undef, undef, undef, undef, undef, undef, undef, undef, undef, undef, undef, undef, undef, undef, undef, undef, undef, undef, undef, undef, undef, undef, undef, undef, undef, undef, undef] Tryd.func100 rfl rfl ?_
  rcases hO.2 with ⟨rfl, h0⟩ | ⟨g, cap, cur, rfl, hg, hh, hc1, hc2, hc3, hc4⟩
  · have := List.eq_nil_of_length_eq_zero h0
    subst this
    repeat (first | ((with_reducible apply is_st); refine su ?_) | ((with_reducible apply is_gd); first | refine gt ?_ | refine gf ?_ | refine gu ?_) | ((with_reducible apply is_en); refine en ?_) | (with_reducible first | apply x_then | apply wp_seq | apply c_region | apply wp_block | apply wp_skip | apply wp_exit | apply wp_ret | apply wp_label | apply wp_scope_straight | apply x_ng | apply x_ng_ret | apply x_ng_exit | apply x_then_ret | apply x_then_exit | apply x_block | apply x_block_ret | apply x_block_exit | refine x_block_other (by decide) ?_))
    
    refine c_loop (fun k l w' => (∃ jj : Nat → Value, l = [.slice none 0 0, jj 1, .int .i64 0, .int .i64 (-1), jj 4, jj 5, jj 6, jj 7, jj 8, jj 9, jj 10, jj 11, jj 12, jj 13, jj 14, jj 15, jj 16, jj 17, jj 18, jj 19, jj 20, jj 21, jj 22, jj 23, jj 24, jj 25, jj 26, jj 27]) ∧ w' = w) 0 ⟨exj rfl, rfl⟩ ?_
    rintro k l w1 ⟨⟨jj, rfl⟩, rfl⟩
    repeat (first | ((with_reducible apply is_st); refine su ?_) | ((with_reducible apply is_gd); first | refine gt ?_ | refine gf ?_ | refine gu ?_) | ((with_reducible apply is_en); refine en ?_) | (with_reducible first | apply x_then | apply wp_seq | apply c_region | apply wp_block | apply wp_skip | apply wp_exit | apply wp_ret | apply wp_label | apply wp_scope_straight | apply x_ng | apply x_ng_ret | apply x_ng_exit | apply x_then_ret | apply x_then_exit | apply x_block | apply x_block_ret | apply x_block_exit | refine x_block_other (by decide) ?_))
    refine c_cond rfl (fun h => by omega) (fun h => ?_)
    repeat (first | ((with_reducible apply is_st); refine su ?_) | ((with_reducible apply is_gd); first | refine gt ?_ | refine gf ?_ | refine gu ?_) | ((with_reducible apply is_en); refine en ?_) | (with_reducible first | apply x_then | apply wp_seq | apply c_region | apply wp_block | apply wp_skip | apply wp_exit | apply wp_ret | apply wp_label | apply wp_scope_straight | apply x_ng | apply x_ng_ret | apply x_ng_exit | apply x_then_ret | apply x_then_exit | apply x_block | apply x_block_ret | apply x_block_exit | refine x_block_other (by decide) ?_))
    exact out0 rfl ⟨hO, Ch.refl _ _⟩
  · have hB : Blk w g cur.toList 4 := by unfold Blk; rw [Array.toArray_toList]; exact hh
    have hcut : cur.toList = xs.map Value.bool ++ cur.toList.drop xs.length := by
      conv => lhs; rw [← List.take_append_drop xs.length cur.toList]
      rw [← flat_bool xs, ← hc4]
      simp
    have hcl : cur.toList.length = cap := by simpa using hc3
    rw [hcut] at hB hcl
    generalize cur.toList.drop xs.length = more at hB hcl
    clear hcut hc3 hc4 hh
    repeat (first | ((with_reducible apply is_st); refine su ?_) | ((with_reducible apply is_gd); first | refine gt ?_ | refine gf ?_ | refine gu ?_) | ((with_reducible apply is_en); refine en ?_) | (with_reducible first | apply x_then | apply wp_seq | apply c_region | apply wp_block | apply wp_skip | apply wp_exit | apply wp_ret | apply wp_label | apply wp_scope_straight | apply x_ng | apply x_ng_ret | apply x_ng_exit | apply x_then_ret | apply x_then_exit | apply x_block | apply x_block_ret | apply x_block_exit | refine x_block_other (by decide) ?_))
    
    refine c_loop (fun k l w' => ∃ (i : Nat) (ys : List Bool), (∃ jj : Nat → Value, l = [.slice (some ⟨g, 0, none⟩) xs.length cap, jj 1, .int .i64 (i : Int), .int .i64 ((xs.length : Int) - 1 - (i : Int)), jj 4, jj 5, jj 6, jj 7, jj 8, jj 9, jj 10, jj 11, jj 12, jj 13, jj 14, jj 15, jj 16, jj 17, jj 18, jj 19, jj 20, jj 21, jj 22, jj 23, jj 24, jj 25, jj 26, jj 27]) ∧ k + i = xs.length ∧ Turned xs ys i ∧ Ch [g] w w' ∧ Blk w' g (ys.map Value.bool ++ more) 4) xs.length
      ⟨0, xs, exj (by rw [show (xs.length : Int) - 1 - ((0 : Nat) : Int) = (xs.length : Int) - 1 by omega]; rfl), rfl, ⟨rfl, fun p hp => by rw [if_neg (by omega)]⟩, Ch.refl _ _, hB⟩ ?_
    rintro k l w1 ⟨i, ys, ⟨jj, rfl⟩, hki, hT, hch, hB⟩
    have hyl := hT.1
    repeat (first | ((with_reducible apply is_st); refine su ?_) | ((with_reducible apply is_gd); first | refine gt ?_ | refine gf ?_ | refine gu ?_) | ((with_reducible apply is_en); refine en ?_) | (with_reducible first | apply x_then | apply wp_seq | apply c_region | apply wp_block | apply wp_skip | apply wp_exit | apply wp_ret | apply wp_label | apply wp_scope_straight | apply x_ng | apply x_ng_ret | apply x_ng_exit | apply x_then_ret | apply x_then_exit | apply x_block | apply x_block_ret | apply x_block_exit | refine x_block_other (by decide) ?_))
    refine c_cond rfl (fun hij => ?_) (fun hij => ?_)
    · repeat (first | ((with_reducible apply is_st); refine su ?_) | ((with_reducible apply is_gd); first | refine gt ?_ | refine gf ?_ | refine gu ?_) | ((with_reducible apply is_en); refine en ?_) | (with_reducible first | apply x_then | apply wp_seq | apply c_region | apply wp_block | apply wp_skip | apply wp_exit | apply wp_ret | apply wp_label | apply wp_scope_straight | apply x_ng | apply x_ng_ret | apply x_ng_exit | apply x_then_ret | apply x_then_exit | apply x_block | apply x_block_ret | apply x_block_exit | refine x_block_other (by decide) ?_))
      have hi1 : i < ys.length := by omega
      have hi2 : xs.length - 1 - i < ys.length := by omega
      obtain ⟨x1, hx1⟩ : ∃ x, ys[xs.length - 1 - i]? = some x := ⟨_, List.getElem?_eq_getElem hi2⟩
      obtain ⟨x2, hx2⟩ : ∃ x, ys[i]? = some x := ⟨_, List.getElem?_eq_getElem hi1⟩
      refine c_ordZ ([13, 15], [2, 3]) [] Tru (by kernel_rfl) (by kernel_rfl) (by kernel_rfl) (fun w2 hc2' hs2 => ?_)
      have hB2 := hB.ch hc2' (by simp)
      (first | refine zn 0 rfl ?_ | refine znt 0 rfl ?_ | refine znff 0 rfl ?_); (first | refine zn 1 rfl ?_ | refine znt 1 rfl ?_ | refine znff 1 rfl ?_); (first | refine zn 4 rfl ?_ | refine znt 4 rfl ?_ | refine znff 4 rfl ?_); (first | refine zn 5 rfl ?_ | refine znt 5 rfl ?_ | refine znff 5 rfl ?_)
      refine znv 6 rfl (by kernel_rfl) (by kernel_rfl) (fun _ _ => r_indexAddr rfl rfl (by omega) (by omega)) rfl ?_
      refine znl 7 rfl hB2 (by simp) rfl (v := .bool x1) (by rw [show 0 + ((xs.length : Int) - 1 - (i : Int)).toNat * 1 = xs.length - 1 - i by omega]; exact bool_at hx1) ?_
      (first | refine zn 8 rfl ?_ | refine znt 8 rfl ?_ | refine znff 8 rfl ?_); (first | refine zn 9 rfl ?_ | refine znt 9 rfl ?_ | refine znff 9 rfl ?_); (first | refine zn 2 rfl ?_ | refine znt 2 rfl ?_ | refine znff 2 rfl ?_); (first | refine zn 3 rfl ?_ | refine znt 3 rfl ?_ | refine znff 3 rfl ?_)
      refine znv 10 rfl (by kernel_rfl) (by kernel_rfl) (fun _ _ => r_indexAddr rfl rfl (by omega) (by omega)) rfl ?_
      refine znl 11 rfl hB2 (by simp) rfl (v := .bool x2) (by rw [show 0 + ((i : Int)).toNat * 1 = i by omega]; exact bool_at hx2) ?_
      refine znv 12 rfl (by kernel_rfl) (by kernel_rfl) (fun _ _ => r_indexAddr rfl rfl (by omega) (by omega)) rfl ?_
      refine zn1 13 (by kernel_rfl) rfl (fun w3 hG3 => ?_)
      refine stb (v := .bool x1) (hB2.ch hG3.ch (by simp)) rfl rfl rfl rfl (by simp; omega) (fun w4 hB4 hch4 hs4 => ?_)
      rw [show 0 + ((i : Int)).toNat * 1 = i by omega, bool_set hi1] at hB4
      refine x_wz (.inr (by decide)) rfl ?_
      refine znv 14 rfl (by kernel_rfl) (by kernel_rfl) (fun _ _ => r_indexAddr rfl rfl (by omega) (by omega)) rfl ?_
      refine zn1 15 (by kernel_rfl) rfl (fun w5 hG5 => ?_)
      refine stb (v := .bool x2) (hB4.ch hG5.ch (by simp)) rfl rfl rfl rfl (by simp; omega) (fun w6 hB6 hch6 hs6 => ?_)
      rw [show 0 + ((xs.length : Int) - 1 - (i : Int)).toNat * 1 = xs.length - 1 - i by omega, bool_set (by simpa using hi2)] at hB6
      refine x_wz (.inr (by decide)) rfl ?_
      refine wz_done (by kernel_rfl) (fun w7 hG7 => ?_)
      have hcw : Ch [g] w w7 := ((((hch.add hc2').add hG3.ch).then hch4).add hG5.ch).then hch6 |>.add hG7.ch
      repeat (first | ((with_reducible apply is_st); refine su ?_) | ((with_reducible apply is_gd); first | refine gt ?_ | refine gf ?_ | refine gu ?_) | ((with_reducible apply is_en); refine en ?_) | (with_reducible first | apply x_then | apply wp_seq | apply c_region | apply wp_block | apply wp_skip | apply wp_exit | apply wp_ret | apply wp_label | apply wp_scope_straight | apply x_ng | apply x_ng_ret | apply x_ng_exit | apply x_then_ret | apply x_then_exit | apply x_block | apply x_block_ret | apply x_block_exit | refine x_block_other (by decide) ?_))
      exact x_goes (k - 1) rfl (by omega) ⟨i + 1, _, exj (by rw [show (xs.length : Int) - 1 - ((i + 1 : Nat) : Int) = (xs.length : Int) - 1 - (i : Int) - 1 by omega]; rfl), by omega, hT.step (by omega) hx1 hx2, hcw, hB6.ch hG7.ch (by simp)⟩
    · have hyr := hT.all (by omega)
      repeat (first | ((with_reducible apply is_st); refine su ?_) | ((with_reducible apply is_gd); first | refine gt ?_ | refine gf ?_ | refine gu ?_) | ((with_reducible apply is_en); refine en ?_) | (with_reducible first | apply x_then | apply wp_seq | apply c_region | apply wp_block | apply wp_skip | apply wp_exit | apply wp_ret | apply wp_label | apply wp_scope_straight | apply x_ng | apply x_ng_ret | apply x_ng_exit | apply x_then_ret | apply x_then_exit | apply x_block | apply x_block_ret | apply x_block_exit | refine x_block_other (by decide) ?_))
      subst hyr
      refine out0 rfl ⟨⟨by rw [flat_bool]; simp, .inr ⟨g, cap, _, by rw [List.length_reverse], hg, hB, by rw [List.length_reverse]; exact hc1, hc2, ?_, ?_⟩⟩, hch⟩
      · simp at hcl ⊢
        exact hcl
      · rw [flat_bool, List.length_reverse]
        exact List.take_left' (by simp)
set_option maxHeartbeats 4000000 in
theorem csides_any (n i : Nat) (hn : n ≤ 1099511627776) (hi : i < n) (w0 : World) :
    Calls Tryd.prog 73 #[.int .i64 (n : Int), .int .i64 (i : Int)] w0 (Ret fun v w' => Ch [] w0 w' ∧ Go.Proofs.E.Own eBool w' w0.heap.size 4 v ((turnsN n i).reverse.map (·.2))) := by
  have hM := Mem.start w0
  refine enter [.int .i64 (n : Int), .int .i64 (i : Int), undef, undef, undef, undef, undef, undef, undef, undef, undef, undef, undef, undef, undef, undef, undef, undef, undef, undef, undef, undef, undef, undef, undef, undef, undef, undef, undef, undef] Tryd.func73 rfl rfl ?_
  repeat (first | ((with_reducible apply is_ld); first | refine kld hM ?_ | refine kldw hM ?_ | refine kle hM ?_ | refine klew hM ?_) | ((with_reducible apply is_sto); first | (refine kst hM ?_; intro w hM) | (refine kstw hM ?_; intro w hM)) | ((with_reducible apply is_st); refine su ?_) | ((with_reducible apply is_gd); first | refine gt ?_ | refine gf ?_ | refine gu ?_) | ((with_reducible apply is_en); refine en ?_) | (with_reducible first | apply x_then | apply wp_seq | apply c_region | apply wp_block | apply wp_skip | apply wp_exit | apply wp_ret | apply wp_label | apply wp_scope_straight | apply x_ng | apply x_ng_ret | apply x_ng_exit | apply x_then_ret | apply x_then_exit | apply x_block | apply x_block_ret | apply x_block_exit | refine x_block_other (by decide) ?_))
  have hbl := turns_len n i
  have hM := hM.nilRow eBool 4
  
  refine c_loop (fun k l w => ∃ (n' i' : Nat) (v : Value) (xs : List (Nat × Bool)), (∃ jj : Nat → Value, l = [.int .i64 (n' : Int), .int .i64 (i' : Int), jj 2, jj 3, jj 4, v, jj 6, jj 7, jj 8, jj 9, jj 10, jj 11, jj 12, jj 13, jj 14, jj 15, jj 16, jj 17, jj 18, jj 19, jj 20, jj 21, jj 22, jj 23, jj 24, jj 25, jj 26, jj 27, jj 28, jj 29]) ∧ k = n' ∧ n' ≤ 1099511627776 ∧ i' < n' ∧ xs ++ turnsN n' i' = turnsN n i ∧ Mem [] w0 w [.row eBool 4 v (xs.map (·.2))]) n
    ⟨n, i, _, [], exj rfl, rfl, hn, hi, rfl, hM⟩ ?_
  clear hM
  rintro k l w ⟨n', i', v, xs, ⟨jj, rfl⟩, rfl, hn', hi', hxs, hM⟩
  have hxl := congrArg List.length hxs
  rw [List.length_append] at hxl
  repeat (first | ((with_reducible apply is_ld); first | refine kld hM ?_ | refine kldw hM ?_ | refine kle hM ?_ | refine klew hM ?_) | ((with_reducible apply is_sto); first | (refine kst hM ?_; intro w hM) | (refine kstw hM ?_; intro w hM)) | ((with_reducible apply is_st); refine su ?_) | ((with_reducible apply is_gd); first | refine gt ?_ | refine gf ?_ | refine gu ?_) | ((with_reducible apply is_en); refine en ?_) | (with_reducible first | apply x_then | apply wp_seq | apply c_region | apply wp_block | apply wp_skip | apply wp_exit | apply wp_ret | apply wp_label | apply wp_scope_straight | apply x_ng | apply x_ng_ret | apply x_ng_exit | apply x_then_ret | apply x_then_exit | apply x_block | apply x_block_ret | apply x_block_exit | refine x_block_other (by decide) ?_))
  refine c_cond rfl (fun h1 => ?_) (fun h1 => ?_)
  · obtain ⟨hk0, hk1⟩ := splitN_lt (n := k) (by omega) (by omega)
    repeat (first | ((with_reducible apply is_ld); first | refine kld hM ?_ | refine kldw hM ?_ | refine kle hM ?_ | refine klew hM ?_) | ((with_reducible apply is_sto); first | (refine kst hM ?_; intro w hM) | (refine kstw hM ?_; intro w hM)) | ((with_reducible apply is_st); refine su ?_) | ((with_reducible apply is_gd); first | refine gt ?_ | refine gf ?_ | refine gu ?_) | ((with_reducible apply is_en); refine en ?_) | (with_reducible first | apply x_then | apply wp_seq | apply c_region | apply wp_block | apply wp_skip | apply wp_exit | apply wp_ret | apply wp_label | apply wp_scope_straight | apply x_ng | apply x_ng_ret | apply x_ng_exit | apply x_then_ret | apply x_then_exit | apply x_block | apply x_block_ret | apply x_block_exit | refine x_block_other (by decide) ?_))
    refine kcs (split_any (k : Int) (by omega) w) ?_
    rw [splitZ_nat]
    repeat (first | ((with_reducible apply is_ld); first | refine kld hM ?_ | refine kldw hM ?_ | refine kle hM ?_ | refine klew hM ?_) | ((with_reducible apply is_sto); first | (refine kst hM ?_; intro w hM) | (refine kstw hM ?_; intro w hM)) | ((with_reducible apply is_st); refine su ?_) | ((with_reducible apply is_gd); first | refine gt ?_ | refine gf ?_ | refine gu ?_) | ((with_reducible apply is_en); refine en ?_) | (with_reducible first | apply x_then | apply wp_seq | apply c_region | apply wp_block | apply wp_skip | apply wp_exit | apply wp_ret | apply wp_label | apply wp_scope_straight | apply x_ng | apply x_ng_ret | apply x_ng_exit | apply x_then_ret | apply x_then_exit | apply x_block | apply x_block_ret | apply x_block_exit | refine x_block_other (by decide) ?_))
    by_cases h2 : i' < splitN k
    · have htu := turns_left (n := k) (i := i') (by omega) (by omega) h2
      rw [htu, List.length_cons] at hxl
      rw [decide_eq_false (by omega : ¬ (i' : Int) ≥ (splitN k : Int))]
      refine kpu false hM (fun _ v w hM => ?_) (hb := by simp; omega) (h63 := by simp; omega)
      repeat (first | ((with_reducible apply is_ld); first | refine kld hM ?_ | refine kldw hM ?_ | refine kle hM ?_ | refine klew hM ?_) | ((with_reducible apply is_sto); first | (refine kst hM ?_; intro w hM) | (refine kstw hM ?_; intro w hM)) | ((with_reducible apply is_st); refine su ?_) | ((with_reducible apply is_gd); first | refine gt ?_ | refine gf ?_ | refine gu ?_) | ((with_reducible apply is_en); refine en ?_) | (with_reducible first | apply x_then | apply wp_seq | apply c_region | apply wp_block | apply wp_skip | apply wp_exit | apply wp_ret | apply wp_label | apply wp_scope_straight | apply x_ng | apply x_ng_ret | apply x_ng_exit | apply x_then_ret | apply x_then_exit | apply x_block | apply x_block_ret | apply x_block_exit | refine x_block_other (by decide) ?_))
      refine c_condb rfl (fun h => by cases h) (fun _ => ?_)
      repeat (first | ((with_reducible apply is_ld); first | refine kld hM ?_ | refine kldw hM ?_ | refine kle hM ?_ | refine klew hM ?_) | ((with_reducible apply is_sto); first | (refine kst hM ?_; intro w hM) | (refine kstw hM ?_; intro w hM)) | ((with_reducible apply is_st); refine su ?_) | ((with_reducible apply is_gd); first | refine gt ?_ | refine gf ?_ | refine gu ?_) | ((with_reducible apply is_en); refine en ?_) | (with_reducible first | apply x_then | apply wp_seq | apply c_region | apply wp_block | apply wp_skip | apply wp_exit | apply wp_ret | apply wp_label | apply wp_scope_straight | apply x_ng | apply x_ng_ret | apply x_ng_exit | apply x_then_ret | apply x_then_exit | apply x_block | apply x_block_ret | apply x_block_exit | refine x_block_other (by decide) ?_))
      refine x_goes (splitN k) rfl (by omega) ⟨splitN k, i', v, xs ++ [(k, false)], exj rfl, rfl, by omega, by omega, by rw [List.append_assoc]; rw [htu] at hxs; exact hxs, ?_⟩
      rw [List.map_append]
      exact hM
    · have htu := turns_right (n := k) (i := i') (by omega) (by omega) h2
      rw [htu, List.length_cons] at hxl
      rw [decide_eq_true (by omega : (i' : Int) ≥ (splitN k : Int))]
      refine kpu true hM (fun _ v w hM => ?_) (hb := by simp; omega) (h63 := by simp; omega)
      repeat (first | ((with_reducible apply is_ld); first | refine kld hM ?_ | refine kldw hM ?_ | refine kle hM ?_ | refine klew hM ?_) | ((with_reducible apply is_sto); first | (refine kst hM ?_; intro w hM) | (refine kstw hM ?_; intro w hM)) | ((with_reducible apply is_st); refine su ?_) | ((with_reducible apply is_gd); first | refine gt ?_ | refine gf ?_ | refine gu ?_) | ((with_reducible apply is_en); refine en ?_) | (with_reducible first | apply x_then | apply wp_seq | apply c_region | apply wp_block | apply wp_skip | apply wp_exit | apply wp_ret | apply wp_label | apply wp_scope_straight | apply x_ng | apply x_ng_ret | apply x_ng_exit | apply x_then_ret | apply x_then_exit | apply x_block | apply x_block_ret | apply x_block_exit | refine x_block_other (by decide) ?_))
      refine c_condb rfl (fun _ => ?_) (fun h => by cases h)
      repeat (first | ((with_reducible apply is_ld); first | refine kld hM ?_ | refine kldw hM ?_ | refine kle hM ?_ | refine klew hM ?_) | ((with_reducible apply is_sto); first | (refine kst hM ?_; intro w hM) | (refine kstw hM ?_; intro w hM)) | ((with_reducible apply is_st); refine su ?_) | ((with_reducible apply is_gd); first | refine gt ?_ | refine gf ?_ | refine gu ?_) | ((with_reducible apply is_en); refine en ?_) | (with_reducible first | apply x_then | apply wp_seq | apply c_region | apply wp_block | apply wp_skip | apply wp_exit | apply wp_ret | apply wp_label | apply wp_scope_straight | apply x_ng | apply x_ng_ret | apply x_ng_exit | apply x_then_ret | apply x_then_exit | apply x_block | apply x_block_ret | apply x_block_exit | refine x_block_other (by decide) ?_))
      refine x_goes (k - splitN k) rfl (by omega) ⟨k - splitN k, i' - splitN k, v, xs ++ [(k, true)], exj (by rw [show ((k - splitN k : Nat) : Int) = (k : Int) - (splitN k : Int) by omega, show ((i' - splitN k : Nat) : Int) = (i' : Int) - (splitN k : Int) by omega]; rfl), rfl, by omega, by omega, by rw [List.append_assoc]; rw [htu] at hxs; exact hxs, ?_⟩
      rw [List.map_append]
      exact hM
  · repeat (first | ((with_reducible apply is_ld); first | refine kld hM ?_ | refine kldw hM ?_ | refine kle hM ?_ | refine klew hM ?_) | ((with_reducible apply is_sto); first | (refine kst hM ?_; intro w hM) | (refine kstw hM ?_; intro w hM)) | ((with_reducible apply is_st); refine su ?_) | ((with_reducible apply is_gd); first | refine gt ?_ | refine gf ?_ | refine gu ?_) | ((with_reducible apply is_en); refine en ?_) | (with_reducible first | apply x_then | apply wp_seq | apply c_region | apply wp_block | apply wp_skip | apply wp_exit | apply wp_ret | apply wp_label | apply wp_scope_straight | apply x_ng | apply x_ng_ret | apply x_ng_exit | apply x_then_ret | apply x_then_exit | apply x_block | apply x_block_ret | apply x_block_exit | refine x_block_other (by decide) ?_))
    rw [turns_one (by omega), List.append_nil] at hxs
    subst hxs
    have hO := hM.row (v := v) (by (repeat (first | exact Go.Proofs.E.Pick.here | apply Go.Proofs.E.Pick.there)))
    refine ca (revb_any v _ w w0.heap.size hO (by simp; omega)) ?_
    rintro u w2 ⟨hO2, hc2⟩
    repeat (first | ((with_reducible apply is_ld); first | refine kld hM ?_ | refine kldw hM ?_ | refine kle hM ?_ | refine klew hM ?_) | ((with_reducible apply is_sto); first | (refine kst hM ?_; intro w hM) | (refine kstw hM ?_; intro w hM)) | ((with_reducible apply is_st); refine su ?_) | ((with_reducible apply is_gd); first | refine gt ?_ | refine gf ?_ | refine gu ?_) | ((with_reducible apply is_en); refine en ?_) | (with_reducible first | apply x_then | apply wp_seq | apply c_region | apply wp_block | apply wp_skip | apply wp_exit | apply wp_ret | apply wp_label | apply wp_scope_straight | apply x_ng | apply x_ng_ret | apply x_ng_exit | apply x_then_ret | apply x_then_exit | apply x_block | apply x_block_ret | apply x_block_exit | refine x_block_other (by decide) ?_))
    refine out1 rfl ⟨?_, ?_⟩
    · exact hM.ch.trans hc2 (fun _ _ h => h) (fun x hx hm => by
        have := (hO.lt (k := x) (by simpa using hm)).1
        omega)
    · rw [List.map_reverse]
      exact hO2
end Go.Proofs.YtfldckjkipmibaaDoor

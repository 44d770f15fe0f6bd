/- Walks: the first two that are not the same, if their hash is. -/
import Derived.Test.YtfldckjkipmibaaDoorClashB
set_option linter.unusedVariables false
set_option linter.unusedSimpArgs false
namespace Go.Proofs.YtfldckjkipmibaaDoor
open Go Go.RowKit Go.Proofs.E
attribute [local irreducible] Go.wpList Go.Code.wp Go.Proofs.E.exec Go.Proofs.E.wpLexG
set_option maxHeartbeats 16000000 in
theorem first_any (va vb : Value) (xs ys : List (List UInt8)) (w0 : World) (hK : Laid w0) (hRa : (Ty.sl tU8).Rd [] w0 va xs) (hRb : (Ty.sl tU8).Rd [] w0 vb ys)
    (ha : ∀ x ∈ xs, x.length ≤ 1099511627776) (hb : ∀ x ∈ ys, x.length ≤ 1099511627776) (hla : xs.length ≤ 1099511627776) :
    Calls Tryd.prog 31 #[va, vb] w0 (Ret fun u w' => ∃ v1 v2, u = .tuple #[v1, v2, .bool (firstL (pairsL xs ys)).isSome] ∧
      Mem [] w0 w' [.row eU8 5 v1 (fstL (firstL (pairsL xs ys))), .row eU8 5 v2 (sndL (firstL (pairsL xs ys)))]) := by
  obtain ⟨ps, rfl, hPa, hpa⟩ := hRa.raw
  obtain ⟨qs, rfl, hPb, hqb⟩ := hRb.raw
  have hM := Mem.start w0
  unfold pairsL
  rw [zip_pr]
  have hseq0 := fun b1 b2 => beside_seq b1 b2 hPa hPb (by simpa using hla)
  simp only [zip_pr] at hseq0
  have hmem : ∀ r ∈ ps.reverse.zip qs.reverse, r.1 ∈ ps ∧ r.2 ∈ qs := fun r hr => by
    have := List.of_mem_zip (a := r.1) (b := r.2) hr
    simpa using this
  generalize ps.reverse.zip qs.reverse = R at hseq0 hmem ⊢
  obtain ⟨sa, rfl⟩ := hPa.slv
  obtain ⟨sb, rfl⟩ := hPb.slv
  refine enterM [slv sa, slv sb, undef, undef, undef, undef, undef, undef, undef, undef, undef, undef, undef, undef, undef, undef, undef, undef, undef, undef, undef, undef, undef, undef, undef, undef] Tryd.func31 rfl rfl ?_
  repeat (first | ((with_reducible apply is_ld); first | refine kld hM ?_ | refine kldw hM ?_ | refine kle hM ?_ | refine klew hM ?_) | ((with_reducible apply is_sto); first | (refine kst hM ?_; intro w hM) | (refine kstw hM ?_; intro w hM)) | ((with_reducible apply is_st); refine su ?_) | ((with_reducible apply is_gd); first | refine gt ?_ | refine gf ?_ | refine gu ?_) | ((with_reducible apply is_en); refine en ?_) | (with_reducible first | apply x_then | apply wp_seq | apply c_region | apply wp_block | apply wp_skip | apply wp_exit | apply wp_ret | apply wp_label | apply wp_scope_straight | apply x_ng | apply x_ng_ret | apply x_ng_exit | apply x_then_ret | apply x_then_exit | apply x_block | apply x_block_ret | apply x_block_exit | refine x_block_other (by decide) ?_))
  refine kal hM (fun w b4 hM => ?_)
  refine kal hM (fun w b5 hM => ?_)
  refine kal hM (fun w b6 hM => ?_)
  have hM : Mem [] w0 w [.cell b6 [.bool false] 4, .cell b5 [.slice none 0 0] 41, .cell b4 [.slice none 0 0] 41] := hM
  repeat (first | ((with_reducible apply is_ld); first | refine kld hM ?_ | refine kldw hM ?_ | refine kle hM ?_ | refine klew hM ?_) | ((with_reducible apply is_sto); first | (refine kst hM ?_; intro w hM) | (refine kstw hM ?_; intro w hM)) | ((with_reducible apply is_st); refine su ?_) | ((with_reducible apply is_gd); first | refine gt ?_ | refine gf ?_ | refine gu ?_) | ((with_reducible apply is_en); refine en ?_) | (with_reducible first | apply x_then | apply wp_seq | apply c_region | apply wp_block | apply wp_skip | apply wp_exit | apply wp_ret | apply wp_label | apply wp_scope_straight | apply x_ng | apply x_ng_ret | apply x_ng_exit | apply x_then_ret | apply x_then_exit | apply x_block | apply x_block_ret | apply x_block_exit | refine x_block_other (by decide) ?_))
  refine ca (beside_any sa sb w) ?_
  rintro _ w1 ⟨b1, b2, rfl, hN⟩
  have hM := (hM.join hN (by simp [As.plain])).perm List.perm_append_comm
  repeat (first | ((with_reducible apply is_ld); first | refine kld hM ?_ | refine kldw hM ?_ | refine kle hM ?_ | refine klew hM ?_) | ((with_reducible apply is_sto); first | (refine kst hM ?_; intro w hM) | (refine kstw hM ?_; intro w hM)) | ((with_reducible apply is_st); refine su ?_) | ((with_reducible apply is_gd); first | refine gt ?_ | refine gf ?_ | refine gu ?_) | ((with_reducible apply is_en); refine en ?_) | (with_reducible first | apply x_then | apply wp_seq | apply c_region | apply wp_block | apply wp_skip | apply wp_exit | apply wp_ret | apply wp_label | apply wp_scope_straight | apply x_ng | apply x_ng_ret | apply x_ng_exit | apply x_then_ret | apply x_then_exit | apply x_block | apply x_block_ret | apply x_block_exit | refine x_block_other (by decide) ?_))
  
  refine c_rangeM2 (e1 := fun x : SlV × SlV => slv x.1) (e2 := fun x : SlV × SlV => slv x.2) hM rfl (enters_of Tryd.func94 (by kernel_rfl) rfl) (hseq0 b1 b2)
    (fun pre La => La = [.cell b6 [.bool false] 4, .cell b5 [.slice none 0 0] 41, .cell b4 [.slice none 0 0] 41] ∧ firstL (R.map fun r => (r.1.2, r.2.2)) = firstL ((R.drop pre.length).map fun r => (r.1.2, r.2.2))) ⟨rfl, rfl⟩
    (fun c pre La => (c = .exit 0 ∧ La = [.cell b6 [.bool false] 4, .cell b5 [.slice none 0 0] 41, .cell b4 [.slice none 0 0] 41] ∧ firstL (R.map fun r => (r.1.2, r.2.2)) = none) ∨
      (c = .ret ∧ ∃ v1 v2 x y, La = [.cell b6 [.bool true] 4, .cell b5 [v2] 41, .cell b4 [v1] 41, .row eU8 5 v2 y, .row eU8 5 v1 x] ∧ firstL (R.map fun r => (r.1.2, r.2.2)) = some (x, y)))
    (fun pre x l La => ∃ r, R[pre.length]? = some r ∧ x = (r.1.1, r.2.1) ∧ (∃ jj : Nat → Value, l = [jj 0, jj 1, jj 2, jj 3, .pointer (some ⟨b4, 0, none⟩), .pointer (some ⟨b5, 0, none⟩), .pointer (some ⟨b6, 0, none⟩), slv x.1, slv x.2, jj 9, jj 10, jj 11, jj 12, jj 13, jj 14, jj 15, jj 16, jj 17, jj 18, jj 19, jj 20, jj 21, jj 22, jj 23, jj 24, jj 25]) ∧ La = [.cell b6 [.bool false] 4, .cell b5 [.slice none 0 0] 41, .cell b4 [.slice none 0 0] 41] ∧ firstL (R.map fun r => (r.1.2, r.2.2)) = firstL ((R.drop pre.length).map fun r => (r.1.2, r.2.2)))
    ?_ ?_ ?_ ?_
  · rintro r pre x w La X K hp ⟨rfl, hf⟩ hM hK
    obtain ⟨q, hq, hx⟩ := get_of_pre hp
    refine wpIn_seq ?_
    refine ci_region (noOut_then noOut_fls) rfl ?_
    repeat (first | ((with_reducible apply is_ld); first | refine kld hM ?_ | refine kldw hM ?_ | refine kle hM ?_ | refine klew hM ?_) | ((with_reducible apply is_sto); first | (refine kst hM ?_; intro w hM) | (refine kstw hM ?_; intro w hM)) | ((with_reducible apply is_st); refine su ?_) | ((with_reducible apply is_gd); first | refine gt ?_ | refine gf ?_ | refine gu ?_) | ((with_reducible apply is_en); refine en ?_) | (with_reducible first | apply x_then | apply wp_seq | apply c_region | apply wp_block | apply wp_skip | apply wp_exit | apply wp_ret | apply wp_label | apply wp_scope_straight | apply x_ng | apply x_ng_ret | apply x_ng_exit | apply x_then_ret | apply x_then_exit | apply x_block | apply x_block_ret | apply x_block_exit | refine x_block_other (by decide) ?_))
    refine ci_region (noOut_then noOut_fls) rfl ?_
    repeat (first | ((with_reducible apply is_ld); first | refine kld hM ?_ | refine kldw hM ?_ | refine kle hM ?_ | refine klew hM ?_) | ((with_reducible apply is_sto); first | (refine kst hM ?_; intro w hM) | (refine kstw hM ?_; intro w hM)) | ((with_reducible apply is_st); refine su ?_) | ((with_reducible apply is_gd); first | refine gt ?_ | refine gf ?_ | refine gu ?_) | ((with_reducible apply is_en); refine en ?_) | (with_reducible first | apply x_then | apply wp_seq | apply c_region | apply wp_block | apply wp_skip | apply wp_exit | apply wp_ret | apply wp_label | apply wp_scope_straight | apply x_ng | apply x_ng_ret | apply x_ng_exit | apply x_then_ret | apply x_then_exit | apply x_block | apply x_block_ret | apply x_block_exit | refine x_block_other (by decide) ?_))
    exact hK _ w _ ⟨q, hq, hx, exj rfl, rfl, hf⟩ hM
  · rintro r pre x l w La X hp ⟨q, hq, rfl, ⟨jj, rfl⟩, rfl, hf⟩ hM
    have hqm := hmem q (List.mem_of_getElem? hq)
    have hx := hpa q.1 hqm.1
    have hy := hqb q.2 hqm.2
    have hxl := ha q.1.2 (List.mem_map_of_mem hqm.1)
    have hyl := hb q.2.2 (List.mem_map_of_mem hqm.2)
    have hd : R.drop pre.length = q :: R.drop (pre.length + 1) := by
      obtain ⟨hlt, he⟩ := List.getElem?_eq_some_iff.1 hq
      rw [List.drop_eq_getElem_cons hlt, he]
    rw [hd, List.map_cons] at hf
    simp only [List.cons_append, List.nil_append] at hM
    obtain ⟨⟨u1, x1⟩, ⟨u2, x2⟩⟩ := q
    simp only at hx hy hxl hyl hf ⊢
    refine wpIn_block ?_
    refine wpIn_seq ?_
    refine wpIn_seq ?_
    refine ci_region (noOut_then (noOut_then (noOut_block noOut_round))) rfl ?_
    repeat (first | ((with_reducible apply is_ld); first | refine kld hM ?_ | refine kldw hM ?_ | refine kle hM ?_ | refine klew hM ?_) | ((with_reducible apply is_sto); first | (refine kst hM ?_; intro w hM) | (refine kstw hM ?_; intro w hM)) | ((with_reducible apply is_st); refine su ?_) | ((with_reducible apply is_gd); first | refine gt ?_ | refine gf ?_ | refine gu ?_) | ((with_reducible apply is_en); refine en ?_) | (with_reducible first | apply x_then | apply wp_seq | apply c_region | apply wp_block | apply wp_skip | apply wp_exit | apply wp_ret | apply wp_label | apply wp_scope_straight | apply x_ng | apply x_ng_ret | apply x_ng_exit | apply x_then_ret | apply x_then_exit | apply x_block | apply x_block_ret | apply x_block_exit | refine x_block_other (by decide) ?_))
    refine kcs (equal_any (slv u1) (slv u2) x1 x2 w (hx.ch hM.ch) (hy.ch hM.ch)) ?_
    repeat (first | ((with_reducible apply is_ld); first | refine kld hM ?_ | refine kldw hM ?_ | refine kle hM ?_ | refine klew hM ?_) | ((with_reducible apply is_sto); first | (refine kst hM ?_; intro w hM) | (refine kstw hM ?_; intro w hM)) | ((with_reducible apply is_st); refine su ?_) | ((with_reducible apply is_gd); first | refine gt ?_ | refine gf ?_ | refine gu ?_) | ((with_reducible apply is_en); refine en ?_) | (with_reducible first | apply x_then | apply wp_seq | apply c_region | apply wp_block | apply wp_skip | apply wp_exit | apply wp_ret | apply wp_label | apply wp_scope_straight | apply x_ng | apply x_ng_ret | apply x_ng_exit | apply x_then_ret | apply x_then_exit | apply x_block | apply x_block_ret | apply x_block_exit | refine x_block_other (by decide) ?_))
    by_cases hxy : x1 = x2
    · rw [decide_eq_true hxy]
      refine ci_condb rfl (fun _ => ?_) (fun h => by cases h)
      refine wpIn_exit ?_
      refine ⟨_, ⟨rfl, ?_⟩, hM⟩
      rw [hf, firstL, if_pos hxy]
      simp
    · rw [decide_eq_false hxy]
      refine ci_condb rfl (fun h => by cases h) (fun _ => ?_)
      refine wpIn_skip ?_
      refine x_then ?_
      refine wpIn_seq ?_
      refine wpIn_seq ?_
      refine ci_region (noOut_then (noOut_then (noOut_block noOut_round))) rfl ?_
      repeat (first | ((with_reducible apply is_ld); first | refine kld hM ?_ | refine kldw hM ?_ | refine kle hM ?_ | refine klew hM ?_) | ((with_reducible apply is_sto); first | (refine kst hM ?_; intro w hM) | (refine kstw hM ?_; intro w hM)) | ((with_reducible apply is_st); refine su ?_) | ((with_reducible apply is_gd); first | refine gt ?_ | refine gf ?_ | refine gu ?_) | ((with_reducible apply is_en); refine en ?_) | (with_reducible first | apply x_then | apply wp_seq | apply c_region | apply wp_block | apply wp_skip | apply wp_exit | apply wp_ret | apply wp_label | apply wp_scope_straight | apply x_ng | apply x_ng_ret | apply x_ng_exit | apply x_then_ret | apply x_then_exit | apply x_block | apply x_block_ret | apply x_block_exit | refine x_block_other (by decide) ?_))
      refine kca hM (sum_any (slv u1) x1 w (hK.ch hM.ch (by simp)) (hx.ch hM.ch) (by omega)) (fun w hM => ?_)
      repeat (first | ((with_reducible apply is_ld); first | refine kld hM ?_ | refine kldw hM ?_ | refine kle hM ?_ | refine klew hM ?_) | ((with_reducible apply is_sto); first | (refine kst hM ?_; intro w hM) | (refine kstw hM ?_; intro w hM)) | ((with_reducible apply is_st); refine su ?_) | ((with_reducible apply is_gd); first | refine gt ?_ | refine gf ?_ | refine gu ?_) | ((with_reducible apply is_en); refine en ?_) | (with_reducible first | apply x_then | apply wp_seq | apply c_region | apply wp_block | apply wp_skip | apply wp_exit | apply wp_ret | apply wp_label | apply wp_scope_straight | apply x_ng | apply x_ng_ret | apply x_ng_exit | apply x_then_ret | apply x_then_exit | apply x_block | apply x_block_ret | apply x_block_exit | refine x_block_other (by decide) ?_))
      refine kca hM (sum_any (slv u2) x2 w (hK.ch hM.ch (by simp)) (hy.ch hM.ch) (by omega)) (fun w hM => ?_)
      (try ((with_reducible apply is_gd); first | refine gt ?_ | refine gf ?_ | refine gu ?_)); refine wl_val (r_neq8 (a := shaOf x1) (b := shaOf x2) (by kernel_rfl) rfl rfl (shaOf_len _) (shaOf_len _)) ?_
      repeat (first | ((with_reducible apply is_ld); first | refine kld hM ?_ | refine kldw hM ?_ | refine kle hM ?_ | refine klew hM ?_) | ((with_reducible apply is_sto); first | (refine kst hM ?_; intro w hM) | (refine kstw hM ?_; intro w hM)) | ((with_reducible apply is_st); refine su ?_) | ((with_reducible apply is_gd); first | refine gt ?_ | refine gf ?_ | refine gu ?_) | ((with_reducible apply is_en); refine en ?_) | (with_reducible first | apply x_then | apply wp_seq | apply c_region | apply wp_block | apply wp_skip | apply wp_exit | apply wp_ret | apply wp_label | apply wp_scope_straight | apply x_ng | apply x_ng_ret | apply x_ng_exit | apply x_then_ret | apply x_then_exit | apply x_block | apply x_block_ret | apply x_block_exit | refine x_block_other (by decide) ?_))
      by_cases hs : shaOf x1 = shaOf x2
      · rw [decide_eq_true hs]
        refine ci_condb rfl (fun h => by cases h) (fun _ => ?_)
        refine wpIn_skip ?_
        refine x_then ?_
        refine wpIn_seq ?_
        refine ci_region (noOut_then (noOut_block noOut_round)) rfl ?_
        repeat (first | ((with_reducible apply is_ld); first | refine kld hM ?_ | refine kldw hM ?_ | refine kle hM ?_ | refine klew hM ?_) | ((with_reducible apply is_sto); first | (refine kst hM ?_; intro w hM) | (refine kstw hM ?_; intro w hM)) | ((with_reducible apply is_st); refine su ?_) | ((with_reducible apply is_gd); first | refine gt ?_ | refine gf ?_ | refine gu ?_) | ((with_reducible apply is_en); refine en ?_) | (with_reducible first | apply x_then | apply wp_seq | apply c_region | apply wp_block | apply wp_skip | apply wp_exit | apply wp_ret | apply wp_label | apply wp_scope_straight | apply x_ng | apply x_ng_ret | apply x_ng_exit | apply x_then_ret | apply x_then_exit | apply x_block | apply x_block_ret | apply x_block_exit | refine x_block_other (by decide) ?_))
        refine kcr hM (own_any (slv u1) x1 w (hx.ch hM.ch) hxl) (fun v1 w hM => ?_)
        repeat (first | ((with_reducible apply is_ld); first | refine kld hM ?_ | refine kldw hM ?_ | refine kle hM ?_ | refine klew hM ?_) | ((with_reducible apply is_sto); first | (refine kst hM ?_; intro w hM) | (refine kstw hM ?_; intro w hM)) | ((with_reducible apply is_st); refine su ?_) | ((with_reducible apply is_gd); first | refine gt ?_ | refine gf ?_ | refine gu ?_) | ((with_reducible apply is_en); refine en ?_) | (with_reducible first | apply x_then | apply wp_seq | apply c_region | apply wp_block | apply wp_skip | apply wp_exit | apply wp_ret | apply wp_label | apply wp_scope_straight | apply x_ng | apply x_ng_ret | apply x_ng_exit | apply x_then_ret | apply x_then_exit | apply x_block | apply x_block_ret | apply x_block_exit | refine x_block_other (by decide) ?_))
        refine kcr hM (own_any (slv u2) x2 w (hy.ch hM.ch) hyl) (fun v2 w hM => ?_)
        obtain ⟨A1, c1, rfl, _⟩ := (hM.row0 (v := v1) (by (repeat (first | exact Go.Proofs.E.Pick.here | apply Go.Proofs.E.Pick.there)))).form
        obtain ⟨A2, c2, rfl, _⟩ := (hM.row0 (v := v2) (by (repeat (first | exact Go.Proofs.E.Pick.here | apply Go.Proofs.E.Pick.there)))).form
        repeat (first | ((with_reducible apply is_ld); first | refine kld hM ?_ | refine kldw hM ?_ | refine kle hM ?_ | refine klew hM ?_) | ((with_reducible apply is_sto); first | (refine kst hM ?_; intro w hM) | (refine kstw hM ?_; intro w hM)) | ((with_reducible apply is_st); refine su ?_) | ((with_reducible apply is_gd); first | refine gt ?_ | refine gf ?_ | refine gu ?_) | ((with_reducible apply is_en); refine en ?_) | (with_reducible first | apply x_then | apply wp_seq | apply c_region | apply wp_block | apply wp_skip | apply wp_exit | apply wp_ret | apply wp_label | apply wp_scope_straight | apply x_ng | apply x_ng_ret | apply x_ng_exit | apply x_then_ret | apply x_then_exit | apply x_block | apply x_block_ret | apply x_block_exit | refine x_block_other (by decide) ?_))
        refine wpIn_ret ?_
        refine ⟨_, .inr ⟨rfl, _, _, x1, x2, rfl, ?_⟩, hM⟩
        rw [hf, firstL, if_neg hxy, if_pos hs]
      · rw [decide_eq_false hs]
        refine ci_condb rfl (fun _ => ?_) (fun h => by cases h)
        refine wpIn_exit ?_
        refine ⟨_, .inl ⟨rfl, rfl, ?_⟩, hM⟩
        rw [hf, firstL, if_neg hxy, if_neg hs]
  · rintro D w La ⟨rfl, hf⟩ hM
    have hn : firstL (R.map fun r => (r.1.2, r.2.2)) = none := by
      rw [hf, List.drop_eq_nil_of_le (by simp)]
      rfl
    rw [hn]
    simp only [List.cons_append, List.nil_append] at hM
    have hD := hM.head
    change Code.wp _ _ _ _ _
    refine wp_seq ?_
    refine c_regd rfl (noOut_then noOut_M) ?_
    repeat (first | ((with_reducible apply is_ld); first | refine kld hM ?_ | refine kldw hM ?_ | refine kle hM ?_ | refine klew hM ?_) | ((with_reducible apply is_sto); first | (refine kst hM ?_; intro w hM) | (refine kstw hM ?_; intro w hM)) | ((with_reducible apply is_st); refine su ?_) | ((with_reducible apply is_gd); first | refine gt ?_ | refine gf ?_ | refine gu ?_) | ((with_reducible apply is_en); refine en ?_) | (with_reducible first | apply x_then | apply wp_seq | apply c_region | apply wp_block | apply wp_skip | apply wp_exit | apply wp_ret | apply wp_label | apply wp_scope_straight | apply x_ng | apply x_ng_ret | apply x_ng_exit | apply x_then_ret | apply x_then_exit | apply x_block | apply x_block_ret | apply x_block_exit | refine x_block_other (by decide) ?_))
    change Code.wp _ _ _ (frd _ _) w
    refine wp_ret ?_
    refine post1 (hM.pick (a := .obj D _) (by (repeat (first | exact Go.Proofs.E.Pick.here | apply Go.Proofs.E.Pick.there)))).head ?_
    have hM : Mem [] w0 (w.putObj D (.deferred none)) [.obj D (.deferred none), .cell b6 [.bool false] 4, .cell b5 [.slice none 0 0] 41, .cell b4 [.slice none 0 0] 41, .cell b1 [slv sa] 51, .cell b2 [slv sb] 51] := (hM.pick (a := .obj D _) (by (repeat (first | exact Go.Proofs.E.Pick.here | apply Go.Proofs.E.Pick.there)))).putObj.sub (by (repeat (first | exact Go.Proofs.E.Sub.nil | (apply Go.Proofs.E.Sub.cons; (repeat (first | exact Go.Proofs.E.Pick.here | apply Go.Proofs.E.Pick.there))))))
    have hM := (hM.nilRow eU8 5).nilRow eU8 5
    exact koc3 hM rfl ⟨_, _, rfl, hM.sub (by (repeat (first | exact Go.Proofs.E.Sub.nil | (apply Go.Proofs.E.Sub.cons; (repeat (first | exact Go.Proofs.E.Pick.here | apply Go.Proofs.E.Pick.there))))))⟩
  · rintro D c pre w La hs hM
    rcases hs with ⟨rfl, rfl, hf⟩ | ⟨rfl, v1, v2, x, y, rfl, hf⟩
    · refine wpIn_exit ?_
      rw [hf]
      simp only [List.cons_append, List.nil_append] at hM
      have hD := hM.head
      change Code.wp _ _ _ _ _
      refine wp_seq ?_
      refine c_regd rfl (noOut_then noOut_M) ?_
      repeat (first | ((with_reducible apply is_ld); first | refine kld hM ?_ | refine kldw hM ?_ | refine kle hM ?_ | refine klew hM ?_) | ((with_reducible apply is_sto); first | (refine kst hM ?_; intro w hM) | (refine kstw hM ?_; intro w hM)) | ((with_reducible apply is_st); refine su ?_) | ((with_reducible apply is_gd); first | refine gt ?_ | refine gf ?_ | refine gu ?_) | ((with_reducible apply is_en); refine en ?_) | (with_reducible first | apply x_then | apply wp_seq | apply c_region | apply wp_block | apply wp_skip | apply wp_exit | apply wp_ret | apply wp_label | apply wp_scope_straight | apply x_ng | apply x_ng_ret | apply x_ng_exit | apply x_then_ret | apply x_then_exit | apply x_block | apply x_block_ret | apply x_block_exit | refine x_block_other (by decide) ?_))
      change Code.wp _ _ _ (frd _ _) w
      refine wp_ret ?_
      refine post1 (hM.pick (a := .obj D _) (by (repeat (first | exact Go.Proofs.E.Pick.here | apply Go.Proofs.E.Pick.there)))).head ?_
      have hM : Mem [] w0 (w.putObj D (.deferred none)) [.obj D (.deferred none), .cell b6 [.bool false] 4, .cell b5 [.slice none 0 0] 41, .cell b4 [.slice none 0 0] 41, .cell b1 [slv sa] 51, .cell b2 [slv sb] 51] := (hM.pick (a := .obj D _) (by (repeat (first | exact Go.Proofs.E.Pick.here | apply Go.Proofs.E.Pick.there)))).putObj.sub (by (repeat (first | exact Go.Proofs.E.Sub.nil | (apply Go.Proofs.E.Sub.cons; (repeat (first | exact Go.Proofs.E.Pick.here | apply Go.Proofs.E.Pick.there))))))
      have hM := (hM.nilRow eU8 5).nilRow eU8 5
      exact koc3 hM rfl ⟨_, _, rfl, hM.sub (by (repeat (first | exact Go.Proofs.E.Sub.nil | (apply Go.Proofs.E.Sub.cons; (repeat (first | exact Go.Proofs.E.Pick.here | apply Go.Proofs.E.Pick.there))))))⟩
    · rw [hf]
      refine wpIn_ret ?_
      have hD := hM.head
      refine post1 hD ?_
      have hM := hM.putObj (o' := .deferred none)
      simp only [List.cons_append, List.nil_append] at hM
      exact koc3 hM rfl ⟨_, _, rfl, hM.sub (by (repeat (first | exact Go.Proofs.E.Sub.nil | (apply Go.Proofs.E.Sub.cons; (repeat (first | exact Go.Proofs.E.Pick.here | apply Go.Proofs.E.Pick.there))))))⟩
end Go.Proofs.YtfldckjkipmibaaDoor

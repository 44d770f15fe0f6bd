/- Walks: the first two that are not the same: two lists from their ends on. -/
import Derived.Test.YtfldckjkipmibaaDoorClashA
set_option linter.unusedVariables false
set_option linter.unusedSimpArgs false
namespace Go.Proofs.YtfldckjkipmibaaDoor
open Go Go.RowKit Go.Proofs.E
attribute [local irreducible] Go.wpList Go.Code.wp Go.Proofs.E.exec Go.Proofs.E.wpLexG
theorem ends_get {α β : Type} {us : List α} {vs : List β} {i : Nat} {x : α} {y : β} (hx : us[us.length - 1 - i]? = some x) (hy : vs[vs.length - 1 - i]? = some y) (h1 : i < us.length) (h2 : i < vs.length) : (us.reverse.zip vs.reverse)[i]? = some (x, y) := by
  rw [List.getElem?_zip_eq_some, List.getElem?_reverse h1, List.getElem?_reverse h2]
  exact ⟨hx, hy⟩
set_option maxHeartbeats 8000000 in
theorem beside_seq {us vs : List SlV} {v1 v2 : Value} {w0 : World} (b1 b2 : Nat) (h1 : (Ty.enc eSl).Rd [] w0 v1 us) (h2 : (Ty.enc eSl).Rd [] w0 v2 vs) (hb : us.length ≤ 1099511627776) :
    SeqM Tryd.prog 9 94 #[.pointer (some ⟨b1, 0, none⟩), .pointer (some ⟨b2, 0, none⟩)] (fun x : SlV × SlV => #[slv x.1, slv x.2]) (us.reverse.zip vs.reverse) [] w0 [.cell b1 [v1] 51, .cell b2 [v2] 51] := by
  intro r Inv Stp w La hM0 hInv hY
  refine callsIn_wide.2 ?_
  have hM := hM0.perm List.perm_append_comm
  suffices h : Calls Tryd.prog 94 #[.func (.yield r) #[] #[], .pointer (some ⟨b1, 0, none⟩), .pointer (some ⟨b2, 0, none⟩)] w (Ret fun _ W' => ∃ La', (Inv (us.reverse.zip vs.reverse) La' ∨ ∃ pre, Stp pre La') ∧ Mem [] w0 W' (La' ++ [.cell b1 [v1] 51, .cell b2 [v2] 51])) from
    h.mono fun e w ⟨v, he, h⟩ => ⟨⟨v, he⟩, h⟩
  obtain ⟨L, hL⟩ : ∃ L, us.reverse.zip vs.reverse = L := ⟨_, rfl⟩
  rw [hL] at hY ⊢
  have hLl : L.length = min us.length vs.length := by rw [← hL]; simp
  have hle1 := h1.le
  have hle2 := h2.le
  obtain ⟨A1, c1, rfl⟩ := h1.form
  obtain ⟨A2, c2, rfl⟩ := h2.form
  refine enter [.func (.yield r) #[] #[], .pointer (some ⟨b1, 0, none⟩), .pointer (some ⟨b2, 0, none⟩), undef, undef, undef, undef, undef, undef, undef, undef, undef, undef, undef, undef, undef, undef, undef, undef, undef, undef, undef, undef, undef, undef, undef, undef, undef, undef, undef, undef] Tryd.func94 rfl rfl ?_
  simp only [List.cons_append, List.nil_append] at hM
  repeat (first | ((with_reducible apply is_ld); first | refine kld hM ?_ | refine kldw hM ?_ | refine kle hM ?_ | refine klew hM ?_) | ((with_reducible apply is_sto); first | (refine kst hM ?_; intro w hM) | (refine kstw hM ?_; intro w hM)) | ((with_reducible apply is_st); refine su ?_) | ((with_reducible apply is_gd); first | refine gt ?_ | refine gf ?_ | refine gu ?_) | ((with_reducible apply is_en); refine en ?_) | (with_reducible first | apply x_then | apply wp_seq | apply c_region | apply wp_block | apply wp_skip | apply wp_exit | apply wp_ret | apply wp_label | apply wp_scope_straight | apply x_ng | apply x_ng_ret | apply x_ng_exit | apply x_then_ret | apply x_then_exit | apply x_block | apply x_block_ret | apply x_block_exit | refine x_block_other (by decide) ?_))
  
  refine c_loop (fun k l w => ∃ (i : Nat) (La : List As), (∃ jj : Nat → Value, l = [.func (.yield r) #[] #[], .pointer (some ⟨b1, 0, none⟩), .pointer (some ⟨b2, 0, none⟩), jj 3, .int .i64 ((i : Int) + 1), jj 5, jj 6, jj 7, jj 8, jj 9, jj 10, jj 11, jj 12, jj 13, jj 14, jj 15, jj 16, jj 17, jj 18, jj 19, jj 20, jj 21, jj 22, jj 23, jj 24, jj 25, jj 26, jj 27, jj 28, jj 29, jj 30]) ∧ k + i = L.length ∧ Inv (L.take i) La ∧ Mem [] w0 w (.cell b1 [.slice A1 us.length c1] 51 :: .cell b2 [.slice A2 vs.length c2] 51 :: La)) L.length
    ⟨0, La, exj rfl, rfl, hInv, hM⟩ ?_
  clear hM hM0 hInv
  rintro k l w ⟨i, La, ⟨jj, rfl⟩, hki, hInv, hM⟩
  repeat (first | ((with_reducible apply is_ld); first | refine kld hM ?_ | refine kldw hM ?_ | refine kle hM ?_ | refine klew hM ?_) | ((with_reducible apply is_sto); first | (refine kst hM ?_; intro w hM) | (refine kstw hM ?_; intro w hM)) | ((with_reducible apply is_st); refine su ?_) | ((with_reducible apply is_gd); first | refine gt ?_ | refine gf ?_ | refine gu ?_) | ((with_reducible apply is_en); refine en ?_) | (with_reducible first | apply x_then | apply wp_seq | apply c_region | apply wp_block | apply wp_skip | apply wp_exit | apply wp_ret | apply wp_label | apply wp_scope_straight | apply x_ng | apply x_ng_ret | apply x_ng_exit | apply x_then_ret | apply x_then_exit | apply x_block | apply x_block_ret | apply x_block_exit | refine x_block_other (by decide) ?_))
  (try ((with_reducible apply is_gd); first | refine gt ?_ | refine gf ?_ | refine gu ?_)); refine wl_val (r_minI (L.length : Int)) ?_
  repeat (first | ((with_reducible apply is_ld); first | refine kld hM ?_ | refine kldw hM ?_ | refine kle hM ?_ | refine klew hM ?_) | ((with_reducible apply is_sto); first | (refine kst hM ?_; intro w hM) | (refine kstw hM ?_; intro w hM)) | ((with_reducible apply is_st); refine su ?_) | ((with_reducible apply is_gd); first | refine gt ?_ | refine gf ?_ | refine gu ?_) | ((with_reducible apply is_en); refine en ?_) | (with_reducible first | apply x_then | apply wp_seq | apply c_region | apply wp_block | apply wp_skip | apply wp_exit | apply wp_ret | apply wp_label | apply wp_scope_straight | apply x_ng | apply x_ng_ret | apply x_ng_exit | apply x_then_ret | apply x_then_exit | apply x_block | apply x_block_ret | apply x_block_exit | refine x_block_other (by decide) ?_))
  refine c_cond rfl (fun hi => ?_) (fun hi => ?_)
  · have hiu : i < us.length := by omega
    have hiv : i < vs.length := by omega
    repeat (first | ((with_reducible apply is_ld); first | refine kld hM ?_ | refine kldw hM ?_ | refine kle hM ?_ | refine klew hM ?_) | ((with_reducible apply is_sto); first | (refine kst hM ?_; intro w hM) | (refine kstw hM ?_; intro w hM)) | ((with_reducible apply is_st); refine su ?_) | ((with_reducible apply is_gd); first | refine gt ?_ | refine gf ?_ | refine gu ?_) | ((with_reducible apply is_en); refine en ?_) | (with_reducible first | apply x_then | apply wp_seq | apply wp_block | apply wp_skip | apply wp_exit | apply wp_ret | apply wp_label | apply wp_scope_straight | apply x_ng | apply x_ng_ret | apply x_ng_exit | apply x_then_ret | apply x_then_exit | apply x_block | apply x_block_ret | apply x_block_exit | refine x_block_other (by decide) ?_))
    refine (wpIn_wide (n := 9)).1 (c_drawY 15 _ _ hM (by kernel_rfl) (by kernel_rfl) (by kernel_rfl) rfl (by kernel_rfl) (by kernel_rfl) (by kernel_rfl) (fun w hM => ?_))
    simp only [List.take_succ_cons, List.take_zero]
    repeat (first | ((with_reducible apply is_ldg); first | refine kldg hM ?_ | refine kldwg hM ?_) | ((with_reducible apply is_sg); refine sgu ?_) | ((with_reducible apply is_gg); first | refine gtg ?_ | refine gfg ?_ | refine gug ?_) | ((with_reducible apply is_eg); refine eg ?_))
    refine kixg h1 (fun o1 o2 x hx hA => ?_)
    refine katg hM hA ?_
    repeat (first | ((with_reducible apply is_ldg); first | refine kldg hM ?_ | refine kldwg hM ?_) | ((with_reducible apply is_sg); refine sgu ?_) | ((with_reducible apply is_gg); first | refine gtg ?_ | refine gfg ?_ | refine gug ?_) | ((with_reducible apply is_eg); refine eg ?_))
    refine kixg h2 (fun o3 o4 y hy hA' => ?_)
    refine katg hM hA' ?_
    refine wq_end hM (fun w hM => ?_)
    rw [show ((us.length : Int) - ((i : Int) + 1)).toNat = us.length - 1 - i by omega] at hx
    rw [show ((vs.length : Int) - ((i : Int) + 1)).toNat = vs.length - 1 - i by omega] at hy
    have hget : L[i]? = some (x, y) := by rw [← hL]; exact ends_get hx hy hiu hiv
    have hsn : L.take (i + 1) = L.take i ++ [(x, y)] := by rw [List.take_add_one, hget]; rfl
    have hyl := hY (L.take i) (x, y) w La _ (by rw [← hsn]; exact List.take_prefix _ _) hInv (hM.perm (List.perm_append_comm (l₁ := [_, _]) (l₂ := La)))
    refine li_yield rfl rfl hyl ?_
    rintro e w2 (⟨rfl, La2, hI2, hM2⟩ | ⟨rfl, La2, hI2, hM2⟩)
    · refine ⟨_, rfl, ?_⟩
      refine li_val (r_not rfl) ?_
      refine wpListIn_nil ?_
      repeat (first | ((with_reducible apply is_ld); first | refine kld hM ?_ | refine kldw hM ?_ | refine kle hM ?_ | refine klew hM ?_) | ((with_reducible apply is_sto); first | (refine kst hM ?_; intro w hM) | (refine kstw hM ?_; intro w hM)) | ((with_reducible apply is_st); refine su ?_) | ((with_reducible apply is_gd); first | refine gt ?_ | refine gf ?_ | refine gu ?_) | ((with_reducible apply is_en); refine en ?_) | (with_reducible first | apply x_then | apply wp_seq | apply wp_block | apply wp_skip | apply wp_exit | apply wp_ret | apply wp_label | apply wp_scope_straight | apply x_ng | apply x_ng_ret | apply x_ng_exit | apply x_then_ret | apply x_then_exit | apply x_block | apply x_block_ret | apply x_block_exit | refine x_block_other (by decide) ?_))
      refine c_condb rfl (fun h => by cases h) (fun _ => ?_)
      have hM := hM2.perm List.perm_append_comm
      repeat (first | ((with_reducible apply is_ld); first | refine kld hM ?_ | refine kldw hM ?_ | refine kle hM ?_ | refine klew hM ?_) | ((with_reducible apply is_sto); first | (refine kst hM ?_; intro w hM) | (refine kstw hM ?_; intro w hM)) | ((with_reducible apply is_st); refine su ?_) | ((with_reducible apply is_gd); first | refine gt ?_ | refine gf ?_ | refine gu ?_) | ((with_reducible apply is_en); refine en ?_) | (with_reducible first | apply x_then | apply wp_seq | apply c_region | apply wp_block | apply wp_skip | apply wp_exit | apply wp_ret | apply wp_label | apply wp_scope_straight | apply x_ng | apply x_ng_ret | apply x_ng_exit | apply x_then_ret | apply x_then_exit | apply x_block | apply x_block_ret | apply x_block_exit | refine x_block_other (by decide) ?_))
      exact x_goes (k - 1) rfl (by omega) ⟨i + 1, La2, exj rfl, by omega, by rw [hsn]; exact hI2, hM⟩
    · refine ⟨_, rfl, ?_⟩
      refine li_val (r_not rfl) ?_
      refine wpListIn_nil ?_
      repeat (first | ((with_reducible apply is_ld); first | refine kld hM ?_ | refine kldw hM ?_ | refine kle hM ?_ | refine klew hM ?_) | ((with_reducible apply is_sto); first | (refine kst hM ?_; intro w hM) | (refine kstw hM ?_; intro w hM)) | ((with_reducible apply is_st); refine su ?_) | ((with_reducible apply is_gd); first | refine gt ?_ | refine gf ?_ | refine gu ?_) | ((with_reducible apply is_en); refine en ?_) | (with_reducible first | apply x_then | apply wp_seq | apply wp_block | apply wp_skip | apply wp_exit | apply wp_ret | apply wp_label | apply wp_scope_straight | apply x_ng | apply x_ng_ret | apply x_ng_exit | apply x_then_ret | apply x_then_exit | apply x_block | apply x_block_ret | apply x_block_exit | refine x_block_other (by decide) ?_))
      refine c_condb rfl (fun _ => ?_) (fun h => by cases h)
      repeat (first | ((with_reducible apply is_ld); first | refine kld hM ?_ | refine kldw hM ?_ | refine kle hM ?_ | refine klew hM ?_) | ((with_reducible apply is_sto); first | (refine kst hM ?_; intro w hM) | (refine kstw hM ?_; intro w hM)) | ((with_reducible apply is_st); refine su ?_) | ((with_reducible apply is_gd); first | refine gt ?_ | refine gf ?_ | refine gu ?_) | ((with_reducible apply is_en); refine en ?_) | (with_reducible first | apply x_then | apply wp_seq | apply c_region | apply wp_block | apply wp_skip | apply wp_exit | apply wp_ret | apply wp_label | apply wp_scope_straight | apply x_ng | apply x_ng_ret | apply x_ng_exit | apply x_then_ret | apply x_then_exit | apply x_block | apply x_block_ret | apply x_block_exit | refine x_block_other (by decide) ?_))
      exact out0 rfl ⟨La2, .inr ⟨_, hI2⟩, hM2⟩
  · repeat (first | ((with_reducible apply is_ld); first | refine kld hM ?_ | refine kldw hM ?_ | refine kle hM ?_ | refine klew hM ?_) | ((with_reducible apply is_sto); first | (refine kst hM ?_; intro w hM) | (refine kstw hM ?_; intro w hM)) | ((with_reducible apply is_st); refine su ?_) | ((with_reducible apply is_gd); first | refine gt ?_ | refine gf ?_ | refine gu ?_) | ((with_reducible apply is_en); refine en ?_) | (with_reducible first | apply x_then | apply wp_seq | apply c_region | apply wp_block | apply wp_skip | apply wp_exit | apply wp_ret | apply wp_label | apply wp_scope_straight | apply x_ng | apply x_ng_ret | apply x_ng_exit | apply x_then_ret | apply x_then_exit | apply x_block | apply x_block_ret | apply x_block_exit | refine x_block_other (by decide) ?_))
    rw [List.take_of_length_le (by omega)] at hInv
    exact out0 rfl ⟨La, .inl hInv, hM.perm (List.perm_append_comm (l₁ := [_, _]) (l₂ := La))⟩
end Go.Proofs.YtfldckjkipmibaaDoor

/- Walks: ref14.Light. -/
import Derived.Test.YtkpkfplcoakfcaaDoorRec5
set_option linter.unusedVariables false
set_option linter.unusedSimpArgs false
namespace Go.Proofs.E
open Go Go.RowKit Go.Proofs.YtkpkfplcoakfcaaDoor
theorem quo16 {a : Int} (ha : 0 ≤ a) (h2 : a ≤ 9223372036854775807) : IntKind.i64.wrap (a.tdiv 16) = a / 16 := by
  rw [Int.tdiv_eq_ediv_of_nonneg ha]
  exact wrap_rng (k := .i64) rfl (by omega) (by omega)
end Go.Proofs.E
namespace Go.Proofs.YtkpkfplcoakfcaaDoor
open Go Go.RowKit Go.Proofs.E
attribute [local irreducible] Go.wpList Go.Code.wp Go.Proofs.E.exec Go.Proofs.E.wpLexG
def LightP (p : Pr) : Prop := p.1.length ≤ 10000 ∧ p.2.1.length ≤ 10000
def LightR (us : List (RR × List Pr)) (wz : List Pr) : Prop :=
  us.length ≤ 100 ∧ wz.length ≤ 100 ∧ (∀ u ∈ us, u.1.2.1.length ≤ 10000 ∧ u.1.2.2.1.length ≤ 10000 ∧ u.2.length ≤ 500 ∧ ∀ p ∈ u.2, LightP p) ∧ ∀ p ∈ wz, LightP p
theorem take_next {α : Type} {l : List α} {j : Nat} {x : α} {F : α → Prop} (h : l[j]? = some x) (hx : F x) (ht : ∀ y ∈ l.take j, F y) : ∀ y ∈ l.take (j + 1), F y := by
  intro y hy
  rw [List.take_add_one, h] at hy
  rcases List.mem_append.1 hy with hy | hy
  · exact ht y hy
  · simp at hy
    exact hy ▸ hx
set_option maxHeartbeats 16000000 in
theorem rlight_any (ses snap : Int) (strict : Bool) (vr vw : Value) (us : List (RR × List Pr)) (wz : List Pr) (w0 : World) (hR : (Ty.enc eRr).Rd [] w0 vr (us.map (fun u : RR × List Pr => u.1))) (hU : ∀ u ∈ us, (Ty.enc ePr).Rd [] w0 (slv u.1.2.2.2) u.2) (hW : (Ty.enc ePr).Rd [] w0 vw wz)
    (hk : ShortR us) (hb : ShortL wz) :
    Calls Tryd.prog 16 #[.agg (rC ses snap strict vr vw).toArray, .int .i64 500] w0 (Ret fun u w' => (∃ v : Int, u = .int .i64 v ∧ (0 ≤ v → LightR us wz)) ∧ Ch [] w0 w') := by
  have hM := Mem.start w0
  obtain ⟨A, c, rfl⟩ := hR.form
  obtain ⟨A2, c2, rfl⟩ := hW.form
  have hl1 := hR.le
  have hl2 := hW.le
  simp only [List.length_map] at hR hl1 ⊢
  refine enter [.agg (rC ses snap strict (.slice A us.length c) (.slice A2 wz.length c2)).toArray, .int .i64 500, undef, undef, undef, undef, undef, undef, undef, undef, undef, undef, undef, undef, undef, undef, undef, undef, undef, undef, undef, undef, undef, undef, undef, undef, undef, undef, undef, undef, undef, undef, undef, undef, undef, undef, undef, undef, undef, undef, undef, undef, undef, undef, undef, undef, undef, undef, undef, undef, undef, undef, undef, undef, undef, undef, undef, undef, undef, undef, undef, undef, undef, undef, undef, undef, undef, undef, undef, undef, undef, undef, undef, undef, undef, undef, undef, undef, undef, undef, undef, undef, undef, undef, undef, undef, undef, undef, undef, undef, undef, undef, undef, undef, undef, undef, undef, undef, undef, undef, undef, undef, undef] Tryd.func16 rfl rfl ?_
  repeat (first | ((with_reducible apply is_ld); first | refine kld hM ?_ | refine kldw hM ?_ | refine kle hM ?_ | refine klew hM ?_) | ((with_reducible apply is_sto); first | (refine kst hM ?_; intro w hM) | (refine kstw hM ?_; intro w hM)) | ((with_reducible apply is_st); refine su ?_) | ((with_reducible apply is_gd); first | refine gt ?_ | refine gf ?_ | refine gu ?_) | ((with_reducible apply is_en); refine en ?_) | (with_reducible apply c_region) | refine ws ?_ | refine x_block_other (by decide) ?_)
  refine kbx hM (fun w b1 hM => ?_)
  have hM : Mem [] w0 w [.cell b1 (rC ses snap strict (.slice A us.length c) (.slice A2 wz.length c2)) 25] := hM
  by_cases hs : us.length ≤ 100 ∧ wz.length ≤ 100
  rotate_left
  · repeat (first | ((with_reducible apply is_ld); first | refine kld hM ?_ | refine kldw hM ?_ | refine kle hM ?_ | refine klew hM ?_) | ((with_reducible apply is_sto); first | (refine kst hM ?_; intro w hM) | (refine kstw hM ?_; intro w hM)) | ((with_reducible apply is_st); refine su ?_) | ((with_reducible apply is_gd); first | refine gt ?_ | refine gf ?_ | refine gu ?_) | ((with_reducible apply is_en); refine en ?_) | (with_reducible apply c_region) | refine ws ?_ | refine x_block_other (by decide) ?_)
    generalize IntKind.i64.wrap (500 - IntKind.i64.wrap (IntKind.i64.wrap (1 + (us.length : Int)) + (wz.length : Int))) = X
    repeat (first | ((with_reducible apply is_ld); first | refine kld hM ?_ | refine kldw hM ?_ | refine kle hM ?_ | refine klew hM ?_) | ((with_reducible apply is_sto); first | (refine kst hM ?_; intro w hM) | (refine kstw hM ?_; intro w hM)) | ((with_reducible apply is_st); refine su ?_) | ((with_reducible apply is_gd); first | refine gt ?_ | refine gf ?_ | refine gu ?_) | ((with_reducible apply is_en); refine en ?_) | (with_reducible apply c_region) | refine ws ?_ | refine x_block_other (by decide) ?_)
    by_cases q1 : X < 0
    · rw [decide_eq_true q1]
      repeat (first | ((with_reducible apply is_ld); first | refine kld hM ?_ | refine kldw hM ?_ | refine kle hM ?_ | refine klew hM ?_) | ((with_reducible apply is_sto); first | (refine kst hM ?_; intro w hM) | (refine kstw hM ?_; intro w hM)) | ((with_reducible apply is_st); refine su ?_) | ((with_reducible apply is_gd); first | refine gt ?_ | refine gf ?_ | refine gu ?_) | ((with_reducible apply is_en); refine en ?_) | (with_reducible apply c_region) | refine ws ?_ | refine x_block_other (by decide) ?_)
      refine c_condb rfl (fun _ => ?_) (fun h => by cases h)
      repeat (first | ((with_reducible apply is_ld); first | refine kld hM ?_ | refine kldw hM ?_ | refine kle hM ?_ | refine klew hM ?_) | ((with_reducible apply is_sto); first | (refine kst hM ?_; intro w hM) | (refine kstw hM ?_; intro w hM)) | ((with_reducible apply is_st); refine su ?_) | ((with_reducible apply is_gd); first | refine gt ?_ | refine gf ?_ | refine gu ?_) | ((with_reducible apply is_en); refine en ?_) | (with_reducible apply c_region) | refine ws ?_ | refine x_block_other (by decide) ?_)
      exact out1 rfl ⟨⟨-1, rfl, fun h => by omega⟩, hM.ch⟩
    rw [decide_eq_false q1]
    repeat (first | ((with_reducible apply is_ld); first | refine kld hM ?_ | refine kldw hM ?_ | refine kle hM ?_ | refine klew hM ?_) | ((with_reducible apply is_sto); first | (refine kst hM ?_; intro w hM) | (refine kstw hM ?_; intro w hM)) | ((with_reducible apply is_st); refine su ?_) | ((with_reducible apply is_gd); first | refine gt ?_ | refine gf ?_ | refine gu ?_) | ((with_reducible apply is_en); refine en ?_) | (with_reducible apply c_region) | refine ws ?_ | refine x_block_other (by decide) ?_)
    by_cases q2 : (us.length : Int) > 100
    · rw [decide_eq_true q2]
      repeat (first | ((with_reducible apply is_ld); first | refine kld hM ?_ | refine kldw hM ?_ | refine kle hM ?_ | refine klew hM ?_) | ((with_reducible apply is_sto); first | (refine kst hM ?_; intro w hM) | (refine kstw hM ?_; intro w hM)) | ((with_reducible apply is_st); refine su ?_) | ((with_reducible apply is_gd); first | refine gt ?_ | refine gf ?_ | refine gu ?_) | ((with_reducible apply is_en); refine en ?_) | (with_reducible apply c_region) | refine ws ?_ | refine x_block_other (by decide) ?_)
      refine c_condb rfl (fun _ => ?_) (fun h => by cases h)
      repeat (first | ((with_reducible apply is_ld); first | refine kld hM ?_ | refine kldw hM ?_ | refine kle hM ?_ | refine klew hM ?_) | ((with_reducible apply is_sto); first | (refine kst hM ?_; intro w hM) | (refine kstw hM ?_; intro w hM)) | ((with_reducible apply is_st); refine su ?_) | ((with_reducible apply is_gd); first | refine gt ?_ | refine gf ?_ | refine gu ?_) | ((with_reducible apply is_en); refine en ?_) | (with_reducible apply c_region) | refine ws ?_ | refine x_block_other (by decide) ?_)
      exact out1 rfl ⟨⟨-1, rfl, fun h => by omega⟩, hM.ch⟩
    rw [decide_eq_false q2]
    repeat (first | ((with_reducible apply is_ld); first | refine kld hM ?_ | refine kldw hM ?_ | refine kle hM ?_ | refine klew hM ?_) | ((with_reducible apply is_sto); first | (refine kst hM ?_; intro w hM) | (refine kstw hM ?_; intro w hM)) | ((with_reducible apply is_st); refine su ?_) | ((with_reducible apply is_gd); first | refine gt ?_ | refine gf ?_ | refine gu ?_) | ((with_reducible apply is_en); refine en ?_) | (with_reducible apply c_region) | refine ws ?_ | refine x_block_other (by decide) ?_)
    rw [decide_eq_true (by omega : (wz.length : Int) > 100)]
    refine c_condb rfl (fun _ => ?_) (fun h => by cases h)
    repeat (first | ((with_reducible apply is_ld); first | refine kld hM ?_ | refine kldw hM ?_ | refine kle hM ?_ | refine klew hM ?_) | ((with_reducible apply is_sto); first | (refine kst hM ?_; intro w hM) | (refine kstw hM ?_; intro w hM)) | ((with_reducible apply is_st); refine su ?_) | ((with_reducible apply is_gd); first | refine gt ?_ | refine gf ?_ | refine gu ?_) | ((with_reducible apply is_en); refine en ?_) | (with_reducible apply c_region) | refine ws ?_ | refine x_block_other (by decide) ?_)
    exact out1 rfl ⟨⟨-1, rfl, fun h => by omega⟩, hM.ch⟩
  obtain ⟨hs1, hs2⟩ := hs
  repeat (first | ((with_reducible apply is_ld); first | refine kld hM ?_ | refine kldw hM ?_ | refine kle hM ?_ | refine klew hM ?_) | ((with_reducible apply is_sto); first | (refine kst hM ?_; intro w hM) | (refine kstw hM ?_; intro w hM)) | ((with_reducible apply is_st); refine su ?_) | ((with_reducible apply is_gd); first | refine gt ?_ | refine gf ?_ | refine gu ?_) | ((with_reducible apply is_en); refine en ?_) | (with_reducible apply c_region) | refine ws ?_ | refine x_block_other (by decide) ?_)
  rw [decide_eq_false (by omega : ¬ 500 - (1 + (us.length : Int) + (wz.length : Int)) < 0)]
  repeat (first | ((with_reducible apply is_ld); first | refine kld hM ?_ | refine kldw hM ?_ | refine kle hM ?_ | refine klew hM ?_) | ((with_reducible apply is_sto); first | (refine kst hM ?_; intro w hM) | (refine kstw hM ?_; intro w hM)) | ((with_reducible apply is_st); refine su ?_) | ((with_reducible apply is_gd); first | refine gt ?_ | refine gf ?_ | refine gu ?_) | ((with_reducible apply is_en); refine en ?_) | (with_reducible apply c_region) | refine ws ?_ | refine x_block_other (by decide) ?_)
  rw [decide_eq_false (by omega : ¬ (us.length : Int) > 100)]
  repeat (first | ((with_reducible apply is_ld); first | refine kld hM ?_ | refine kldw hM ?_ | refine kle hM ?_ | refine klew hM ?_) | ((with_reducible apply is_sto); first | (refine kst hM ?_; intro w hM) | (refine kstw hM ?_; intro w hM)) | ((with_reducible apply is_st); refine su ?_) | ((with_reducible apply is_gd); first | refine gt ?_ | refine gf ?_ | refine gu ?_) | ((with_reducible apply is_en); refine en ?_) | (with_reducible apply c_region) | refine ws ?_ | refine x_block_other (by decide) ?_)
  refine c_cond rfl (fun h => by omega) (fun _ => ?_)
  repeat (first | ((with_reducible apply is_ld); first | refine kld hM ?_ | refine kldw hM ?_ | refine kle hM ?_ | refine klew hM ?_) | ((with_reducible apply is_sto); first | (refine kst hM ?_; intro w hM) | (refine kstw hM ?_; intro w hM)) | ((with_reducible apply is_st); refine su ?_) | ((with_reducible apply is_gd); first | refine gt ?_ | refine gf ?_ | refine gu ?_) | ((with_reducible apply is_en); refine en ?_) | (with_reducible apply c_region) | refine ws ?_ | refine x_block_other (by decide) ?_)
  
  refine c_loop (fun n l w => ∃ (j : Nat) (v : Int), (∃ jj : Nat → Value, l = [jj 0, .int .i64 v, .pointer (some ⟨b1, 0, none⟩), jj 3, .int .i64 0, jj 5, jj 6, jj 7, jj 8, jj 9, jj 10, jj 11, jj 12, jj 13, jj 14, jj 15, jj 16, jj 17, jj 18, jj 19, jj 20, jj 21, jj 22, jj 23, jj 24, jj 25, jj 26, jj 27, jj 28, jj 29, jj 30, jj 31, jj 32, jj 33, jj 34, jj 35, .slice A2 wz.length c2, .int .i64 (wz.length : Int), .int .i64 (j : Int), jj 39, jj 40, jj 41, jj 42, jj 43, jj 44, jj 45, jj 46, jj 47, jj 48, jj 49, jj 50, jj 51, jj 52, jj 53, jj 54, jj 55, jj 56, jj 57, jj 58, jj 59, jj 60, jj 61, jj 62, jj 63, jj 64, jj 65, jj 66, jj 67, jj 68, jj 69, jj 70, jj 71, jj 72, jj 73, jj 74, jj 75, jj 76, jj 77, jj 78, jj 79, jj 80, jj 81, jj 82, jj 83, jj 84, jj 85, jj 86, jj 87, jj 88, jj 89, jj 90, jj 91, jj 92, jj 93, jj 94, jj 95, jj 96, jj 97, jj 98, jj 99, jj 100, jj 101, jj 102]) ∧ n + j = wz.length ∧ Mem [] w0 w [.cell b1 (rC ses snap strict (.slice A us.length c) (.slice A2 wz.length c2)) 25] ∧ 0 ≤ v ∧ v ≤ 500 ∧ ∀ p ∈ wz.take j, LightP p) wz.length
    ⟨0, _, exj rfl, rfl, hM, by omega, by omega, by simp⟩ ?_
  clear hM
  rintro n l w ⟨j, v, ⟨jj, rfl⟩, hnj, hM, hv0, hv1, hlp⟩
  repeat (first | ((with_reducible apply is_ld); first | refine kld hM ?_ | refine kldw hM ?_ | refine kle hM ?_ | refine klew hM ?_) | ((with_reducible apply is_sto); first | (refine kst hM ?_; intro w hM) | (refine kstw hM ?_; intro w hM)) | ((with_reducible apply is_st); refine su ?_) | ((with_reducible apply is_gd); first | refine gt ?_ | refine gf ?_ | refine gu ?_) | ((with_reducible apply is_en); refine en ?_) | (with_reducible apply c_region) | refine ws ?_ | refine x_block_other (by decide) ?_)
  refine c_cond rfl (fun hj => ?_) (fun hj => ?_)
  · repeat (first | ((with_reducible apply is_ld); first | refine kld hM ?_ | refine kldw hM ?_ | refine kle hM ?_ | refine klew hM ?_) | ((with_reducible apply is_sto); first | (refine kst hM ?_; intro w hM) | (refine kstw hM ?_; intro w hM)) | ((with_reducible apply is_st); refine su ?_) | ((with_reducible apply is_gd); first | refine gt ?_ | refine gf ?_ | refine gu ?_) | ((with_reducible apply is_en); refine en ?_) | (with_reducible apply c_region) | refine ws ?_ | refine x_block_other (by decide) ?_)
    refine kix hW (fun b o x hx hA => ?_)
    rw [Int.toNat_natCast] at hx
    obtain ⟨k, z, d⟩ := x
    have hbk := hb _ (List.mem_of_getElem? hx)
    simp only at hbk
    refine katr hM hA ?_
    refine kal hM (fun w b4 hM => ?_)
    repeat (first | ((with_reducible apply is_ld); first | refine kld hM ?_ | refine kldw hM ?_ | refine kle hM ?_ | refine klew hM ?_) | ((with_reducible apply is_sto); first | (refine kst hM ?_; intro w hM) | (refine kstw hM ?_; intro w hM)) | ((with_reducible apply is_st); refine su ?_) | ((with_reducible apply is_gd); first | refine gt ?_ | refine gf ?_ | refine gu ?_) | ((with_reducible apply is_en); refine en ?_) | (with_reducible apply c_region) | refine ws ?_ | refine x_block_other (by decide) ?_)
    have hM : Mem [] w0 w [.cell b4 (ePr.f (k, z, d)) 74, .cell b1 (rC ses snap strict (.slice A us.length c) (.slice A2 wz.length c2)) 25] := hM
    have ha : IntKind.i64.wrap ((k.length : Int) + (z.length : Int)) = (k.length : Int) + (z.length : Int) := wrap_rng (k := .i64) rfl (by omega) (by omega)
    have hq := quo16 (a := (k.length : Int) + (z.length : Int)) (by omega) (by omega)
    have hq2 : IntKind.i64.wrap (v - ((k.length : Int) + (z.length : Int)) / 16) = v - ((k.length : Int) + (z.length : Int)) / 16 := wrap_rng (k := .i64) rfl (by omega) (by omega)
    simp only [bst_size, ha, hq, hq2]
    refine c_cond rfl (fun q2 => ?_) (fun q2 => ?_)
    · repeat (first | ((with_reducible apply is_ld); first | refine kld hM ?_ | refine kldw hM ?_ | refine kle hM ?_ | refine klew hM ?_) | ((with_reducible apply is_sto); first | (refine kst hM ?_; intro w hM) | (refine kstw hM ?_; intro w hM)) | ((with_reducible apply is_st); refine su ?_) | ((with_reducible apply is_gd); first | refine gt ?_ | refine gf ?_ | refine gu ?_) | ((with_reducible apply is_en); refine en ?_) | (with_reducible apply c_region) | refine ws ?_ | refine x_block_other (by decide) ?_)
      exact out1 rfl ⟨⟨-1, rfl, fun h => by omega⟩, hM.ch⟩
    · repeat (first | ((with_reducible apply is_ld); first | refine kld hM ?_ | refine kldw hM ?_ | refine kle hM ?_ | refine klew hM ?_) | ((with_reducible apply is_sto); first | (refine kst hM ?_; intro w hM) | (refine kstw hM ?_; intro w hM)) | ((with_reducible apply is_st); refine su ?_) | ((with_reducible apply is_gd); first | refine gt ?_ | refine gf ?_ | refine gu ?_) | ((with_reducible apply is_en); refine en ?_) | (with_reducible apply c_region) | refine ws ?_ | refine x_block_other (by decide) ?_)
      exact x_goes (n - 1) rfl (by omega) ⟨j + 1, _, exj rfl, by omega, hM.sub (by (repeat constructor)), by omega, by omega, take_next hx ⟨by simp only; omega, by simp only; omega⟩ hlp⟩
  · rw [List.take_of_length_le (by omega)] at hlp
    clear hnj hj
    repeat (first | ((with_reducible apply is_ld); first | refine kld hM ?_ | refine kldw hM ?_ | refine kle hM ?_ | refine klew hM ?_) | ((with_reducible apply is_sto); first | (refine kst hM ?_; intro w hM) | (refine kstw hM ?_; intro w hM)) | ((with_reducible apply is_st); refine su ?_) | ((with_reducible apply is_gd); first | refine gt ?_ | refine gf ?_ | refine gu ?_) | ((with_reducible apply is_en); refine en ?_) | (with_reducible apply c_region) | refine ws ?_ | refine x_block_other (by decide) ?_)
    have hw := hlp
    clear hlp
    
    refine c_loop (fun n l w => ∃ (i : Nat) (v : Int), (∃ jj : Nat → Value, l = [jj 0, .int .i64 v, .pointer (some ⟨b1, 0, none⟩), jj 3, .int .i64 0, jj 5, jj 6, jj 7, jj 8, jj 9, jj 10, jj 11, jj 12, jj 13, jj 14, jj 15, jj 16, jj 17, jj 18, jj 19, jj 20, jj 21, jj 22, jj 23, jj 24, jj 25, jj 26, jj 27, jj 28, jj 29, jj 30, jj 31, jj 32, jj 33, jj 34, jj 35, jj 36, jj 37, jj 38, jj 39, jj 40, jj 41, jj 42, jj 43, jj 44, jj 45, jj 46, jj 47, jj 48, jj 49, jj 50, jj 51, jj 52, jj 53, jj 54, jj 55, .slice A us.length c, .int .i64 (us.length : Int), .int .i64 (i : Int), jj 59, jj 60, jj 61, jj 62, jj 63, jj 64, jj 65, jj 66, jj 67, jj 68, jj 69, jj 70, jj 71, jj 72, jj 73, jj 74, jj 75, jj 76, jj 77, jj 78, jj 79, jj 80, jj 81, jj 82, jj 83, jj 84, jj 85, jj 86, jj 87, jj 88, jj 89, jj 90, jj 91, jj 92, jj 93, jj 94, jj 95, jj 96, jj 97, jj 98, jj 99, jj 100, jj 101, jj 102]) ∧ n + i = us.length ∧ Mem [] w0 w [.cell b1 (rC ses snap strict (.slice A us.length c) (.slice A2 wz.length c2)) 25] ∧ -20000000000000 ≤ v ∧ v ≤ 500 ∧ (0 ≤ v → ∀ u ∈ us.take i, u.1.2.1.length ≤ 10000 ∧ u.1.2.2.1.length ≤ 10000 ∧ u.2.length ≤ 500 ∧ ∀ p ∈ u.2, LightP p)) us.length
      ⟨0, _, exj rfl, rfl, hM, by omega, by omega, by simp⟩ ?_
    clear hM hv0 hv1 v
    rintro n l w ⟨i, v, ⟨jj, rfl⟩, hnj, hM, hv0, hv1, hlp⟩
    repeat (first | ((with_reducible apply is_ld); first | refine kld hM ?_ | refine kldw hM ?_ | refine kle hM ?_ | refine klew hM ?_) | ((with_reducible apply is_sto); first | (refine kst hM ?_; intro w hM) | (refine kstw hM ?_; intro w hM)) | ((with_reducible apply is_st); refine su ?_) | ((with_reducible apply is_gd); first | refine gt ?_ | refine gf ?_ | refine gu ?_) | ((with_reducible apply is_en); refine en ?_) | (with_reducible apply c_region) | refine ws ?_ | refine x_block_other (by decide) ?_)
    refine c_cond rfl (fun hj => ?_) (fun hj => ?_)
    · repeat (first | ((with_reducible apply is_ld); first | refine kld hM ?_ | refine kldw hM ?_ | refine kle hM ?_ | refine klew hM ?_) | ((with_reducible apply is_sto); first | (refine kst hM ?_; intro w hM) | (refine kstw hM ?_; intro w hM)) | ((with_reducible apply is_st); refine su ?_) | ((with_reducible apply is_gd); first | refine gt ?_ | refine gf ?_ | refine gu ?_) | ((with_reducible apply is_en); refine en ?_) | (with_reducible apply c_region) | refine ws ?_ | refine x_block_other (by decide) ?_)
      refine kix hR (fun b o x hp hA => ?_) (h1 := by rw [List.length_map]; omega)
      rw [Int.toNat_natCast, List.getElem?_map] at hp
      obtain ⟨u, hu, hux⟩ := Option.map_eq_some_iff.1 hp
      have hum : u ∈ us := List.mem_of_getElem? hu
      have hkk := hk u hum
      have hUu := hU u hum
      obtain ⟨x2, ps⟩ := u
      simp only at hux hkk hUu
      subst hux
      obtain ⟨sc, key, to, A3, n3, c3⟩ := x2
      have hvl : n3 = ps.length := by
        obtain ⟨A, c, h⟩ := hUu.form
        unfold slv at h
        injection h
      subst hvl
      have hple := hUu.le
      simp only at hkk
      refine katr hM hA ?_
      refine kal hM (fun w b4 hM => ?_)
      refine kstw (vs := eRr.f (sc, key, to, (A3, ps.length, c3))) hM (fun w hM => ?_) (h1 := eRr.h1 (sc, key, to, (A3, ps.length, c3)))
      have hM : Mem [] w0 w [.cell b4 (eRr.f (sc, key, to, (A3, ps.length, c3))) 76, .cell b1 (rC ses snap strict (.slice A us.length c) (.slice A2 wz.length c2)) 25] := hM
      repeat (first | ((with_reducible apply is_ld); first | refine kld hM ?_ | refine kldw hM ?_ | refine kle hM ?_ | refine klew hM ?_) | ((with_reducible apply is_sto); first | (refine kst hM ?_; intro w hM) | (refine kstw hM ?_; intro w hM)) | ((with_reducible apply is_st); refine su ?_) | ((with_reducible apply is_gd); first | refine gt ?_ | refine gf ?_ | refine gu ?_) | ((with_reducible apply is_en); refine en ?_) | (with_reducible apply c_region) | refine ws ?_ | refine x_block_other (by decide) ?_)
      refine c_cond rfl (fun q2 => ?_) (fun q2 => ?_)
      · repeat (first | ((with_reducible apply is_ld); first | refine kld hM ?_ | refine kldw hM ?_ | refine kle hM ?_ | refine klew hM ?_) | ((with_reducible apply is_sto); first | (refine kst hM ?_; intro w hM) | (refine kstw hM ?_; intro w hM)) | ((with_reducible apply is_st); refine su ?_) | ((with_reducible apply is_gd); first | refine gt ?_ | refine gf ?_ | refine gu ?_) | ((with_reducible apply is_en); refine en ?_) | (with_reducible apply c_region) | refine ws ?_ | refine x_block_other (by decide) ?_)
        exact out1 rfl ⟨⟨-1, rfl, fun h => by omega⟩, hM.ch⟩
      · repeat (first | ((with_reducible apply is_ld); first | refine kld hM ?_ | refine kldw hM ?_ | refine kle hM ?_ | refine klew hM ?_) | ((with_reducible apply is_sto); first | (refine kst hM ?_; intro w hM) | (refine kstw hM ?_; intro w hM)) | ((with_reducible apply is_st); refine su ?_) | ((with_reducible apply is_gd); first | refine gt ?_ | refine gf ?_ | refine gu ?_) | ((with_reducible apply is_en); refine en ?_) | (with_reducible apply c_region) | refine ws ?_ | refine x_block_other (by decide) ?_)
        have ha : IntKind.i64.wrap ((key.length : Int) + (to.length : Int)) = (key.length : Int) + (to.length : Int) := wrap_rng (k := .i64) rfl (by omega) (by omega)
        have hq := quo16 (a := (key.length : Int) + (to.length : Int)) (by omega) (by omega)
        have hb2 : IntKind.i64.wrap ((ps.length : Int) + ((key.length : Int) + (to.length : Int)) / 16) = (ps.length : Int) + ((key.length : Int) + (to.length : Int)) / 16 := wrap_rng (k := .i64) rfl (by omega) (by omega)
        have hq2 : IntKind.i64.wrap (v - ((ps.length : Int) + ((key.length : Int) + (to.length : Int)) / 16)) = v - ((ps.length : Int) + ((key.length : Int) + (to.length : Int)) / 16) := wrap_rng (k := .i64) rfl (by omega) (by omega)
        simp only [bst_size, ha, hq, hb2, hq2]
        
        refine c_loop (fun n l w => ∃ (m : Nat) (v2 : Int), (∃ jj : Nat → Value, l = [jj 0, .int .i64 v2, .pointer (some ⟨b1, 0, none⟩), jj 3, .int .i64 0, jj 5, jj 6, jj 7, jj 8, jj 9, jj 10, jj 11, jj 12, jj 13, jj 14, jj 15, jj 16, jj 17, jj 18, jj 19, jj 20, jj 21, jj 22, jj 23, jj 24, jj 25, jj 26, jj 27, jj 28, jj 29, jj 30, jj 31, jj 32, jj 33, jj 34, jj 35, jj 36, jj 37, jj 38, jj 39, jj 40, jj 41, jj 42, jj 43, jj 44, jj 45, jj 46, jj 47, jj 48, jj 49, jj 50, jj 51, jj 52, jj 53, jj 54, jj 55, .slice A us.length c, .int .i64 (us.length : Int), .int .i64 (i : Int), jj 59, jj 60, jj 61, jj 62, jj 63, jj 64, jj 65, jj 66, jj 67, jj 68, jj 69, jj 70, jj 71, jj 72, jj 73, jj 74, jj 75, jj 76, jj 77, jj 78, jj 79, jj 80, jj 81, .slice A3 ps.length c3, .int .i64 (ps.length : Int), .int .i64 (m : Int), jj 85, jj 86, jj 87, jj 88, jj 89, jj 90, jj 91, jj 92, jj 93, jj 94, jj 95, jj 96, jj 97, jj 98, jj 99, jj 100, jj 101, jj 102]) ∧ n + m = ps.length ∧ Mem [] w0 w [.cell b1 (rC ses snap strict (.slice A us.length c) (.slice A2 wz.length c2)) 25] ∧ -20000000000000 ≤ v2 ∧ v2 ≤ v - ((ps.length : Int) + ((key.length : Int) + (to.length : Int)) / 16) ∧ (0 ≤ v2 → ∀ p ∈ ps.take m, LightP p)) ps.length
          ⟨0, _, exj rfl, rfl, hM.sub (by (repeat constructor)), by omega, by omega, by simp⟩ ?_
        clear hM
        rintro n2 l w ⟨m, v2, ⟨jj, rfl⟩, hnm, hM, hv20, hv21, hlp2⟩
        repeat (first | ((with_reducible apply is_ld); first | refine kld hM ?_ | refine kldw hM ?_ | refine kle hM ?_ | refine klew hM ?_) | ((with_reducible apply is_sto); first | (refine kst hM ?_; intro w hM) | (refine kstw hM ?_; intro w hM)) | ((with_reducible apply is_st); refine su ?_) | ((with_reducible apply is_gd); first | refine gt ?_ | refine gf ?_ | refine gu ?_) | ((with_reducible apply is_en); refine en ?_) | (with_reducible apply c_region) | refine ws ?_ | refine x_block_other (by decide) ?_)
        refine c_cond rfl (fun hi => ?_) (fun hi => ?_)
        · repeat (first | ((with_reducible apply is_ld); first | refine kld hM ?_ | refine kldw hM ?_ | refine kle hM ?_ | refine klew hM ?_) | ((with_reducible apply is_sto); first | (refine kst hM ?_; intro w hM) | (refine kstw hM ?_; intro w hM)) | ((with_reducible apply is_st); refine su ?_) | ((with_reducible apply is_gd); first | refine gt ?_ | refine gf ?_ | refine gu ?_) | ((with_reducible apply is_en); refine en ?_) | (with_reducible apply c_region) | refine ws ?_ | refine x_block_other (by decide) ?_)
          refine kix hUu (fun b o x hx hA => ?_)
          rw [Int.toNat_natCast] at hx
          obtain ⟨k, z, d⟩ := x
          have hbk := hkk.2.2 _ (List.mem_of_getElem? hx)
          simp only at hbk
          refine katr hM hA ?_
          refine kal hM (fun w b6 hM => ?_)
          repeat (first | ((with_reducible apply is_ld); first | refine kld hM ?_ | refine kldw hM ?_ | refine kle hM ?_ | refine klew hM ?_) | ((with_reducible apply is_sto); first | (refine kst hM ?_; intro w hM) | (refine kstw hM ?_; intro w hM)) | ((with_reducible apply is_st); refine su ?_) | ((with_reducible apply is_gd); first | refine gt ?_ | refine gf ?_ | refine gu ?_) | ((with_reducible apply is_en); refine en ?_) | (with_reducible apply c_region) | refine ws ?_ | refine x_block_other (by decide) ?_)
          have hM : Mem [] w0 w [.cell b6 (ePr.f (k, z, d)) 74, .cell b1 (rC ses snap strict (.slice A us.length c) (.slice A2 wz.length c2)) 25] := hM
          have ha : IntKind.i64.wrap ((k.length : Int) + (z.length : Int)) = (k.length : Int) + (z.length : Int) := wrap_rng (k := .i64) rfl (by omega) (by omega)
          have hq := quo16 (a := (k.length : Int) + (z.length : Int)) (by omega) (by omega)
          have hq2 : IntKind.i64.wrap (v2 - ((k.length : Int) + (z.length : Int)) / 16) = v2 - ((k.length : Int) + (z.length : Int)) / 16 := wrap_rng (k := .i64) rfl (by omega) (by omega)
          simp only [bst_size, ha, hq, hq2]
          refine c_cond rfl (fun q2 => ?_) (fun q2 => ?_)
          · repeat (first | ((with_reducible apply is_ld); first | refine kld hM ?_ | refine kldw hM ?_ | refine kle hM ?_ | refine klew hM ?_) | ((with_reducible apply is_sto); first | (refine kst hM ?_; intro w hM) | (refine kstw hM ?_; intro w hM)) | ((with_reducible apply is_st); refine su ?_) | ((with_reducible apply is_gd); first | refine gt ?_ | refine gf ?_ | refine gu ?_) | ((with_reducible apply is_en); refine en ?_) | (with_reducible apply c_region) | refine ws ?_ | refine x_block_other (by decide) ?_)
            exact out1 rfl ⟨⟨-1, rfl, fun h => by omega⟩, hM.ch⟩
          · repeat (first | ((with_reducible apply is_ld); first | refine kld hM ?_ | refine kldw hM ?_ | refine kle hM ?_ | refine klew hM ?_) | ((with_reducible apply is_sto); first | (refine kst hM ?_; intro w hM) | (refine kstw hM ?_; intro w hM)) | ((with_reducible apply is_st); refine su ?_) | ((with_reducible apply is_gd); first | refine gt ?_ | refine gf ?_ | refine gu ?_) | ((with_reducible apply is_en); refine en ?_) | (with_reducible apply c_region) | refine ws ?_ | refine x_block_other (by decide) ?_)
            exact x_goes (n2 - 1) rfl (by omega) ⟨m + 1, _, exj rfl, by omega, hM.sub (by (repeat constructor)), by omega, by omega, fun _ => take_next hx ⟨by simp only; omega, by simp only; omega⟩ (hlp2 (by omega))⟩
        · rw [List.take_of_length_le (by omega)] at hlp2
          repeat (first | ((with_reducible apply is_ld); first | refine kld hM ?_ | refine kldw hM ?_ | refine kle hM ?_ | refine klew hM ?_) | ((with_reducible apply is_sto); first | (refine kst hM ?_; intro w hM) | (refine kstw hM ?_; intro w hM)) | ((with_reducible apply is_st); refine su ?_) | ((with_reducible apply is_gd); first | refine gt ?_ | refine gf ?_ | refine gu ?_) | ((with_reducible apply is_en); refine en ?_) | (with_reducible apply c_region) | refine ws ?_ | refine x_block_other (by decide) ?_)
          exact x_goes (n - 1) rfl (by omega) ⟨i + 1, _, exj rfl, by omega, hM, by omega, by omega, fun _ => take_next hu ⟨by simp only; omega, by simp only; omega, by simp only; omega, hlp2 (by omega)⟩ (hlp (by omega))⟩
    · rw [List.take_of_length_le (by omega)] at hlp
      repeat (first | ((with_reducible apply is_ld); first | refine kld hM ?_ | refine kldw hM ?_ | refine kle hM ?_ | refine klew hM ?_) | ((with_reducible apply is_sto); first | (refine kst hM ?_; intro w hM) | (refine kstw hM ?_; intro w hM)) | ((with_reducible apply is_st); refine su ?_) | ((with_reducible apply is_gd); first | refine gt ?_ | refine gf ?_ | refine gu ?_) | ((with_reducible apply is_en); refine en ?_) | (with_reducible apply c_region) | refine ws ?_ | refine x_block_other (by decide) ?_)
      exact out1 rfl ⟨⟨_, rfl, fun hz => ⟨hs1, hs2, hlp hz, hw⟩⟩, hM.ch⟩
end Go.Proofs.YtkpkfplcoakfcaaDoor

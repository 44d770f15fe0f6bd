/- Walks: law 20's short; ClashSame. -/
import Derived.Test.YtnkkeehoejmcnaaDoorG1
import Derived.Test.YtnkkeehoejmcnaaDoorClashJ
set_option linter.unusedVariables false
set_option linter.unusedSimpArgs false
namespace Go.Proofs.YtnkkeehoejmcnaaDoor
open Go Go.RowKit Go.Proofs.E
attribute [local irreducible] Go.wpList Go.Code.wp Go.Proofs.E.exec Go.Proofs.E.wpLexG
def shortGo : Nat → List (List UInt8) → Bool
  | _, [] => true
  | n, b :: bs => if 3000 < n + b.length then false else shortGo (n + b.length) bs
def shortL (xss : List (List UInt8)) : Bool := decide (xss.length ≤ 60) && shortGo xss.length xss
theorem shortGo_mem : ∀ {n : Nat} {xss : List (List UInt8)}, shortGo n xss = true → ∀ x ∈ xss, x.length ≤ 3000
  | _, [], _, x, hx => by simp at hx
  | n, b :: bs, h, x, hx => by
    rw [shortGo] at h
    split at h
    · cases h
    · rcases List.mem_cons.1 hx with rfl | hx
      · omega
      · exact shortGo_mem h x hx
theorem shortL_spec {xss : List (List UInt8)} (h : shortL xss = true) : xss.length ≤ 60 ∧ ∀ x ∈ xss, x.length ≤ 3000 := by
  unfold shortL at h
  simp only [Bool.and_eq_true, decide_eq_true_eq] at h
  exact ⟨h.1, shortGo_mem h.2⟩
set_option maxHeartbeats 4000000 in
theorem short_any (v : Value) (xss : List (List UInt8)) (w0 : World) (hR : (Ty.sl tU8).Rd [] w0 v xss) (hbd : ∀ x ∈ xss, x.length ≤ 281474976710656) : Calls Tryd.prog 34 #[v] w0 (Ret fun u w' => u = .bool (shortL xss) ∧ Ch [] w0 w') := by
  have hM := Mem.start w0
  obtain ⟨ps, rfl, hP, hp⟩ := hR.raw
  have hle := hP.le
  obtain ⟨A, c, rfl⟩ := hP.form
  simp only [List.length_map] at hle hP ⊢
  unfold shortL
  rw [List.length_map]
  refine enter [.slice A ps.length c, undef, undef, undef, undef, undef, undef, undef, undef, undef, undef, undef, undef, undef, undef, undef, undef, undef, undef, undef, undef, undef, undef] Tryd.func34 rfl rfl ?_
  repeat (first | ((with_reducible apply is_ld); first | refine kld hM ?_ | refine kldw hM ?_ | refine kle hM ?_ | refine klew hM ?_) | ((with_reducible apply is_sto); first | (refine kst hM ?_; intro w hM) | (refine kstw hM ?_; intro w hM)) | ((with_reducible apply is_st); refine su ?_) | ((with_reducible apply is_gd); first | refine gt ?_ | refine gf ?_ | refine gu ?_) | ((with_reducible apply is_en); refine en ?_) | (with_reducible apply c_region) | refine ws ?_ | refine x_block_other (by decide) ?_)
  by_cases h60 : ps.length ≤ 60
  case neg =>
    rw [decide_eq_false h60]
    refine c_cond rfl (fun _ => ?_) (fun h => absurd (by omega) h)
    repeat (first | ((with_reducible apply is_ld); first | refine kld hM ?_ | refine kldw hM ?_ | refine kle hM ?_ | refine klew hM ?_) | ((with_reducible apply is_sto); first | (refine kst hM ?_; intro w hM) | (refine kstw hM ?_; intro w hM)) | ((with_reducible apply is_st); refine su ?_) | ((with_reducible apply is_gd); first | refine gt ?_ | refine gf ?_ | refine gu ?_) | ((with_reducible apply is_en); refine en ?_) | (with_reducible apply c_region) | refine ws ?_ | refine x_block_other (by decide) ?_)
    exact out1 rfl ⟨rfl, Ch.refl _ _⟩
  case pos =>
  rw [decide_eq_true h60, Bool.true_and]
  refine c_cond rfl (fun h => absurd h (by omega)) (fun _ => ?_)
  repeat (first | ((with_reducible apply is_ld); first | refine kld hM ?_ | refine kldw hM ?_ | refine kle hM ?_ | refine klew hM ?_) | ((with_reducible apply is_sto); first | (refine kst hM ?_; intro w hM) | (refine kstw hM ?_; intro w hM)) | ((with_reducible apply is_st); refine su ?_) | ((with_reducible apply is_gd); first | refine gt ?_ | refine gf ?_ | refine gu ?_) | ((with_reducible apply is_en); refine en ?_) | (with_reducible apply c_region) | refine ws ?_ | refine x_block_other (by decide) ?_)
  
  refine c_loop (fun k l w => ∃ (n j : Nat), (∃ jj : Nat → Value, l = [jj 0, jj 1, .bool false, .int .i64 (n : Int), jj 4, jj 5, jj 6, jj 7, jj 8, jj 9, .slice A ps.length c, .int .i64 (ps.length : Int), .int .i64 (j : Int), jj 13, jj 14, jj 15, jj 16, jj 17, jj 18, jj 19, jj 20, jj 21, jj 22]) ∧ k + j = ps.length ∧ n ≤ 3060 ∧ Mem [] w0 w [] ∧ shortGo ps.length (ps.map (fun p : SlV × List UInt8 => p.2)) = shortGo n ((ps.drop j).map (fun p : SlV × List UInt8 => p.2))) ps.length
    ⟨ps.length, 0, exj rfl, rfl, by omega, hM, rfl⟩ ?_
  clear hM
  rintro k l w ⟨n, j, ⟨jj, rfl⟩, hkj, hn, hM, hf⟩
  repeat (first | ((with_reducible apply is_ld); first | refine kld hM ?_ | refine kldw hM ?_ | refine kle hM ?_ | refine klew hM ?_) | ((with_reducible apply is_sto); first | (refine kst hM ?_; intro w hM) | (refine kstw hM ?_; intro w hM)) | ((with_reducible apply is_st); refine su ?_) | ((with_reducible apply is_gd); first | refine gt ?_ | refine gf ?_ | refine gu ?_) | ((with_reducible apply is_en); refine en ?_) | (with_reducible apply c_region) | refine ws ?_ | refine x_block_other (by decide) ?_)
  refine c_cond rfl (fun hj => ?_) (fun hj => ?_)
  · repeat (first | ((with_reducible apply is_ld); first | refine kld hM ?_ | refine kldw hM ?_ | refine kle hM ?_ | refine klew hM ?_) | ((with_reducible apply is_sto); first | (refine kst hM ?_; intro w hM) | (refine kstw hM ?_; intro w hM)) | ((with_reducible apply is_st); refine su ?_) | ((with_reducible apply is_gd); first | refine gt ?_ | refine gf ?_ | refine gu ?_) | ((with_reducible apply is_en); refine en ?_) | (with_reducible apply c_region) | refine ws ?_ | refine x_block_other (by decide) ?_)
    refine kix hP (fun b o x hx hA => ?_) (h1 := by simp; omega)
    rw [Int.toNat_natCast, List.getElem?_map] at hx
    obtain ⟨p, hpx, rfl⟩ := Option.map_eq_some_iff.1 hx
    have hpm := List.mem_of_getElem? hpx
    have hd : ps.drop j = p :: ps.drop (j + 1) := by
      obtain ⟨hlt, he⟩ := List.getElem?_eq_some_iff.1 hpx
      rw [List.drop_eq_getElem_cons hlt, he]
    rw [hd, List.map_cons, shortGo] at hf
    have hl := slv_len (hp p hpm)
    have hpl := hbd p.2 (List.mem_map_of_mem hpm)
    refine kat hM hA ?_
    repeat (first | ((with_reducible apply is_ld); first | refine kld hM ?_ | refine kldw hM ?_ | refine kle hM ?_ | refine klew hM ?_) | ((with_reducible apply is_sto); first | (refine kst hM ?_; intro w hM) | (refine kstw hM ?_; intro w hM)) | ((with_reducible apply is_st); refine su ?_) | ((with_reducible apply is_gd); first | refine gt ?_ | refine gf ?_ | refine gu ?_) | ((with_reducible apply is_en); refine en ?_) | (with_reducible apply c_region) | refine ws ?_ | refine x_block_other (by decide) ?_)
    by_cases h3 : 3000 < n + p.2.length
    · rw [if_pos h3] at hf
      refine c_cond rfl (fun _ => ?_) (fun h => absurd (by omega) h)
      repeat (first | ((with_reducible apply is_ld); first | refine kld hM ?_ | refine kldw hM ?_ | refine kle hM ?_ | refine klew hM ?_) | ((with_reducible apply is_sto); first | (refine kst hM ?_; intro w hM) | (refine kstw hM ?_; intro w hM)) | ((with_reducible apply is_st); refine su ?_) | ((with_reducible apply is_gd); first | refine gt ?_ | refine gf ?_ | refine gu ?_) | ((with_reducible apply is_en); refine en ?_) | (with_reducible apply c_region) | refine ws ?_ | refine x_block_other (by decide) ?_)
      exact out1 rfl ⟨by rw [hf]; rfl, hM.ch⟩
    · rw [if_neg h3] at hf
      refine c_cond rfl (fun h => absurd h (by omega)) (fun _ => ?_)
      repeat (first | ((with_reducible apply is_ld); first | refine kld hM ?_ | refine kldw hM ?_ | refine kle hM ?_ | refine klew hM ?_) | ((with_reducible apply is_sto); first | (refine kst hM ?_; intro w hM) | (refine kstw hM ?_; intro w hM)) | ((with_reducible apply is_st); refine su ?_) | ((with_reducible apply is_gd); first | refine gt ?_ | refine gf ?_ | refine gu ?_) | ((with_reducible apply is_en); refine en ?_) | (with_reducible apply c_region) | refine ws ?_ | refine x_block_other (by decide) ?_)
      exact x_goes (k - 1) rfl (by omega) ⟨n + p.2.length, j + 1, exj (by rw [show ((n + p.2.length : Nat) : Int) = (n : Int) + (p.1.2.1 : Int) by omega]; rfl), by omega, by omega, hM, hf⟩
  · repeat (first | ((with_reducible apply is_ld); first | refine kld hM ?_ | refine kldw hM ?_ | refine kle hM ?_ | refine klew hM ?_) | ((with_reducible apply is_sto); first | (refine kst hM ?_; intro w hM) | (refine kstw hM ?_; intro w hM)) | ((with_reducible apply is_st); refine su ?_) | ((with_reducible apply is_gd); first | refine gt ?_ | refine gf ?_ | refine gu ?_) | ((with_reducible apply is_en); refine en ?_) | (with_reducible apply c_region) | refine ws ?_ | refine x_block_other (by decide) ?_)
    rw [List.drop_eq_nil_of_le (by omega)] at hf
    exact out1 rfl ⟨by rw [hf]; rfl, hM.ch⟩
/-! ### The plain law -/
end Go.Proofs.YtnkkeehoejmcnaaDoor

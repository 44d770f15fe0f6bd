/- Walks: whether records are alike, both. -/
import Derived.Test.YtnkkeehoejmcnaaDoorRec6
set_option linter.unusedVariables false
set_option linter.unusedSimpArgs false
namespace Go.Proofs.E
open Go Go.RowKit Go.Proofs.YtnkkeehoejmcnaaDoor
theorem Ty.At.part {α β : Type} {en : En α} {e2 : En β} {S : List Nat} {w : World} {b o : Nat} {x : α} {y : β} (k : Nat) (h : (Ty.enc en).At S w b o x) (hp : ((en.f x).drop k).take e2.n = e2.f y) : (Ty.enc e2).At S w b (o + k) y := by
  obtain ⟨hb, hn, cs, hR, hr⟩ := h
  have hR : cs = en.f x := hR
  subst hR
  refine ⟨hb, hn, _, rfl, fun j v hv => ?_⟩
  have hlt : j < e2.n := by
    rw [← e2.hl y]
    exact (List.getElem?_eq_some_iff.1 hv).1
  rw [← hp, List.getElem?_take_of_lt hlt, List.getElem?_drop] at hv
  have := hr (k + j) v hv
  rw [Nat.add_assoc]
  exact this
section
variable {P : Program} {l : List Value} {w : World} {T : TypeId}
theorem r_neqB {x y : Operand} {t u : TypeId} {a b : Bool} [hU : Und P t .bool] (hx : ev l x = .bool a := by exact rfl) (hy : ev l y = .bool b := by exact rfl) : (exec (ev l) (.binOp .neq t x y u) T).run P w = .ok (.value (.bool (!decide (a = b)))) w := by
  have : (a == b) = decide (a = b) := by cases a <;> cases b <;> rfl
  rw [← this]
  have h := run_neq_bool (P := P) w t a b hU.out
  simp [exec, execOp, hx, hy, eqGuard, h]
end
abbrev eBst : En (List UInt8) := { f := fun s => [.string (bst s)], n := 1, hl := fun _ => rfl, h1 := fun _ u hu => by simp at hu; subst hu; rfl }
end Go.Proofs.E
namespace Go.Proofs.YtnkkeehoejmcnaaDoor
open Go Go.RowKit Go.Proofs.E
attribute [local irreducible] Go.wpList Go.Code.wp Go.Proofs.E.exec Go.Proofs.E.wpLexG
theorem bool_beq (a b : Bool) : (a == b) = decide (a = b) := by cases a <;> cases b <;> rfl
theorem pr_cmp (p q : Pr) : CmpFs Tryd.prog 9999 (ePr.f p) (ePr.f q) (Tryd.prog.fieldsOf 122).toList (decide (p = q)) := by
  obtain ⟨a, b, c⟩ := p
  obtain ⟨x, y, z⟩ := q
  have e : decide ((a, b, c) = (x, y, z)) = ((bst a == bst x) && ((bst b == bst y) && ((c == z) && true))) := by
    rw [bst_beq, bst_beq, bool_beq, Bool.and_true, Bool.eq_iff_iff]
    simp
  rw [e]
  simp only [Program.fieldsOf, Tryd.underlying122]
  exact .cons (by decide) (cmp_str (t := 9)) rfl rfl (.cons (by decide) (cmp_str (t := 9)) rfl rfl (.cons (by decide) (cmp_bool (t := 4)) rfl rfl .nil))
theorem take_eq_iff {α : Type} {xs ys : List α} (hl : xs.length = ys.length) {j : Nat} (hj : xs.length ≤ j) (h : xs.take j = ys.take j) : xs = ys := by
  rwa [List.take_of_length_le hj, List.take_of_length_le (hl ▸ hj)] at h
theorem take_step {α : Type} {xs ys : List α} {j : Nat} {x y : α} (hx : xs[j]? = some x) (hy : ys[j]? = some y) (h : xs.take j = ys.take j) (he : x = y) : xs.take (j + 1) = ys.take (j + 1) := by
  rw [List.take_add_one, List.take_add_one, hx, hy, h, he]
abbrev Dat := Bool × Bs × Bs × List Pr
instance decPr : DecidableEq Pr := inferInstanceAs (DecidableEq (List UInt8 × List UInt8 × Bool))
instance decDat : DecidableEq Dat := inferInstanceAs (DecidableEq (Bool × List UInt8 × List UInt8 × List Pr))
def dat (u : RR × List Pr) : Dat := (u.1.1, u.1.2.1, u.1.2.2.1, u.2)

set_option maxHeartbeats 4000000 in
theorem equal_any (va vb : Value) (xs ys : List Pr) (w0 : World) (hX : (Ty.enc ePr).Rd [] w0 va xs) (hY : (Ty.enc ePr).Rd [] w0 vb ys) :
    Calls Tryd.prog 73 #[va, vb] w0 (Ret fun u w' => u = .bool (decide (xs = ys)) ∧ Ch [] w0 w') := by
  have hM := Mem.start w0
  obtain ⟨A, c, rfl⟩ := hX.form
  obtain ⟨A2, c2, rfl⟩ := hY.form
  have hl1 := hX.le
  have hl2 := hY.le
  refine enter [.slice A xs.length c, .slice A2 ys.length c2, undef, undef, undef, undef, undef, undef, undef, undef, undef, undef, undef, undef, undef, undef, undef, undef, undef, undef, undef, undef, undef, undef, undef, undef] Tryd.func73 rfl rfl ?_
  repeat (first | ((with_reducible apply is_ld); first | refine kld hM ?_ | refine kldw hM ?_ | refine kle hM ?_ | refine klew hM ?_) | ((with_reducible apply is_sto); first | (refine kst hM ?_; intro w hM) | (refine kstw hM ?_; intro w hM)) | ((with_reducible apply is_st); refine su ?_) | ((with_reducible apply is_gd); first | refine gt ?_ | refine gf ?_ | refine gu ?_) | ((with_reducible apply is_en); refine en ?_) | (with_reducible apply c_region) | refine ws ?_ | refine x_block_other (by decide) ?_)
  refine c_cond rfl (fun q1 => ?_) (fun q1 => ?_)
  · repeat (first | ((with_reducible apply is_ld); first | refine kld hM ?_ | refine kldw hM ?_ | refine kle hM ?_ | refine klew hM ?_) | ((with_reducible apply is_sto); first | (refine kst hM ?_; intro w hM) | (refine kstw hM ?_; intro w hM)) | ((with_reducible apply is_st); refine su ?_) | ((with_reducible apply is_gd); first | refine gt ?_ | refine gf ?_ | refine gu ?_) | ((with_reducible apply is_en); refine en ?_) | (with_reducible apply c_region) | refine ws ?_ | refine x_block_other (by decide) ?_)
    refine out1 rfl ⟨congrArg Value.bool (decide_eq_false (fun h => q1 (by rw [h]))).symm, hM.ch⟩
  have hl : xs.length = ys.length := by omega
  repeat (first | ((with_reducible apply is_ld); first | refine kld hM ?_ | refine kldw hM ?_ | refine kle hM ?_ | refine klew hM ?_) | ((with_reducible apply is_sto); first | (refine kst hM ?_; intro w hM) | (refine kstw hM ?_; intro w hM)) | ((with_reducible apply is_st); refine su ?_) | ((with_reducible apply is_gd); first | refine gt ?_ | refine gf ?_ | refine gu ?_) | ((with_reducible apply is_en); refine en ?_) | (with_reducible apply c_region) | refine ws ?_ | refine x_block_other (by decide) ?_)
  
  refine c_loop (fun n l w => ∃ (j : Nat), (∃ jj : Nat → Value, l = [.slice A xs.length c, .slice A2 ys.length c2, jj 2, jj 3, .bool false, jj 5, jj 6, jj 7, jj 8, jj 9, jj 10, jj 11, .int .i64 (xs.length : Int), .int .i64 (j : Int), jj 14, jj 15, jj 16, jj 17, jj 18, jj 19, jj 20, jj 21, jj 22, jj 23, jj 24, jj 25]) ∧ n + j = xs.length ∧ Mem [] w0 w [] ∧ xs.take j = ys.take j) xs.length
    ⟨0, exj rfl, rfl, hM, rfl⟩ ?_
  clear hM
  rintro n l w ⟨j, ⟨jj, rfl⟩, hnj, hM, hf⟩
  repeat (first | ((with_reducible apply is_ld); first | refine kld hM ?_ | refine kldw hM ?_ | refine kle hM ?_ | refine klew hM ?_) | ((with_reducible apply is_sto); first | (refine kst hM ?_; intro w hM) | (refine kstw hM ?_; intro w hM)) | ((with_reducible apply is_st); refine su ?_) | ((with_reducible apply is_gd); first | refine gt ?_ | refine gf ?_ | refine gu ?_) | ((with_reducible apply is_en); refine en ?_) | (with_reducible apply c_region) | refine ws ?_ | refine x_block_other (by decide) ?_)
  refine c_cond rfl (fun hj => ?_) (fun hj => ?_)
  · repeat (first | ((with_reducible apply is_ld); first | refine kld hM ?_ | refine kldw hM ?_ | refine kle hM ?_ | refine klew hM ?_) | ((with_reducible apply is_sto); first | (refine kst hM ?_; intro w hM) | (refine kstw hM ?_; intro w hM)) | ((with_reducible apply is_st); refine su ?_) | ((with_reducible apply is_gd); first | refine gt ?_ | refine gf ?_ | refine gu ?_) | ((with_reducible apply is_en); refine en ?_) | (with_reducible apply c_region) | refine ws ?_ | refine x_block_other (by decide) ?_)
    refine kdr hM (by kernel_rfl) (by kernel_rfl) (fun w hM => ?_)
    repeat (first | ((with_reducible apply is_ldg); first | refine kldg hM ?_ | refine kldwg hM ?_) | ((with_reducible apply is_sg); refine sgu ?_) | ((with_reducible apply is_gg); first | refine gtg ?_ | refine gfg ?_ | refine gug ?_) | ((with_reducible apply is_eg); refine eg ?_))
    refine kixg hX (fun o1 o2 x hx hA => ?_)
    refine katrg hM hA ?_
    repeat (first | ((with_reducible apply is_ldg); first | refine kldg hM ?_ | refine kldwg hM ?_) | ((with_reducible apply is_sg); refine sgu ?_) | ((with_reducible apply is_gg); first | refine gtg ?_ | refine gfg ?_ | refine gug ?_) | ((with_reducible apply is_eg); refine eg ?_))
    refine kixg hY (fun o3 o4 y hy hA' => ?_)
    refine katrg hM hA' ?_
    rw [Int.toNat_natCast] at hx hy
    (try ((with_reducible apply is_gg); first | refine gtg ?_ | refine gfg ?_ | refine gug ?_)); refine wg_val (fun _ _ => r_neqS (by kernel_rfl) (by kernel_rfl) (by kernel_rfl) rfl rfl (pr_cmp x y)) ?_
    repeat (first | ((with_reducible apply is_ldg); first | refine kldg hM ?_ | refine kldwg hM ?_) | ((with_reducible apply is_sg); refine sgu ?_) | ((with_reducible apply is_gg); first | refine gtg ?_ | refine gfg ?_ | refine gug ?_) | ((with_reducible apply is_eg); refine eg ?_))
    (intro w hc; have hM := hM.call hc)
    repeat (first | ((with_reducible apply is_ld); first | refine kld hM ?_ | refine kldw hM ?_ | refine kle hM ?_ | refine klew hM ?_) | ((with_reducible apply is_sto); first | (refine kst hM ?_; intro w hM) | (refine kstw hM ?_; intro w hM)) | ((with_reducible apply is_st); refine su ?_) | ((with_reducible apply is_gd); first | refine gt ?_ | refine gf ?_ | refine gu ?_) | ((with_reducible apply is_en); refine en ?_) | (with_reducible apply c_region) | refine ws ?_ | refine x_block_other (by decide) ?_)
    by_cases hxy : x = y
    · rw [decide_eq_true hxy]
      refine c_condb rfl (fun h => by cases h) (fun _ => ?_)
      repeat (first | ((with_reducible apply is_ld); first | refine kld hM ?_ | refine kldw hM ?_ | refine kle hM ?_ | refine klew hM ?_) | ((with_reducible apply is_sto); first | (refine kst hM ?_; intro w hM) | (refine kstw hM ?_; intro w hM)) | ((with_reducible apply is_st); refine su ?_) | ((with_reducible apply is_gd); first | refine gt ?_ | refine gf ?_ | refine gu ?_) | ((with_reducible apply is_en); refine en ?_) | (with_reducible apply c_region) | refine ws ?_ | refine x_block_other (by decide) ?_)
      exact x_goes (n - 1) rfl (by omega) ⟨j + 1, exj rfl, by omega, hM.sub (by (repeat constructor)), take_step hx hy hf hxy⟩
    · rw [decide_eq_false hxy]
      refine c_condb rfl (fun _ => ?_) (fun h => by cases h)
      repeat (first | ((with_reducible apply is_ld); first | refine kld hM ?_ | refine kldw hM ?_ | refine kle hM ?_ | refine klew hM ?_) | ((with_reducible apply is_sto); first | (refine kst hM ?_; intro w hM) | (refine kstw hM ?_; intro w hM)) | ((with_reducible apply is_st); refine su ?_) | ((with_reducible apply is_gd); first | refine gt ?_ | refine gf ?_ | refine gu ?_) | ((with_reducible apply is_en); refine en ?_) | (with_reducible apply c_region) | refine ws ?_ | refine x_block_other (by decide) ?_)
      exact out1 rfl ⟨congrArg Value.bool (decide_eq_false (fun h => hxy (by rw [h, hy] at hx; injection hx with hx; exact hx.symm))).symm, hM.ch⟩
  · repeat (first | ((with_reducible apply is_ld); first | refine kld hM ?_ | refine kldw hM ?_ | refine kle hM ?_ | refine klew hM ?_) | ((with_reducible apply is_sto); first | (refine kst hM ?_; intro w hM) | (refine kstw hM ?_; intro w hM)) | ((with_reducible apply is_st); refine su ?_) | ((with_reducible apply is_gd); first | refine gt ?_ | refine gf ?_ | refine gu ?_) | ((with_reducible apply is_en); refine en ?_) | (with_reducible apply c_region) | refine ws ?_ | refine x_block_other (by decide) ?_)
    exact out1 rfl ⟨congrArg Value.bool (decide_eq_true (take_eq_iff hl (by omega) hf)).symm, hM.ch⟩
set_option maxHeartbeats 4000000 in
theorem rsameL_any (va vb : Value) (xs ys : List Pr) (w0 : World) (hX : (Ty.enc ePr).Rd [] w0 va xs) (hY : (Ty.enc ePr).Rd [] w0 vb ys) :
    Calls Tryd.prog 75 #[va, vb] w0 (Ret fun u w' => u = .bool (decide (xs = ys)) ∧ Ch [] w0 w') := by
  have hM := Mem.start w0
  obtain ⟨A, c, rfl⟩ := hX.form
  obtain ⟨A2, c2, rfl⟩ := hY.form
  have hl1 := hX.le
  have hl2 := hY.le
  refine enter [.slice A xs.length c, .slice A2 ys.length c2, undef, undef, undef, undef, undef, undef, undef, undef, undef, undef, undef, undef, undef, undef, undef, undef, undef, undef, undef, undef, undef, undef, undef, undef] Tryd.func75 rfl rfl ?_
  repeat (first | ((with_reducible apply is_ld); first | refine kld hM ?_ | refine kldw hM ?_ | refine kle hM ?_ | refine klew hM ?_) | ((with_reducible apply is_sto); first | (refine kst hM ?_; intro w hM) | (refine kstw hM ?_; intro w hM)) | ((with_reducible apply is_st); refine su ?_) | ((with_reducible apply is_gd); first | refine gt ?_ | refine gf ?_ | refine gu ?_) | ((with_reducible apply is_en); refine en ?_) | (with_reducible apply c_region) | refine ws ?_ | refine x_block_other (by decide) ?_)
  refine c_cond rfl (fun q1 => ?_) (fun q1 => ?_)
  · repeat (first | ((with_reducible apply is_ld); first | refine kld hM ?_ | refine kldw hM ?_ | refine kle hM ?_ | refine klew hM ?_) | ((with_reducible apply is_sto); first | (refine kst hM ?_; intro w hM) | (refine kstw hM ?_; intro w hM)) | ((with_reducible apply is_st); refine su ?_) | ((with_reducible apply is_gd); first | refine gt ?_ | refine gf ?_ | refine gu ?_) | ((with_reducible apply is_en); refine en ?_) | (with_reducible apply c_region) | refine ws ?_ | refine x_block_other (by decide) ?_)
    refine out1 rfl ⟨congrArg Value.bool (decide_eq_false (fun h => q1 (by rw [h]))).symm, hM.ch⟩
  have hl : xs.length = ys.length := by omega
  repeat (first | ((with_reducible apply is_ld); first | refine kld hM ?_ | refine kldw hM ?_ | refine kle hM ?_ | refine klew hM ?_) | ((with_reducible apply is_sto); first | (refine kst hM ?_; intro w hM) | (refine kstw hM ?_; intro w hM)) | ((with_reducible apply is_st); refine su ?_) | ((with_reducible apply is_gd); first | refine gt ?_ | refine gf ?_ | refine gu ?_) | ((with_reducible apply is_en); refine en ?_) | (with_reducible apply c_region) | refine ws ?_ | refine x_block_other (by decide) ?_)
  
  refine c_loop (fun n l w => ∃ (j : Nat), (∃ jj : Nat → Value, l = [.slice A xs.length c, .slice A2 ys.length c2, jj 2, jj 3, .bool false, jj 5, jj 6, jj 7, jj 8, jj 9, jj 10, jj 11, .int .i64 (xs.length : Int), .int .i64 (j : Int), jj 14, jj 15, jj 16, jj 17, jj 18, jj 19, jj 20, jj 21, jj 22, jj 23, jj 24, jj 25]) ∧ n + j = xs.length ∧ Mem [] w0 w [] ∧ xs.take j = ys.take j) xs.length
    ⟨0, exj rfl, rfl, hM, rfl⟩ ?_
  clear hM
  rintro n l w ⟨j, ⟨jj, rfl⟩, hnj, hM, hf⟩
  repeat (first | ((with_reducible apply is_ld); first | refine kld hM ?_ | refine kldw hM ?_ | refine kle hM ?_ | refine klew hM ?_) | ((with_reducible apply is_sto); first | (refine kst hM ?_; intro w hM) | (refine kstw hM ?_; intro w hM)) | ((with_reducible apply is_st); refine su ?_) | ((with_reducible apply is_gd); first | refine gt ?_ | refine gf ?_ | refine gu ?_) | ((with_reducible apply is_en); refine en ?_) | (with_reducible apply c_region) | refine ws ?_ | refine x_block_other (by decide) ?_)
  refine c_cond rfl (fun hj => ?_) (fun hj => ?_)
  · repeat (first | ((with_reducible apply is_ld); first | refine kld hM ?_ | refine kldw hM ?_ | refine kle hM ?_ | refine klew hM ?_) | ((with_reducible apply is_sto); first | (refine kst hM ?_; intro w hM) | (refine kstw hM ?_; intro w hM)) | ((with_reducible apply is_st); refine su ?_) | ((with_reducible apply is_gd); first | refine gt ?_ | refine gf ?_ | refine gu ?_) | ((with_reducible apply is_en); refine en ?_) | (with_reducible apply c_region) | refine ws ?_ | refine x_block_other (by decide) ?_)
    refine kdr hM (by kernel_rfl) (by kernel_rfl) (fun w hM => ?_)
    repeat (first | ((with_reducible apply is_ldg); first | refine kldg hM ?_ | refine kldwg hM ?_) | ((with_reducible apply is_sg); refine sgu ?_) | ((with_reducible apply is_gg); first | refine gtg ?_ | refine gfg ?_ | refine gug ?_) | ((with_reducible apply is_eg); refine eg ?_))
    refine kixg hX (fun o1 o2 x hx hA => ?_)
    refine katrg hM hA ?_
    repeat (first | ((with_reducible apply is_ldg); first | refine kldg hM ?_ | refine kldwg hM ?_) | ((with_reducible apply is_sg); refine sgu ?_) | ((with_reducible apply is_gg); first | refine gtg ?_ | refine gfg ?_ | refine gug ?_) | ((with_reducible apply is_eg); refine eg ?_))
    refine kixg hY (fun o3 o4 y hy hA' => ?_)
    refine katrg hM hA' ?_
    rw [Int.toNat_natCast] at hx hy
    (try ((with_reducible apply is_gg); first | refine gtg ?_ | refine gfg ?_ | refine gug ?_)); refine wg_val (fun _ _ => r_neqS (by kernel_rfl) (by kernel_rfl) (by kernel_rfl) rfl rfl (pr_cmp x y)) ?_
    repeat (first | ((with_reducible apply is_ldg); first | refine kldg hM ?_ | refine kldwg hM ?_) | ((with_reducible apply is_sg); refine sgu ?_) | ((with_reducible apply is_gg); first | refine gtg ?_ | refine gfg ?_ | refine gug ?_) | ((with_reducible apply is_eg); refine eg ?_))
    (intro w hc; have hM := hM.call hc)
    repeat (first | ((with_reducible apply is_ld); first | refine kld hM ?_ | refine kldw hM ?_ | refine kle hM ?_ | refine klew hM ?_) | ((with_reducible apply is_sto); first | (refine kst hM ?_; intro w hM) | (refine kstw hM ?_; intro w hM)) | ((with_reducible apply is_st); refine su ?_) | ((with_reducible apply is_gd); first | refine gt ?_ | refine gf ?_ | refine gu ?_) | ((with_reducible apply is_en); refine en ?_) | (with_reducible apply c_region) | refine ws ?_ | refine x_block_other (by decide) ?_)
    by_cases hxy : x = y
    · rw [decide_eq_true hxy]
      refine c_condb rfl (fun h => by cases h) (fun _ => ?_)
      repeat (first | ((with_reducible apply is_ld); first | refine kld hM ?_ | refine kldw hM ?_ | refine kle hM ?_ | refine klew hM ?_) | ((with_reducible apply is_sto); first | (refine kst hM ?_; intro w hM) | (refine kstw hM ?_; intro w hM)) | ((with_reducible apply is_st); refine su ?_) | ((with_reducible apply is_gd); first | refine gt ?_ | refine gf ?_ | refine gu ?_) | ((with_reducible apply is_en); refine en ?_) | (with_reducible apply c_region) | refine ws ?_ | refine x_block_other (by decide) ?_)
      exact x_goes (n - 1) rfl (by omega) ⟨j + 1, exj rfl, by omega, hM.sub (by (repeat constructor)), take_step hx hy hf hxy⟩
    · rw [decide_eq_false hxy]
      refine c_condb rfl (fun _ => ?_) (fun h => by cases h)
      repeat (first | ((with_reducible apply is_ld); first | refine kld hM ?_ | refine kldw hM ?_ | refine kle hM ?_ | refine klew hM ?_) | ((with_reducible apply is_sto); first | (refine kst hM ?_; intro w hM) | (refine kstw hM ?_; intro w hM)) | ((with_reducible apply is_st); refine su ?_) | ((with_reducible apply is_gd); first | refine gt ?_ | refine gf ?_ | refine gu ?_) | ((with_reducible apply is_en); refine en ?_) | (with_reducible apply c_region) | refine ws ?_ | refine x_block_other (by decide) ?_)
      exact out1 rfl ⟨congrArg Value.bool (decide_eq_false (fun h => hxy (by rw [h, hy] at hx; injection hx with hx; exact hx.symm))).symm, hM.ch⟩
  · repeat (first | ((with_reducible apply is_ld); first | refine kld hM ?_ | refine kldw hM ?_ | refine kle hM ?_ | refine klew hM ?_) | ((with_reducible apply is_sto); first | (refine kst hM ?_; intro w hM) | (refine kstw hM ?_; intro w hM)) | ((with_reducible apply is_st); refine su ?_) | ((with_reducible apply is_gd); first | refine gt ?_ | refine gf ?_ | refine gu ?_) | ((with_reducible apply is_en); refine en ?_) | (with_reducible apply c_region) | refine ws ?_ | refine x_block_other (by decide) ?_)
    exact out1 rfl ⟨congrArg Value.bool (decide_eq_true (take_eq_iff hl (by omega) hf)).symm, hM.ch⟩
set_option maxHeartbeats 4000000 in
theorem sameRead_any (x y : RR) (ps qs : List Pr) (w0 : World) (hX : (Ty.enc ePr).Rd [] w0 (slv x.2.2.2) ps) (hY : (Ty.enc ePr).Rd [] w0 (slv y.2.2.2) qs) :
    Calls Tryd.prog 72 #[.agg (eRr.f x).toArray, .agg (eRr.f y).toArray] w0 (Ret fun u w' => u = .bool (decide (dat (x, ps) = dat (y, qs))) ∧ Ch [] w0 w') := by
  have hM := Mem.start w0
  obtain ⟨sc, key, to, A3, n3, c3⟩ := x
  obtain ⟨sc2, key2, to2, A4, n4, c4⟩ := y
  refine enter [.agg (eRr.f (sc, key, to, (A3, n3, c3))).toArray, .agg (eRr.f (sc2, key2, to2, (A4, n4, c4))).toArray, undef, undef, undef, undef, undef, undef, undef, undef, undef, undef, undef, undef, undef, undef, undef, undef, undef, undef, undef, undef, undef, undef, undef, undef, undef, undef, undef, undef, undef] Tryd.func72 rfl rfl ?_
  repeat (first | ((with_reducible apply is_ld); first | refine kld hM ?_ | refine kldw hM ?_ | refine kle hM ?_ | refine klew hM ?_) | ((with_reducible apply is_sto); first | (refine kst hM ?_; intro w hM) | (refine kstw hM ?_; intro w hM)) | ((with_reducible apply is_st); refine su ?_) | ((with_reducible apply is_gd); first | refine gt ?_ | refine gf ?_ | refine gu ?_) | ((with_reducible apply is_en); refine en ?_) | (with_reducible apply c_region) | refine ws ?_ | refine x_block_other (by decide) ?_)
  refine kbx hM (fun w b2 hM => ?_)
  refine kbx hM (fun w b3 hM => ?_)
  have hM : Mem [] w0 w [.cell b3 (eRr.f (sc2, key2, to2, (A4, n4, c4))) 125, .cell b2 (eRr.f (sc, key, to, (A3, n3, c3))) 125] := hM
  repeat (first | ((with_reducible apply is_ld); first | refine kld hM ?_ | refine kldw hM ?_ | refine kle hM ?_ | refine klew hM ?_) | ((with_reducible apply is_sto); first | (refine kst hM ?_; intro w hM) | (refine kstw hM ?_; intro w hM)) | ((with_reducible apply is_st); refine su ?_) | ((with_reducible apply is_gd); first | refine gt ?_ | refine gf ?_ | refine gu ?_) | ((with_reducible apply is_en); refine en ?_) | (with_reducible apply c_region) | refine ws ?_ | refine x_block_other (by decide) ?_)
  (try ((with_reducible apply is_gd); first | refine gt ?_ | refine gf ?_ | refine gu ?_)); refine wl_val (r_eqbb (a := sc) (b := sc2) rfl rfl) ?_
  rw [bool_beq]
  by_cases q1 : sc = sc2
  rotate_left
  · rw [decide_eq_false q1]
    repeat (first | ((with_reducible apply is_ld); first | refine kld hM ?_ | refine kldw hM ?_ | refine kle hM ?_ | refine klew hM ?_) | ((with_reducible apply is_sto); first | (refine kst hM ?_; intro w hM) | (refine kstw hM ?_; intro w hM)) | ((with_reducible apply is_st); refine su ?_) | ((with_reducible apply is_gd); first | refine gt ?_ | refine gf ?_ | refine gu ?_) | ((with_reducible apply is_en); refine en ?_) | (with_reducible apply c_region) | refine ws ?_ | refine x_block_other (by decide) ?_)
    exact out1 rfl ⟨by simp [dat, q1, ev, nth], hM.ch⟩
  rw [decide_eq_true q1]
  repeat (first | ((with_reducible apply is_ld); first | refine kld hM ?_ | refine kldw hM ?_ | refine kle hM ?_ | refine klew hM ?_) | ((with_reducible apply is_sto); first | (refine kst hM ?_; intro w hM) | (refine kstw hM ?_; intro w hM)) | ((with_reducible apply is_st); refine su ?_) | ((with_reducible apply is_gd); first | refine gt ?_ | refine gf ?_ | refine gu ?_) | ((with_reducible apply is_en); refine en ?_) | (with_reducible apply c_region) | refine ws ?_ | refine x_block_other (by decide) ?_)
  (try ((with_reducible apply is_gd); first | refine gt ?_ | refine gf ?_ | refine gu ?_)); refine wl_val (r_eqst (a := key) (b := key2)) ?_
  by_cases q2 : key = key2
  rotate_left
  · rw [decide_eq_false q2]
    repeat (first | ((with_reducible apply is_ld); first | refine kld hM ?_ | refine kldw hM ?_ | refine kle hM ?_ | refine klew hM ?_) | ((with_reducible apply is_sto); first | (refine kst hM ?_; intro w hM) | (refine kstw hM ?_; intro w hM)) | ((with_reducible apply is_st); refine su ?_) | ((with_reducible apply is_gd); first | refine gt ?_ | refine gf ?_ | refine gu ?_) | ((with_reducible apply is_en); refine en ?_) | (with_reducible apply c_region) | refine ws ?_ | refine x_block_other (by decide) ?_)
    exact out1 rfl ⟨by simp [dat, q2, ev, nth], hM.ch⟩
  rw [decide_eq_true q2]
  repeat (first | ((with_reducible apply is_ld); first | refine kld hM ?_ | refine kldw hM ?_ | refine kle hM ?_ | refine klew hM ?_) | ((with_reducible apply is_sto); first | (refine kst hM ?_; intro w hM) | (refine kstw hM ?_; intro w hM)) | ((with_reducible apply is_st); refine su ?_) | ((with_reducible apply is_gd); first | refine gt ?_ | refine gf ?_ | refine gu ?_) | ((with_reducible apply is_en); refine en ?_) | (with_reducible apply c_region) | refine ws ?_ | refine x_block_other (by decide) ?_)
  (try ((with_reducible apply is_gd); first | refine gt ?_ | refine gf ?_ | refine gu ?_)); refine wl_val (r_eqst (a := to) (b := to2)) ?_
  by_cases q3 : to = to2
  rotate_left
  · rw [decide_eq_false q3]
    repeat (first | ((with_reducible apply is_ld); first | refine kld hM ?_ | refine kldw hM ?_ | refine kle hM ?_ | refine klew hM ?_) | ((with_reducible apply is_sto); first | (refine kst hM ?_; intro w hM) | (refine kstw hM ?_; intro w hM)) | ((with_reducible apply is_st); refine su ?_) | ((with_reducible apply is_gd); first | refine gt ?_ | refine gf ?_ | refine gu ?_) | ((with_reducible apply is_en); refine en ?_) | (with_reducible apply c_region) | refine ws ?_ | refine x_block_other (by decide) ?_)
    exact out1 rfl ⟨by simp [dat, q3, ev, nth], hM.ch⟩
  rw [decide_eq_true q3]
  repeat (first | ((with_reducible apply is_ld); first | refine kld hM ?_ | refine kldw hM ?_ | refine kle hM ?_ | refine klew hM ?_) | ((with_reducible apply is_sto); first | (refine kst hM ?_; intro w hM) | (refine kstw hM ?_; intro w hM)) | ((with_reducible apply is_st); refine su ?_) | ((with_reducible apply is_gd); first | refine gt ?_ | refine gf ?_ | refine gu ?_) | ((with_reducible apply is_en); refine en ?_) | (with_reducible apply c_region) | refine ws ?_ | refine x_block_other (by decide) ?_)
  (try ((with_reducible apply is_gd); first | refine gt ?_ | refine gf ?_ | refine gu ?_)); refine kca hM (equal_any _ _ ps qs w (hX.ch hM.ch) (hY.ch hM.ch)) (fun w hM => ?_)
  repeat (first | ((with_reducible apply is_ld); first | refine kld hM ?_ | refine kldw hM ?_ | refine kle hM ?_ | refine klew hM ?_) | ((with_reducible apply is_sto); first | (refine kst hM ?_; intro w hM) | (refine kstw hM ?_; intro w hM)) | ((with_reducible apply is_st); refine su ?_) | ((with_reducible apply is_gd); first | refine gt ?_ | refine gf ?_ | refine gu ?_) | ((with_reducible apply is_en); refine en ?_) | (with_reducible apply c_region) | refine ws ?_ | refine x_block_other (by decide) ?_)
  exact out1 rfl ⟨by simp [dat, q1, q2, q3, ev, nth], hM.ch⟩
theorem dat_iff {u v : RR × List Pr} : dat u = dat v ↔ u.1.1 = v.1.1 ∧ u.1.2.1 = v.1.2.1 ∧ u.1.2.2.1 = v.1.2.2.1 ∧ u.2 = v.2 := by
  simp [dat]
theorem map_at {α β : Type} {f : α → β} {l : List α} {i : Nat} {b : β} (h : (l.map f)[i]? = some b) : ∃ a, l[i]? = some a ∧ f a = b := by
  rw [List.getElem?_map] at h
  exact Option.map_eq_some_iff.1 h
theorem map_take_step {α β : Type} {f : α → β} {xs ys : List α} {j : Nat} {x y : α} (hx : xs[j]? = some x) (hy : ys[j]? = some y) (h : (xs.take j).map f = (ys.take j).map f) (he : f x = f y) : (xs.take (j + 1)).map f = (ys.take (j + 1)).map f := by
  rw [List.take_add_one, List.take_add_one, hx, hy, List.map_append, List.map_append, h]
  simp [he]
theorem map_at_eq {α β : Type} {f : α → β} {xs ys : List α} {j : Nat} {x y : α} (hx : xs[j]? = some x) (hy : ys[j]? = some y) (h : xs.map f = ys.map f) : f x = f y := by
  have h1 : (xs.map f)[j]? = some (f x) := by rw [List.getElem?_map, hx]; rfl
  rw [h, List.getElem?_map, hy] at h1
  injection h1 with h1
  exact h1.symm
set_option maxHeartbeats 16000000 in
theorem equalFunc_any (va vb : Value) (us vs : List (RR × List Pr)) (w0 : World) (hX : (Ty.enc eRr).Rd [] w0 va (us.map (fun u : RR × List Pr => u.1))) (hY : (Ty.enc eRr).Rd [] w0 vb (vs.map (fun u : RR × List Pr => u.1)))
    (hU : ∀ u ∈ us, (Ty.enc ePr).Rd [] w0 (slv u.1.2.2.2) u.2) (hV : ∀ u ∈ vs, (Ty.enc ePr).Rd [] w0 (slv u.1.2.2.2) u.2) :
    Calls Tryd.prog 71 #[va, vb, .func (.func 72) #[] #[]] w0 (Ret fun u w' => u = .bool (decide (us.map dat = vs.map dat)) ∧ Ch [] w0 w') := by
  have hM := Mem.start w0
  obtain ⟨A, c, rfl⟩ := hX.form
  obtain ⟨A2, c2, rfl⟩ := hY.form
  have hl1 := hX.le
  have hl2 := hY.le
  simp only [List.length_map] at hX hY hl1 hl2 ⊢
  refine enter [.slice A us.length c, .slice A2 vs.length c2, .func (.func 72) #[] #[], undef, undef, undef, undef, undef, undef, undef, undef, undef, undef, undef, undef, undef, undef, undef, undef, undef, undef, undef, undef, undef, undef, undef, undef, undef, undef, undef, undef, undef] Tryd.func71 rfl rfl ?_
  repeat (first | ((with_reducible apply is_ld); first | refine kld hM ?_ | refine kldw hM ?_ | refine kle hM ?_ | refine klew hM ?_) | ((with_reducible apply is_sto); first | (refine kst hM ?_; intro w hM) | (refine kstw hM ?_; intro w hM)) | ((with_reducible apply is_st); refine su ?_) | ((with_reducible apply is_gd); first | refine gt ?_ | refine gf ?_ | refine gu ?_) | ((with_reducible apply is_en); refine en ?_) | (with_reducible apply c_region) | refine ws ?_ | refine x_block_other (by decide) ?_)
  refine c_cond rfl (fun q1 => ?_) (fun q1 => ?_)
  · repeat (first | ((with_reducible apply is_ld); first | refine kld hM ?_ | refine kldw hM ?_ | refine kle hM ?_ | refine klew hM ?_) | ((with_reducible apply is_sto); first | (refine kst hM ?_; intro w hM) | (refine kstw hM ?_; intro w hM)) | ((with_reducible apply is_st); refine su ?_) | ((with_reducible apply is_gd); first | refine gt ?_ | refine gf ?_ | refine gu ?_) | ((with_reducible apply is_en); refine en ?_) | (with_reducible apply c_region) | refine ws ?_ | refine x_block_other (by decide) ?_)
    refine out1 rfl ⟨congrArg Value.bool (decide_eq_false (fun h => q1 (by have h2 := congrArg List.length h; rw [List.length_map, List.length_map] at h2; rw [h2]))).symm, hM.ch⟩
  have hl : us.length = vs.length := by omega
  repeat (first | ((with_reducible apply is_ld); first | refine kld hM ?_ | refine kldw hM ?_ | refine kle hM ?_ | refine klew hM ?_) | ((with_reducible apply is_sto); first | (refine kst hM ?_; intro w hM) | (refine kstw hM ?_; intro w hM)) | ((with_reducible apply is_st); refine su ?_) | ((with_reducible apply is_gd); first | refine gt ?_ | refine gf ?_ | refine gu ?_) | ((with_reducible apply is_en); refine en ?_) | (with_reducible apply c_region) | refine ws ?_ | refine x_block_other (by decide) ?_)
  
  refine c_loop (fun n l w => ∃ (j : Nat), (∃ jj : Nat → Value, l = [.slice A us.length c, .slice A2 vs.length c2, .func (.func 72) #[] #[], jj 3, jj 4, jj 5, .bool false, jj 7, jj 8, jj 9, jj 10, jj 11, jj 12, jj 13, jj 14, .slice A us.length c, .int .i64 (us.length : Int), .int .i64 (j : Int), jj 18, jj 19, jj 20, jj 21, jj 22, jj 23, jj 24, jj 25, jj 26, jj 27, jj 28, jj 29, jj 30, jj 31]) ∧ n + j = us.length ∧ Mem [] w0 w [] ∧ (us.take j).map dat = (vs.take j).map dat) us.length
    ⟨0, exj rfl, rfl, hM, rfl⟩ ?_
  clear hM
  rintro n l w ⟨j, ⟨jj, rfl⟩, hnj, hM, hf⟩
  repeat (first | ((with_reducible apply is_ld); first | refine kld hM ?_ | refine kldw hM ?_ | refine kle hM ?_ | refine klew hM ?_) | ((with_reducible apply is_sto); first | (refine kst hM ?_; intro w hM) | (refine kstw hM ?_; intro w hM)) | ((with_reducible apply is_st); refine su ?_) | ((with_reducible apply is_gd); first | refine gt ?_ | refine gf ?_ | refine gu ?_) | ((with_reducible apply is_en); refine en ?_) | (with_reducible apply c_region) | refine ws ?_ | refine x_block_other (by decide) ?_)
  refine c_cond rfl (fun hj => ?_) (fun hj => ?_)
  · repeat (first | ((with_reducible apply is_ld); first | refine kld hM ?_ | refine kldw hM ?_ | refine kle hM ?_ | refine klew hM ?_) | ((with_reducible apply is_sto); first | (refine kst hM ?_; intro w hM) | (refine kstw hM ?_; intro w hM)) | ((with_reducible apply is_st); refine su ?_) | ((with_reducible apply is_gd); first | refine gt ?_ | refine gf ?_ | refine gu ?_) | ((with_reducible apply is_en); refine en ?_) | (with_reducible apply c_region) | refine ws ?_ | refine x_block_other (by decide) ?_)
    refine kix hX (fun o1 o2 x hp hA => ?_) (h1 := by rw [List.length_map]; omega)
    rw [Int.toNat_natCast] at hp
    obtain ⟨sc, key, to, A3, n3, c3⟩ := x
    refine katr hM hA ?_
    refine kal hM (fun w b4 hM => ?_)
    repeat (first | ((with_reducible apply is_ld); first | refine kld hM ?_ | refine kldw hM ?_ | refine kle hM ?_ | refine klew hM ?_) | ((with_reducible apply is_sto); first | (refine kst hM ?_; intro w hM) | (refine kstw hM ?_; intro w hM)) | ((with_reducible apply is_st); refine su ?_) | ((with_reducible apply is_gd); first | refine gt ?_ | refine gf ?_ | refine gu ?_) | ((with_reducible apply is_en); refine en ?_) | (with_reducible apply c_region) | refine ws ?_ | refine x_block_other (by decide) ?_)
    refine kstw (vs := eRr.f (sc, key, to, (A3, n3, c3))) hM (fun w hM => ?_) (h1 := eRr.h1 (sc, key, to, (A3, n3, c3)))
    repeat (first | ((with_reducible apply is_ld); first | refine kld hM ?_ | refine kldw hM ?_ | refine kle hM ?_ | refine klew hM ?_) | ((with_reducible apply is_sto); first | (refine kst hM ?_; intro w hM) | (refine kstw hM ?_; intro w hM)) | ((with_reducible apply is_st); refine su ?_) | ((with_reducible apply is_gd); first | refine gt ?_ | refine gf ?_ | refine gu ?_) | ((with_reducible apply is_en); refine en ?_) | (with_reducible apply c_region) | refine ws ?_ | refine x_block_other (by decide) ?_)
    refine kix hY (fun o3 o4 y hq hA2 => ?_) (h1 := by rw [List.length_map]; omega)
    rw [Int.toNat_natCast] at hq
    obtain ⟨sc2, key2, to2, A4, n4, c4⟩ := y
    refine katr hM hA2 ?_
    refine kal hM (fun w b5 hM => ?_)
    refine kstw (vs := eRr.f (sc2, key2, to2, (A4, n4, c4))) hM (fun w hM => ?_) (h1 := eRr.h1 (sc2, key2, to2, (A4, n4, c4)))
    have hM : Mem [] w0 w [.cell b5 (eRr.f (sc2, key2, to2, (A4, n4, c4))) 125, .cell b4 (eRr.f (sc, key, to, (A3, n3, c3))) 125] := hM
    obtain ⟨u, hu, hux⟩ := map_at hp
    obtain ⟨v, hv, hvx⟩ := map_at hq
    have hUu := hU u (List.mem_of_getElem? hu)
    have hVv := hV v (List.mem_of_getElem? hv)
    obtain ⟨x2, ps⟩ := u
    obtain ⟨y2, qs⟩ := v
    simp only at hux hvx hUu hVv
    subst hux
    subst hvx
    repeat (first | ((with_reducible apply is_ld); first | refine kld hM ?_ | refine kldw hM ?_ | refine kle hM ?_ | refine klew hM ?_) | ((with_reducible apply is_sto); first | (refine kst hM ?_; intro w hM) | (refine kstw hM ?_; intro w hM)) | ((with_reducible apply is_st); refine su ?_) | ((with_reducible apply is_gd); first | refine gt ?_ | refine gf ?_ | refine gu ?_) | ((with_reducible apply is_en); refine en ?_) | (with_reducible apply c_region) | refine ws ?_ | refine x_block_other (by decide) ?_)
    refine kcd (vs := [.agg (eRr.f (sc, key, to, (A3, n3, c3))).toArray, .agg (eRr.f (sc2, key2, to2, (A4, n4, c4))).toArray]) (lb := #[]) (sameRead_any (sc, key, to, (A3, n3, c3)) (sc2, key2, to2, (A4, n4, c4)) ps qs w (hUu.ch hM.ch) (hVv.ch hM.ch)) (fun v w' hv => ?_)
    obtain ⟨rfl, hc⟩ := hv
    have hM := hM.call hc
    by_cases hxy : dat ((sc, key, to, (A3, n3, c3)), ps) = dat ((sc2, key2, to2, (A4, n4, c4)), qs)
    · rw [decide_eq_true hxy]
      repeat (first | ((with_reducible apply is_ld); first | refine kld hM ?_ | refine kldw hM ?_ | refine kle hM ?_ | refine klew hM ?_) | ((with_reducible apply is_sto); first | (refine kst hM ?_; intro w hM) | (refine kstw hM ?_; intro w hM)) | ((with_reducible apply is_st); refine su ?_) | ((with_reducible apply is_gd); first | refine gt ?_ | refine gf ?_ | refine gu ?_) | ((with_reducible apply is_en); refine en ?_) | (with_reducible apply c_region) | refine ws ?_ | refine x_block_other (by decide) ?_)
      refine c_condb rfl (fun h => by cases h) (fun _ => ?_)
      repeat (first | ((with_reducible apply is_ld); first | refine kld hM ?_ | refine kldw hM ?_ | refine kle hM ?_ | refine klew hM ?_) | ((with_reducible apply is_sto); first | (refine kst hM ?_; intro w hM) | (refine kstw hM ?_; intro w hM)) | ((with_reducible apply is_st); refine su ?_) | ((with_reducible apply is_gd); first | refine gt ?_ | refine gf ?_ | refine gu ?_) | ((with_reducible apply is_en); refine en ?_) | (with_reducible apply c_region) | refine ws ?_ | refine x_block_other (by decide) ?_)
      exact x_goes (n - 1) rfl (by omega) ⟨j + 1, exj rfl, by omega, hM.sub (by (repeat constructor)), map_take_step hu hv hf hxy⟩
    · rw [decide_eq_false hxy]
      repeat (first | ((with_reducible apply is_ld); first | refine kld hM ?_ | refine kldw hM ?_ | refine kle hM ?_ | refine klew hM ?_) | ((with_reducible apply is_sto); first | (refine kst hM ?_; intro w hM) | (refine kstw hM ?_; intro w hM)) | ((with_reducible apply is_st); refine su ?_) | ((with_reducible apply is_gd); first | refine gt ?_ | refine gf ?_ | refine gu ?_) | ((with_reducible apply is_en); refine en ?_) | (with_reducible apply c_region) | refine ws ?_ | refine x_block_other (by decide) ?_)
      refine c_condb rfl (fun _ => ?_) (fun h => by cases h)
      repeat (first | ((with_reducible apply is_ld); first | refine kld hM ?_ | refine kldw hM ?_ | refine kle hM ?_ | refine klew hM ?_) | ((with_reducible apply is_sto); first | (refine kst hM ?_; intro w hM) | (refine kstw hM ?_; intro w hM)) | ((with_reducible apply is_st); refine su ?_) | ((with_reducible apply is_gd); first | refine gt ?_ | refine gf ?_ | refine gu ?_) | ((with_reducible apply is_en); refine en ?_) | (with_reducible apply c_region) | refine ws ?_ | refine x_block_other (by decide) ?_)
      exact out1 rfl ⟨congrArg Value.bool (decide_eq_false (fun h => hxy (map_at_eq hu hv h))).symm, hM.ch⟩
  · repeat (first | ((with_reducible apply is_ld); first | refine kld hM ?_ | refine kldw hM ?_ | refine kle hM ?_ | refine klew hM ?_) | ((with_reducible apply is_sto); first | (refine kst hM ?_; intro w hM) | (refine kstw hM ?_; intro w hM)) | ((with_reducible apply is_st); refine su ?_) | ((with_reducible apply is_gd); first | refine gt ?_ | refine gf ?_ | refine gu ?_) | ((with_reducible apply is_en); refine en ?_) | (with_reducible apply c_region) | refine ws ?_ | refine x_block_other (by decide) ?_)
    exact out1 rfl ⟨congrArg Value.bool (decide_eq_true (by rwa [List.take_of_length_le (by omega), List.take_of_length_le (by omega)] at hf)).symm, hM.ch⟩
set_option maxHeartbeats 16000000 in
theorem rsameReads_any (va vb : Value) (us vs : List (RR × List Pr)) (w0 : World) (hX : (Ty.enc eRr).Rd [] w0 va (us.map (fun u : RR × List Pr => u.1))) (hY : (Ty.enc eRr).Rd [] w0 vb (vs.map (fun u : RR × List Pr => u.1)))
    (hU : ∀ u ∈ us, (Ty.enc ePr).Rd [] w0 (slv u.1.2.2.2) u.2) (hV : ∀ u ∈ vs, (Ty.enc ePr).Rd [] w0 (slv u.1.2.2.2) u.2) :
    Calls Tryd.prog 74 #[va, vb] w0 (Ret fun u w' => u = .bool (decide (us.map dat = vs.map dat)) ∧ Ch [] w0 w') := by
  have hM := Mem.start w0
  obtain ⟨A, c, rfl⟩ := hX.form
  obtain ⟨A2, c2, rfl⟩ := hY.form
  have hl1 := hX.le
  have hl2 := hY.le
  simp only [List.length_map] at hX hY hl1 hl2 ⊢
  refine enter [.slice A us.length c, .slice A2 vs.length c2, undef, undef, undef, undef, undef, undef, undef, undef, undef, undef, undef, undef, undef, undef, undef, undef, undef, undef, undef, undef, undef, undef, undef, undef, undef, undef, undef, undef, undef, undef, undef, undef, undef, undef, undef, undef, undef, undef, undef, undef, undef, undef, undef, undef, undef, undef, undef, undef, undef, undef, undef, undef, undef, undef, undef, undef, undef, undef, undef, undef, undef, undef, undef, undef, undef, undef] Tryd.func74 rfl rfl ?_
  repeat (first | ((with_reducible apply is_ld); first | refine kld hM ?_ | refine kldw hM ?_ | refine kle hM ?_ | refine klew hM ?_) | ((with_reducible apply is_sto); first | (refine kst hM ?_; intro w hM) | (refine kstw hM ?_; intro w hM)) | ((with_reducible apply is_st); refine su ?_) | ((with_reducible apply is_gd); first | refine gt ?_ | refine gf ?_ | refine gu ?_) | ((with_reducible apply is_en); refine en ?_) | (with_reducible apply c_region) | refine ws ?_ | refine x_block_other (by decide) ?_)
  refine c_cond rfl (fun q1 => ?_) (fun q1 => ?_)
  · repeat (first | ((with_reducible apply is_ld); first | refine kld hM ?_ | refine kldw hM ?_ | refine kle hM ?_ | refine klew hM ?_) | ((with_reducible apply is_sto); first | (refine kst hM ?_; intro w hM) | (refine kstw hM ?_; intro w hM)) | ((with_reducible apply is_st); refine su ?_) | ((with_reducible apply is_gd); first | refine gt ?_ | refine gf ?_ | refine gu ?_) | ((with_reducible apply is_en); refine en ?_) | (with_reducible apply c_region) | refine ws ?_ | refine x_block_other (by decide) ?_)
    refine out1 rfl ⟨congrArg Value.bool (decide_eq_false (fun h => q1 (by have h2 := congrArg List.length h; rw [List.length_map, List.length_map] at h2; rw [h2]))).symm, hM.ch⟩
  have hl : us.length = vs.length := by omega
  repeat (first | ((with_reducible apply is_ld); first | refine kld hM ?_ | refine kldw hM ?_ | refine kle hM ?_ | refine klew hM ?_) | ((with_reducible apply is_sto); first | (refine kst hM ?_; intro w hM) | (refine kstw hM ?_; intro w hM)) | ((with_reducible apply is_st); refine su ?_) | ((with_reducible apply is_gd); first | refine gt ?_ | refine gf ?_ | refine gu ?_) | ((with_reducible apply is_en); refine en ?_) | (with_reducible apply c_region) | refine ws ?_ | refine x_block_other (by decide) ?_)
  
  refine c_loop (fun n l w => ∃ (j : Nat), (∃ jj : Nat → Value, l = [.slice A us.length c, .slice A2 vs.length c2, jj 2, jj 3, .bool false, jj 5, jj 6, jj 7, jj 8, jj 9, jj 10, jj 11, .int .i64 (us.length : Int), .int .i64 (j : Int), jj 14, jj 15, jj 16, jj 17, jj 18, jj 19, jj 20, jj 21, jj 22, jj 23, jj 24, jj 25, jj 26, jj 27, jj 28, jj 29, jj 30, jj 31, jj 32, jj 33, jj 34, jj 35, jj 36, jj 37, jj 38, jj 39, jj 40, jj 41, jj 42, jj 43, jj 44, jj 45, jj 46, jj 47, jj 48, jj 49, jj 50, jj 51, jj 52, jj 53, jj 54, jj 55, jj 56, jj 57, jj 58, jj 59, jj 60, jj 61, jj 62, jj 63, jj 64, jj 65, jj 66, jj 67]) ∧ n + j = us.length ∧ Mem [] w0 w [] ∧ (us.take j).map dat = (vs.take j).map dat) us.length
    ⟨0, exj rfl, rfl, hM, rfl⟩ ?_
  clear hM
  rintro n l w ⟨j, ⟨jj, rfl⟩, hnj, hM, hf⟩
  repeat (first | ((with_reducible apply is_ld); first | refine kld hM ?_ | refine kldw hM ?_ | refine kle hM ?_ | refine klew hM ?_) | ((with_reducible apply is_sto); first | (refine kst hM ?_; intro w hM) | (refine kstw hM ?_; intro w hM)) | ((with_reducible apply is_st); refine su ?_) | ((with_reducible apply is_gd); first | refine gt ?_ | refine gf ?_ | refine gu ?_) | ((with_reducible apply is_en); refine en ?_) | (with_reducible apply c_region) | refine ws ?_ | refine x_block_other (by decide) ?_)
  refine c_cond rfl (fun hj => ?_) (fun hj => ?_)
  · repeat (first | ((with_reducible apply is_ld); first | refine kld hM ?_ | refine kldw hM ?_ | refine kle hM ?_ | refine klew hM ?_) | ((with_reducible apply is_sto); first | (refine kst hM ?_; intro w hM) | (refine kstw hM ?_; intro w hM)) | ((with_reducible apply is_st); refine su ?_) | ((with_reducible apply is_gd); first | refine gt ?_ | refine gf ?_ | refine gu ?_) | ((with_reducible apply is_en); refine en ?_) | (with_reducible apply c_region) | refine ws ?_ | refine x_block_other (by decide) ?_)
    have hx1 : ∃ u, us[j]? = some u := ⟨_, List.getElem?_eq_getElem (by omega)⟩
    obtain ⟨u, hu⟩ := hx1
    have hx2 : ∃ v, vs[j]? = some v := ⟨_, List.getElem?_eq_getElem (by omega)⟩
    obtain ⟨v, hv⟩ := hx2
    have hUu := hU u (List.mem_of_getElem? hu)
    have hVv := hV v (List.mem_of_getElem? hv)
    obtain ⟨⟨sc, key, to, A3, n3, c3⟩, ps⟩ := u
    obtain ⟨⟨sc2, key2, to2, A4, n4, c4⟩, qs⟩ := v
    simp only at hUu hVv
    refine kdr hM (by kernel_rfl) (by kernel_rfl) (fun w hM => ?_)
    repeat (first | ((with_reducible apply is_ldg); first | refine kldg hM ?_ | refine kldwg hM ?_) | ((with_reducible apply is_sg); refine sgu ?_) | ((with_reducible apply is_gg); first | refine gtg ?_ | refine gfg ?_ | refine gug ?_) | ((with_reducible apply is_eg); refine eg ?_))
    (try ((with_reducible apply is_gg); first | refine gtg ?_ | refine gfg ?_ | refine gug ?_)); refine kixg hX (fun o1 o2 x0 hp hA => ?_) (h1 := by rw [List.length_map]; omega)
    rw [Int.toNat_natCast, List.getElem?_map, hu] at hp
    injection hp with hp
    subst hp
    repeat (first | ((with_reducible apply is_ldg); first | refine kldg hM ?_ | refine kldwg hM ?_) | ((with_reducible apply is_sg); refine sgu ?_) | ((with_reducible apply is_gg); first | refine gtg ?_ | refine gfg ?_ | refine gug ?_) | ((with_reducible apply is_eg); refine eg ?_))
    (try ((with_reducible apply is_gg); first | refine gtg ?_ | refine gfg ?_ | refine gug ?_)); refine katg hM (hA.part (e2 := eBool) (y := sc) 0 rfl) ?_
    repeat (first | ((with_reducible apply is_ldg); first | refine kldg hM ?_ | refine kldwg hM ?_) | ((with_reducible apply is_sg); refine sgu ?_) | ((with_reducible apply is_gg); first | refine gtg ?_ | refine gfg ?_ | refine gug ?_) | ((with_reducible apply is_eg); refine eg ?_))
    (try ((with_reducible apply is_gg); first | refine gtg ?_ | refine gfg ?_ | refine gug ?_)); refine kixg hY (fun o1 o2 y0 hp hA => ?_) (h1 := by rw [List.length_map]; omega)
    rw [Int.toNat_natCast, List.getElem?_map, hv] at hp
    injection hp with hp
    subst hp
    repeat (first | ((with_reducible apply is_ldg); first | refine kldg hM ?_ | refine kldwg hM ?_) | ((with_reducible apply is_sg); refine sgu ?_) | ((with_reducible apply is_gg); first | refine gtg ?_ | refine gfg ?_ | refine gug ?_) | ((with_reducible apply is_eg); refine eg ?_))
    (try ((with_reducible apply is_gg); first | refine gtg ?_ | refine gfg ?_ | refine gug ?_)); refine katg hM (hA.part (e2 := eBool) (y := sc2) 0 rfl) ?_
    repeat (first | ((with_reducible apply is_ldg); first | refine kldg hM ?_ | refine kldwg hM ?_) | ((with_reducible apply is_sg); refine sgu ?_) | ((with_reducible apply is_gg); first | refine gtg ?_ | refine gfg ?_ | refine gug ?_) | ((with_reducible apply is_eg); refine eg ?_))
    (try ((with_reducible apply is_gg); first | refine gtg ?_ | refine gfg ?_ | refine gug ?_)); refine wg_val (fun _ _ => r_neqB (a := sc) (b := sc2)) ?_
    by_cases q1 : sc = sc2
    rotate_left
    · rw [decide_eq_false q1]
      repeat (first | ((with_reducible apply is_ldg); first | refine kldg hM ?_ | refine kldwg hM ?_) | ((with_reducible apply is_sg); refine sgu ?_) | ((with_reducible apply is_gg); first | refine gtg ?_ | refine gfg ?_ | refine gug ?_) | ((with_reducible apply is_eg); refine eg ?_))
      (intro w hc; have hM := hM.call hc)
      repeat (first | ((with_reducible apply is_ld); first | refine kld hM ?_ | refine kldw hM ?_ | refine kle hM ?_ | refine klew hM ?_) | ((with_reducible apply is_sto); first | (refine kst hM ?_; intro w hM) | (refine kstw hM ?_; intro w hM)) | ((with_reducible apply is_st); refine su ?_) | ((with_reducible apply is_gd); first | refine gt ?_ | refine gf ?_ | refine gu ?_) | ((with_reducible apply is_en); refine en ?_) | (with_reducible apply c_region) | refine ws ?_ | refine x_block_other (by decide) ?_)
      refine c_condb rfl (fun _ => ?_) (fun h => by cases h)
      repeat (first | ((with_reducible apply is_ld); first | refine kld hM ?_ | refine kldw hM ?_ | refine kle hM ?_ | refine klew hM ?_) | ((with_reducible apply is_sto); first | (refine kst hM ?_; intro w hM) | (refine kstw hM ?_; intro w hM)) | ((with_reducible apply is_st); refine su ?_) | ((with_reducible apply is_gd); first | refine gt ?_ | refine gf ?_ | refine gu ?_) | ((with_reducible apply is_en); refine en ?_) | (with_reducible apply c_region) | refine ws ?_ | refine x_block_other (by decide) ?_)
      exact out1 rfl ⟨congrArg Value.bool (decide_eq_false (fun h => q1 (by have h2 := map_at_eq hu hv h; simp [dat] at h2; simp [h2]))).symm, hM.ch⟩
    rw [decide_eq_true q1]
    repeat (first | ((with_reducible apply is_ldg); first | refine kldg hM ?_ | refine kldwg hM ?_) | ((with_reducible apply is_sg); refine sgu ?_) | ((with_reducible apply is_gg); first | refine gtg ?_ | refine gfg ?_ | refine gug ?_) | ((with_reducible apply is_eg); refine eg ?_))
    (try ((with_reducible apply is_gg); first | refine gtg ?_ | refine gfg ?_ | refine gug ?_)); refine kixg hX (fun o1 o2 x1 hp hA => ?_) (h1 := by rw [List.length_map]; omega)
    rw [Int.toNat_natCast, List.getElem?_map, hu] at hp
    injection hp with hp
    subst hp
    repeat (first | ((with_reducible apply is_ldg); first | refine kldg hM ?_ | refine kldwg hM ?_) | ((with_reducible apply is_sg); refine sgu ?_) | ((with_reducible apply is_gg); first | refine gtg ?_ | refine gfg ?_ | refine gug ?_) | ((with_reducible apply is_eg); refine eg ?_))
    (try ((with_reducible apply is_gg); first | refine gtg ?_ | refine gfg ?_ | refine gug ?_)); refine katg hM (hA.part (e2 := eBst) (y := key) 1 rfl) ?_
    repeat (first | ((with_reducible apply is_ldg); first | refine kldg hM ?_ | refine kldwg hM ?_) | ((with_reducible apply is_sg); refine sgu ?_) | ((with_reducible apply is_gg); first | refine gtg ?_ | refine gfg ?_ | refine gug ?_) | ((with_reducible apply is_eg); refine eg ?_))
    (try ((with_reducible apply is_gg); first | refine gtg ?_ | refine gfg ?_ | refine gug ?_)); refine kixg hY (fun o1 o2 y1 hp hA => ?_) (h1 := by rw [List.length_map]; omega)
    rw [Int.toNat_natCast, List.getElem?_map, hv] at hp
    injection hp with hp
    subst hp
    repeat (first | ((with_reducible apply is_ldg); first | refine kldg hM ?_ | refine kldwg hM ?_) | ((with_reducible apply is_sg); refine sgu ?_) | ((with_reducible apply is_gg); first | refine gtg ?_ | refine gfg ?_ | refine gug ?_) | ((with_reducible apply is_eg); refine eg ?_))
    (try ((with_reducible apply is_gg); first | refine gtg ?_ | refine gfg ?_ | refine gug ?_)); refine katg hM (hA.part (e2 := eBst) (y := key2) 1 rfl) ?_
    repeat (first | ((with_reducible apply is_ldg); first | refine kldg hM ?_ | refine kldwg hM ?_) | ((with_reducible apply is_sg); refine sgu ?_) | ((with_reducible apply is_gg); first | refine gtg ?_ | refine gfg ?_ | refine gug ?_) | ((with_reducible apply is_eg); refine eg ?_))
    (try ((with_reducible apply is_gg); first | refine gtg ?_ | refine gfg ?_ | refine gug ?_)); refine wg_val (fun _ _ => r_neqst (a := key) (b := key2)) ?_
    by_cases q2 : key = key2
    rotate_left
    · rw [decide_eq_false q2]
      repeat (first | ((with_reducible apply is_ldg); first | refine kldg hM ?_ | refine kldwg hM ?_) | ((with_reducible apply is_sg); refine sgu ?_) | ((with_reducible apply is_gg); first | refine gtg ?_ | refine gfg ?_ | refine gug ?_) | ((with_reducible apply is_eg); refine eg ?_))
      (intro w hc; have hM := hM.call hc)
      repeat (first | ((with_reducible apply is_ld); first | refine kld hM ?_ | refine kldw hM ?_ | refine kle hM ?_ | refine klew hM ?_) | ((with_reducible apply is_sto); first | (refine kst hM ?_; intro w hM) | (refine kstw hM ?_; intro w hM)) | ((with_reducible apply is_st); refine su ?_) | ((with_reducible apply is_gd); first | refine gt ?_ | refine gf ?_ | refine gu ?_) | ((with_reducible apply is_en); refine en ?_) | (with_reducible apply c_region) | refine ws ?_ | refine x_block_other (by decide) ?_)
      refine c_condb rfl (fun _ => ?_) (fun h => by cases h)
      repeat (first | ((with_reducible apply is_ld); first | refine kld hM ?_ | refine kldw hM ?_ | refine kle hM ?_ | refine klew hM ?_) | ((with_reducible apply is_sto); first | (refine kst hM ?_; intro w hM) | (refine kstw hM ?_; intro w hM)) | ((with_reducible apply is_st); refine su ?_) | ((with_reducible apply is_gd); first | refine gt ?_ | refine gf ?_ | refine gu ?_) | ((with_reducible apply is_en); refine en ?_) | (with_reducible apply c_region) | refine ws ?_ | refine x_block_other (by decide) ?_)
      exact out1 rfl ⟨congrArg Value.bool (decide_eq_false (fun h => q2 (by have h2 := map_at_eq hu hv h; simp [dat] at h2; simp [h2]))).symm, hM.ch⟩
    rw [decide_eq_true q2]
    repeat (first | ((with_reducible apply is_ldg); first | refine kldg hM ?_ | refine kldwg hM ?_) | ((with_reducible apply is_sg); refine sgu ?_) | ((with_reducible apply is_gg); first | refine gtg ?_ | refine gfg ?_ | refine gug ?_) | ((with_reducible apply is_eg); refine eg ?_))
    (try ((with_reducible apply is_gg); first | refine gtg ?_ | refine gfg ?_ | refine gug ?_)); refine kixg hX (fun o1 o2 x2 hp hA => ?_) (h1 := by rw [List.length_map]; omega)
    rw [Int.toNat_natCast, List.getElem?_map, hu] at hp
    injection hp with hp
    subst hp
    repeat (first | ((with_reducible apply is_ldg); first | refine kldg hM ?_ | refine kldwg hM ?_) | ((with_reducible apply is_sg); refine sgu ?_) | ((with_reducible apply is_gg); first | refine gtg ?_ | refine gfg ?_ | refine gug ?_) | ((with_reducible apply is_eg); refine eg ?_))
    (try ((with_reducible apply is_gg); first | refine gtg ?_ | refine gfg ?_ | refine gug ?_)); refine katg hM (hA.part (e2 := eBst) (y := to) 2 rfl) ?_
    repeat (first | ((with_reducible apply is_ldg); first | refine kldg hM ?_ | refine kldwg hM ?_) | ((with_reducible apply is_sg); refine sgu ?_) | ((with_reducible apply is_gg); first | refine gtg ?_ | refine gfg ?_ | refine gug ?_) | ((with_reducible apply is_eg); refine eg ?_))
    (try ((with_reducible apply is_gg); first | refine gtg ?_ | refine gfg ?_ | refine gug ?_)); refine kixg hY (fun o1 o2 y2 hp hA => ?_) (h1 := by rw [List.length_map]; omega)
    rw [Int.toNat_natCast, List.getElem?_map, hv] at hp
    injection hp with hp
    subst hp
    repeat (first | ((with_reducible apply is_ldg); first | refine kldg hM ?_ | refine kldwg hM ?_) | ((with_reducible apply is_sg); refine sgu ?_) | ((with_reducible apply is_gg); first | refine gtg ?_ | refine gfg ?_ | refine gug ?_) | ((with_reducible apply is_eg); refine eg ?_))
    (try ((with_reducible apply is_gg); first | refine gtg ?_ | refine gfg ?_ | refine gug ?_)); refine katg hM (hA.part (e2 := eBst) (y := to2) 2 rfl) ?_
    repeat (first | ((with_reducible apply is_ldg); first | refine kldg hM ?_ | refine kldwg hM ?_) | ((with_reducible apply is_sg); refine sgu ?_) | ((with_reducible apply is_gg); first | refine gtg ?_ | refine gfg ?_ | refine gug ?_) | ((with_reducible apply is_eg); refine eg ?_))
    (try ((with_reducible apply is_gg); first | refine gtg ?_ | refine gfg ?_ | refine gug ?_)); refine wg_val (fun _ _ => r_neqst (a := to) (b := to2)) ?_
    by_cases q3 : to = to2
    rotate_left
    · rw [decide_eq_false q3]
      repeat (first | ((with_reducible apply is_ldg); first | refine kldg hM ?_ | refine kldwg hM ?_) | ((with_reducible apply is_sg); refine sgu ?_) | ((with_reducible apply is_gg); first | refine gtg ?_ | refine gfg ?_ | refine gug ?_) | ((with_reducible apply is_eg); refine eg ?_))
      (intro w hc; have hM := hM.call hc)
      repeat (first | ((with_reducible apply is_ld); first | refine kld hM ?_ | refine kldw hM ?_ | refine kle hM ?_ | refine klew hM ?_) | ((with_reducible apply is_sto); first | (refine kst hM ?_; intro w hM) | (refine kstw hM ?_; intro w hM)) | ((with_reducible apply is_st); refine su ?_) | ((with_reducible apply is_gd); first | refine gt ?_ | refine gf ?_ | refine gu ?_) | ((with_reducible apply is_en); refine en ?_) | (with_reducible apply c_region) | refine ws ?_ | refine x_block_other (by decide) ?_)
      refine c_condb rfl (fun _ => ?_) (fun h => by cases h)
      repeat (first | ((with_reducible apply is_ld); first | refine kld hM ?_ | refine kldw hM ?_ | refine kle hM ?_ | refine klew hM ?_) | ((with_reducible apply is_sto); first | (refine kst hM ?_; intro w hM) | (refine kstw hM ?_; intro w hM)) | ((with_reducible apply is_st); refine su ?_) | ((with_reducible apply is_gd); first | refine gt ?_ | refine gf ?_ | refine gu ?_) | ((with_reducible apply is_en); refine en ?_) | (with_reducible apply c_region) | refine ws ?_ | refine x_block_other (by decide) ?_)
      exact out1 rfl ⟨congrArg Value.bool (decide_eq_false (fun h => q3 (by have h2 := map_at_eq hu hv h; simp [dat] at h2; simp [h2]))).symm, hM.ch⟩
    rw [decide_eq_true q3]
    repeat (first | ((with_reducible apply is_ldg); first | refine kldg hM ?_ | refine kldwg hM ?_) | ((with_reducible apply is_sg); refine sgu ?_) | ((with_reducible apply is_gg); first | refine gtg ?_ | refine gfg ?_ | refine gug ?_) | ((with_reducible apply is_eg); refine eg ?_))
    (try ((with_reducible apply is_gg); first | refine gtg ?_ | refine gfg ?_ | refine gug ?_)); refine kixg hX (fun o1 o2 x3 hp hA => ?_) (h1 := by rw [List.length_map]; omega)
    rw [Int.toNat_natCast, List.getElem?_map, hu] at hp
    injection hp with hp
    subst hp
    repeat (first | ((with_reducible apply is_ldg); first | refine kldg hM ?_ | refine kldwg hM ?_) | ((with_reducible apply is_sg); refine sgu ?_) | ((with_reducible apply is_gg); first | refine gtg ?_ | refine gfg ?_ | refine gug ?_) | ((with_reducible apply is_eg); refine eg ?_))
    (try ((with_reducible apply is_gg); first | refine gtg ?_ | refine gfg ?_ | refine gug ?_)); refine katg hM (hA.part (e2 := eSl) (y := (A3, n3, c3)) 3 rfl) ?_
    repeat (first | ((with_reducible apply is_ldg); first | refine kldg hM ?_ | refine kldwg hM ?_) | ((with_reducible apply is_sg); refine sgu ?_) | ((with_reducible apply is_gg); first | refine gtg ?_ | refine gfg ?_ | refine gug ?_) | ((with_reducible apply is_eg); refine eg ?_))
    (try ((with_reducible apply is_gg); first | refine gtg ?_ | refine gfg ?_ | refine gug ?_)); refine kixg hY (fun o1 o2 y3 hp hA => ?_) (h1 := by rw [List.length_map]; omega)
    rw [Int.toNat_natCast, List.getElem?_map, hv] at hp
    injection hp with hp
    subst hp
    repeat (first | ((with_reducible apply is_ldg); first | refine kldg hM ?_ | refine kldwg hM ?_) | ((with_reducible apply is_sg); refine sgu ?_) | ((with_reducible apply is_gg); first | refine gtg ?_ | refine gfg ?_ | refine gug ?_) | ((with_reducible apply is_eg); refine eg ?_))
    (try ((with_reducible apply is_gg); first | refine gtg ?_ | refine gfg ?_ | refine gug ?_)); refine katg hM (hA.part (e2 := eSl) (y := (A4, n4, c4)) 3 rfl) ?_
    repeat (first | ((with_reducible apply is_ldg); first | refine kldg hM ?_ | refine kldwg hM ?_) | ((with_reducible apply is_sg); refine sgu ?_) | ((with_reducible apply is_gg); first | refine gtg ?_ | refine gfg ?_ | refine gug ?_) | ((with_reducible apply is_eg); refine eg ?_))
    (try ((with_reducible apply is_gg); first | refine gtg ?_ | refine gfg ?_ | refine gug ?_)); refine kcag hM (fun w1 hM => rsameL_any _ _ ps qs w1 (hUu.ch hM.ch) (hVv.ch hM.ch)) ?_
    by_cases q4 : ps = qs
    rotate_left
    · rw [decide_eq_false q4]
      repeat (first | ((with_reducible apply is_ldg); first | refine kldg hM ?_ | refine kldwg hM ?_) | ((with_reducible apply is_sg); refine sgu ?_) | ((with_reducible apply is_gg); first | refine gtg ?_ | refine gfg ?_ | refine gug ?_) | ((with_reducible apply is_eg); refine eg ?_))
      (intro w hc; have hM := hM.call hc)
      repeat (first | ((with_reducible apply is_ld); first | refine kld hM ?_ | refine kldw hM ?_ | refine kle hM ?_ | refine klew hM ?_) | ((with_reducible apply is_sto); first | (refine kst hM ?_; intro w hM) | (refine kstw hM ?_; intro w hM)) | ((with_reducible apply is_st); refine su ?_) | ((with_reducible apply is_gd); first | refine gt ?_ | refine gf ?_ | refine gu ?_) | ((with_reducible apply is_en); refine en ?_) | (with_reducible apply c_region) | refine ws ?_ | refine x_block_other (by decide) ?_)
      refine c_condb rfl (fun _ => ?_) (fun h => by cases h)
      repeat (first | ((with_reducible apply is_ld); first | refine kld hM ?_ | refine kldw hM ?_ | refine kle hM ?_ | refine klew hM ?_) | ((with_reducible apply is_sto); first | (refine kst hM ?_; intro w hM) | (refine kstw hM ?_; intro w hM)) | ((with_reducible apply is_st); refine su ?_) | ((with_reducible apply is_gd); first | refine gt ?_ | refine gf ?_ | refine gu ?_) | ((with_reducible apply is_en); refine en ?_) | (with_reducible apply c_region) | refine ws ?_ | refine x_block_other (by decide) ?_)
      exact out1 rfl ⟨congrArg Value.bool (decide_eq_false (fun h => q4 (by have h2 := map_at_eq hu hv h; simp [dat] at h2; simp [h2]))).symm, hM.ch⟩
    rw [decide_eq_true q4]
    repeat (first | ((with_reducible apply is_ldg); first | refine kldg hM ?_ | refine kldwg hM ?_) | ((with_reducible apply is_sg); refine sgu ?_) | ((with_reducible apply is_gg); first | refine gtg ?_ | refine gfg ?_ | refine gug ?_) | ((with_reducible apply is_eg); refine eg ?_))
    (intro w hc; have hM := hM.call hc)
    repeat (first | ((with_reducible apply is_ld); first | refine kld hM ?_ | refine kldw hM ?_ | refine kle hM ?_ | refine klew hM ?_) | ((with_reducible apply is_sto); first | (refine kst hM ?_; intro w hM) | (refine kstw hM ?_; intro w hM)) | ((with_reducible apply is_st); refine su ?_) | ((with_reducible apply is_gd); first | refine gt ?_ | refine gf ?_ | refine gu ?_) | ((with_reducible apply is_en); refine en ?_) | (with_reducible apply c_region) | refine ws ?_ | refine x_block_other (by decide) ?_)
    refine c_condb rfl (fun h => by cases h) (fun _ => ?_)
    repeat (first | ((with_reducible apply is_ld); first | refine kld hM ?_ | refine kldw hM ?_ | refine kle hM ?_ | refine klew hM ?_) | ((with_reducible apply is_sto); first | (refine kst hM ?_; intro w hM) | (refine kstw hM ?_; intro w hM)) | ((with_reducible apply is_st); refine su ?_) | ((with_reducible apply is_gd); first | refine gt ?_ | refine gf ?_ | refine gu ?_) | ((with_reducible apply is_en); refine en ?_) | (with_reducible apply c_region) | refine ws ?_ | refine x_block_other (by decide) ?_)
    exact x_goes (n - 1) rfl (by omega) ⟨j + 1, exj rfl, by omega, hM.sub (by (repeat constructor)), map_take_step hu hv hf (by simp [dat, q1, q2, q3, q4])⟩
  · repeat (first | ((with_reducible apply is_ld); first | refine kld hM ?_ | refine kldw hM ?_ | refine kle hM ?_ | refine klew hM ?_) | ((with_reducible apply is_sto); first | (refine kst hM ?_; intro w hM) | (refine kstw hM ?_; intro w hM)) | ((with_reducible apply is_st); refine su ?_) | ((with_reducible apply is_gd); first | refine gt ?_ | refine gf ?_ | refine gu ?_) | ((with_reducible apply is_en); refine en ?_) | (with_reducible apply c_region) | refine ws ?_ | refine x_block_other (by decide) ?_)
    exact out1 rfl ⟨congrArg Value.bool (decide_eq_true (by rwa [List.take_of_length_le (by omega), List.take_of_length_le (by omega)] at hf)).symm, hM.ch⟩
end Go.Proofs.YtnkkeehoejmcnaaDoor

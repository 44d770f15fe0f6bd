/- Walks: whether pairs and reads may be, both. -/
import Derived.Test.YtkpkfplcoakfcaaDoorRec1
set_option linter.unusedVariables false
set_option linter.unusedSimpArgs false
namespace Go.Proofs.YtkpkfplcoakfcaaDoor
open Go Go.RowKit Go.Proofs.E
attribute [local irreducible] Go.wpList Go.Code.wp Go.Proofs.E.exec Go.Proofs.E.wpLexG
def goodPB (p : Pr) : Bool := decide (0 < p.1.length) && (decide (p.1.length ≤ 64) && (decide (p.2.1.length ≤ 256) && (!p.2.2 || decide (p.2.1 = []))))
def goodL : Option Bs → List Pr → Bool
  | _, [] => true
  | q, p :: r => goodPB p && ((match q with | none => true | some k => ltB k p.1) && goodL (some p.1) r)
theorem goodL_cons (q : Option Bs) (p : Pr) (r : List Pr) : goodL q (p :: r) = (goodPB p && ((match q with | none => true | some k => ltB k p.1) && goodL (some p.1) r)) := rfl
def prevOf (l : List Pr) (j : Nat) : Option Bs := if j = 0 then none else (l[j - 1]?).map (fun p : Pr => p.1)
theorem prevOf_succ {l : List Pr} {j : Nat} {p : Pr} (h : l[j]? = some p) : prevOf l (j + 1) = some p.1 := by
  unfold prevOf
  rw [if_neg (by omega), Nat.add_sub_cancel, h]
  rfl
set_option maxHeartbeats 4000000 in
theorem goodPair_any (p : Pr) (w0 : World) (h1 : p.1.length ≤ 9223372036854775807) (h2 : p.2.1.length ≤ 9223372036854775807) :
    Calls Tryd.prog 119 #[.agg (ePr.f p).toArray] w0 (Ret fun u w' => u = .bool (goodPB p) ∧ Ch [] w0 w') := by
  have hM := Mem.start w0
  obtain ⟨k, v, d⟩ := p
  simp only at h1 h2
  refine enter [.agg (ePr.f (k, v, d)).toArray, undef, undef, undef, undef, undef, undef, undef, undef, undef, undef, undef, undef, undef, undef, undef, undef, undef, undef, undef, undef, undef, undef, undef, undef, undef, undef, undef] Tryd.func119 rfl rfl ?_
  repeat (first | ((with_reducible apply is_ld); first | refine kld hM ?_ | refine kldw hM ?_ | refine kle hM ?_ | refine klew hM ?_) | ((with_reducible apply is_sto); first | (refine kst hM ?_; intro w hM) | (refine kstw hM ?_; intro w hM)) | ((with_reducible apply is_st); refine su ?_) | ((with_reducible apply is_gd); first | refine gt ?_ | refine gf ?_ | refine gu ?_) | ((with_reducible apply is_en); refine en ?_) | (with_reducible apply c_region) | refine ws ?_ | refine x_block_other (by decide) ?_)
  refine kbx hM (fun w b1 hM => ?_)
  have hM : Mem [] w0 w [.cell b1 (ePr.f (k, v, d)) 74] := hM
  repeat (first | ((with_reducible apply is_ld); first | refine kld hM ?_ | refine kldw hM ?_ | refine kle hM ?_ | refine klew hM ?_) | ((with_reducible apply is_sto); first | (refine kst hM ?_; intro w hM) | (refine kstw hM ?_; intro w hM)) | ((with_reducible apply is_st); refine su ?_) | ((with_reducible apply is_gd); first | refine gt ?_ | refine gf ?_ | refine gu ?_) | ((with_reducible apply is_en); refine en ?_) | (with_reducible apply c_region) | refine ws ?_ | refine x_block_other (by decide) ?_)
  (try ((with_reducible apply is_gd); first | refine gt ?_ | refine gf ?_ | refine gu ?_)); refine wl_val (r_neqst (a := k) (b := [])) ?_
  by_cases c1 : k = []
  · rw [decide_eq_true c1]
    repeat (first | ((with_reducible apply is_ld); first | refine kld hM ?_ | refine kldw hM ?_ | refine kle hM ?_ | refine klew hM ?_) | ((with_reducible apply is_sto); first | (refine kst hM ?_; intro w hM) | (refine kstw hM ?_; intro w hM)) | ((with_reducible apply is_st); refine su ?_) | ((with_reducible apply is_gd); first | refine gt ?_ | refine gf ?_ | refine gu ?_) | ((with_reducible apply is_en); refine en ?_) | (with_reducible apply c_region) | refine ws ?_ | refine x_block_other (by decide) ?_)
    exact out1 rfl ⟨by subst c1; rfl, hM.ch⟩
  rw [decide_eq_false c1]
  repeat (first | ((with_reducible apply is_ld); first | refine kld hM ?_ | refine kldw hM ?_ | refine kle hM ?_ | refine klew hM ?_) | ((with_reducible apply is_sto); first | (refine kst hM ?_; intro w hM) | (refine kstw hM ?_; intro w hM)) | ((with_reducible apply is_st); refine su ?_) | ((with_reducible apply is_gd); first | refine gt ?_ | refine gf ?_ | refine gu ?_) | ((with_reducible apply is_en); refine en ?_) | (with_reducible apply c_region) | refine ws ?_ | refine x_block_other (by decide) ?_)
  have hk0 : 0 < k.length := List.length_pos_iff.2 c1
  simp only [bst_size]
  by_cases c2 : (k.length : Int) ≤ 64
  rotate_left
  · rw [decide_eq_false c2]
    repeat (first | ((with_reducible apply is_ld); first | refine kld hM ?_ | refine kldw hM ?_ | refine kle hM ?_ | refine klew hM ?_) | ((with_reducible apply is_sto); first | (refine kst hM ?_; intro w hM) | (refine kstw hM ?_; intro w hM)) | ((with_reducible apply is_st); refine su ?_) | ((with_reducible apply is_gd); first | refine gt ?_ | refine gf ?_ | refine gu ?_) | ((with_reducible apply is_en); refine en ?_) | (with_reducible apply c_region) | refine ws ?_ | refine x_block_other (by decide) ?_)
    refine out1 rfl ⟨?_, hM.ch⟩
    have : ¬ k.length ≤ 64 := by omega
    simp [goodPB, this, ev, nth]
  rw [decide_eq_true c2]
  repeat (first | ((with_reducible apply is_ld); first | refine kld hM ?_ | refine kldw hM ?_ | refine kle hM ?_ | refine klew hM ?_) | ((with_reducible apply is_sto); first | (refine kst hM ?_; intro w hM) | (refine kstw hM ?_; intro w hM)) | ((with_reducible apply is_st); refine su ?_) | ((with_reducible apply is_gd); first | refine gt ?_ | refine gf ?_ | refine gu ?_) | ((with_reducible apply is_en); refine en ?_) | (with_reducible apply c_region) | refine ws ?_ | refine x_block_other (by decide) ?_)
  simp only [bst_size]
  by_cases c3 : (v.length : Int) ≤ 256
  rotate_left
  · rw [decide_eq_false c3]
    repeat (first | ((with_reducible apply is_ld); first | refine kld hM ?_ | refine kldw hM ?_ | refine kle hM ?_ | refine klew hM ?_) | ((with_reducible apply is_sto); first | (refine kst hM ?_; intro w hM) | (refine kstw hM ?_; intro w hM)) | ((with_reducible apply is_st); refine su ?_) | ((with_reducible apply is_gd); first | refine gt ?_ | refine gf ?_ | refine gu ?_) | ((with_reducible apply is_en); refine en ?_) | (with_reducible apply c_region) | refine ws ?_ | refine x_block_other (by decide) ?_)
    refine out1 rfl ⟨?_, hM.ch⟩
    have : ¬ v.length ≤ 256 := by omega
    simp [goodPB, this, ev, nth]
  rw [decide_eq_true c3]
  repeat (first | ((with_reducible apply is_ld); first | refine kld hM ?_ | refine kldw hM ?_ | refine kle hM ?_ | refine klew hM ?_) | ((with_reducible apply is_sto); first | (refine kst hM ?_; intro w hM) | (refine kstw hM ?_; intro w hM)) | ((with_reducible apply is_st); refine su ?_) | ((with_reducible apply is_gd); first | refine gt ?_ | refine gf ?_ | refine gu ?_) | ((with_reducible apply is_en); refine en ?_) | (with_reducible apply c_region) | refine ws ?_ | refine x_block_other (by decide) ?_)
  have q2 : k.length ≤ 64 := by omega
  have q3 : v.length ≤ 256 := by omega
  cases d with
  | false =>
    repeat (first | ((with_reducible apply is_ld); first | refine kld hM ?_ | refine kldw hM ?_ | refine kle hM ?_ | refine klew hM ?_) | ((with_reducible apply is_sto); first | (refine kst hM ?_; intro w hM) | (refine kstw hM ?_; intro w hM)) | ((with_reducible apply is_st); refine su ?_) | ((with_reducible apply is_gd); first | refine gt ?_ | refine gf ?_ | refine gu ?_) | ((with_reducible apply is_en); refine en ?_) | (with_reducible apply c_region) | refine ws ?_ | refine x_block_other (by decide) ?_)
    refine out1 rfl ⟨?_, hM.ch⟩
    simp [goodPB, hk0, q2, q3, ev, nth]
  | true =>
    repeat (first | ((with_reducible apply is_ld); first | refine kld hM ?_ | refine kldw hM ?_ | refine kle hM ?_ | refine klew hM ?_) | ((with_reducible apply is_sto); first | (refine kst hM ?_; intro w hM) | (refine kstw hM ?_; intro w hM)) | ((with_reducible apply is_st); refine su ?_) | ((with_reducible apply is_gd); first | refine gt ?_ | refine gf ?_ | refine gu ?_) | ((with_reducible apply is_en); refine en ?_) | (with_reducible apply c_region) | refine ws ?_ | refine x_block_other (by decide) ?_)
    (try ((with_reducible apply is_gd); first | refine gt ?_ | refine gf ?_ | refine gu ?_)); refine wl_val (r_eqst (a := v) (b := [])) ?_
    repeat (first | ((with_reducible apply is_ld); first | refine kld hM ?_ | refine kldw hM ?_ | refine kle hM ?_ | refine klew hM ?_) | ((with_reducible apply is_sto); first | (refine kst hM ?_; intro w hM) | (refine kstw hM ?_; intro w hM)) | ((with_reducible apply is_st); refine su ?_) | ((with_reducible apply is_gd); first | refine gt ?_ | refine gf ?_ | refine gu ?_) | ((with_reducible apply is_en); refine en ?_) | (with_reducible apply c_region) | refine ws ?_ | refine x_block_other (by decide) ?_)
    refine out1 rfl ⟨?_, hM.ch⟩
    simp [goodPB, hk0, q2, q3, ev, nth]

set_option maxHeartbeats 16000000 in
theorem sgood_any (v : Value) (zs : List Pr) (w0 : World) (hR : (Ty.enc ePr).Rd [] w0 v zs) (hb : ∀ p ∈ zs, p.1.length ≤ 140737488355328 ∧ p.2.1.length ≤ 140737488355328) :
    Calls Tryd.prog 97 #[v] w0 (Ret fun u w' => u = .bool (goodL none zs) ∧ Ch [] w0 w') := by
  have hM := Mem.start w0
  have hle := hR.le
  obtain ⟨A, c, rfl⟩ := hR.form
  refine enter [.slice A zs.length c, undef, undef, undef, undef, undef, undef, undef, undef, undef, undef, undef, undef, undef, undef, undef, undef, undef, undef, undef, undef, undef, undef, undef, undef, undef, undef, undef, undef, undef, undef] Tryd.func97 rfl rfl ?_
  repeat (first | ((with_reducible apply is_ld); first | refine kld hM ?_ | refine kldw hM ?_ | refine kle hM ?_ | refine klew hM ?_) | ((with_reducible apply is_sto); first | (refine kst hM ?_; intro w hM) | (refine kstw hM ?_; intro w hM)) | ((with_reducible apply is_st); refine su ?_) | ((with_reducible apply is_gd); first | refine gt ?_ | refine gf ?_ | refine gu ?_) | ((with_reducible apply is_en); refine en ?_) | (with_reducible apply c_region) | refine ws ?_ | refine x_block_other (by decide) ?_)
  
  refine c_loop (fun n l w => ∃ (j : Nat), (∃ jj : Nat → Value, l = [.slice A zs.length c, jj 1, .bool false, jj 3, jj 4, .slice A zs.length c, .int .i64 (zs.length : Int), .int .i64 (j : Int), jj 8, jj 9, jj 10, jj 11, jj 12, jj 13, jj 14, jj 15, jj 16, jj 17, jj 18, jj 19, jj 20, jj 21, jj 22, jj 23, jj 24, jj 25, jj 26, jj 27, jj 28, jj 29, jj 30]) ∧ n + j = zs.length ∧ Mem [] w0 w [] ∧ goodL none zs = goodL (prevOf zs j) (zs.drop j)) zs.length
    ⟨0, exj rfl, rfl, hM, rfl⟩ ?_
  clear hM
  rintro n l w ⟨j, ⟨jj, rfl⟩, hnj, hM, hf⟩
  repeat (first | ((with_reducible apply is_ld); first | refine kld hM ?_ | refine kldw hM ?_ | refine kle hM ?_ | refine klew hM ?_) | ((with_reducible apply is_sto); first | (refine kst hM ?_; intro w hM) | (refine kstw hM ?_; intro w hM)) | ((with_reducible apply is_st); refine su ?_) | ((with_reducible apply is_gd); first | refine gt ?_ | refine gf ?_ | refine gu ?_) | ((with_reducible apply is_en); refine en ?_) | (with_reducible apply c_region) | refine ws ?_ | refine x_block_other (by decide) ?_)
  refine c_cond rfl (fun hj => ?_) (fun hj => ?_)
  · repeat (first | ((with_reducible apply is_ld); first | refine kld hM ?_ | refine kldw hM ?_ | refine kle hM ?_ | refine klew hM ?_) | ((with_reducible apply is_sto); first | (refine kst hM ?_; intro w hM) | (refine kstw hM ?_; intro w hM)) | ((with_reducible apply is_st); refine su ?_) | ((with_reducible apply is_gd); first | refine gt ?_ | refine gf ?_ | refine gu ?_) | ((with_reducible apply is_en); refine en ?_) | (with_reducible apply c_region) | refine ws ?_ | refine x_block_other (by decide) ?_)
    refine kix hR (fun b o p hp hA => ?_)
    rw [Int.toNat_natCast] at hp
    have hbp := hb p (List.mem_of_getElem? hp)
    have hd : zs.drop j = p :: zs.drop (j + 1) := by
      obtain ⟨hlt, he⟩ := List.getElem?_eq_some_iff.1 hp
      rw [List.drop_eq_getElem_cons hlt, he]
    have hps := prevOf_succ hp
    rw [hd, goodL_cons, ← hps] at hf
    obtain ⟨k, v, d⟩ := p
    simp only at hf hbp hps
    refine katr hM hA ?_
    refine kal hM (fun w b4 hM => ?_)
    repeat (first | ((with_reducible apply is_ld); first | refine kld hM ?_ | refine kldw hM ?_ | refine kle hM ?_ | refine klew hM ?_) | ((with_reducible apply is_sto); first | (refine kst hM ?_; intro w hM) | (refine kstw hM ?_; intro w hM)) | ((with_reducible apply is_st); refine su ?_) | ((with_reducible apply is_gd); first | refine gt ?_ | refine gf ?_ | refine gu ?_) | ((with_reducible apply is_en); refine en ?_) | (with_reducible apply c_region) | refine ws ?_ | refine x_block_other (by decide) ?_)
    have hM : Mem [] w0 w [.cell b4 (ePr.f (k, v, d)) 74] := hM
    have hbad : ∀ X : Bool, X = false → (X && ((match prevOf zs j with | none => true | some q => ltB q k) && goodL (prevOf zs (j + 1)) (zs.drop (j + 1)))) = false := fun X h => by rw [h]; rfl
    refine kdr hM (by kernel_rfl) (by kernel_rfl) (fun w hM => ?_)
    repeat (first | ((with_reducible apply is_ldg); first | refine kldg hM ?_ | refine kldwg hM ?_) | ((with_reducible apply is_sg); refine sgu ?_) | ((with_reducible apply is_gg); first | refine gtg ?_ | refine gfg ?_ | refine gug ?_) | ((with_reducible apply is_eg); refine eg ?_))
    refine kcag hM (fun w1 hM => goodPair_any (k, v, d) w1 (by simp only; omega) (by simp only; omega)) ?_
    cases hg : goodPB (k, v, d) with
    | false =>
      repeat (first | ((with_reducible apply is_ldg); first | refine kldg hM ?_ | refine kldwg hM ?_) | ((with_reducible apply is_sg); refine sgu ?_) | ((with_reducible apply is_gg); first | refine gtg ?_ | refine gfg ?_ | refine gug ?_) | ((with_reducible apply is_eg); refine eg ?_))
      (intro w hc; have hM := hM.call hc)
      refine c_condb rfl (fun _ => ?_) (fun h => by cases h)
      repeat (first | ((with_reducible apply is_ld); first | refine kld hM ?_ | refine kldw hM ?_ | refine kle hM ?_ | refine klew hM ?_) | ((with_reducible apply is_sto); first | (refine kst hM ?_; intro w hM) | (refine kstw hM ?_; intro w hM)) | ((with_reducible apply is_st); refine su ?_) | ((with_reducible apply is_gd); first | refine gt ?_ | refine gf ?_ | refine gu ?_) | ((with_reducible apply is_en); refine en ?_) | (with_reducible apply c_region) | refine ws ?_ | refine x_block_other (by decide) ?_)
      refine out1 rfl ⟨?_, hM.ch⟩
      rw [hf]
      exact congrArg Value.bool (hbad (goodPB (k, v, d)) hg).symm
    | true =>
      repeat (first | ((with_reducible apply is_ldg); first | refine kldg hM ?_ | refine kldwg hM ?_) | ((with_reducible apply is_sg); refine sgu ?_) | ((with_reducible apply is_gg); first | refine gtg ?_ | refine gfg ?_ | refine gug ?_) | ((with_reducible apply is_eg); refine eg ?_))
      by_cases hj0 : j = 0
      · have hq : (match prevOf zs j with | none => true | some q => ltB q k) = true := by
          subst hj0
          rfl
        rw [decide_eq_false (by omega : ¬ (j : Int) > 0)]
        repeat (first | ((with_reducible apply is_ldg); first | refine kldg hM ?_ | refine kldwg hM ?_) | ((with_reducible apply is_sg); refine sgu ?_) | ((with_reducible apply is_gg); first | refine gtg ?_ | refine gfg ?_ | refine gug ?_) | ((with_reducible apply is_eg); refine eg ?_))
        (intro w hc; have hM := hM.call hc)
        refine c_condb rfl (fun h => by cases h) (fun _ => ?_)
        repeat (first | ((with_reducible apply is_ld); first | refine kld hM ?_ | refine kldw hM ?_ | refine kle hM ?_ | refine klew hM ?_) | ((with_reducible apply is_sto); first | (refine kst hM ?_; intro w hM) | (refine kstw hM ?_; intro w hM)) | ((with_reducible apply is_st); refine su ?_) | ((with_reducible apply is_gd); first | refine gt ?_ | refine gf ?_ | refine gu ?_) | ((with_reducible apply is_en); refine en ?_) | (with_reducible apply c_region) | refine ws ?_ | refine x_block_other (by decide) ?_)
        exact x_goes (n - 1) rfl (by omega) ⟨j + 1, exj rfl, by omega, hM.nil, by rw [hf, hg, hq]; rfl⟩
      · rw [decide_eq_true (by omega : (j : Int) > 0)]
        repeat (first | ((with_reducible apply is_ldg); first | refine kldg hM ?_ | refine kldwg hM ?_) | ((with_reducible apply is_sg); refine sgu ?_) | ((with_reducible apply is_gg); first | refine gtg ?_ | refine gfg ?_ | refine gug ?_) | ((with_reducible apply is_eg); refine eg ?_))
        obtain ⟨q, hq0⟩ : ∃ q, zs[j - 1]? = some q := ⟨_, List.getElem?_eq_getElem (by omega)⟩
        have hpv : prevOf zs j = some q.1 := by
          unfold prevOf
          rw [if_neg hj0, hq0]
          rfl
        refine kixg hR (fun b o q2 hq2 hA2 => ?_) (h1 := by omega)
        rw [show ((j : Int) - 1).toNat = j - 1 by omega, hq0] at hq2
        obtain rfl := Option.some.inj hq2
        repeat (first | ((with_reducible apply is_ldg); first | refine kldg hM ?_ | refine kldwg hM ?_) | ((with_reducible apply is_sg); refine sgu ?_) | ((with_reducible apply is_gg); first | refine gtg ?_ | refine gfg ?_ | refine gug ?_) | ((with_reducible apply is_eg); refine eg ?_))
        refine wg_val (fun w1 hc1 => r_load_one rfl (by
          obtain ⟨_, _, cs, hcs, hr⟩ := (hA2.mv hM.ch (by simp)).mv hc1 (by simp)
          have hcs : cs = ePr.f q := hcs
          subst hcs
          exact hr 0 _ rfl)) ?_
        repeat (first | ((with_reducible apply is_ldg); first | refine kldg hM ?_ | refine kldwg hM ?_) | ((with_reducible apply is_sg); refine sgu ?_) | ((with_reducible apply is_gg); first | refine gtg ?_ | refine gfg ?_ | refine gug ?_) | ((with_reducible apply is_eg); refine eg ?_))
        (try ((with_reducible apply is_gg); first | refine gtg ?_ | refine gfg ?_ | refine gug ?_)); refine wg_val (fun _ _ => r_geS (a := q.1) (b := k)) ?_
        cases hlt : ltB q.1 k with
        | false =>
          repeat (first | ((with_reducible apply is_ldg); first | refine kldg hM ?_ | refine kldwg hM ?_) | ((with_reducible apply is_sg); refine sgu ?_) | ((with_reducible apply is_gg); first | refine gtg ?_ | refine gfg ?_ | refine gug ?_) | ((with_reducible apply is_eg); refine eg ?_))
          (intro w hc; have hM := hM.call hc)
          refine c_condb rfl (fun _ => ?_) (fun h => by cases h)
          repeat (first | ((with_reducible apply is_ld); first | refine kld hM ?_ | refine kldw hM ?_ | refine kle hM ?_ | refine klew hM ?_) | ((with_reducible apply is_sto); first | (refine kst hM ?_; intro w hM) | (refine kstw hM ?_; intro w hM)) | ((with_reducible apply is_st); refine su ?_) | ((with_reducible apply is_gd); first | refine gt ?_ | refine gf ?_ | refine gu ?_) | ((with_reducible apply is_en); refine en ?_) | (with_reducible apply c_region) | refine ws ?_ | refine x_block_other (by decide) ?_)
          refine out1 rfl ⟨?_, hM.ch⟩
          rw [hf]
          rw [hpv]
          simp [hlt, ev, nth]
        | true =>
          have hq : (match prevOf zs j with | none => true | some q => ltB q k) = true := by
            rw [hpv]
            exact hlt
          repeat (first | ((with_reducible apply is_ldg); first | refine kldg hM ?_ | refine kldwg hM ?_) | ((with_reducible apply is_sg); refine sgu ?_) | ((with_reducible apply is_gg); first | refine gtg ?_ | refine gfg ?_ | refine gug ?_) | ((with_reducible apply is_eg); refine eg ?_))
          (intro w hc; have hM := hM.call hc)
          refine c_condb rfl (fun h => by cases h) (fun _ => ?_)
          repeat (first | ((with_reducible apply is_ld); first | refine kld hM ?_ | refine kldw hM ?_ | refine kle hM ?_ | refine klew hM ?_) | ((with_reducible apply is_sto); first | (refine kst hM ?_; intro w hM) | (refine kstw hM ?_; intro w hM)) | ((with_reducible apply is_st); refine su ?_) | ((with_reducible apply is_gd); first | refine gt ?_ | refine gf ?_ | refine gu ?_) | ((with_reducible apply is_en); refine en ?_) | (with_reducible apply c_region) | refine ws ?_ | refine x_block_other (by decide) ?_)
          exact x_goes (n - 1) rfl (by omega) ⟨j + 1, exj rfl, by omega, hM.nil, by rw [hf, hg, hq]; rfl⟩
  · rw [List.drop_eq_nil_of_le (by omega)] at hf
    repeat (first | ((with_reducible apply is_ld); first | refine kld hM ?_ | refine kldw hM ?_ | refine kle hM ?_ | refine klew hM ?_) | ((with_reducible apply is_sto); first | (refine kst hM ?_; intro w hM) | (refine kstw hM ?_; intro w hM)) | ((with_reducible apply is_st); refine su ?_) | ((with_reducible apply is_gd); first | refine gt ?_ | refine gf ?_ | refine gu ?_) | ((with_reducible apply is_en); refine en ?_) | (with_reducible apply c_region) | refine ws ?_ | refine x_block_other (by decide) ?_)
    exact out1 rfl ⟨by rw [hf]; rfl, hM.ch⟩
set_option maxHeartbeats 16000000 in
theorem rgood08_any (v : Value) (zs : List Pr) (w0 : World) (hR : (Ty.enc ePr).Rd [] w0 v zs) (hb : ∀ p ∈ zs, p.1.length ≤ 140737488355328 ∧ p.2.1.length ≤ 140737488355328) :
    Calls Tryd.prog 72 #[v] w0 (Ret fun u w' => u = .bool (goodL none zs) ∧ Ch [] w0 w') := by
  have hM := Mem.start w0
  have hle := hR.le
  obtain ⟨A, c, rfl⟩ := hR.form
  refine enter [.slice A zs.length c, undef, undef, undef, undef, undef, undef, undef, undef, undef, undef, undef, undef, undef, undef, undef, undef, undef, undef, undef, undef, undef, undef, undef, undef, undef, undef, undef, undef, undef, undef, undef, undef, undef, undef, undef, undef, undef, undef, undef, undef, undef, undef, undef, undef, undef, undef, undef, undef, undef, undef, undef, undef] Tryd.func72 rfl rfl ?_
  repeat (first | ((with_reducible apply is_ld); first | refine kld hM ?_ | refine kldw hM ?_ | refine kle hM ?_ | refine klew hM ?_) | ((with_reducible apply is_sto); first | (refine kst hM ?_; intro w hM) | (refine kstw hM ?_; intro w hM)) | ((with_reducible apply is_st); refine su ?_) | ((with_reducible apply is_gd); first | refine gt ?_ | refine gf ?_ | refine gu ?_) | ((with_reducible apply is_en); refine en ?_) | (with_reducible apply c_region) | refine ws ?_ | refine x_block_other (by decide) ?_)
  
  refine c_loop (fun n l w => ∃ (j : Nat), (∃ jj : Nat → Value, l = [.slice A zs.length c, jj 1, .bool false, jj 3, jj 4, .slice A zs.length c, .int .i64 (zs.length : Int), .int .i64 (j : Int), jj 8, jj 9, jj 10, jj 11, jj 12, jj 13, jj 14, jj 15, jj 16, jj 17, jj 18, jj 19, jj 20, jj 21, jj 22, jj 23, jj 24, jj 25, jj 26, jj 27, jj 28, jj 29, jj 30, jj 31, jj 32, jj 33, jj 34, jj 35, jj 36, jj 37, jj 38, jj 39, jj 40, jj 41, jj 42, jj 43, jj 44, jj 45, jj 46, jj 47, jj 48, jj 49, jj 50, jj 51, jj 52]) ∧ n + j = zs.length ∧ Mem [] w0 w [] ∧ goodL none zs = goodL (prevOf zs j) (zs.drop j)) zs.length
    ⟨0, exj rfl, rfl, hM, rfl⟩ ?_
  clear hM
  rintro n l w ⟨j, ⟨jj, rfl⟩, hnj, hM, hf⟩
  repeat (first | ((with_reducible apply is_ld); first | refine kld hM ?_ | refine kldw hM ?_ | refine kle hM ?_ | refine klew hM ?_) | ((with_reducible apply is_sto); first | (refine kst hM ?_; intro w hM) | (refine kstw hM ?_; intro w hM)) | ((with_reducible apply is_st); refine su ?_) | ((with_reducible apply is_gd); first | refine gt ?_ | refine gf ?_ | refine gu ?_) | ((with_reducible apply is_en); refine en ?_) | (with_reducible apply c_region) | refine ws ?_ | refine x_block_other (by decide) ?_)
  refine c_cond rfl (fun hj => ?_) (fun hj => ?_)
  · repeat (first | ((with_reducible apply is_ld); first | refine kld hM ?_ | refine kldw hM ?_ | refine kle hM ?_ | refine klew hM ?_) | ((with_reducible apply is_sto); first | (refine kst hM ?_; intro w hM) | (refine kstw hM ?_; intro w hM)) | ((with_reducible apply is_st); refine su ?_) | ((with_reducible apply is_gd); first | refine gt ?_ | refine gf ?_ | refine gu ?_) | ((with_reducible apply is_en); refine en ?_) | (with_reducible apply c_region) | refine ws ?_ | refine x_block_other (by decide) ?_)
    refine kix hR (fun b o p hp hA => ?_)
    rw [Int.toNat_natCast] at hp
    have hbp := hb p (List.mem_of_getElem? hp)
    have hd : zs.drop j = p :: zs.drop (j + 1) := by
      obtain ⟨hlt, he⟩ := List.getElem?_eq_some_iff.1 hp
      rw [List.drop_eq_getElem_cons hlt, he]
    have hps := prevOf_succ hp
    rw [hd, goodL_cons, ← hps] at hf
    obtain ⟨k, v, d⟩ := p
    simp only at hf hbp hps
    refine katr hM hA ?_
    refine kal hM (fun w b4 hM => ?_)
    repeat (first | ((with_reducible apply is_ld); first | refine kld hM ?_ | refine kldw hM ?_ | refine kle hM ?_ | refine klew hM ?_) | ((with_reducible apply is_sto); first | (refine kst hM ?_; intro w hM) | (refine kstw hM ?_; intro w hM)) | ((with_reducible apply is_st); refine su ?_) | ((with_reducible apply is_gd); first | refine gt ?_ | refine gf ?_ | refine gu ?_) | ((with_reducible apply is_en); refine en ?_) | (with_reducible apply c_region) | refine ws ?_ | refine x_block_other (by decide) ?_)
    have hM : Mem [] w0 w [.cell b4 (ePr.f (k, v, d)) 74] := hM
    have hbad : ∀ X : Bool, X = false → (X && ((match prevOf zs j with | none => true | some q => ltB q k) && goodL (prevOf zs (j + 1)) (zs.drop (j + 1)))) = false := fun X h => by rw [h]; rfl
    refine kdr hM (by kernel_rfl) (by kernel_rfl) (fun w hM => ?_)
    repeat (first | ((with_reducible apply is_ldg); first | refine kldg hM ?_ | refine kldwg hM ?_) | ((with_reducible apply is_sg); refine sgu ?_) | ((with_reducible apply is_gg); first | refine gtg ?_ | refine gfg ?_ | refine gug ?_) | ((with_reducible apply is_eg); refine eg ?_))
    try simp only [bst_size]
    by_cases c1 : (k.length : Int) < 1
    · rw [decide_eq_true c1]
      repeat (first | ((with_reducible apply is_ldg); first | refine kldg hM ?_ | refine kldwg hM ?_) | ((with_reducible apply is_sg); refine sgu ?_) | ((with_reducible apply is_gg); first | refine gtg ?_ | refine gfg ?_ | refine gug ?_) | ((with_reducible apply is_eg); refine eg ?_))
      (intro w hc; have hM := hM.call hc)
      refine c_condb rfl (fun _ => ?_) (fun h => by cases h)
      repeat (first | ((with_reducible apply is_ld); first | refine kld hM ?_ | refine kldw hM ?_ | refine kle hM ?_ | refine klew hM ?_) | ((with_reducible apply is_sto); first | (refine kst hM ?_; intro w hM) | (refine kstw hM ?_; intro w hM)) | ((with_reducible apply is_st); refine su ?_) | ((with_reducible apply is_gd); first | refine gt ?_ | refine gf ?_ | refine gu ?_) | ((with_reducible apply is_en); refine en ?_) | (with_reducible apply c_region) | refine ws ?_ | refine x_block_other (by decide) ?_)
      refine out1 rfl ⟨?_, hM.ch⟩
      rw [hf]
      exact congrArg Value.bool (hbad (goodPB (k, v, d)) (by have : k = [] := List.eq_nil_of_length_eq_zero (by omega); subst this; rfl)).symm
    rw [decide_eq_false c1]
    repeat (first | ((with_reducible apply is_ldg); first | refine kldg hM ?_ | refine kldwg hM ?_) | ((with_reducible apply is_sg); refine sgu ?_) | ((with_reducible apply is_gg); first | refine gtg ?_ | refine gfg ?_ | refine gug ?_) | ((with_reducible apply is_eg); refine eg ?_))
    try simp only [bst_size]
    by_cases c2 : (k.length : Int) > 64
    · rw [decide_eq_true c2]
      repeat (first | ((with_reducible apply is_ldg); first | refine kldg hM ?_ | refine kldwg hM ?_) | ((with_reducible apply is_sg); refine sgu ?_) | ((with_reducible apply is_gg); first | refine gtg ?_ | refine gfg ?_ | refine gug ?_) | ((with_reducible apply is_eg); refine eg ?_))
      (intro w hc; have hM := hM.call hc)
      refine c_condb rfl (fun _ => ?_) (fun h => by cases h)
      repeat (first | ((with_reducible apply is_ld); first | refine kld hM ?_ | refine kldw hM ?_ | refine kle hM ?_ | refine klew hM ?_) | ((with_reducible apply is_sto); first | (refine kst hM ?_; intro w hM) | (refine kstw hM ?_; intro w hM)) | ((with_reducible apply is_st); refine su ?_) | ((with_reducible apply is_gd); first | refine gt ?_ | refine gf ?_ | refine gu ?_) | ((with_reducible apply is_en); refine en ?_) | (with_reducible apply c_region) | refine ws ?_ | refine x_block_other (by decide) ?_)
      refine out1 rfl ⟨?_, hM.ch⟩
      rw [hf]
      exact congrArg Value.bool (hbad (goodPB (k, v, d)) (by simp [goodPB]; omega)).symm
    rw [decide_eq_false c2]
    repeat (first | ((with_reducible apply is_ldg); first | refine kldg hM ?_ | refine kldwg hM ?_) | ((with_reducible apply is_sg); refine sgu ?_) | ((with_reducible apply is_gg); first | refine gtg ?_ | refine gfg ?_ | refine gug ?_) | ((with_reducible apply is_eg); refine eg ?_))
    try simp only [bst_size]
    by_cases c3 : (v.length : Int) > 256
    · rw [decide_eq_true c3]
      repeat (first | ((with_reducible apply is_ldg); first | refine kldg hM ?_ | refine kldwg hM ?_) | ((with_reducible apply is_sg); refine sgu ?_) | ((with_reducible apply is_gg); first | refine gtg ?_ | refine gfg ?_ | refine gug ?_) | ((with_reducible apply is_eg); refine eg ?_))
      (intro w hc; have hM := hM.call hc)
      refine c_condb rfl (fun _ => ?_) (fun h => by cases h)
      repeat (first | ((with_reducible apply is_ld); first | refine kld hM ?_ | refine kldw hM ?_ | refine kle hM ?_ | refine klew hM ?_) | ((with_reducible apply is_sto); first | (refine kst hM ?_; intro w hM) | (refine kstw hM ?_; intro w hM)) | ((with_reducible apply is_st); refine su ?_) | ((with_reducible apply is_gd); first | refine gt ?_ | refine gf ?_ | refine gu ?_) | ((with_reducible apply is_en); refine en ?_) | (with_reducible apply c_region) | refine ws ?_ | refine x_block_other (by decide) ?_)
      refine out1 rfl ⟨?_, hM.ch⟩
      rw [hf]
      exact congrArg Value.bool (hbad (goodPB (k, v, d)) (by simp [goodPB]; omega)).symm
    rw [decide_eq_false c3]
    repeat (first | ((with_reducible apply is_ldg); first | refine kldg hM ?_ | refine kldwg hM ?_) | ((with_reducible apply is_sg); refine sgu ?_) | ((with_reducible apply is_gg); first | refine gtg ?_ | refine gfg ?_ | refine gug ?_) | ((with_reducible apply is_eg); refine eg ?_))
    try simp only [bst_size]
    have hg0 : goodPB (k, v, d) = (!d || decide (v = [])) := by
      have q1 : 0 < k.length := by omega
      have q2 : k.length ≤ 64 := by omega
      have q3 : v.length ≤ 256 := by omega
      simp [goodPB, q1, q2, q3]
    by_cases hg : goodPB (k, v, d) = true
    case neg =>
      rw [Bool.not_eq_true] at hg
      rw [hg0] at hg
      cases d with
      | false => cases hg
      | true =>
        have hv : ¬ v = [] := by simpa using hg
        repeat (first | ((with_reducible apply is_ldg); first | refine kldg hM ?_ | refine kldwg hM ?_) | ((with_reducible apply is_sg); refine sgu ?_) | ((with_reducible apply is_gg); first | refine gtg ?_ | refine gfg ?_ | refine gug ?_) | ((with_reducible apply is_eg); refine eg ?_))
        (try ((with_reducible apply is_gg); first | refine gtg ?_ | refine gfg ?_ | refine gug ?_)); refine wg_val (fun _ _ => r_neqst (a := v) (b := [])) ?_
        rw [decide_eq_false hv]
        repeat (first | ((with_reducible apply is_ldg); first | refine kldg hM ?_ | refine kldwg hM ?_) | ((with_reducible apply is_sg); refine sgu ?_) | ((with_reducible apply is_gg); first | refine gtg ?_ | refine gfg ?_ | refine gug ?_) | ((with_reducible apply is_eg); refine eg ?_))
        (intro w hc; have hM := hM.call hc)
        refine c_condb rfl (fun _ => ?_) (fun h => by cases h)
        repeat (first | ((with_reducible apply is_ld); first | refine kld hM ?_ | refine kldw hM ?_ | refine kle hM ?_ | refine klew hM ?_) | ((with_reducible apply is_sto); first | (refine kst hM ?_; intro w hM) | (refine kstw hM ?_; intro w hM)) | ((with_reducible apply is_st); refine su ?_) | ((with_reducible apply is_gd); first | refine gt ?_ | refine gf ?_ | refine gu ?_) | ((with_reducible apply is_en); refine en ?_) | (with_reducible apply c_region) | refine ws ?_ | refine x_block_other (by decide) ?_)
        refine out1 rfl ⟨?_, hM.ch⟩
        rw [hf]
        exact congrArg Value.bool (hbad (goodPB (k, v, true)) (by rw [hg0]; simp [hv])).symm
    have hg' := hg
    rw [hg0] at hg'
    cases d with
    | false =>
      repeat (first | ((with_reducible apply is_ldg); first | refine kldg hM ?_ | refine kldwg hM ?_) | ((with_reducible apply is_sg); refine sgu ?_) | ((with_reducible apply is_gg); first | refine gtg ?_ | refine gfg ?_ | refine gug ?_) | ((with_reducible apply is_eg); refine eg ?_))
      by_cases hj0 : j = 0
      · have hq : (match prevOf zs j with | none => true | some q => ltB q k) = true := by
          subst hj0
          rfl
        rw [decide_eq_false (by omega : ¬ (j : Int) > 0)]
        repeat (first | ((with_reducible apply is_ldg); first | refine kldg hM ?_ | refine kldwg hM ?_) | ((with_reducible apply is_sg); refine sgu ?_) | ((with_reducible apply is_gg); first | refine gtg ?_ | refine gfg ?_ | refine gug ?_) | ((with_reducible apply is_eg); refine eg ?_))
        (intro w hc; have hM := hM.call hc)
        refine c_condb rfl (fun h => by cases h) (fun _ => ?_)
        repeat (first | ((with_reducible apply is_ld); first | refine kld hM ?_ | refine kldw hM ?_ | refine kle hM ?_ | refine klew hM ?_) | ((with_reducible apply is_sto); first | (refine kst hM ?_; intro w hM) | (refine kstw hM ?_; intro w hM)) | ((with_reducible apply is_st); refine su ?_) | ((with_reducible apply is_gd); first | refine gt ?_ | refine gf ?_ | refine gu ?_) | ((with_reducible apply is_en); refine en ?_) | (with_reducible apply c_region) | refine ws ?_ | refine x_block_other (by decide) ?_)
        exact x_goes (n - 1) rfl (by omega) ⟨j + 1, exj rfl, by omega, hM.nil, by rw [hf, hg, hq]; rfl⟩
      · rw [decide_eq_true (by omega : (j : Int) > 0)]
        repeat (first | ((with_reducible apply is_ldg); first | refine kldg hM ?_ | refine kldwg hM ?_) | ((with_reducible apply is_sg); refine sgu ?_) | ((with_reducible apply is_gg); first | refine gtg ?_ | refine gfg ?_ | refine gug ?_) | ((with_reducible apply is_eg); refine eg ?_))
        obtain ⟨q, hq0⟩ : ∃ q, zs[j - 1]? = some q := ⟨_, List.getElem?_eq_getElem (by omega)⟩
        have hpv : prevOf zs j = some q.1 := by
          unfold prevOf
          rw [if_neg hj0, hq0]
          rfl
        refine kixg hR (fun b o q2 hq2 hA2 => ?_) (h1 := by omega)
        rw [show ((j : Int) - 1).toNat = j - 1 by omega, hq0] at hq2
        obtain rfl := Option.some.inj hq2
        repeat (first | ((with_reducible apply is_ldg); first | refine kldg hM ?_ | refine kldwg hM ?_) | ((with_reducible apply is_sg); refine sgu ?_) | ((with_reducible apply is_gg); first | refine gtg ?_ | refine gfg ?_ | refine gug ?_) | ((with_reducible apply is_eg); refine eg ?_))
        refine wg_val (fun w1 hc1 => r_load_one rfl (by
          obtain ⟨_, _, cs, hcs, hr⟩ := (hA2.mv hM.ch (by simp)).mv hc1 (by simp)
          have hcs : cs = ePr.f q := hcs
          subst hcs
          exact hr 0 _ rfl)) ?_
        repeat (first | ((with_reducible apply is_ldg); first | refine kldg hM ?_ | refine kldwg hM ?_) | ((with_reducible apply is_sg); refine sgu ?_) | ((with_reducible apply is_gg); first | refine gtg ?_ | refine gfg ?_ | refine gug ?_) | ((with_reducible apply is_eg); refine eg ?_))
        (try ((with_reducible apply is_gg); first | refine gtg ?_ | refine gfg ?_ | refine gug ?_)); refine wg_val (fun _ _ => r_leS (a := k) (b := q.1)) ?_
        cases hlt : ltB q.1 k with
        | false =>
          have hor : (ltB k q.1 || decide (k = q.1)) = true := by
            rcases ltB_total k q.1 with h | h | h
            · simp [h]
            · simp [h]
            · rw [hlt] at h
              cases h
          rw [hor]
          repeat (first | ((with_reducible apply is_ldg); first | refine kldg hM ?_ | refine kldwg hM ?_) | ((with_reducible apply is_sg); refine sgu ?_) | ((with_reducible apply is_gg); first | refine gtg ?_ | refine gfg ?_ | refine gug ?_) | ((with_reducible apply is_eg); refine eg ?_))
          (intro w hc; have hM := hM.call hc)
          refine c_condb rfl (fun _ => ?_) (fun h => by cases h)
          repeat (first | ((with_reducible apply is_ld); first | refine kld hM ?_ | refine kldw hM ?_ | refine kle hM ?_ | refine klew hM ?_) | ((with_reducible apply is_sto); first | (refine kst hM ?_; intro w hM) | (refine kstw hM ?_; intro w hM)) | ((with_reducible apply is_st); refine su ?_) | ((with_reducible apply is_gd); first | refine gt ?_ | refine gf ?_ | refine gu ?_) | ((with_reducible apply is_en); refine en ?_) | (with_reducible apply c_region) | refine ws ?_ | refine x_block_other (by decide) ?_)
          refine out1 rfl ⟨?_, hM.ch⟩
          rw [hf]
          rw [hpv]
          simp [hlt, ev, nth]
        | true =>
          have hor : (ltB k q.1 || decide (k = q.1)) = false := by
            rw [ltB_anti hlt]
            have : ¬ k = q.1 := fun e => by rw [e, ltB_irr] at hlt; cases hlt
            simp [this]
          rw [hor]
          have hq : (match prevOf zs j with | none => true | some q => ltB q k) = true := by
            rw [hpv]
            exact hlt
          repeat (first | ((with_reducible apply is_ldg); first | refine kldg hM ?_ | refine kldwg hM ?_) | ((with_reducible apply is_sg); refine sgu ?_) | ((with_reducible apply is_gg); first | refine gtg ?_ | refine gfg ?_ | refine gug ?_) | ((with_reducible apply is_eg); refine eg ?_))
          (intro w hc; have hM := hM.call hc)
          refine c_condb rfl (fun h => by cases h) (fun _ => ?_)
          repeat (first | ((with_reducible apply is_ld); first | refine kld hM ?_ | refine kldw hM ?_ | refine kle hM ?_ | refine klew hM ?_) | ((with_reducible apply is_sto); first | (refine kst hM ?_; intro w hM) | (refine kstw hM ?_; intro w hM)) | ((with_reducible apply is_st); refine su ?_) | ((with_reducible apply is_gd); first | refine gt ?_ | refine gf ?_ | refine gu ?_) | ((with_reducible apply is_en); refine en ?_) | (with_reducible apply c_region) | refine ws ?_ | refine x_block_other (by decide) ?_)
          exact x_goes (n - 1) rfl (by omega) ⟨j + 1, exj rfl, by omega, hM.nil, by rw [hf, hg, hq]; rfl⟩
    | true =>
      repeat (first | ((with_reducible apply is_ldg); first | refine kldg hM ?_ | refine kldwg hM ?_) | ((with_reducible apply is_sg); refine sgu ?_) | ((with_reducible apply is_gg); first | refine gtg ?_ | refine gfg ?_ | refine gug ?_) | ((with_reducible apply is_eg); refine eg ?_))
      have hv : v = [] := by simpa using hg'
      (try ((with_reducible apply is_gg); first | refine gtg ?_ | refine gfg ?_ | refine gug ?_)); refine wg_val (fun _ _ => r_neqst (a := v) (b := [])) ?_
      rw [decide_eq_true hv]
      repeat (first | ((with_reducible apply is_ldg); first | refine kldg hM ?_ | refine kldwg hM ?_) | ((with_reducible apply is_sg); refine sgu ?_) | ((with_reducible apply is_gg); first | refine gtg ?_ | refine gfg ?_ | refine gug ?_) | ((with_reducible apply is_eg); refine eg ?_))
      by_cases hj0 : j = 0
      · have hq : (match prevOf zs j with | none => true | some q => ltB q k) = true := by
          subst hj0
          rfl
        rw [decide_eq_false (by omega : ¬ (j : Int) > 0)]
        repeat (first | ((with_reducible apply is_ldg); first | refine kldg hM ?_ | refine kldwg hM ?_) | ((with_reducible apply is_sg); refine sgu ?_) | ((with_reducible apply is_gg); first | refine gtg ?_ | refine gfg ?_ | refine gug ?_) | ((with_reducible apply is_eg); refine eg ?_))
        (intro w hc; have hM := hM.call hc)
        refine c_condb rfl (fun h => by cases h) (fun _ => ?_)
        repeat (first | ((with_reducible apply is_ld); first | refine kld hM ?_ | refine kldw hM ?_ | refine kle hM ?_ | refine klew hM ?_) | ((with_reducible apply is_sto); first | (refine kst hM ?_; intro w hM) | (refine kstw hM ?_; intro w hM)) | ((with_reducible apply is_st); refine su ?_) | ((with_reducible apply is_gd); first | refine gt ?_ | refine gf ?_ | refine gu ?_) | ((with_reducible apply is_en); refine en ?_) | (with_reducible apply c_region) | refine ws ?_ | refine x_block_other (by decide) ?_)
        exact x_goes (n - 1) rfl (by omega) ⟨j + 1, exj rfl, by omega, hM.nil, by rw [hf, hg, hq]; rfl⟩
      · rw [decide_eq_true (by omega : (j : Int) > 0)]
        repeat (first | ((with_reducible apply is_ldg); first | refine kldg hM ?_ | refine kldwg hM ?_) | ((with_reducible apply is_sg); refine sgu ?_) | ((with_reducible apply is_gg); first | refine gtg ?_ | refine gfg ?_ | refine gug ?_) | ((with_reducible apply is_eg); refine eg ?_))
        obtain ⟨q, hq0⟩ : ∃ q, zs[j - 1]? = some q := ⟨_, List.getElem?_eq_getElem (by omega)⟩
        have hpv : prevOf zs j = some q.1 := by
          unfold prevOf
          rw [if_neg hj0, hq0]
          rfl
        refine kixg hR (fun b o q2 hq2 hA2 => ?_) (h1 := by omega)
        rw [show ((j : Int) - 1).toNat = j - 1 by omega, hq0] at hq2
        obtain rfl := Option.some.inj hq2
        repeat (first | ((with_reducible apply is_ldg); first | refine kldg hM ?_ | refine kldwg hM ?_) | ((with_reducible apply is_sg); refine sgu ?_) | ((with_reducible apply is_gg); first | refine gtg ?_ | refine gfg ?_ | refine gug ?_) | ((with_reducible apply is_eg); refine eg ?_))
        refine wg_val (fun w1 hc1 => r_load_one rfl (by
          obtain ⟨_, _, cs, hcs, hr⟩ := (hA2.mv hM.ch (by simp)).mv hc1 (by simp)
          have hcs : cs = ePr.f q := hcs
          subst hcs
          exact hr 0 _ rfl)) ?_
        repeat (first | ((with_reducible apply is_ldg); first | refine kldg hM ?_ | refine kldwg hM ?_) | ((with_reducible apply is_sg); refine sgu ?_) | ((with_reducible apply is_gg); first | refine gtg ?_ | refine gfg ?_ | refine gug ?_) | ((with_reducible apply is_eg); refine eg ?_))
        (try ((with_reducible apply is_gg); first | refine gtg ?_ | refine gfg ?_ | refine gug ?_)); refine wg_val (fun _ _ => r_leS (a := k) (b := q.1)) ?_
        cases hlt : ltB q.1 k with
        | false =>
          have hor : (ltB k q.1 || decide (k = q.1)) = true := by
            rcases ltB_total k q.1 with h | h | h
            · simp [h]
            · simp [h]
            · rw [hlt] at h
              cases h
          rw [hor]
          repeat (first | ((with_reducible apply is_ldg); first | refine kldg hM ?_ | refine kldwg hM ?_) | ((with_reducible apply is_sg); refine sgu ?_) | ((with_reducible apply is_gg); first | refine gtg ?_ | refine gfg ?_ | refine gug ?_) | ((with_reducible apply is_eg); refine eg ?_))
          (intro w hc; have hM := hM.call hc)
          refine c_condb rfl (fun _ => ?_) (fun h => by cases h)
          repeat (first | ((with_reducible apply is_ld); first | refine kld hM ?_ | refine kldw hM ?_ | refine kle hM ?_ | refine klew hM ?_) | ((with_reducible apply is_sto); first | (refine kst hM ?_; intro w hM) | (refine kstw hM ?_; intro w hM)) | ((with_reducible apply is_st); refine su ?_) | ((with_reducible apply is_gd); first | refine gt ?_ | refine gf ?_ | refine gu ?_) | ((with_reducible apply is_en); refine en ?_) | (with_reducible apply c_region) | refine ws ?_ | refine x_block_other (by decide) ?_)
          refine out1 rfl ⟨?_, hM.ch⟩
          rw [hf]
          rw [hpv]
          simp [hlt, ev, nth]
        | true =>
          have hor : (ltB k q.1 || decide (k = q.1)) = false := by
            rw [ltB_anti hlt]
            have : ¬ k = q.1 := fun e => by rw [e, ltB_irr] at hlt; cases hlt
            simp [this]
          rw [hor]
          have hq : (match prevOf zs j with | none => true | some q => ltB q k) = true := by
            rw [hpv]
            exact hlt
          repeat (first | ((with_reducible apply is_ldg); first | refine kldg hM ?_ | refine kldwg hM ?_) | ((with_reducible apply is_sg); refine sgu ?_) | ((with_reducible apply is_gg); first | refine gtg ?_ | refine gfg ?_ | refine gug ?_) | ((with_reducible apply is_eg); refine eg ?_))
          (intro w hc; have hM := hM.call hc)
          refine c_condb rfl (fun h => by cases h) (fun _ => ?_)
          repeat (first | ((with_reducible apply is_ld); first | refine kld hM ?_ | refine kldw hM ?_ | refine kle hM ?_ | refine klew hM ?_) | ((with_reducible apply is_sto); first | (refine kst hM ?_; intro w hM) | (refine kstw hM ?_; intro w hM)) | ((with_reducible apply is_st); refine su ?_) | ((with_reducible apply is_gd); first | refine gt ?_ | refine gf ?_ | refine gu ?_) | ((with_reducible apply is_en); refine en ?_) | (with_reducible apply c_region) | refine ws ?_ | refine x_block_other (by decide) ?_)
          exact x_goes (n - 1) rfl (by omega) ⟨j + 1, exj rfl, by omega, hM.nil, by rw [hf, hg, hq]; rfl⟩
  · rw [List.drop_eq_nil_of_le (by omega)] at hf
    repeat (first | ((with_reducible apply is_ld); first | refine kld hM ?_ | refine kldw hM ?_ | refine kle hM ?_ | refine klew hM ?_) | ((with_reducible apply is_sto); first | (refine kst hM ?_; intro w hM) | (refine kstw hM ?_; intro w hM)) | ((with_reducible apply is_st); refine su ?_) | ((with_reducible apply is_gd); first | refine gt ?_ | refine gf ?_ | refine gu ?_) | ((with_reducible apply is_en); refine en ?_) | (with_reducible apply c_region) | refine ws ?_ | refine x_block_other (by decide) ?_)
    exact out1 rfl ⟨by rw [hf]; rfl, hM.ch⟩
end Go.Proofs.YtkpkfplcoakfcaaDoor

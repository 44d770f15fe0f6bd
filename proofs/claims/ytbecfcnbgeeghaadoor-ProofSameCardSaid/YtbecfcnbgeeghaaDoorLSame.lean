/- The law of what is as great as itself. -/
import Derived.Test.YtbecfcnbgeeghaaDoorLChecks
set_option linter.unusedVariables false
set_option linter.unusedSimpArgs false
namespace Go.Proofs.E
open Go Go.RowKit
section
variable {P : Program} {l : List Value} {w : World} {T : TypeId}
theorem r_neqb {x y : Operand} {t u : TypeId} {a b : Bool} [hU : Und P t .bool] (hx : ev l x = .bool a) (hy : ev l y = .bool b) : (exec (ev l) (.binOp .neq t x y u) T).run P w = .ok (.value (.bool (!(a == b)))) w := by
  simp [exec, execOp, hx, hy, eqGuard, run_neq_bool w t a b hU.out]
end
end Go.Proofs.E
namespace Go.Proofs.YtbecfcnbgeeghaaDoor
open Go Go.RowKit Go.Proofs.E
attribute [local irreducible] Go.wpList Go.Code.wp Go.Proofs.E.exec Go.Proofs.E.wpLexG
theorem same_aa {a b : Hs} {n : Int} : checksZ a b n n [] = (inK n n && decide (a = b)) := by
  unfold checksZ
  cases hi : inK n n with
  | false => rfl
  | true =>
    rw [twoZ_whole rfl]
    unfold twoOk
    show (true && (decide (([] : List Hs).length = 0) && decide (a = a) && decide (a = b))) = _
    rw [decide_eq_true (rfl : a = a)]
    rfl
theorem same_one {a b c : Hs} {n : Int} : checksZ a b n n [c] = false := by
  unfold checksZ
  rw [twoZ_whole rfl]
  unfold twoOk
  rw [Bool.and_eq_false_iff]
  exact .inr rfl
set_option maxHeartbeats 16000000 in
theorem lsame_any (a b : Hs) (n m : Int) (w : World) (hK : Laid w) :
    Calls Tryd.prog 13 #[hv a.1, hv b.1, nv2 n m] w (Ret fun u w' => u = .bool true ∧ Ch [] w w') := by
  refine enter [hv a.1, hv b.1, nv2 n m, undef, undef, undef, undef, undef, undef, undef, undef, undef, undef, undef, undef, undef, undef, undef, undef, undef, undef, undef, undef, undef, undef, undef, undef, undef, undef, undef, undef, undef, undef, undef, undef, undef, undef, undef, undef, undef, undef, undef, undef, undef, undef, undef, undef, undef, undef, undef, undef, undef, undef, undef, undef, undef, undef, undef, undef, undef, undef, undef, undef, undef] Tryd.func13 rfl rfl ?_
  repeat (first | ((with_reducible apply is_st); refine su ?_) | ((with_reducible apply is_gd); first | refine gt ?_ | refine gf ?_ | refine gu ?_) | ((with_reducible apply is_en); refine en ?_) | (with_reducible first | apply x_then | apply wp_seq | apply c_region | apply wp_block | apply wp_skip | apply wp_exit | apply wp_ret | apply wp_label | apply wp_scope_straight | apply x_ng | apply x_ng_ret | apply x_ng_exit | apply x_then_ret | apply x_then_exit | apply x_block | apply x_block_ret | apply x_block_exit | refine x_block_other (by decide) ?_))
  refine wl_box rfl (fun w1 b3 hb3 => ?_)
  refine wl_box rfl (fun w2 b4 hb4 => ?_)
  refine wl_box rfl (fun w3 b5 hb5 => ?_)
  have hB5 : Blk w3 b5 [.int .i64 n, .int .i64 m] 41 := hb5.blk
  have hB4 : Blk w3 b4 (b.1.map u8v) 26 := Blk.ch (show Blk w2 b4 (b.1.map u8v) 26 from hb4.blk) hb5.ch (by simp)
  have hB3 : Blk w3 b3 (a.1.map u8v) 26 := (Blk.ch (show Blk w1 b3 (a.1.map u8v) 26 from hb3.blk) hb4.ch (by simp)).ch hb5.ch (by simp)
  have hc3 : Ch [] w w3 := (hb3.ch.then hb4.ch).then hb5.ch
  have hA32 : ((a.1.map u8v).drop 0).take 32 = a.1.map u8v := by simp [List.take_of_length_le, a.2]
  have hB32 : ((b.1.map u8v).drop 0).take 32 = b.1.map u8v := by simp [List.take_of_length_le, b.2]
  repeat (first | ((with_reducible apply is_st); refine su ?_) | ((with_reducible apply is_gd); first | refine gt ?_ | refine gf ?_ | refine gu ?_) | ((with_reducible apply is_en); refine en ?_) | (with_reducible first | apply x_then | apply wp_seq | apply c_region | apply wp_block | apply wp_skip | apply wp_exit | apply wp_ret | apply wp_label | apply wp_scope_straight | apply x_ng | apply x_ng_ret | apply x_ng_exit | apply x_then_ret | apply x_then_exit | apply x_block | apply x_block_ret | apply x_block_exit | refine x_block_other (by decide) ?_))
  refine c_draw [] (by kernel_rfl) (by kernel_rfl) (fun w4 hc4 hs4 => ?_)
  have hB5 := hB5.ch hc4 (by simp)
  have hB4 := hB4.ch hc4 (by simp)
  have hB3 := hB3.ch hc4 (by simp)
  have hc4 : Ch [] w w4 := hc3.then hc4
  repeat (first | ((with_reducible apply is_sg); refine sgu ?_) | ((with_reducible apply is_gg); first | refine gtg ?_ | refine gfg ?_ | refine gug ?_) | ((with_reducible apply is_eg); refine eg ?_))
  refine ldbg hB5 (by simp) rfl rfl ?_
  repeat (first | ((with_reducible apply is_sg); refine sgu ?_) | ((with_reducible apply is_gg); first | refine gtg ?_ | refine gfg ?_ | refine gug ?_) | ((with_reducible apply is_eg); refine eg ?_))
  refine ldbg hB5 (by simp) rfl rfl ?_
  repeat (first | ((with_reducible apply is_sg); refine sgu ?_) | ((with_reducible apply is_gg); first | refine gtg ?_ | refine gfg ?_ | refine gug ?_) | ((with_reducible apply is_eg); refine eg ?_))
  intro w5 hc5
  have hB4 := hB4.ch hc5 (by simp)
  have hB3 := hB3.ch hc5 (by simp)
  have hc5 : Ch [] w w5 := hc4.then hc5
  have hK5 := hK.ch hc5 (by simp)
  have hgt : ¬ n ≤ m → checksZ a b n m [] = false := fun h => checksZ_f (inK_f (by omega))
  by_cases h1 : 1 ≤ n
  · by_cases h2 : n ≤ 1099511627776
    · have hin : inK n n = true := inK_t h1 (Int.le_refl _) h2
      have k1 : checksZ a a n n [] = true := by rw [same_aa, hin]; rw [decide_eq_true rfl]; rfl
      have k2 : checksZ a b n n [] = decide (a = b) := by rw [same_aa, hin]; rfl
      have k3 : checksZ a a n n [a] = false := same_one
      repeat (first | ((with_reducible apply is_st); refine su ?_) | ((with_reducible apply is_gd); first | refine gt ?_ | refine gf ?_ | refine gu ?_) | ((with_reducible apply is_en); refine en ?_) | (with_reducible first | apply x_then | apply wp_seq | apply c_region | apply wp_block | apply wp_skip | apply wp_exit | apply wp_ret | apply wp_label | apply wp_scope_straight | apply x_ng | apply x_ng_ret | apply x_ng_exit | apply x_then_ret | apply x_then_exit | apply x_block | apply x_block_ret | apply x_block_exit | refine x_block_other (by decide) ?_))
      (try rw [decide_eq_true h2])
      (try ((with_reducible apply is_gd); refine gt ?_))
      refine ldbr (n := 32) hB3 rfl (ds := a.1.map u8v) hA32 (by simp [a.2]) ?_
      (try ((with_reducible apply is_gd); refine gt ?_))
      refine ldbr (n := 32) hB3 rfl (ds := a.1.map u8v) hA32 (by simp [a.2]) ?_
      repeat (first | ((with_reducible apply is_st); refine su ?_) | ((with_reducible apply is_gd); first | refine gt ?_ | refine gf ?_ | refine gu ?_) | ((with_reducible apply is_en); refine en ?_) | (with_reducible first | apply x_then | apply wp_seq | apply c_region | apply wp_block | apply wp_skip | apply wp_exit | apply wp_ret | apply wp_label | apply wp_scope_straight | apply x_ng | apply x_ng_ret | apply x_ng_exit | apply x_then_ret | apply x_then_exit | apply x_block | apply x_block_ret | apply x_block_exit | refine x_block_other (by decide) ?_))
      (try ((with_reducible apply is_gd); first | refine gt ?_ | refine gf ?_ | refine gu ?_)); refine ca (checks_any a a n n (.slice none 0 0) [] w5 hK5 (Ty.Rd.nil _ _ _ _ _)) ?_
      rintro _ w6 ⟨rfl, hc6⟩
      rw [k1]
      have hB4 := hB4.ch hc6 (by simp)
      have hB3 := hB3.ch hc6 (by simp)
      have hc6 : Ch [] w w6 := hc5.then hc6
      have hK6 := hK.ch hc6 (by simp)
      repeat (first | ((with_reducible apply is_st); refine su ?_) | ((with_reducible apply is_gd); first | refine gt ?_ | refine gf ?_ | refine gu ?_) | ((with_reducible apply is_en); refine en ?_) | (with_reducible first | apply x_then | apply wp_seq | apply c_region | apply wp_block | apply wp_skip | apply wp_exit | apply wp_ret | apply wp_label | apply wp_scope_straight | apply x_ng | apply x_ng_ret | apply x_ng_exit | apply x_then_ret | apply x_then_exit | apply x_block | apply x_block_ret | apply x_block_exit | refine x_block_other (by decide) ?_))
      (try ((with_reducible apply is_gd); first | refine gt ?_ | refine gf ?_ | refine gu ?_)); refine wl_val (r_to' (r_neqb (a := true) (b := true) rfl rfl) (show _ = false from rfl)) ?_
      repeat (first | ((with_reducible apply is_st); refine su ?_) | ((with_reducible apply is_gd); first | refine gt ?_ | refine gf ?_ | refine gu ?_) | ((with_reducible apply is_en); refine en ?_) | (with_reducible first | apply x_then | apply wp_seq | apply c_region | apply wp_block | apply wp_skip | apply wp_exit | apply wp_ret | apply wp_label | apply wp_scope_straight | apply x_ng | apply x_ng_ret | apply x_ng_exit | apply x_then_ret | apply x_then_exit | apply x_block | apply x_block_ret | apply x_block_exit | refine x_block_other (by decide) ?_))
      (try ((with_reducible apply is_gd); refine gt ?_))
      refine ldbr (n := 32) hB3 rfl (ds := a.1.map u8v) hA32 (by simp [a.2]) ?_
      (try ((with_reducible apply is_gd); refine gt ?_))
      refine ldbr (n := 32) hB4 rfl (ds := b.1.map u8v) hB32 (by simp [b.2]) ?_
      repeat (first | ((with_reducible apply is_st); refine su ?_) | ((with_reducible apply is_gd); first | refine gt ?_ | refine gf ?_ | refine gu ?_) | ((with_reducible apply is_en); refine en ?_) | (with_reducible first | apply x_then | apply wp_seq | apply c_region | apply wp_block | apply wp_skip | apply wp_exit | apply wp_ret | apply wp_label | apply wp_scope_straight | apply x_ng | apply x_ng_ret | apply x_ng_exit | apply x_then_ret | apply x_then_exit | apply x_block | apply x_block_ret | apply x_block_exit | refine x_block_other (by decide) ?_))
      (try ((with_reducible apply is_gd); first | refine gt ?_ | refine gf ?_ | refine gu ?_)); refine ca (checks_any a b n n (.slice none 0 0) [] w6 hK6 (Ty.Rd.nil _ _ _ _ _)) ?_
      rintro _ w7 ⟨rfl, hc7⟩
      rw [k2]
      have hB4 := hB4.ch hc7 (by simp)
      have hB3 := hB3.ch hc7 (by simp)
      have hc7 : Ch [] w w7 := hc6.then hc7
      have hK7 := hK.ch hc7 (by simp)
      repeat (first | ((with_reducible apply is_st); refine su ?_) | ((with_reducible apply is_gd); first | refine gt ?_ | refine gf ?_ | refine gu ?_) | ((with_reducible apply is_en); refine en ?_) | (with_reducible first | apply x_then | apply wp_seq | apply c_region | apply wp_block | apply wp_skip | apply wp_exit | apply wp_ret | apply wp_label | apply wp_scope_straight | apply x_ng | apply x_ng_ret | apply x_ng_exit | apply x_then_ret | apply x_then_exit | apply x_block | apply x_block_ret | apply x_block_exit | refine x_block_other (by decide) ?_))
      (try ((with_reducible apply is_gd); refine gt ?_))
      refine ldbr (n := 32) hB3 rfl (ds := a.1.map u8v) hA32 (by simp [a.2]) ?_
      (try ((with_reducible apply is_gd); refine gt ?_))
      refine ldbr (n := 32) hB4 rfl (ds := b.1.map u8v) hB32 (by simp [b.2]) ?_
      (try ((with_reducible apply is_gd); refine gt ?_))
      refine wl_val (r_eql8 (n := 32) (a := a.1) (b := b.1) Tryd.eqGuardType26 rfl rfl a.2 b.2) ?_
      rw [hs_eq]
      repeat (first | ((with_reducible apply is_st); refine su ?_) | ((with_reducible apply is_gd); first | refine gt ?_ | refine gf ?_ | refine gu ?_) | ((with_reducible apply is_en); refine en ?_) | (with_reducible first | apply x_then | apply wp_seq | apply c_region | apply wp_block | apply wp_skip | apply wp_exit | apply wp_ret | apply wp_label | apply wp_scope_straight | apply x_ng | apply x_ng_ret | apply x_ng_exit | apply x_then_ret | apply x_then_exit | apply x_block | apply x_block_ret | apply x_block_exit | refine x_block_other (by decide) ?_))
      (try ((with_reducible apply is_gd); first | refine gt ?_ | refine gf ?_ | refine gu ?_)); refine wl_val (r_to' (r_neqb (a := decide (a = b)) (b := decide (a = b)) rfl rfl) (show _ = false from by rw [beq_self_eq_true]; rfl)) ?_
      repeat (first | ((with_reducible apply is_st); refine su ?_) | ((with_reducible apply is_gd); first | refine gt ?_ | refine gf ?_ | refine gu ?_) | ((with_reducible apply is_en); refine en ?_) | (with_reducible first | apply x_then | apply wp_seq | apply c_region | apply wp_block | apply wp_skip | apply wp_exit | apply wp_ret | apply wp_label | apply wp_scope_straight | apply x_ng | apply x_ng_ret | apply x_ng_exit | apply x_then_ret | apply x_then_exit | apply x_block | apply x_block_ret | apply x_block_exit | refine x_block_other (by decide) ?_))
      (try ((with_reducible apply is_gd); refine gt ?_))
      refine ldbr (n := 32) hB3 rfl (ds := a.1.map u8v) hA32 (by simp [a.2]) ?_
      (try ((with_reducible apply is_gd); refine gt ?_))
      refine ldbr (n := 32) hB3 rfl (ds := a.1.map u8v) hA32 (by simp [a.2]) ?_
      repeat (first | ((with_reducible apply is_st); refine su ?_) | ((with_reducible apply is_gd); first | refine gt ?_ | refine gf ?_ | refine gu ?_) | ((with_reducible apply is_en); refine en ?_) | (with_reducible first | apply x_then | apply wp_seq | apply c_region | apply wp_block | apply wp_skip | apply wp_exit | apply wp_ret | apply wp_label | apply wp_scope_straight | apply x_ng | apply x_ng_ret | apply x_ng_exit | apply x_then_ret | apply x_then_exit | apply x_block | apply x_block_ret | apply x_block_exit | refine x_block_other (by decide) ?_))
      (try ((with_reducible apply is_gd); refine gt ?_))
      refine ldbr (n := 32) hB3 rfl (ds := a.1.map u8v) hA32 (by simp [a.2]) ?_
      (try ((with_reducible apply is_gd); refine gt ?_))
      refine wl_buildSlice (parts := [(0, .tmp 46)]) (vs := [hv a.1]) rfl rfl (by simp [hv, Value.cells, a.2]) (by omega) (fun w8 bs hbs => ?_)
      have hRs : (Ty.enc eH).Rd [] w8 (.slice (some ⟨bs, 0, none⟩) 1 1) [a] := Blk.rdP (en := eH) (S := []) (ys := [a]) hbs.blk (by simp) (by simp [hv, Value.cells, List.take_of_length_le, a.2]) rfl (Nat.le_refl _) (by omega)
      have hB4 := hB4.ch hbs.ch (by simp)
      have hB3 := hB3.ch hbs.ch (by simp)
      have hc8 : Ch [] w w8 := hc7.then hbs.ch
      repeat (first | ((with_reducible apply is_st); refine su ?_) | ((with_reducible apply is_gd); first | refine gt ?_ | refine gf ?_ | refine gu ?_) | ((with_reducible apply is_en); refine en ?_) | (with_reducible first | apply x_then | apply wp_seq | apply c_region | apply wp_block | apply wp_skip | apply wp_exit | apply wp_ret | apply wp_label | apply wp_scope_straight | apply x_ng | apply x_ng_ret | apply x_ng_exit | apply x_then_ret | apply x_then_exit | apply x_block | apply x_block_ret | apply x_block_exit | refine x_block_other (by decide) ?_))
      (try ((with_reducible apply is_gd); first | refine gt ?_ | refine gf ?_ | refine gu ?_)); refine ca (checks_any a a n n _ [a] w8 (hK.ch hc8 (by simp)) hRs) ?_
      rintro _ w9 ⟨rfl, hc9⟩
      rw [k3]
      have hB4 := hB4.ch hc9 (by simp)
      have hB3 := hB3.ch hc9 (by simp)
      have hc9 : Ch [] w w9 := hc8.then hc9
      have hK9 := hK.ch hc9 (by simp)
      repeat (first | ((with_reducible apply is_st); refine su ?_) | ((with_reducible apply is_gd); first | refine gt ?_ | refine gf ?_ | refine gu ?_) | ((with_reducible apply is_en); refine en ?_) | (with_reducible first | apply x_then | apply wp_seq | apply c_region | apply wp_block | apply wp_skip | apply wp_exit | apply wp_ret | apply wp_label | apply wp_scope_straight | apply x_ng | apply x_ng_ret | apply x_ng_exit | apply x_then_ret | apply x_then_exit | apply x_block | apply x_block_ret | apply x_block_exit | refine x_block_other (by decide) ?_))
      refine c_condb rfl (fun h => by cases h) (fun _ => ?_)
      by_cases hnm : n ≤ m
      · repeat (first | ((with_reducible apply is_st); refine su ?_) | ((with_reducible apply is_gd); first | refine gt ?_ | refine gf ?_ | refine gu ?_) | ((with_reducible apply is_en); refine en ?_) | (with_reducible first | apply x_then | apply wp_seq | apply c_region | apply wp_block | apply wp_skip | apply wp_exit | apply wp_ret | apply wp_label | apply wp_scope_straight | apply x_ng | apply x_ng_ret | apply x_ng_exit | apply x_then_ret | apply x_then_exit | apply x_block | apply x_block_ret | apply x_block_exit | refine x_block_other (by decide) ?_))
        (try ((with_reducible apply is_gd); first | refine gt ?_ | refine gf ?_ | refine gu ?_)); refine ca (lives10_any w9 hK9) ?_
        rintro _ w10 ⟨rfl, hc10⟩
        repeat (first | ((with_reducible apply is_st); refine su ?_) | ((with_reducible apply is_gd); first | refine gt ?_ | refine gf ?_ | refine gu ?_) | ((with_reducible apply is_en); refine en ?_) | (with_reducible first | apply x_then | apply wp_seq | apply c_region | apply wp_block | apply wp_skip | apply wp_exit | apply wp_ret | apply wp_label | apply wp_scope_straight | apply x_ng | apply x_ng_ret | apply x_ng_exit | apply x_then_ret | apply x_then_exit | apply x_block | apply x_block_ret | apply x_block_exit | refine x_block_other (by decide) ?_))
        exact out1 rfl ⟨rfl, hc9.then hc10⟩
      · repeat (first | ((with_reducible apply is_st); refine su ?_) | ((with_reducible apply is_gd); first | refine gt ?_ | refine gf ?_ | refine gu ?_) | ((with_reducible apply is_en); refine en ?_) | (with_reducible first | apply x_then | apply wp_seq | apply c_region | apply wp_block | apply wp_skip | apply wp_exit | apply wp_ret | apply wp_label | apply wp_scope_straight | apply x_ng | apply x_ng_ret | apply x_ng_exit | apply x_then_ret | apply x_then_exit | apply x_block | apply x_block_ret | apply x_block_exit | refine x_block_other (by decide) ?_))
        (try ((with_reducible apply is_gd); refine gt ?_))
        refine ldbr (n := 32) hB3 rfl (ds := a.1.map u8v) hA32 (by simp [a.2]) ?_
        (try ((with_reducible apply is_gd); refine gt ?_))
        refine ldbr (n := 32) hB4 rfl (ds := b.1.map u8v) hB32 (by simp [b.2]) ?_
        repeat (first | ((with_reducible apply is_st); refine su ?_) | ((with_reducible apply is_gd); first | refine gt ?_ | refine gf ?_ | refine gu ?_) | ((with_reducible apply is_en); refine en ?_) | (with_reducible first | apply x_then | apply wp_seq | apply c_region | apply wp_block | apply wp_skip | apply wp_exit | apply wp_ret | apply wp_label | apply wp_scope_straight | apply x_ng | apply x_ng_ret | apply x_ng_exit | apply x_then_ret | apply x_then_exit | apply x_block | apply x_block_ret | apply x_block_exit | refine x_block_other (by decide) ?_))
        (try ((with_reducible apply is_gd); first | refine gt ?_ | refine gf ?_ | refine gu ?_)); refine ca (checks_any a b n m (.slice none 0 0) [] w9 hK9 (Ty.Rd.nil _ _ _ _ _)) ?_
        rintro _ w10 ⟨rfl, hc10⟩
        rw [hgt hnm]
        have hc10 : Ch [] w w10 := hc9.then hc10
        repeat (first | ((with_reducible apply is_st); refine su ?_) | ((with_reducible apply is_gd); first | refine gt ?_ | refine gf ?_ | refine gu ?_) | ((with_reducible apply is_en); refine en ?_) | (with_reducible first | apply x_then | apply wp_seq | apply c_region | apply wp_block | apply wp_skip | apply wp_exit | apply wp_ret | apply wp_label | apply wp_scope_straight | apply x_ng | apply x_ng_ret | apply x_ng_exit | apply x_then_ret | apply x_then_exit | apply x_block | apply x_block_ret | apply x_block_exit | refine x_block_other (by decide) ?_))
        (try ((with_reducible apply is_gd); first | refine gt ?_ | refine gf ?_ | refine gu ?_)); refine ca (lives10_any w10 (hK.ch hc10 (by simp))) ?_
        rintro _ w11 ⟨rfl, hc11⟩
        repeat (first | ((with_reducible apply is_st); refine su ?_) | ((with_reducible apply is_gd); first | refine gt ?_ | refine gf ?_ | refine gu ?_) | ((with_reducible apply is_en); refine en ?_) | (with_reducible first | apply x_then | apply wp_seq | apply c_region | apply wp_block | apply wp_skip | apply wp_exit | apply wp_ret | apply wp_label | apply wp_scope_straight | apply x_ng | apply x_ng_ret | apply x_ng_exit | apply x_then_ret | apply x_then_exit | apply x_block | apply x_block_ret | apply x_block_exit | refine x_block_other (by decide) ?_))
        exact out1 rfl ⟨rfl, hc10.then hc11⟩
    · have hin : inK n n = false := inK_f (by omega)
      have k1 : checksZ a a n n [] = false := by rw [same_aa, hin]; rfl
      have k2 : checksZ a b n n [] = false := by rw [same_aa, hin]; rfl
      have k3 : checksZ a a n n [a] = false := same_one
      repeat (first | ((with_reducible apply is_st); refine su ?_) | ((with_reducible apply is_gd); first | refine gt ?_ | refine gf ?_ | refine gu ?_) | ((with_reducible apply is_en); refine en ?_) | (with_reducible first | apply x_then | apply wp_seq | apply c_region | apply wp_block | apply wp_skip | apply wp_exit | apply wp_ret | apply wp_label | apply wp_scope_straight | apply x_ng | apply x_ng_ret | apply x_ng_exit | apply x_then_ret | apply x_then_exit | apply x_block | apply x_block_ret | apply x_block_exit | refine x_block_other (by decide) ?_))
      (try rw [decide_eq_false h2])
      (try ((with_reducible apply is_gd); refine gt ?_))
      refine ldbr (n := 32) hB3 rfl (ds := a.1.map u8v) hA32 (by simp [a.2]) ?_
      (try ((with_reducible apply is_gd); refine gt ?_))
      refine ldbr (n := 32) hB3 rfl (ds := a.1.map u8v) hA32 (by simp [a.2]) ?_
      repeat (first | ((with_reducible apply is_st); refine su ?_) | ((with_reducible apply is_gd); first | refine gt ?_ | refine gf ?_ | refine gu ?_) | ((with_reducible apply is_en); refine en ?_) | (with_reducible first | apply x_then | apply wp_seq | apply c_region | apply wp_block | apply wp_skip | apply wp_exit | apply wp_ret | apply wp_label | apply wp_scope_straight | apply x_ng | apply x_ng_ret | apply x_ng_exit | apply x_then_ret | apply x_then_exit | apply x_block | apply x_block_ret | apply x_block_exit | refine x_block_other (by decide) ?_))
      (try ((with_reducible apply is_gd); first | refine gt ?_ | refine gf ?_ | refine gu ?_)); refine ca (checks_any a a n n (.slice none 0 0) [] w5 hK5 (Ty.Rd.nil _ _ _ _ _)) ?_
      rintro _ w6 ⟨rfl, hc6⟩
      rw [k1]
      have hB4 := hB4.ch hc6 (by simp)
      have hB3 := hB3.ch hc6 (by simp)
      have hc6 : Ch [] w w6 := hc5.then hc6
      have hK6 := hK.ch hc6 (by simp)
      repeat (first | ((with_reducible apply is_st); refine su ?_) | ((with_reducible apply is_gd); first | refine gt ?_ | refine gf ?_ | refine gu ?_) | ((with_reducible apply is_en); refine en ?_) | (with_reducible first | apply x_then | apply wp_seq | apply c_region | apply wp_block | apply wp_skip | apply wp_exit | apply wp_ret | apply wp_label | apply wp_scope_straight | apply x_ng | apply x_ng_ret | apply x_ng_exit | apply x_then_ret | apply x_then_exit | apply x_block | apply x_block_ret | apply x_block_exit | refine x_block_other (by decide) ?_))
      (try ((with_reducible apply is_gd); first | refine gt ?_ | refine gf ?_ | refine gu ?_)); refine wl_val (r_to' (r_neqb (a := false) (b := false) rfl rfl) (show _ = false from rfl)) ?_
      repeat (first | ((with_reducible apply is_st); refine su ?_) | ((with_reducible apply is_gd); first | refine gt ?_ | refine gf ?_ | refine gu ?_) | ((with_reducible apply is_en); refine en ?_) | (with_reducible first | apply x_then | apply wp_seq | apply c_region | apply wp_block | apply wp_skip | apply wp_exit | apply wp_ret | apply wp_label | apply wp_scope_straight | apply x_ng | apply x_ng_ret | apply x_ng_exit | apply x_then_ret | apply x_then_exit | apply x_block | apply x_block_ret | apply x_block_exit | refine x_block_other (by decide) ?_))
      (try ((with_reducible apply is_gd); refine gt ?_))
      refine ldbr (n := 32) hB3 rfl (ds := a.1.map u8v) hA32 (by simp [a.2]) ?_
      (try ((with_reducible apply is_gd); refine gt ?_))
      refine ldbr (n := 32) hB4 rfl (ds := b.1.map u8v) hB32 (by simp [b.2]) ?_
      repeat (first | ((with_reducible apply is_st); refine su ?_) | ((with_reducible apply is_gd); first | refine gt ?_ | refine gf ?_ | refine gu ?_) | ((with_reducible apply is_en); refine en ?_) | (with_reducible first | apply x_then | apply wp_seq | apply c_region | apply wp_block | apply wp_skip | apply wp_exit | apply wp_ret | apply wp_label | apply wp_scope_straight | apply x_ng | apply x_ng_ret | apply x_ng_exit | apply x_then_ret | apply x_then_exit | apply x_block | apply x_block_ret | apply x_block_exit | refine x_block_other (by decide) ?_))
      (try ((with_reducible apply is_gd); first | refine gt ?_ | refine gf ?_ | refine gu ?_)); refine ca (checks_any a b n n (.slice none 0 0) [] w6 hK6 (Ty.Rd.nil _ _ _ _ _)) ?_
      rintro _ w7 ⟨rfl, hc7⟩
      rw [k2]
      have hB4 := hB4.ch hc7 (by simp)
      have hB3 := hB3.ch hc7 (by simp)
      have hc7 : Ch [] w w7 := hc6.then hc7
      have hK7 := hK.ch hc7 (by simp)
      repeat (first | ((with_reducible apply is_st); refine su ?_) | ((with_reducible apply is_gd); first | refine gt ?_ | refine gf ?_ | refine gu ?_) | ((with_reducible apply is_en); refine en ?_) | (with_reducible first | apply x_then | apply wp_seq | apply c_region | apply wp_block | apply wp_skip | apply wp_exit | apply wp_ret | apply wp_label | apply wp_scope_straight | apply x_ng | apply x_ng_ret | apply x_ng_exit | apply x_then_ret | apply x_then_exit | apply x_block | apply x_block_ret | apply x_block_exit | refine x_block_other (by decide) ?_))
      (try ((with_reducible apply is_gd); first | refine gt ?_ | refine gf ?_ | refine gu ?_)); refine wl_val (r_to' (r_neqb (a := false) (b := false) rfl rfl) (show _ = false from rfl)) ?_
      repeat (first | ((with_reducible apply is_st); refine su ?_) | ((with_reducible apply is_gd); first | refine gt ?_ | refine gf ?_ | refine gu ?_) | ((with_reducible apply is_en); refine en ?_) | (with_reducible first | apply x_then | apply wp_seq | apply c_region | apply wp_block | apply wp_skip | apply wp_exit | apply wp_ret | apply wp_label | apply wp_scope_straight | apply x_ng | apply x_ng_ret | apply x_ng_exit | apply x_then_ret | apply x_then_exit | apply x_block | apply x_block_ret | apply x_block_exit | refine x_block_other (by decide) ?_))
      (try ((with_reducible apply is_gd); refine gt ?_))
      refine ldbr (n := 32) hB3 rfl (ds := a.1.map u8v) hA32 (by simp [a.2]) ?_
      (try ((with_reducible apply is_gd); refine gt ?_))
      refine ldbr (n := 32) hB3 rfl (ds := a.1.map u8v) hA32 (by simp [a.2]) ?_
      repeat (first | ((with_reducible apply is_st); refine su ?_) | ((with_reducible apply is_gd); first | refine gt ?_ | refine gf ?_ | refine gu ?_) | ((with_reducible apply is_en); refine en ?_) | (with_reducible first | apply x_then | apply wp_seq | apply c_region | apply wp_block | apply wp_skip | apply wp_exit | apply wp_ret | apply wp_label | apply wp_scope_straight | apply x_ng | apply x_ng_ret | apply x_ng_exit | apply x_then_ret | apply x_then_exit | apply x_block | apply x_block_ret | apply x_block_exit | refine x_block_other (by decide) ?_))
      (try ((with_reducible apply is_gd); refine gt ?_))
      refine ldbr (n := 32) hB3 rfl (ds := a.1.map u8v) hA32 (by simp [a.2]) ?_
      (try ((with_reducible apply is_gd); refine gt ?_))
      refine wl_buildSlice (parts := [(0, .tmp 46)]) (vs := [hv a.1]) rfl rfl (by simp [hv, Value.cells, a.2]) (by omega) (fun w8 bs hbs => ?_)
      have hRs : (Ty.enc eH).Rd [] w8 (.slice (some ⟨bs, 0, none⟩) 1 1) [a] := Blk.rdP (en := eH) (S := []) (ys := [a]) hbs.blk (by simp) (by simp [hv, Value.cells, List.take_of_length_le, a.2]) rfl (Nat.le_refl _) (by omega)
      have hB4 := hB4.ch hbs.ch (by simp)
      have hB3 := hB3.ch hbs.ch (by simp)
      have hc8 : Ch [] w w8 := hc7.then hbs.ch
      repeat (first | ((with_reducible apply is_st); refine su ?_) | ((with_reducible apply is_gd); first | refine gt ?_ | refine gf ?_ | refine gu ?_) | ((with_reducible apply is_en); refine en ?_) | (with_reducible first | apply x_then | apply wp_seq | apply c_region | apply wp_block | apply wp_skip | apply wp_exit | apply wp_ret | apply wp_label | apply wp_scope_straight | apply x_ng | apply x_ng_ret | apply x_ng_exit | apply x_then_ret | apply x_then_exit | apply x_block | apply x_block_ret | apply x_block_exit | refine x_block_other (by decide) ?_))
      (try ((with_reducible apply is_gd); first | refine gt ?_ | refine gf ?_ | refine gu ?_)); refine ca (checks_any a a n n _ [a] w8 (hK.ch hc8 (by simp)) hRs) ?_
      rintro _ w9 ⟨rfl, hc9⟩
      rw [k3]
      have hB4 := hB4.ch hc9 (by simp)
      have hB3 := hB3.ch hc9 (by simp)
      have hc9 : Ch [] w w9 := hc8.then hc9
      have hK9 := hK.ch hc9 (by simp)
      repeat (first | ((with_reducible apply is_st); refine su ?_) | ((with_reducible apply is_gd); first | refine gt ?_ | refine gf ?_ | refine gu ?_) | ((with_reducible apply is_en); refine en ?_) | (with_reducible first | apply x_then | apply wp_seq | apply c_region | apply wp_block | apply wp_skip | apply wp_exit | apply wp_ret | apply wp_label | apply wp_scope_straight | apply x_ng | apply x_ng_ret | apply x_ng_exit | apply x_then_ret | apply x_then_exit | apply x_block | apply x_block_ret | apply x_block_exit | refine x_block_other (by decide) ?_))
      refine c_condb rfl (fun h => by cases h) (fun _ => ?_)
      by_cases hnm : n ≤ m
      · repeat (first | ((with_reducible apply is_st); refine su ?_) | ((with_reducible apply is_gd); first | refine gt ?_ | refine gf ?_ | refine gu ?_) | ((with_reducible apply is_en); refine en ?_) | (with_reducible first | apply x_then | apply wp_seq | apply c_region | apply wp_block | apply wp_skip | apply wp_exit | apply wp_ret | apply wp_label | apply wp_scope_straight | apply x_ng | apply x_ng_ret | apply x_ng_exit | apply x_then_ret | apply x_then_exit | apply x_block | apply x_block_ret | apply x_block_exit | refine x_block_other (by decide) ?_))
        (try ((with_reducible apply is_gd); first | refine gt ?_ | refine gf ?_ | refine gu ?_)); refine ca (lives10_any w9 hK9) ?_
        rintro _ w10 ⟨rfl, hc10⟩
        repeat (first | ((with_reducible apply is_st); refine su ?_) | ((with_reducible apply is_gd); first | refine gt ?_ | refine gf ?_ | refine gu ?_) | ((with_reducible apply is_en); refine en ?_) | (with_reducible first | apply x_then | apply wp_seq | apply c_region | apply wp_block | apply wp_skip | apply wp_exit | apply wp_ret | apply wp_label | apply wp_scope_straight | apply x_ng | apply x_ng_ret | apply x_ng_exit | apply x_then_ret | apply x_then_exit | apply x_block | apply x_block_ret | apply x_block_exit | refine x_block_other (by decide) ?_))
        exact out1 rfl ⟨rfl, hc9.then hc10⟩
      · repeat (first | ((with_reducible apply is_st); refine su ?_) | ((with_reducible apply is_gd); first | refine gt ?_ | refine gf ?_ | refine gu ?_) | ((with_reducible apply is_en); refine en ?_) | (with_reducible first | apply x_then | apply wp_seq | apply c_region | apply wp_block | apply wp_skip | apply wp_exit | apply wp_ret | apply wp_label | apply wp_scope_straight | apply x_ng | apply x_ng_ret | apply x_ng_exit | apply x_then_ret | apply x_then_exit | apply x_block | apply x_block_ret | apply x_block_exit | refine x_block_other (by decide) ?_))
        (try ((with_reducible apply is_gd); refine gt ?_))
        refine ldbr (n := 32) hB3 rfl (ds := a.1.map u8v) hA32 (by simp [a.2]) ?_
        (try ((with_reducible apply is_gd); refine gt ?_))
        refine ldbr (n := 32) hB4 rfl (ds := b.1.map u8v) hB32 (by simp [b.2]) ?_
        repeat (first | ((with_reducible apply is_st); refine su ?_) | ((with_reducible apply is_gd); first | refine gt ?_ | refine gf ?_ | refine gu ?_) | ((with_reducible apply is_en); refine en ?_) | (with_reducible first | apply x_then | apply wp_seq | apply c_region | apply wp_block | apply wp_skip | apply wp_exit | apply wp_ret | apply wp_label | apply wp_scope_straight | apply x_ng | apply x_ng_ret | apply x_ng_exit | apply x_then_ret | apply x_then_exit | apply x_block | apply x_block_ret | apply x_block_exit | refine x_block_other (by decide) ?_))
        (try ((with_reducible apply is_gd); first | refine gt ?_ | refine gf ?_ | refine gu ?_)); refine ca (checks_any a b n m (.slice none 0 0) [] w9 hK9 (Ty.Rd.nil _ _ _ _ _)) ?_
        rintro _ w10 ⟨rfl, hc10⟩
        rw [hgt hnm]
        have hc10 : Ch [] w w10 := hc9.then hc10
        repeat (first | ((with_reducible apply is_st); refine su ?_) | ((with_reducible apply is_gd); first | refine gt ?_ | refine gf ?_ | refine gu ?_) | ((with_reducible apply is_en); refine en ?_) | (with_reducible first | apply x_then | apply wp_seq | apply c_region | apply wp_block | apply wp_skip | apply wp_exit | apply wp_ret | apply wp_label | apply wp_scope_straight | apply x_ng | apply x_ng_ret | apply x_ng_exit | apply x_then_ret | apply x_then_exit | apply x_block | apply x_block_ret | apply x_block_exit | refine x_block_other (by decide) ?_))
        (try ((with_reducible apply is_gd); first | refine gt ?_ | refine gf ?_ | refine gu ?_)); refine ca (lives10_any w10 (hK.ch hc10 (by simp))) ?_
        rintro _ w11 ⟨rfl, hc11⟩
        repeat (first | ((with_reducible apply is_st); refine su ?_) | ((with_reducible apply is_gd); first | refine gt ?_ | refine gf ?_ | refine gu ?_) | ((with_reducible apply is_en); refine en ?_) | (with_reducible first | apply x_then | apply wp_seq | apply c_region | apply wp_block | apply wp_skip | apply wp_exit | apply wp_ret | apply wp_label | apply wp_scope_straight | apply x_ng | apply x_ng_ret | apply x_ng_exit | apply x_then_ret | apply x_then_exit | apply x_block | apply x_block_ret | apply x_block_exit | refine x_block_other (by decide) ?_))
        exact out1 rfl ⟨rfl, hc10.then hc11⟩
  · have hin : inK n n = false := inK_f (by omega)
    have k1 : checksZ a a n n [] = false := by rw [same_aa, hin]; rfl
    have k2 : checksZ a b n n [] = false := by rw [same_aa, hin]; rfl
    have k3 : checksZ a a n n [a] = false := same_one
    repeat (first | ((with_reducible apply is_st); refine su ?_) | ((with_reducible apply is_gd); first | refine gt ?_ | refine gf ?_ | refine gu ?_) | ((with_reducible apply is_en); refine en ?_) | (with_reducible first | apply x_then | apply wp_seq | apply c_region | apply wp_block | apply wp_skip | apply wp_exit | apply wp_ret | apply wp_label | apply wp_scope_straight | apply x_ng | apply x_ng_ret | apply x_ng_exit | apply x_then_ret | apply x_then_exit | apply x_block | apply x_block_ret | apply x_block_exit | refine x_block_other (by decide) ?_))
    (try ((with_reducible apply is_gd); refine gt ?_))
    refine ldbr (n := 32) hB3 rfl (ds := a.1.map u8v) hA32 (by simp [a.2]) ?_
    (try ((with_reducible apply is_gd); refine gt ?_))
    refine ldbr (n := 32) hB3 rfl (ds := a.1.map u8v) hA32 (by simp [a.2]) ?_
    repeat (first | ((with_reducible apply is_st); refine su ?_) | ((with_reducible apply is_gd); first | refine gt ?_ | refine gf ?_ | refine gu ?_) | ((with_reducible apply is_en); refine en ?_) | (with_reducible first | apply x_then | apply wp_seq | apply c_region | apply wp_block | apply wp_skip | apply wp_exit | apply wp_ret | apply wp_label | apply wp_scope_straight | apply x_ng | apply x_ng_ret | apply x_ng_exit | apply x_then_ret | apply x_then_exit | apply x_block | apply x_block_ret | apply x_block_exit | refine x_block_other (by decide) ?_))
    (try ((with_reducible apply is_gd); first | refine gt ?_ | refine gf ?_ | refine gu ?_)); refine ca (checks_any a a n n (.slice none 0 0) [] w5 hK5 (Ty.Rd.nil _ _ _ _ _)) ?_
    rintro _ w6 ⟨rfl, hc6⟩
    rw [k1]
    have hB4 := hB4.ch hc6 (by simp)
    have hB3 := hB3.ch hc6 (by simp)
    have hc6 : Ch [] w w6 := hc5.then hc6
    have hK6 := hK.ch hc6 (by simp)
    repeat (first | ((with_reducible apply is_st); refine su ?_) | ((with_reducible apply is_gd); first | refine gt ?_ | refine gf ?_ | refine gu ?_) | ((with_reducible apply is_en); refine en ?_) | (with_reducible first | apply x_then | apply wp_seq | apply c_region | apply wp_block | apply wp_skip | apply wp_exit | apply wp_ret | apply wp_label | apply wp_scope_straight | apply x_ng | apply x_ng_ret | apply x_ng_exit | apply x_then_ret | apply x_then_exit | apply x_block | apply x_block_ret | apply x_block_exit | refine x_block_other (by decide) ?_))
    (try ((with_reducible apply is_gd); first | refine gt ?_ | refine gf ?_ | refine gu ?_)); refine wl_val (r_to' (r_neqb (a := false) (b := false) rfl rfl) (show _ = false from rfl)) ?_
    repeat (first | ((with_reducible apply is_st); refine su ?_) | ((with_reducible apply is_gd); first | refine gt ?_ | refine gf ?_ | refine gu ?_) | ((with_reducible apply is_en); refine en ?_) | (with_reducible first | apply x_then | apply wp_seq | apply c_region | apply wp_block | apply wp_skip | apply wp_exit | apply wp_ret | apply wp_label | apply wp_scope_straight | apply x_ng | apply x_ng_ret | apply x_ng_exit | apply x_then_ret | apply x_then_exit | apply x_block | apply x_block_ret | apply x_block_exit | refine x_block_other (by decide) ?_))
    (try ((with_reducible apply is_gd); refine gt ?_))
    refine ldbr (n := 32) hB3 rfl (ds := a.1.map u8v) hA32 (by simp [a.2]) ?_
    (try ((with_reducible apply is_gd); refine gt ?_))
    refine ldbr (n := 32) hB4 rfl (ds := b.1.map u8v) hB32 (by simp [b.2]) ?_
    repeat (first | ((with_reducible apply is_st); refine su ?_) | ((with_reducible apply is_gd); first | refine gt ?_ | refine gf ?_ | refine gu ?_) | ((with_reducible apply is_en); refine en ?_) | (with_reducible first | apply x_then | apply wp_seq | apply c_region | apply wp_block | apply wp_skip | apply wp_exit | apply wp_ret | apply wp_label | apply wp_scope_straight | apply x_ng | apply x_ng_ret | apply x_ng_exit | apply x_then_ret | apply x_then_exit | apply x_block | apply x_block_ret | apply x_block_exit | refine x_block_other (by decide) ?_))
    (try ((with_reducible apply is_gd); first | refine gt ?_ | refine gf ?_ | refine gu ?_)); refine ca (checks_any a b n n (.slice none 0 0) [] w6 hK6 (Ty.Rd.nil _ _ _ _ _)) ?_
    rintro _ w7 ⟨rfl, hc7⟩
    rw [k2]
    have hB4 := hB4.ch hc7 (by simp)
    have hB3 := hB3.ch hc7 (by simp)
    have hc7 : Ch [] w w7 := hc6.then hc7
    have hK7 := hK.ch hc7 (by simp)
    repeat (first | ((with_reducible apply is_st); refine su ?_) | ((with_reducible apply is_gd); first | refine gt ?_ | refine gf ?_ | refine gu ?_) | ((with_reducible apply is_en); refine en ?_) | (with_reducible first | apply x_then | apply wp_seq | apply c_region | apply wp_block | apply wp_skip | apply wp_exit | apply wp_ret | apply wp_label | apply wp_scope_straight | apply x_ng | apply x_ng_ret | apply x_ng_exit | apply x_then_ret | apply x_then_exit | apply x_block | apply x_block_ret | apply x_block_exit | refine x_block_other (by decide) ?_))
    (try ((with_reducible apply is_gd); first | refine gt ?_ | refine gf ?_ | refine gu ?_)); refine wl_val (r_to' (r_neqb (a := false) (b := false) rfl rfl) (show _ = false from rfl)) ?_
    repeat (first | ((with_reducible apply is_st); refine su ?_) | ((with_reducible apply is_gd); first | refine gt ?_ | refine gf ?_ | refine gu ?_) | ((with_reducible apply is_en); refine en ?_) | (with_reducible first | apply x_then | apply wp_seq | apply c_region | apply wp_block | apply wp_skip | apply wp_exit | apply wp_ret | apply wp_label | apply wp_scope_straight | apply x_ng | apply x_ng_ret | apply x_ng_exit | apply x_then_ret | apply x_then_exit | apply x_block | apply x_block_ret | apply x_block_exit | refine x_block_other (by decide) ?_))
    (try ((with_reducible apply is_gd); refine gt ?_))
    refine ldbr (n := 32) hB3 rfl (ds := a.1.map u8v) hA32 (by simp [a.2]) ?_
    (try ((with_reducible apply is_gd); refine gt ?_))
    refine ldbr (n := 32) hB3 rfl (ds := a.1.map u8v) hA32 (by simp [a.2]) ?_
    repeat (first | ((with_reducible apply is_st); refine su ?_) | ((with_reducible apply is_gd); first | refine gt ?_ | refine gf ?_ | refine gu ?_) | ((with_reducible apply is_en); refine en ?_) | (with_reducible first | apply x_then | apply wp_seq | apply c_region | apply wp_block | apply wp_skip | apply wp_exit | apply wp_ret | apply wp_label | apply wp_scope_straight | apply x_ng | apply x_ng_ret | apply x_ng_exit | apply x_then_ret | apply x_then_exit | apply x_block | apply x_block_ret | apply x_block_exit | refine x_block_other (by decide) ?_))
    (try ((with_reducible apply is_gd); refine gt ?_))
    refine ldbr (n := 32) hB3 rfl (ds := a.1.map u8v) hA32 (by simp [a.2]) ?_
    (try ((with_reducible apply is_gd); refine gt ?_))
    refine wl_buildSlice (parts := [(0, .tmp 46)]) (vs := [hv a.1]) rfl rfl (by simp [hv, Value.cells, a.2]) (by omega) (fun w8 bs hbs => ?_)
    have hRs : (Ty.enc eH).Rd [] w8 (.slice (some ⟨bs, 0, none⟩) 1 1) [a] := Blk.rdP (en := eH) (S := []) (ys := [a]) hbs.blk (by simp) (by simp [hv, Value.cells, List.take_of_length_le, a.2]) rfl (Nat.le_refl _) (by omega)
    have hB4 := hB4.ch hbs.ch (by simp)
    have hB3 := hB3.ch hbs.ch (by simp)
    have hc8 : Ch [] w w8 := hc7.then hbs.ch
    repeat (first | ((with_reducible apply is_st); refine su ?_) | ((with_reducible apply is_gd); first | refine gt ?_ | refine gf ?_ | refine gu ?_) | ((with_reducible apply is_en); refine en ?_) | (with_reducible first | apply x_then | apply wp_seq | apply c_region | apply wp_block | apply wp_skip | apply wp_exit | apply wp_ret | apply wp_label | apply wp_scope_straight | apply x_ng | apply x_ng_ret | apply x_ng_exit | apply x_then_ret | apply x_then_exit | apply x_block | apply x_block_ret | apply x_block_exit | refine x_block_other (by decide) ?_))
    (try ((with_reducible apply is_gd); first | refine gt ?_ | refine gf ?_ | refine gu ?_)); refine ca (checks_any a a n n _ [a] w8 (hK.ch hc8 (by simp)) hRs) ?_
    rintro _ w9 ⟨rfl, hc9⟩
    rw [k3]
    have hB4 := hB4.ch hc9 (by simp)
    have hB3 := hB3.ch hc9 (by simp)
    have hc9 : Ch [] w w9 := hc8.then hc9
    have hK9 := hK.ch hc9 (by simp)
    repeat (first | ((with_reducible apply is_st); refine su ?_) | ((with_reducible apply is_gd); first | refine gt ?_ | refine gf ?_ | refine gu ?_) | ((with_reducible apply is_en); refine en ?_) | (with_reducible first | apply x_then | apply wp_seq | apply c_region | apply wp_block | apply wp_skip | apply wp_exit | apply wp_ret | apply wp_label | apply wp_scope_straight | apply x_ng | apply x_ng_ret | apply x_ng_exit | apply x_then_ret | apply x_then_exit | apply x_block | apply x_block_ret | apply x_block_exit | refine x_block_other (by decide) ?_))
    refine c_condb rfl (fun h => by cases h) (fun _ => ?_)
    by_cases hnm : n ≤ m
    · repeat (first | ((with_reducible apply is_st); refine su ?_) | ((with_reducible apply is_gd); first | refine gt ?_ | refine gf ?_ | refine gu ?_) | ((with_reducible apply is_en); refine en ?_) | (with_reducible first | apply x_then | apply wp_seq | apply c_region | apply wp_block | apply wp_skip | apply wp_exit | apply wp_ret | apply wp_label | apply wp_scope_straight | apply x_ng | apply x_ng_ret | apply x_ng_exit | apply x_then_ret | apply x_then_exit | apply x_block | apply x_block_ret | apply x_block_exit | refine x_block_other (by decide) ?_))
      (try ((with_reducible apply is_gd); first | refine gt ?_ | refine gf ?_ | refine gu ?_)); refine ca (lives10_any w9 hK9) ?_
      rintro _ w10 ⟨rfl, hc10⟩
      repeat (first | ((with_reducible apply is_st); refine su ?_) | ((with_reducible apply is_gd); first | refine gt ?_ | refine gf ?_ | refine gu ?_) | ((with_reducible apply is_en); refine en ?_) | (with_reducible first | apply x_then | apply wp_seq | apply c_region | apply wp_block | apply wp_skip | apply wp_exit | apply wp_ret | apply wp_label | apply wp_scope_straight | apply x_ng | apply x_ng_ret | apply x_ng_exit | apply x_then_ret | apply x_then_exit | apply x_block | apply x_block_ret | apply x_block_exit | refine x_block_other (by decide) ?_))
      exact out1 rfl ⟨rfl, hc9.then hc10⟩
    · repeat (first | ((with_reducible apply is_st); refine su ?_) | ((with_reducible apply is_gd); first | refine gt ?_ | refine gf ?_ | refine gu ?_) | ((with_reducible apply is_en); refine en ?_) | (with_reducible first | apply x_then | apply wp_seq | apply c_region | apply wp_block | apply wp_skip | apply wp_exit | apply wp_ret | apply wp_label | apply wp_scope_straight | apply x_ng | apply x_ng_ret | apply x_ng_exit | apply x_then_ret | apply x_then_exit | apply x_block | apply x_block_ret | apply x_block_exit | refine x_block_other (by decide) ?_))
      (try ((with_reducible apply is_gd); refine gt ?_))
      refine ldbr (n := 32) hB3 rfl (ds := a.1.map u8v) hA32 (by simp [a.2]) ?_
      (try ((with_reducible apply is_gd); refine gt ?_))
      refine ldbr (n := 32) hB4 rfl (ds := b.1.map u8v) hB32 (by simp [b.2]) ?_
      repeat (first | ((with_reducible apply is_st); refine su ?_) | ((with_reducible apply is_gd); first | refine gt ?_ | refine gf ?_ | refine gu ?_) | ((with_reducible apply is_en); refine en ?_) | (with_reducible first | apply x_then | apply wp_seq | apply c_region | apply wp_block | apply wp_skip | apply wp_exit | apply wp_ret | apply wp_label | apply wp_scope_straight | apply x_ng | apply x_ng_ret | apply x_ng_exit | apply x_then_ret | apply x_then_exit | apply x_block | apply x_block_ret | apply x_block_exit | refine x_block_other (by decide) ?_))
      (try ((with_reducible apply is_gd); first | refine gt ?_ | refine gf ?_ | refine gu ?_)); refine ca (checks_any a b n m (.slice none 0 0) [] w9 hK9 (Ty.Rd.nil _ _ _ _ _)) ?_
      rintro _ w10 ⟨rfl, hc10⟩
      rw [hgt hnm]
      have hc10 : Ch [] w w10 := hc9.then hc10
      repeat (first | ((with_reducible apply is_st); refine su ?_) | ((with_reducible apply is_gd); first | refine gt ?_ | refine gf ?_ | refine gu ?_) | ((with_reducible apply is_en); refine en ?_) | (with_reducible first | apply x_then | apply wp_seq | apply c_region | apply wp_block | apply wp_skip | apply wp_exit | apply wp_ret | apply wp_label | apply wp_scope_straight | apply x_ng | apply x_ng_ret | apply x_ng_exit | apply x_then_ret | apply x_then_exit | apply x_block | apply x_block_ret | apply x_block_exit | refine x_block_other (by decide) ?_))
      (try ((with_reducible apply is_gd); first | refine gt ?_ | refine gf ?_ | refine gu ?_)); refine ca (lives10_any w10 (hK.ch hc10 (by simp))) ?_
      rintro _ w11 ⟨rfl, hc11⟩
      repeat (first | ((with_reducible apply is_st); refine su ?_) | ((with_reducible apply is_gd); first | refine gt ?_ | refine gf ?_ | refine gu ?_) | ((with_reducible apply is_en); refine en ?_) | (with_reducible first | apply x_then | apply wp_seq | apply c_region | apply wp_block | apply wp_skip | apply wp_exit | apply wp_ret | apply wp_label | apply wp_scope_straight | apply x_ng | apply x_ng_ret | apply x_ng_exit | apply x_then_ret | apply x_then_exit | apply x_block | apply x_block_ret | apply x_block_exit | refine x_block_other (by decide) ?_))
      exact out1 rfl ⟨rfl, hc10.then hc11⟩
end Go.Proofs.YtbecfcnbgeeghaaDoor

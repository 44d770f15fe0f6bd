/- Walks: the reference's root; the law of halves. -/
import Derived.Test.YtnkkeehoejmcnaaDoorRoot
import Derived.Test.YtnkkeehoejmcnaaDoorLives
set_option linter.unusedVariables false
set_option linter.unusedSimpArgs false
namespace Go.Proofs.YtnkkeehoejmcnaaDoor
open Go Go.RowKit Go.Proofs.E
attribute [local irreducible] Go.wpList Go.Code.wp Go.Proofs.E.exec Go.Proofs.E.wpLexG

set_option maxHeartbeats 8000000 in
theorem rroot_any (n : Nat) : ∀ (v : Value) (lv : List Hs) (w : World), lv.length = n → (Ty.enc eH).Rd [] w v lv → lv.length ≤ 1000000000 →
    Calls Tryd.prog 39 #[v] w (Ret fun u w' => u = hv (rootH lv).1 ∧ Ch [] w w') := by
  induction n using Nat.strongRecOn with
  | _ n ih =>
  intro v lv w hn hR hb
  refine enter [v, undef, undef, undef, undef, undef, undef, undef, undef, undef, undef, undef, undef, undef, undef, undef, undef, undef, undef, undef, undef, undef, undef, undef, undef, undef] Tryd.func39 rfl rfl ?_
  obtain ⟨A, cap, rfl⟩ := hR.form
  repeat (first | ((with_reducible apply is_st); refine su ?_) | ((with_reducible apply is_gd); first | refine gt ?_ | refine gf ?_ | refine gu ?_) | ((with_reducible apply is_en); refine en ?_) | (with_reducible apply c_region) | refine ws ?_ | refine x_block_other (by decide) ?_)
  refine wl_alloc (fun w1 c hc => ?_)
  have hC1 : Blk w1 c ((List.replicate 32 (0 : UInt8)).map u8v) 31 := hc.blk
  have hcw : c = w.heap.size := hc.at_
  repeat (first | ((with_reducible apply is_st); refine su ?_) | ((with_reducible apply is_gd); first | refine gt ?_ | refine gf ?_ | refine gu ?_) | ((with_reducible apply is_en); refine en ?_) | (with_reducible apply c_region) | refine ws ?_ | refine x_block_other (by decide) ?_)
  refine c_cond rfl (fun h => ?_) (fun h => ?_)
  · have : lv = [] := List.eq_nil_of_length_eq_zero (by omega)
    subst this
    repeat (first | ((with_reducible apply is_st); refine su ?_) | ((with_reducible apply is_gd); first | refine gt ?_ | refine gf ?_ | refine gu ?_) | ((with_reducible apply is_en); refine en ?_) | (with_reducible apply c_region) | refine ws ?_ | refine x_block_other (by decide) ?_)
    (try ((with_reducible apply is_gd); first | refine gt ?_ | refine gf ?_ | refine gu ?_)); refine ca (rempty_any w1) ?_
    rintro _ w2 ⟨rfl, hc2⟩
    have hls := shaOf_len []
    repeat (first | ((with_reducible apply is_st); refine su ?_) | ((with_reducible apply is_gd); first | refine gt ?_ | refine gf ?_ | refine gu ?_) | ((with_reducible apply is_en); refine en ?_) | (with_reducible apply c_region) | refine ws ?_ | refine x_block_other (by decide) ?_)
    refine stbw (n := 32) (hC1.ch hc2 (by simp)) rfl rfl (hv_len hls) (by simp) one_u8 (fun w3 hC3 hch3 hs3 => ?_)
    repeat (first | ((with_reducible apply is_st); refine su ?_) | ((with_reducible apply is_gd); first | refine gt ?_ | refine gf ?_ | refine gu ?_) | ((with_reducible apply is_en); refine en ?_) | (with_reducible apply c_region) | refine ws ?_ | refine x_block_other (by decide) ?_)
    exact outc rfl rfl (hC3.row (n := 32) (o := 0) (ds := emptyOf.map u8v) (by simp [emptyOf, List.take_of_length_le, hls])) (by simp [emptyOf, hls]) ⟨rfl, (hc.ch.then hc2).own hch3 (by omega)⟩
  · repeat (first | ((with_reducible apply is_st); refine su ?_) | ((with_reducible apply is_gd); first | refine gt ?_ | refine gf ?_ | refine gu ?_) | ((with_reducible apply is_en); refine en ?_) | (with_reducible apply c_region) | refine ws ?_ | refine x_block_other (by decide) ?_)
    refine c_cond rfl (fun h1 => ?_) (fun h1 => ?_)
    · match lv, (show lv.length = 1 by omega) with
      | [a], _ =>
        repeat (first | ((with_reducible apply is_st); refine su ?_) | ((with_reducible apply is_gd); first | refine gt ?_ | refine gf ?_ | refine gu ?_) | ((with_reducible apply is_en); refine en ?_) | (with_reducible apply c_region) | refine ws ?_ | refine x_block_other (by decide) ?_)
        (try ((with_reducible apply is_gd); first | refine gt ?_ | refine gf ?_ | refine gu ?_)); refine ix (hR.ch hc.ch) (fun b1 o1 x1 hx1 hA1 => ?_)
        obtain rfl := Option.some.inj hx1
        (try ((with_reducible apply is_gd); first | refine gt ?_ | refine gf ?_ | refine gu ?_)); refine ldr hA1 ?_
        repeat (first | ((with_reducible apply is_st); refine su ?_) | ((with_reducible apply is_gd); first | refine gt ?_ | refine gf ?_ | refine gu ?_) | ((with_reducible apply is_en); refine en ?_) | (with_reducible apply c_region) | refine ws ?_ | refine x_block_other (by decide) ?_)
        refine stbw (n := 32) hC1 rfl rfl (by simp [a.2]) (by simp) one_u8 (fun w5 hC5 hch5 hs5 => ?_)
        repeat (first | ((with_reducible apply is_st); refine su ?_) | ((with_reducible apply is_gd); first | refine gt ?_ | refine gf ?_ | refine gu ?_) | ((with_reducible apply is_en); refine en ?_) | (with_reducible apply c_region) | refine ws ?_ | refine x_block_other (by decide) ?_)
        exact outc rfl rfl (hC5.row (n := 32) (o := 0) (ds := a.1.map u8v) (by simp [List.take_of_length_le, a.2])) (by simp [a.2]) ⟨rfl, hc.ch.own hch5 (by omega)⟩
    · have h2 : 2 ≤ lv.length := by omega
      repeat (first | ((with_reducible apply is_st); refine su ?_) | ((with_reducible apply is_gd); first | refine gt ?_ | refine gf ?_ | refine gu ?_) | ((with_reducible apply is_en); refine en ?_) | (with_reducible apply c_region) | refine ws ?_ | refine x_block_other (by decide) ?_)
      (try ((with_reducible apply is_gd); first | refine gt ?_ | refine gf ?_ | refine gu ?_)); refine ca (rsplit_any (lv.length : Int) (by omega) w1) ?_
      rintro _ w2 ⟨rfl, hc2⟩
      subst hc2
      rw [splitZ_nat]
      obtain ⟨hk0, hk1⟩ := splitN_lt (n := lv.length) h2 (by omega)
      generalize hk : splitN lv.length = k at hk0 hk1
      repeat (first | ((with_reducible apply is_st); refine su ?_) | ((with_reducible apply is_gd); first | refine gt ?_ | refine gf ?_ | refine gu ?_) | ((with_reducible apply is_en); refine en ?_) | (with_reducible apply c_region) | refine ws ?_ | refine x_block_other (by decide) ?_)
      refine c_drawl 9 [] (by kernel_rfl) (by kernel_rfl) (by kernel_rfl) (fun w4 hc4 hs4 => ?_)
      have hR4 := (hR.ch hc.ch).ch hc4
      have hC4 := hC1.ch hc4 (by simp)
      repeat (first | ((with_reducible apply is_sg); refine sgu ?_) | ((with_reducible apply is_gg); first | refine gtg ?_ | refine gfg ?_ | refine gug ?_) | ((with_reducible apply is_eg); refine eg ?_))
      refine wg_cut_hi rfl hR4 rfl rfl (by omega) (by omega) (fun v1 hV1 => ?_)
      rw [Int.toNat_natCast] at hV1
      (try ((with_reducible apply is_gg); first | refine gtg ?_ | refine gfg ?_ | refine gug ?_)); refine cag (fun w5 hc5 => ih (lv.take k).length (by rw [List.length_take]; omega) v1 (lv.take k) w5 rfl (hV1.ch hc5) (by rw [List.length_take]; omega)) ?_
      repeat (first | ((with_reducible apply is_sg); refine sgu ?_) | ((with_reducible apply is_gg); first | refine gtg ?_ | refine gfg ?_ | refine gug ?_) | ((with_reducible apply is_eg); refine eg ?_))
      refine wg_cut_lo rfl hR4 rfl rfl (by omega) (by omega) (fun v2 hV2 => ?_)
      rw [Int.toNat_natCast] at hV2
      (try ((with_reducible apply is_gg); first | refine gtg ?_ | refine gfg ?_ | refine gug ?_)); refine cag (fun w5 hc5 => ih (lv.drop k).length (by rw [List.length_drop]; omega) v2 (lv.drop k) w5 rfl (hV2.ch hc5) (by rw [List.length_drop]; omega)) ?_
      (try ((with_reducible apply is_gg); first | refine gtg ?_ | refine gfg ?_ | refine gug ?_)); refine cag (fun w5 hc5 => rnode_any (rootH (lv.take k)).1 (rootH (lv.drop k)).1 (rootH (lv.take k)).2 (rootH (lv.drop k)).2 w5) ?_
      have hroot : rootH lv = nodeH (rootH (lv.take k)) (rootH (lv.drop k)) := by
        have := rootG_two (nd := nodeH) (em := emptyH) (l := lv) h2 (by omega)
        rw [hk] at this
        exact this
      refine lastg rfl (by kernel_rfl) (fun w7 hc7 => ?_)
      refine stbw (n := 32) (vs := (rootH lv).1.map u8v) (hC4.ch hc7 (by simp)) rfl (by rw [hroot]; rfl) (by simp [(rootH lv).2]) (by simp) one_u8 (fun w8 hC8 hch8 hs8 => ?_)
      refine x_last rfl rfl (fun w9 hc9 => ?_)
      repeat (first | ((with_reducible apply is_st); refine su ?_) | ((with_reducible apply is_gd); first | refine gt ?_ | refine gf ?_ | refine gu ?_) | ((with_reducible apply is_en); refine en ?_) | (with_reducible apply c_region) | refine ws ?_ | refine x_block_other (by decide) ?_)
      exact outc rfl rfl ((hC8.ch hc9 (by simp)).row (n := 32) (o := 0) (ds := (rootH lv).1.map u8v) (by simp [List.take_of_length_le, (rootH lv).2])) (by simp [(rootH lv).2]) ⟨rfl, (((hc.ch.then hc4).then hc7).own hch8 (by omega)).then hc9⟩
end Go.Proofs.YtnkkeehoejmcnaaDoor

/- Walks: the root of peaks, the program's and the reference's. -/
import Derived.Test.YtbecfcnbgeeghaaDoorPeak2
import Derived.Test.YtbecfcnbgeeghaaDoorRRoot
set_option linter.unusedVariables false
set_option linter.unusedSimpArgs false
namespace Go.Proofs.YtbecfcnbgeeghaaDoor
open Go Go.RowKit Go.Proofs.E
attribute [local irreducible] Go.wpList Go.Code.wp Go.Proofs.E.exec Go.Proofs.E.wpLexG
def rootPk (n : Int) (ts : List Hs) : Hs := if (goodZ n ts.length && !decide (n = 0)) = true then topH ts else emptyH
theorem popN_pos {n : Nat} (h0 : 0 < n) (h : n < 2 ^ 63) : 0 < popN n := by
  obtain ⟨k, hk, h1, h3, h4⟩ := bitLen_spec (u := n) h0 (by omega)
  have hk63 : k < 63 := by
    rcases Nat.lt_or_ge k 63 with h | h
    · exact h
    · have : 2 ^ 63 ≤ 2 ^ k := Nat.pow_le_pow_right (by omega) h
      omega
  unfold popN
  rw [bitsDown_top h1 h3 hk63]
  simp
theorem topH_last {ts : List Hs} {t : Hs} {k : Nat} (h : ts[k]? = some t) (hk : ts.length = k + 1) : (ts.take k).foldr nodeH t = topH ts := by
  have : ts = ts.take k ++ [t] := by
    conv => lhs; rw [← List.take_append_drop k ts]
    congr 1
    rw [List.drop_eq_getElem_cons (by omega), List.drop_of_length_le (by omega)]
    rw [List.getElem?_eq_getElem (by omega)] at h
    rw [Option.some.inj h]
  unfold topH
  conv => rhs; rw [this]
  exact (topG_snoc _).symm
theorem fold_step {ts : List Hs} {t x : Hs} {k i : Nat} (hi : i < k) (hk : k ≤ ts.length) (hx : ts[i]? = some x) : ((ts.take k).drop i).foldr nodeH t = nodeH x (((ts.take k).drop (i + 1)).foldr nodeH t) := by
  have hlt : i < (ts.take k).length := by rw [List.length_take]; omega
  rw [List.drop_eq_getElem_cons hlt, List.foldr_cons]
  congr 1
  rw [List.getElem_take]
  rw [List.getElem?_eq_getElem (by omega)] at hx
  exact Option.some.inj hx
set_option maxHeartbeats 8000000 in
theorem proot_any (n : Int) (v : Value) (ts : List Hs) (w : World) (hK : Laid w) (hR : (Ty.enc eH).Rd [] w v ts) (hlen : ts.length ≤ 1000) :
    Calls Tryd.prog 45 #[pkV n v] w (Ret fun u w' => u = hv (rootPk n ts).1 ∧ Ch [] w w') := by
  refine enter [pkV n v, undef, undef, undef, undef, undef, undef, undef, undef, undef, undef, undef, undef, undef, undef, undef, undef, undef, undef, undef, undef, undef, undef, undef, undef, undef, undef, undef, undef, undef, undef, undef, undef, undef, undef, undef, undef] Tryd.func45 rfl rfl ?_
  obtain ⟨A, cap, rfl⟩ := hR.form
  repeat (first | ((with_reducible apply is_st); refine su ?_) | ((with_reducible apply is_gd); first | refine gt ?_ | refine gf ?_ | refine gu ?_) | ((with_reducible apply is_en); refine en ?_) | (with_reducible first | apply x_then | apply wp_seq | apply c_region | apply wp_block | apply wp_skip | apply wp_exit | apply wp_ret | apply wp_label | apply wp_scope_straight | apply x_ng | apply x_ng_ret | apply x_ng_exit | apply x_then_ret | apply x_then_exit | apply x_block | apply x_block_ret | apply x_block_exit | refine x_block_other (by decide) ?_))
  refine wl_box rfl (fun w1 b1 hb1 => ?_)
  repeat (first | ((with_reducible apply is_st); refine su ?_) | ((with_reducible apply is_gd); first | refine gt ?_ | refine gf ?_ | refine gu ?_) | ((with_reducible apply is_en); refine en ?_) | (with_reducible first | apply x_then | apply wp_seq | apply c_region | apply wp_block | apply wp_skip | apply wp_exit | apply wp_ret | apply wp_label | apply wp_scope_straight | apply x_ng | apply x_ng_ret | apply x_ng_exit | apply x_then_ret | apply x_then_exit | apply x_block | apply x_block_ret | apply x_block_exit | refine x_block_other (by decide) ?_))
  refine wl_alloc (fun w2 b2 hb2 => ?_)
  have hB2 : Blk w2 b2 ((List.replicate 32 (0 : UInt8)).map u8v) 26 := hb2.blk
  have hB1 : Blk w2 b1 [.int .i64 n, .slice A ts.length cap] 51 := Blk.ch (show Blk w1 b1 [.int .i64 n, .slice A ts.length cap] 51 from hb1.blk) hb2.ch (by simp)
  have e1 := hb1.at_
  have e2 := hb2.at_
  have s1 := hb1.size
  have s2 := hb2.size
  have hc2 : Ch [] w w2 := hb1.ch.then hb2.ch
  repeat (first | ((with_reducible apply is_st); refine su ?_) | ((with_reducible apply is_gd); first | refine gt ?_ | refine gf ?_ | refine gu ?_) | ((with_reducible apply is_en); refine en ?_) | (with_reducible first | apply x_then | apply wp_seq | apply c_region | apply wp_block | apply wp_skip | apply wp_exit | apply wp_ret | apply wp_label | apply wp_scope_straight | apply x_ng | apply x_ng_ret | apply x_ng_exit | apply x_then_ret | apply x_then_exit | apply x_block | apply x_block_ret | apply x_block_exit | refine x_block_other (by decide) ?_))
  refine ldbr (n := 2) hB1 rfl rfl rfl ?_
  repeat (first | ((with_reducible apply is_st); refine su ?_) | ((with_reducible apply is_gd); first | refine gt ?_ | refine gf ?_ | refine gu ?_) | ((with_reducible apply is_en); refine en ?_) | (with_reducible first | apply x_then | apply wp_seq | apply c_region | apply wp_block | apply wp_skip | apply wp_exit | apply wp_ret | apply wp_label | apply wp_scope_straight | apply x_ng | apply x_ng_ret | apply x_ng_exit | apply x_then_ret | apply x_then_exit | apply x_block | apply x_block_ret | apply x_block_exit | refine x_block_other (by decide) ?_))
  (try ((with_reducible apply is_gd); first | refine gt ?_ | refine gf ?_ | refine gu ?_)); refine ca (good_any n (.slice A ts.length cap) ts w2 (hR.ch hc2)) ?_
  rintro _ w4 ⟨rfl, hc4⟩
  have hB1 := hB1.ch hc4 (by simp)
  have hB2 := hB2.ch hc4 (by simp)
  have hz4 := hc4.size
  have hc4 : Ch [] w w4 := hc2.then hc4
  have hempty : ∀ {w5 : World}, Ch [] w w5 → Laid w5 := fun h => hK.ch h (by simp)
  have hls := shaOf_len []
  cases hg : goodZ n ts.length
  · repeat (first | ((with_reducible apply is_st); refine su ?_) | ((with_reducible apply is_gd); first | refine gt ?_ | refine gf ?_ | refine gu ?_) | ((with_reducible apply is_en); refine en ?_) | (with_reducible first | apply x_then | apply wp_seq | apply c_region | apply wp_block | apply wp_skip | apply wp_exit | apply wp_ret | apply wp_label | apply wp_scope_straight | apply x_ng | apply x_ng_ret | apply x_ng_exit | apply x_then_ret | apply x_then_exit | apply x_block | apply x_block_ret | apply x_block_exit | refine x_block_other (by decide) ?_))
    refine c_condb rfl (fun _ => ?_) (fun h => by cases h)
    repeat (first | ((with_reducible apply is_st); refine su ?_) | ((with_reducible apply is_gd); first | refine gt ?_ | refine gf ?_ | refine gu ?_) | ((with_reducible apply is_en); refine en ?_) | (with_reducible first | apply x_then | apply wp_seq | apply c_region | apply wp_block | apply wp_skip | apply wp_exit | apply wp_ret | apply wp_label | apply wp_scope_straight | apply x_ng | apply x_ng_ret | apply x_ng_exit | apply x_then_ret | apply x_then_exit | apply x_block | apply x_block_ret | apply x_block_exit | refine x_block_other (by decide) ?_))
    (try ((with_reducible apply is_gd); first | refine gt ?_ | refine gf ?_ | refine gu ?_)); refine ca (empty_any w4 (hempty hc4)) ?_
    rintro _ w5 ⟨rfl, hc5⟩
    repeat (first | ((with_reducible apply is_st); refine su ?_) | ((with_reducible apply is_gd); first | refine gt ?_ | refine gf ?_ | refine gu ?_) | ((with_reducible apply is_en); refine en ?_) | (with_reducible first | apply x_then | apply wp_seq | apply c_region | apply wp_block | apply wp_skip | apply wp_exit | apply wp_ret | apply wp_label | apply wp_scope_straight | apply x_ng | apply x_ng_ret | apply x_ng_exit | apply x_then_ret | apply x_then_exit | apply x_block | apply x_block_ret | apply x_block_exit | refine x_block_other (by decide) ?_))
    refine stbw (n := 32) (hB2.ch hc5 (by simp)) rfl rfl (hv_len hls) (by simp) one_u8 (fun w6 hB6 hch6 hs6 => ?_)
    repeat (first | ((with_reducible apply is_st); refine su ?_) | ((with_reducible apply is_gd); first | refine gt ?_ | refine gf ?_ | refine gu ?_) | ((with_reducible apply is_en); refine en ?_) | (with_reducible first | apply x_then | apply wp_seq | apply c_region | apply wp_block | apply wp_skip | apply wp_exit | apply wp_ret | apply wp_label | apply wp_scope_straight | apply x_ng | apply x_ng_ret | apply x_ng_exit | apply x_then_ret | apply x_then_exit | apply x_block | apply x_block_ret | apply x_block_exit | refine x_block_other (by decide) ?_))
    refine outc rfl rfl (hB6.row (n := 32) (o := 0) (ds := emptyOf.map u8v) (by simp [emptyOf, List.take_of_length_le, hls])) (by simp [emptyOf, hls]) ⟨?_, (hc4.then hc5).own hch6 (by omega)⟩
    unfold rootPk
    rw [hg]
    rfl
  · obtain ⟨g1, g2, g3⟩ := goodZ_of hg
    repeat (first | ((with_reducible apply is_st); refine su ?_) | ((with_reducible apply is_gd); first | refine gt ?_ | refine gf ?_ | refine gu ?_) | ((with_reducible apply is_en); refine en ?_) | (with_reducible first | apply x_then | apply wp_seq | apply c_region | apply wp_block | apply wp_skip | apply wp_exit | apply wp_ret | apply wp_label | apply wp_scope_straight | apply x_ng | apply x_ng_ret | apply x_ng_exit | apply x_then_ret | apply x_then_exit | apply x_block | apply x_block_ret | apply x_block_exit | refine x_block_other (by decide) ?_))
    refine ldb hB1 rfl rfl ?_
    by_cases hn0 : n = 0
    · repeat (first | ((with_reducible apply is_st); refine su ?_) | ((with_reducible apply is_gd); first | refine gt ?_ | refine gf ?_ | refine gu ?_) | ((with_reducible apply is_en); refine en ?_) | (with_reducible first | apply x_then | apply wp_seq | apply c_region | apply wp_block | apply wp_skip | apply wp_exit | apply wp_ret | apply wp_label | apply wp_scope_straight | apply x_ng | apply x_ng_ret | apply x_ng_exit | apply x_then_ret | apply x_then_exit | apply x_block | apply x_block_ret | apply x_block_exit | refine x_block_other (by decide) ?_))
      refine c_condb rfl (fun _ => ?_) (fun h => absurd hn0 (of_decide_eq_false h))
      repeat (first | ((with_reducible apply is_st); refine su ?_) | ((with_reducible apply is_gd); first | refine gt ?_ | refine gf ?_ | refine gu ?_) | ((with_reducible apply is_en); refine en ?_) | (with_reducible first | apply x_then | apply wp_seq | apply c_region | apply wp_block | apply wp_skip | apply wp_exit | apply wp_ret | apply wp_label | apply wp_scope_straight | apply x_ng | apply x_ng_ret | apply x_ng_exit | apply x_then_ret | apply x_then_exit | apply x_block | apply x_block_ret | apply x_block_exit | refine x_block_other (by decide) ?_))
      (try ((with_reducible apply is_gd); first | refine gt ?_ | refine gf ?_ | refine gu ?_)); refine ca (empty_any w4 (hempty hc4)) ?_
      rintro _ w5 ⟨rfl, hc5⟩
      repeat (first | ((with_reducible apply is_st); refine su ?_) | ((with_reducible apply is_gd); first | refine gt ?_ | refine gf ?_ | refine gu ?_) | ((with_reducible apply is_en); refine en ?_) | (with_reducible first | apply x_then | apply wp_seq | apply c_region | apply wp_block | apply wp_skip | apply wp_exit | apply wp_ret | apply wp_label | apply wp_scope_straight | apply x_ng | apply x_ng_ret | apply x_ng_exit | apply x_then_ret | apply x_then_exit | apply x_block | apply x_block_ret | apply x_block_exit | refine x_block_other (by decide) ?_))
      refine stbw (n := 32) (hB2.ch hc5 (by simp)) rfl rfl (hv_len hls) (by simp) one_u8 (fun w6 hB6 hch6 hs6 => ?_)
      repeat (first | ((with_reducible apply is_st); refine su ?_) | ((with_reducible apply is_gd); first | refine gt ?_ | refine gf ?_ | refine gu ?_) | ((with_reducible apply is_en); refine en ?_) | (with_reducible first | apply x_then | apply wp_seq | apply c_region | apply wp_block | apply wp_skip | apply wp_exit | apply wp_ret | apply wp_label | apply wp_scope_straight | apply x_ng | apply x_ng_ret | apply x_ng_exit | apply x_then_ret | apply x_then_exit | apply x_block | apply x_block_ret | apply x_block_exit | refine x_block_other (by decide) ?_))
      refine outc rfl rfl (hB6.row (n := 32) (o := 0) (ds := emptyOf.map u8v) (by simp [emptyOf, List.take_of_length_le, hls])) (by simp [emptyOf, hls]) ⟨?_, (hc4.then hc5).own hch6 (by omega)⟩
      unfold rootPk
      rw [decide_eq_true hn0, Bool.not_true, Bool.and_false]
      rfl
    · have hpos := popN_pos (n := n.toNat) (by omega) (by omega)
      have hroot : rootPk n ts = topH ts := by unfold rootPk; rw [hg, decide_eq_false hn0]; rfl
      rw [hroot]
      repeat (first | ((with_reducible apply is_st); refine su ?_) | ((with_reducible apply is_gd); first | refine gt ?_ | refine gf ?_ | refine gu ?_) | ((with_reducible apply is_en); refine en ?_) | (with_reducible first | apply x_then | apply wp_seq | apply c_region | apply wp_block | apply wp_skip | apply wp_exit | apply wp_ret | apply wp_label | apply wp_scope_straight | apply x_ng | apply x_ng_ret | apply x_ng_exit | apply x_then_ret | apply x_then_exit | apply x_block | apply x_block_ret | apply x_block_exit | refine x_block_other (by decide) ?_))
      refine c_condb rfl (fun h => absurd (of_decide_eq_true h) hn0) (fun _ => ?_)
      repeat (first | ((with_reducible apply is_st); refine su ?_) | ((with_reducible apply is_gd); first | refine gt ?_ | refine gf ?_ | refine gu ?_) | ((with_reducible apply is_en); refine en ?_) | (with_reducible first | apply x_then | apply wp_seq | apply c_region | apply wp_block | apply wp_skip | apply wp_exit | apply wp_ret | apply wp_label | apply wp_scope_straight | apply x_ng | apply x_ng_ret | apply x_ng_exit | apply x_then_ret | apply x_then_exit | apply x_block | apply x_block_ret | apply x_block_exit | refine x_block_other (by decide) ?_))
      refine ldb hB1 rfl rfl ?_
      repeat (first | ((with_reducible apply is_st); refine su ?_) | ((with_reducible apply is_gd); first | refine gt ?_ | refine gf ?_ | refine gu ?_) | ((with_reducible apply is_en); refine en ?_) | (with_reducible first | apply x_then | apply wp_seq | apply c_region | apply wp_block | apply wp_skip | apply wp_exit | apply wp_ret | apply wp_label | apply wp_scope_straight | apply x_ng | apply x_ng_ret | apply x_ng_exit | apply x_then_ret | apply x_then_exit | apply x_block | apply x_block_ret | apply x_block_exit | refine x_block_other (by decide) ?_))
      refine ldb hB1 rfl rfl ?_
      repeat (first | ((with_reducible apply is_st); refine su ?_) | ((with_reducible apply is_gd); first | refine gt ?_ | refine gf ?_ | refine gu ?_) | ((with_reducible apply is_en); refine en ?_) | (with_reducible first | apply x_then | apply wp_seq | apply c_region | apply wp_block | apply wp_skip | apply wp_exit | apply wp_ret | apply wp_label | apply wp_scope_straight | apply x_ng | apply x_ng_ret | apply x_ng_exit | apply x_then_ret | apply x_then_exit | apply x_block | apply x_block_ret | apply x_block_exit | refine x_block_other (by decide) ?_))
      (try ((with_reducible apply is_gd); first | refine gt ?_ | refine gf ?_ | refine gu ?_)); refine ix (hR.ch hc4) (fun b5 o5 x5 hx5 hA5 => ?_)
      rw [show ((ts.length : Int) - 1).toNat = ts.length - 1 by omega] at hx5
      (try ((with_reducible apply is_gd); first | refine gt ?_ | refine gf ?_ | refine gu ?_)); refine ldr hA5 ?_
      repeat (first | ((with_reducible apply is_st); refine su ?_) | ((with_reducible apply is_gd); first | refine gt ?_ | refine gf ?_ | refine gu ?_) | ((with_reducible apply is_en); refine en ?_) | (with_reducible first | apply x_then | apply wp_seq | apply c_region | apply wp_block | apply wp_skip | apply wp_exit | apply wp_ret | apply wp_label | apply wp_scope_straight | apply x_ng | apply x_ng_ret | apply x_ng_exit | apply x_then_ret | apply x_then_exit | apply x_block | apply x_block_ret | apply x_block_exit | refine x_block_other (by decide) ?_))
      refine wl_alloc (fun w5 b3 hb3 => ?_)
      have e3 := hb3.at_
      refine stbw (n := 32) (cs := (List.replicate 32 (0 : UInt8)).map u8v) hb3.blk rfl rfl (hv_len x5.2) (by simp) one_u8 (fun w6 hB3 hch6 hs6 => ?_)
      have hc6 : Ch [] w w6 := (hc4.then hb3.ch).own hch6 (by omega)
      have hB1 := (hB1.ch hb3.ch (by simp)).ch hch6 (by simp; omega)
      have hB2 := (hB2.ch hb3.ch (by simp)).ch hch6 (by simp; omega)
      repeat (first | ((with_reducible apply is_st); refine su ?_) | ((with_reducible apply is_gd); first | refine gt ?_ | refine gf ?_ | refine gu ?_) | ((with_reducible apply is_en); refine en ?_) | (with_reducible first | apply x_then | apply wp_seq | apply c_region | apply wp_block | apply wp_skip | apply wp_exit | apply wp_ret | apply wp_label | apply wp_scope_straight | apply x_ng | apply x_ng_ret | apply x_ng_exit | apply x_then_ret | apply x_then_exit | apply x_block | apply x_block_ret | apply x_block_exit | refine x_block_other (by decide) ?_))
      
      refine c_loop (fun k l w' => ∃ (i : Nat), (∃ jj : Nat → Value, l = [jj 0, .pointer (some ⟨b1, 0, none⟩), .pointer (some ⟨b2, 0, none⟩), .int .i64 ((i : Int) - 1), .pointer (some ⟨b3, 0, none⟩), jj 5, jj 6, jj 7, jj 8, jj 9, jj 10, jj 11, jj 12, jj 13, jj 14, jj 15, jj 16, jj 17, jj 18, jj 19, jj 20, jj 21, jj 22, jj 23, jj 24, jj 25, jj 26, jj 27, jj 28, jj 29, jj 30, jj 31, jj 32, jj 33, jj 34, jj 35, jj 36]) ∧ k = i ∧ i + 1 ≤ ts.length ∧ Ch [] w w' ∧ Blk w' b1 [.int .i64 n, .slice A ts.length cap] 51 ∧ Blk w' b2 ((List.replicate 32 (0 : UInt8)).map u8v) 26 ∧ Blk w' b3 ((((ts.take (ts.length - 1)).drop i).foldr nodeH x5).1.map u8v) 26) (ts.length - 1)
        ⟨ts.length - 1, exj (by rw [show ((ts.length - 1 : Nat) : Int) - 1 = (ts.length : Int) - 1 - 1 by omega]; rfl), rfl, by omega, hc6, hB1, hB2, by rw [List.drop_of_length_le (by rw [List.length_take]; omega)]; exact hB3⟩ ?_
      rintro k l w7 ⟨i, ⟨jj, rfl⟩, rfl, hi1, hc7, hB1, hB2, hB3⟩
      generalize hfd : ((ts.take (ts.length - 1)).drop k).foldr nodeH x5 = hx at hB3
      have hz7 := hB3.lt
      repeat (first | ((with_reducible apply is_st); refine su ?_) | ((with_reducible apply is_gd); first | refine gt ?_ | refine gf ?_ | refine gu ?_) | ((with_reducible apply is_en); refine en ?_) | (with_reducible first | apply x_then | apply wp_seq | apply c_region | apply wp_block | apply wp_skip | apply wp_exit | apply wp_ret | apply wp_label | apply wp_scope_straight | apply x_ng | apply x_ng_ret | apply x_ng_exit | apply x_then_ret | apply x_then_exit | apply x_block | apply x_block_ret | apply x_block_exit | refine x_block_other (by decide) ?_))
      refine c_cond rfl (fun hi => ?_) (fun hi => ?_)
      · repeat (first | ((with_reducible apply is_st); refine su ?_) | ((with_reducible apply is_gd); first | refine gt ?_ | refine gf ?_ | refine gu ?_) | ((with_reducible apply is_en); refine en ?_) | (with_reducible first | apply x_then | apply wp_seq | apply c_region | apply wp_block | apply wp_skip | apply wp_exit | apply wp_ret | apply wp_label | apply wp_scope_straight | apply x_ng | apply x_ng_ret | apply x_ng_exit | apply x_then_ret | apply x_then_exit | apply x_block | apply x_block_ret | apply x_block_exit | refine x_block_other (by decide) ?_))
        refine c_drawl 7 [] (by kernel_rfl) (by kernel_rfl) (by kernel_rfl) (fun w8 hc8 hs8 => ?_)
        have hR8 := (hR.ch hc7).ch hc8
        repeat (first | ((with_reducible apply is_sg); refine sgu ?_) | ((with_reducible apply is_gg); first | refine gtg ?_ | refine gfg ?_ | refine gug ?_) | ((with_reducible apply is_eg); refine eg ?_))
        refine ldbg (hB1.ch hc8 (by simp)) (by simp) rfl rfl ?_
        repeat (first | ((with_reducible apply is_sg); refine sgu ?_) | ((with_reducible apply is_gg); first | refine gtg ?_ | refine gfg ?_ | refine gug ?_) | ((with_reducible apply is_eg); refine eg ?_))
        (try ((with_reducible apply is_gg); first | refine gtg ?_ | refine gfg ?_ | refine gug ?_)); refine ixg hR8 (fun b6 o6 x6 hx6 hA6 => ?_)
        rw [show ((k : Int) - 1).toNat = k - 1 by omega] at hx6
        (try ((with_reducible apply is_gg); first | refine gtg ?_ | refine gfg ?_ | refine gug ?_)); refine ldrg hA6 ?_
        refine ldbrg (n := 32) (hB3.ch hc8 (by simp)) (by simp) rfl (ds := hx.1.map u8v) (by simp [List.take_of_length_le, hx.2]) (by simp [hx.2]) ?_
        (try ((with_reducible apply is_gg); first | refine gtg ?_ | refine gfg ?_ | refine gug ?_)); refine cag (fun w9 hc9 => node_any x6.1 hx.1 x6.2 hx.2 w9 (((hK.ch hc7 (by simp)).ch hc8 (by simp)).ch hc9 (by simp))) ?_
        refine lastg rfl (by kernel_rfl) (fun w9 hc9 => ?_)
        refine stbw (n := 32) ((hB3.ch hc8 (by simp)).ch hc9 (by simp)) rfl rfl (hv_len (nodeOf_len _ _)) (by simp [hx.2]) one_u8 (fun w10 hB10 hch10 hs10 => ?_)
        refine x_last rfl rfl (fun w11 hc11 => ?_)
        have hc711 : Ch [b3] w7 w11 := (((Ch.some hc8).add hc9).then hch10).add hc11
        repeat (first | ((with_reducible apply is_st); refine su ?_) | ((with_reducible apply is_gd); first | refine gt ?_ | refine gf ?_ | refine gu ?_) | ((with_reducible apply is_en); refine en ?_) | (with_reducible first | apply x_then | apply wp_seq | apply c_region | apply wp_block | apply wp_skip | apply wp_exit | apply wp_ret | apply wp_label | apply wp_scope_straight | apply x_ng | apply x_ng_ret | apply x_ng_exit | apply x_then_ret | apply x_then_exit | apply x_block | apply x_block_ret | apply x_block_exit | refine x_block_other (by decide) ?_))
        refine x_goes (k - 1) rfl (by omega) ⟨k - 1, exj (by rw [show ((k - 1 : Nat) : Int) - 1 = (k : Int) - 1 - 1 by omega]; rfl), rfl, by omega, hc7.own hc711 (by omega), hB1.ch hc711 (by simp; omega), hB2.ch hc711 (by simp; omega), ?_⟩
        rw [fold_step (k := ts.length - 1) (i := k - 1) (by omega) (by omega) hx6, show k - 1 + 1 = k by omega, hfd]
        exact hB10.ch hc11 (by simp)
      · repeat (first | ((with_reducible apply is_st); refine su ?_) | ((with_reducible apply is_gd); first | refine gt ?_ | refine gf ?_ | refine gu ?_) | ((with_reducible apply is_en); refine en ?_) | (with_reducible first | apply x_then | apply wp_seq | apply c_region | apply wp_block | apply wp_skip | apply wp_exit | apply wp_ret | apply wp_label | apply wp_scope_straight | apply x_ng | apply x_ng_ret | apply x_ng_exit | apply x_then_ret | apply x_then_exit | apply x_block | apply x_block_ret | apply x_block_exit | refine x_block_other (by decide) ?_))
        have hk0 : k = 0 := by omega
        subst hk0
        rw [List.drop_zero, topH_last hx5 (by omega)] at hfd
        subst hfd
        refine ldbr (n := 32) hB3 rfl (ds := (topH ts).1.map u8v) (by simp [List.take_of_length_le, (topH ts).2]) (by simp [(topH ts).2]) ?_
        refine stbw (n := 32) hB2 rfl rfl (hv_len (topH ts).2) (by simp) one_u8 (fun w10 hB10 hch10 hs10 => ?_)
        repeat (first | ((with_reducible apply is_st); refine su ?_) | ((with_reducible apply is_gd); first | refine gt ?_ | refine gf ?_ | refine gu ?_) | ((with_reducible apply is_en); refine en ?_) | (with_reducible first | apply x_then | apply wp_seq | apply c_region | apply wp_block | apply wp_skip | apply wp_exit | apply wp_ret | apply wp_label | apply wp_scope_straight | apply x_ng | apply x_ng_ret | apply x_ng_exit | apply x_then_ret | apply x_then_exit | apply x_block | apply x_block_ret | apply x_block_exit | refine x_block_other (by decide) ?_))
        exact outc rfl rfl (hB10.row (n := 32) (o := 0) (ds := (topH ts).1.map u8v) (by simp [List.take_of_length_le, (topH ts).2])) (by simp [(topH ts).2]) ⟨rfl, hc7.own hch10 (by omega)⟩
set_option maxHeartbeats 8000000 in
theorem rproot_any (n : Int) (v : Value) (ts : List Hs) (w : World) (hR : (Ty.enc eH).Rd [] w v ts) (hlen : ts.length ≤ 1000) :
    Calls Tryd.prog 46 #[pkV n v] w (Ret fun u w' => u = hv (rootPk n ts).1 ∧ Ch [] w w') := by
  refine enter [pkV n v, undef, undef, undef, undef, undef, undef, undef, undef, undef, undef, undef, undef, undef, undef, undef, undef, undef, undef, undef, undef, undef, undef, undef, undef, undef, undef, undef, undef, undef, undef, undef, undef, undef, undef, undef, undef, undef] Tryd.func46 rfl rfl ?_
  obtain ⟨A, cap, rfl⟩ := hR.form
  repeat (first | ((with_reducible apply is_st); refine su ?_) | ((with_reducible apply is_gd); first | refine gt ?_ | refine gf ?_ | refine gu ?_) | ((with_reducible apply is_en); refine en ?_) | (with_reducible first | apply x_then | apply wp_seq | apply c_region | apply wp_block | apply wp_skip | apply wp_exit | apply wp_ret | apply wp_label | apply wp_scope_straight | apply x_ng | apply x_ng_ret | apply x_ng_exit | apply x_then_ret | apply x_then_exit | apply x_block | apply x_block_ret | apply x_block_exit | refine x_block_other (by decide) ?_))
  refine wl_box rfl (fun w1 b1 hb1 => ?_)
  repeat (first | ((with_reducible apply is_st); refine su ?_) | ((with_reducible apply is_gd); first | refine gt ?_ | refine gf ?_ | refine gu ?_) | ((with_reducible apply is_en); refine en ?_) | (with_reducible first | apply x_then | apply wp_seq | apply c_region | apply wp_block | apply wp_skip | apply wp_exit | apply wp_ret | apply wp_label | apply wp_scope_straight | apply x_ng | apply x_ng_ret | apply x_ng_exit | apply x_then_ret | apply x_then_exit | apply x_block | apply x_block_ret | apply x_block_exit | refine x_block_other (by decide) ?_))
  refine wl_alloc (fun w2 b2 hb2 => ?_)
  have hB2 : Blk w2 b2 ((List.replicate 32 (0 : UInt8)).map u8v) 26 := hb2.blk
  have hB1 : Blk w2 b1 [.int .i64 n, .slice A ts.length cap] 52 := Blk.ch (show Blk w1 b1 [.int .i64 n, .slice A ts.length cap] 52 from hb1.blk) hb2.ch (by simp)
  have e1 := hb1.at_
  have e2 := hb2.at_
  have s1 := hb1.size
  have s2 := hb2.size
  have hc2 : Ch [] w w2 := hb1.ch.then hb2.ch
  repeat (first | ((with_reducible apply is_st); refine su ?_) | ((with_reducible apply is_gd); first | refine gt ?_ | refine gf ?_ | refine gu ?_) | ((with_reducible apply is_en); refine en ?_) | (with_reducible first | apply x_then | apply wp_seq | apply c_region | apply wp_block | apply wp_skip | apply wp_exit | apply wp_ret | apply wp_label | apply wp_scope_straight | apply x_ng | apply x_ng_ret | apply x_ng_exit | apply x_then_ret | apply x_then_exit | apply x_block | apply x_block_ret | apply x_block_exit | refine x_block_other (by decide) ?_))
  refine ldbr (n := 2) hB1 rfl rfl rfl ?_
  repeat (first | ((with_reducible apply is_st); refine su ?_) | ((with_reducible apply is_gd); first | refine gt ?_ | refine gf ?_ | refine gu ?_) | ((with_reducible apply is_en); refine en ?_) | (with_reducible first | apply x_then | apply wp_seq | apply c_region | apply wp_block | apply wp_skip | apply wp_exit | apply wp_ret | apply wp_label | apply wp_scope_straight | apply x_ng | apply x_ng_ret | apply x_ng_exit | apply x_then_ret | apply x_then_exit | apply x_block | apply x_block_ret | apply x_block_exit | refine x_block_other (by decide) ?_))
  (try ((with_reducible apply is_gd); first | refine gt ?_ | refine gf ?_ | refine gu ?_)); refine ca (rgood_any n (.slice A ts.length cap) ts w2 (hR.ch hc2)) ?_
  rintro _ w4 ⟨rfl, hc4⟩
  have hB1 := hB1.ch hc4 (by simp)
  have hB2 := hB2.ch hc4 (by simp)
  have hz4 := hc4.size
  have hc4 : Ch [] w w4 := hc2.then hc4
  have hls := shaOf_len []
  cases hg : goodZ n ts.length
  · repeat (first | ((with_reducible apply is_st); refine su ?_) | ((with_reducible apply is_gd); first | refine gt ?_ | refine gf ?_ | refine gu ?_) | ((with_reducible apply is_en); refine en ?_) | (with_reducible first | apply x_then | apply wp_seq | apply c_region | apply wp_block | apply wp_skip | apply wp_exit | apply wp_ret | apply wp_label | apply wp_scope_straight | apply x_ng | apply x_ng_ret | apply x_ng_exit | apply x_then_ret | apply x_then_exit | apply x_block | apply x_block_ret | apply x_block_exit | refine x_block_other (by decide) ?_))
    refine c_condb rfl (fun _ => ?_) (fun h => by cases h)
    repeat (first | ((with_reducible apply is_st); refine su ?_) | ((with_reducible apply is_gd); first | refine gt ?_ | refine gf ?_ | refine gu ?_) | ((with_reducible apply is_en); refine en ?_) | (with_reducible first | apply x_then | apply wp_seq | apply c_region | apply wp_block | apply wp_skip | apply wp_exit | apply wp_ret | apply wp_label | apply wp_scope_straight | apply x_ng | apply x_ng_ret | apply x_ng_exit | apply x_then_ret | apply x_then_exit | apply x_block | apply x_block_ret | apply x_block_exit | refine x_block_other (by decide) ?_))
    (try ((with_reducible apply is_gd); first | refine gt ?_ | refine gf ?_ | refine gu ?_)); refine ca (rempty_any w4) ?_
    rintro _ w5 ⟨rfl, hc5⟩
    repeat (first | ((with_reducible apply is_st); refine su ?_) | ((with_reducible apply is_gd); first | refine gt ?_ | refine gf ?_ | refine gu ?_) | ((with_reducible apply is_en); refine en ?_) | (with_reducible first | apply x_then | apply wp_seq | apply c_region | apply wp_block | apply wp_skip | apply wp_exit | apply wp_ret | apply wp_label | apply wp_scope_straight | apply x_ng | apply x_ng_ret | apply x_ng_exit | apply x_then_ret | apply x_then_exit | apply x_block | apply x_block_ret | apply x_block_exit | refine x_block_other (by decide) ?_))
    refine stbw (n := 32) (hB2.ch hc5 (by simp)) rfl rfl (hv_len hls) (by simp) one_u8 (fun w6 hB6 hch6 hs6 => ?_)
    repeat (first | ((with_reducible apply is_st); refine su ?_) | ((with_reducible apply is_gd); first | refine gt ?_ | refine gf ?_ | refine gu ?_) | ((with_reducible apply is_en); refine en ?_) | (with_reducible first | apply x_then | apply wp_seq | apply c_region | apply wp_block | apply wp_skip | apply wp_exit | apply wp_ret | apply wp_label | apply wp_scope_straight | apply x_ng | apply x_ng_ret | apply x_ng_exit | apply x_then_ret | apply x_then_exit | apply x_block | apply x_block_ret | apply x_block_exit | refine x_block_other (by decide) ?_))
    refine outc rfl rfl (hB6.row (n := 32) (o := 0) (ds := emptyOf.map u8v) (by simp [emptyOf, List.take_of_length_le, hls])) (by simp [emptyOf, hls]) ⟨?_, (hc4.then hc5).own hch6 (by omega)⟩
    unfold rootPk
    rw [hg]
    rfl
  · obtain ⟨g1, g2, g3⟩ := goodZ_of hg
    repeat (first | ((with_reducible apply is_st); refine su ?_) | ((with_reducible apply is_gd); first | refine gt ?_ | refine gf ?_ | refine gu ?_) | ((with_reducible apply is_en); refine en ?_) | (with_reducible first | apply x_then | apply wp_seq | apply c_region | apply wp_block | apply wp_skip | apply wp_exit | apply wp_ret | apply wp_label | apply wp_scope_straight | apply x_ng | apply x_ng_ret | apply x_ng_exit | apply x_then_ret | apply x_then_exit | apply x_block | apply x_block_ret | apply x_block_exit | refine x_block_other (by decide) ?_))
    refine ldb hB1 rfl rfl ?_
    by_cases hn0 : n = 0
    · repeat (first | ((with_reducible apply is_st); refine su ?_) | ((with_reducible apply is_gd); first | refine gt ?_ | refine gf ?_ | refine gu ?_) | ((with_reducible apply is_en); refine en ?_) | (with_reducible first | apply x_then | apply wp_seq | apply c_region | apply wp_block | apply wp_skip | apply wp_exit | apply wp_ret | apply wp_label | apply wp_scope_straight | apply x_ng | apply x_ng_ret | apply x_ng_exit | apply x_then_ret | apply x_then_exit | apply x_block | apply x_block_ret | apply x_block_exit | refine x_block_other (by decide) ?_))
      refine c_condb rfl (fun _ => ?_) (fun h => absurd hn0 (of_decide_eq_false h))
      repeat (first | ((with_reducible apply is_st); refine su ?_) | ((with_reducible apply is_gd); first | refine gt ?_ | refine gf ?_ | refine gu ?_) | ((with_reducible apply is_en); refine en ?_) | (with_reducible first | apply x_then | apply wp_seq | apply c_region | apply wp_block | apply wp_skip | apply wp_exit | apply wp_ret | apply wp_label | apply wp_scope_straight | apply x_ng | apply x_ng_ret | apply x_ng_exit | apply x_then_ret | apply x_then_exit | apply x_block | apply x_block_ret | apply x_block_exit | refine x_block_other (by decide) ?_))
      (try ((with_reducible apply is_gd); first | refine gt ?_ | refine gf ?_ | refine gu ?_)); refine ca (rempty_any w4) ?_
      rintro _ w5 ⟨rfl, hc5⟩
      repeat (first | ((with_reducible apply is_st); refine su ?_) | ((with_reducible apply is_gd); first | refine gt ?_ | refine gf ?_ | refine gu ?_) | ((with_reducible apply is_en); refine en ?_) | (with_reducible first | apply x_then | apply wp_seq | apply c_region | apply wp_block | apply wp_skip | apply wp_exit | apply wp_ret | apply wp_label | apply wp_scope_straight | apply x_ng | apply x_ng_ret | apply x_ng_exit | apply x_then_ret | apply x_then_exit | apply x_block | apply x_block_ret | apply x_block_exit | refine x_block_other (by decide) ?_))
      refine stbw (n := 32) (hB2.ch hc5 (by simp)) rfl rfl (hv_len hls) (by simp) one_u8 (fun w6 hB6 hch6 hs6 => ?_)
      repeat (first | ((with_reducible apply is_st); refine su ?_) | ((with_reducible apply is_gd); first | refine gt ?_ | refine gf ?_ | refine gu ?_) | ((with_reducible apply is_en); refine en ?_) | (with_reducible first | apply x_then | apply wp_seq | apply c_region | apply wp_block | apply wp_skip | apply wp_exit | apply wp_ret | apply wp_label | apply wp_scope_straight | apply x_ng | apply x_ng_ret | apply x_ng_exit | apply x_then_ret | apply x_then_exit | apply x_block | apply x_block_ret | apply x_block_exit | refine x_block_other (by decide) ?_))
      refine outc rfl rfl (hB6.row (n := 32) (o := 0) (ds := emptyOf.map u8v) (by simp [emptyOf, List.take_of_length_le, hls])) (by simp [emptyOf, hls]) ⟨?_, (hc4.then hc5).own hch6 (by omega)⟩
      unfold rootPk
      rw [decide_eq_true hn0, Bool.not_true, Bool.and_false]
      rfl
    · have hpos := popN_pos (n := n.toNat) (by omega) (by omega)
      have hroot : rootPk n ts = topH ts := by unfold rootPk; rw [hg, decide_eq_false hn0]; rfl
      rw [hroot]
      repeat (first | ((with_reducible apply is_st); refine su ?_) | ((with_reducible apply is_gd); first | refine gt ?_ | refine gf ?_ | refine gu ?_) | ((with_reducible apply is_en); refine en ?_) | (with_reducible first | apply x_then | apply wp_seq | apply c_region | apply wp_block | apply wp_skip | apply wp_exit | apply wp_ret | apply wp_label | apply wp_scope_straight | apply x_ng | apply x_ng_ret | apply x_ng_exit | apply x_then_ret | apply x_then_exit | apply x_block | apply x_block_ret | apply x_block_exit | refine x_block_other (by decide) ?_))
      refine c_condb rfl (fun h => absurd (of_decide_eq_true h) hn0) (fun _ => ?_)
      repeat (first | ((with_reducible apply is_st); refine su ?_) | ((with_reducible apply is_gd); first | refine gt ?_ | refine gf ?_ | refine gu ?_) | ((with_reducible apply is_en); refine en ?_) | (with_reducible first | apply x_then | apply wp_seq | apply c_region | apply wp_block | apply wp_skip | apply wp_exit | apply wp_ret | apply wp_label | apply wp_scope_straight | apply x_ng | apply x_ng_ret | apply x_ng_exit | apply x_then_ret | apply x_then_exit | apply x_block | apply x_block_ret | apply x_block_exit | refine x_block_other (by decide) ?_))
      refine ldb hB1 rfl rfl ?_
      repeat (first | ((with_reducible apply is_st); refine su ?_) | ((with_reducible apply is_gd); first | refine gt ?_ | refine gf ?_ | refine gu ?_) | ((with_reducible apply is_en); refine en ?_) | (with_reducible first | apply x_then | apply wp_seq | apply c_region | apply wp_block | apply wp_skip | apply wp_exit | apply wp_ret | apply wp_label | apply wp_scope_straight | apply x_ng | apply x_ng_ret | apply x_ng_exit | apply x_then_ret | apply x_then_exit | apply x_block | apply x_block_ret | apply x_block_exit | refine x_block_other (by decide) ?_))
      refine ldb hB1 rfl rfl ?_
      repeat (first | ((with_reducible apply is_st); refine su ?_) | ((with_reducible apply is_gd); first | refine gt ?_ | refine gf ?_ | refine gu ?_) | ((with_reducible apply is_en); refine en ?_) | (with_reducible first | apply x_then | apply wp_seq | apply c_region | apply wp_block | apply wp_skip | apply wp_exit | apply wp_ret | apply wp_label | apply wp_scope_straight | apply x_ng | apply x_ng_ret | apply x_ng_exit | apply x_then_ret | apply x_then_exit | apply x_block | apply x_block_ret | apply x_block_exit | refine x_block_other (by decide) ?_))
      (try ((with_reducible apply is_gd); first | refine gt ?_ | refine gf ?_ | refine gu ?_)); refine ix (hR.ch hc4) (fun b5 o5 x5 hx5 hA5 => ?_)
      rw [show ((ts.length : Int) - 1).toNat = ts.length - 1 by omega] at hx5
      (try ((with_reducible apply is_gd); first | refine gt ?_ | refine gf ?_ | refine gu ?_)); refine ldr hA5 ?_
      repeat (first | ((with_reducible apply is_st); refine su ?_) | ((with_reducible apply is_gd); first | refine gt ?_ | refine gf ?_ | refine gu ?_) | ((with_reducible apply is_en); refine en ?_) | (with_reducible first | apply x_then | apply wp_seq | apply c_region | apply wp_block | apply wp_skip | apply wp_exit | apply wp_ret | apply wp_label | apply wp_scope_straight | apply x_ng | apply x_ng_ret | apply x_ng_exit | apply x_then_ret | apply x_then_exit | apply x_block | apply x_block_ret | apply x_block_exit | refine x_block_other (by decide) ?_))
      refine wl_alloc (fun w5 b3 hb3 => ?_)
      have e3 := hb3.at_
      refine stbw (n := 32) (cs := (List.replicate 32 (0 : UInt8)).map u8v) hb3.blk rfl rfl (hv_len x5.2) (by simp) one_u8 (fun w6 hB3 hch6 hs6 => ?_)
      have hc6 : Ch [] w w6 := (hc4.then hb3.ch).own hch6 (by omega)
      have hB1 := (hB1.ch hb3.ch (by simp)).ch hch6 (by simp; omega)
      have hB2 := (hB2.ch hb3.ch (by simp)).ch hch6 (by simp; omega)
      repeat (first | ((with_reducible apply is_st); refine su ?_) | ((with_reducible apply is_gd); first | refine gt ?_ | refine gf ?_ | refine gu ?_) | ((with_reducible apply is_en); refine en ?_) | (with_reducible first | apply x_then | apply wp_seq | apply c_region | apply wp_block | apply wp_skip | apply wp_exit | apply wp_ret | apply wp_label | apply wp_scope_straight | apply x_ng | apply x_ng_ret | apply x_ng_exit | apply x_then_ret | apply x_then_exit | apply x_block | apply x_block_ret | apply x_block_exit | refine x_block_other (by decide) ?_))
      refine ldb hB1 rfl rfl ?_
      repeat (first | ((with_reducible apply is_st); refine su ?_) | ((with_reducible apply is_gd); first | refine gt ?_ | refine gf ?_ | refine gu ?_) | ((with_reducible apply is_en); refine en ?_) | (with_reducible first | apply x_then | apply wp_seq | apply c_region | apply wp_block | apply wp_skip | apply wp_exit | apply wp_ret | apply wp_label | apply wp_scope_straight | apply x_ng | apply x_ng_ret | apply x_ng_exit | apply x_then_ret | apply x_then_exit | apply x_block | apply x_block_ret | apply x_block_exit | refine x_block_other (by decide) ?_))
      
      refine c_loop (fun k l w' => ∃ (i : Nat), (∃ jj : Nat → Value, l = [jj 0, .pointer (some ⟨b1, 0, none⟩), .pointer (some ⟨b2, 0, none⟩), .pointer (some ⟨b3, 0, none⟩), .int .i64 ((i : Int) - 1), jj 5, jj 6, jj 7, jj 8, jj 9, jj 10, jj 11, jj 12, jj 13, jj 14, jj 15, jj 16, jj 17, jj 18, jj 19, jj 20, jj 21, jj 22, jj 23, jj 24, jj 25, jj 26, jj 27, jj 28, jj 29, jj 30, jj 31, jj 32, jj 33, jj 34, jj 35, jj 36, jj 37]) ∧ k = i ∧ i + 1 ≤ ts.length ∧ Ch [] w w' ∧ Blk w' b1 [.int .i64 n, .slice A ts.length cap] 52 ∧ Blk w' b2 ((List.replicate 32 (0 : UInt8)).map u8v) 26 ∧ Blk w' b3 ((((ts.take (ts.length - 1)).drop i).foldr nodeH x5).1.map u8v) 26) (ts.length - 1)
        ⟨ts.length - 1, exj (by rw [show ((ts.length - 1 : Nat) : Int) - 1 = (ts.length : Int) - 2 by omega]; rfl), rfl, by omega, hc6, hB1, hB2, by rw [List.drop_of_length_le (by rw [List.length_take]; omega)]; exact hB3⟩ ?_
      rintro k l w7 ⟨i, ⟨jj, rfl⟩, rfl, hi1, hc7, hB1, hB2, hB3⟩
      generalize hfd : ((ts.take (ts.length - 1)).drop k).foldr nodeH x5 = hx at hB3
      have hz7 := hB3.lt
      repeat (first | ((with_reducible apply is_st); refine su ?_) | ((with_reducible apply is_gd); first | refine gt ?_ | refine gf ?_ | refine gu ?_) | ((with_reducible apply is_en); refine en ?_) | (with_reducible first | apply x_then | apply wp_seq | apply c_region | apply wp_block | apply wp_skip | apply wp_exit | apply wp_ret | apply wp_label | apply wp_scope_straight | apply x_ng | apply x_ng_ret | apply x_ng_exit | apply x_then_ret | apply x_then_exit | apply x_block | apply x_block_ret | apply x_block_exit | refine x_block_other (by decide) ?_))
      refine c_cond rfl (fun hi => ?_) (fun hi => ?_)
      · repeat (first | ((with_reducible apply is_st); refine su ?_) | ((with_reducible apply is_gd); first | refine gt ?_ | refine gf ?_ | refine gu ?_) | ((with_reducible apply is_en); refine en ?_) | (with_reducible first | apply x_then | apply wp_seq | apply c_region | apply wp_block | apply wp_skip | apply wp_exit | apply wp_ret | apply wp_label | apply wp_scope_straight | apply x_ng | apply x_ng_ret | apply x_ng_exit | apply x_then_ret | apply x_then_exit | apply x_block | apply x_block_ret | apply x_block_exit | refine x_block_other (by decide) ?_))
        refine c_drawl 7 [] (by kernel_rfl) (by kernel_rfl) (by kernel_rfl) (fun w8 hc8 hs8 => ?_)
        have hR8 := (hR.ch hc7).ch hc8
        repeat (first | ((with_reducible apply is_sg); refine sgu ?_) | ((with_reducible apply is_gg); first | refine gtg ?_ | refine gfg ?_ | refine gug ?_) | ((with_reducible apply is_eg); refine eg ?_))
        refine ldbg (hB1.ch hc8 (by simp)) (by simp) rfl rfl ?_
        repeat (first | ((with_reducible apply is_sg); refine sgu ?_) | ((with_reducible apply is_gg); first | refine gtg ?_ | refine gfg ?_ | refine gug ?_) | ((with_reducible apply is_eg); refine eg ?_))
        (try ((with_reducible apply is_gg); first | refine gtg ?_ | refine gfg ?_ | refine gug ?_)); refine ixg hR8 (fun b6 o6 x6 hx6 hA6 => ?_)
        rw [show ((k : Int) - 1).toNat = k - 1 by omega] at hx6
        (try ((with_reducible apply is_gg); first | refine gtg ?_ | refine gfg ?_ | refine gug ?_)); refine ldrg hA6 ?_
        refine ldbrg (n := 32) (hB3.ch hc8 (by simp)) (by simp) rfl (ds := hx.1.map u8v) (by simp [List.take_of_length_le, hx.2]) (by simp [hx.2]) ?_
        (try ((with_reducible apply is_gg); first | refine gtg ?_ | refine gfg ?_ | refine gug ?_)); refine cag (fun w9 hc9 => rnode_any x6.1 hx.1 x6.2 hx.2 w9) ?_
        refine lastg rfl (by kernel_rfl) (fun w9 hc9 => ?_)
        refine stbw (n := 32) ((hB3.ch hc8 (by simp)).ch hc9 (by simp)) rfl rfl (hv_len (nodeOf_len _ _)) (by simp [hx.2]) one_u8 (fun w10 hB10 hch10 hs10 => ?_)
        refine x_last rfl rfl (fun w11 hc11 => ?_)
        have hc711 : Ch [b3] w7 w11 := (((Ch.some hc8).add hc9).then hch10).add hc11
        repeat (first | ((with_reducible apply is_st); refine su ?_) | ((with_reducible apply is_gd); first | refine gt ?_ | refine gf ?_ | refine gu ?_) | ((with_reducible apply is_en); refine en ?_) | (with_reducible first | apply x_then | apply wp_seq | apply c_region | apply wp_block | apply wp_skip | apply wp_exit | apply wp_ret | apply wp_label | apply wp_scope_straight | apply x_ng | apply x_ng_ret | apply x_ng_exit | apply x_then_ret | apply x_then_exit | apply x_block | apply x_block_ret | apply x_block_exit | refine x_block_other (by decide) ?_))
        refine x_goes (k - 1) rfl (by omega) ⟨k - 1, exj (by rw [show ((k - 1 : Nat) : Int) - 1 = (k : Int) - 1 - 1 by omega]; rfl), rfl, by omega, hc7.own hc711 (by omega), hB1.ch hc711 (by simp; omega), hB2.ch hc711 (by simp; omega), ?_⟩
        rw [fold_step (k := ts.length - 1) (i := k - 1) (by omega) (by omega) hx6, show k - 1 + 1 = k by omega, hfd]
        exact hB10.ch hc11 (by simp)
      · repeat (first | ((with_reducible apply is_st); refine su ?_) | ((with_reducible apply is_gd); first | refine gt ?_ | refine gf ?_ | refine gu ?_) | ((with_reducible apply is_en); refine en ?_) | (with_reducible first | apply x_then | apply wp_seq | apply c_region | apply wp_block | apply wp_skip | apply wp_exit | apply wp_ret | apply wp_label | apply wp_scope_straight | apply x_ng | apply x_ng_ret | apply x_ng_exit | apply x_then_ret | apply x_then_exit | apply x_block | apply x_block_ret | apply x_block_exit | refine x_block_other (by decide) ?_))
        have hk0 : k = 0 := by omega
        subst hk0
        rw [List.drop_zero, topH_last hx5 (by omega)] at hfd
        subst hfd
        refine ldbr (n := 32) hB3 rfl (ds := (topH ts).1.map u8v) (by simp [List.take_of_length_le, (topH ts).2]) (by simp [(topH ts).2]) ?_
        refine stbw (n := 32) hB2 rfl rfl (hv_len (topH ts).2) (by simp) one_u8 (fun w10 hB10 hch10 hs10 => ?_)
        repeat (first | ((with_reducible apply is_st); refine su ?_) | ((with_reducible apply is_gd); first | refine gt ?_ | refine gf ?_ | refine gu ?_) | ((with_reducible apply is_en); refine en ?_) | (with_reducible first | apply x_then | apply wp_seq | apply c_region | apply wp_block | apply wp_skip | apply wp_exit | apply wp_ret | apply wp_label | apply wp_scope_straight | apply x_ng | apply x_ng_ret | apply x_ng_exit | apply x_then_ret | apply x_then_exit | apply x_block | apply x_block_ret | apply x_block_exit | refine x_block_other (by decide) ?_))
        exact outc rfl rfl (hB10.row (n := 32) (o := 0) (ds := (topH ts).1.map u8v) (by simp [List.take_of_length_le, (topH ts).2])) (by simp [(topH ts).2]) ⟨rfl, hc7.own hch10 (by omega)⟩
end Go.Proofs.YtbecfcnbgeeghaaDoor

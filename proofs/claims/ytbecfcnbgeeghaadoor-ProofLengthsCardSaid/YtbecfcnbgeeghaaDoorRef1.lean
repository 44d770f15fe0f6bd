/- Walks: the reference's SHA-256: a block. -/
import Derived.Test.YtbecfcnbgeeghaaDoorSha5
set_option linter.unusedVariables false
set_option linter.unusedSimpArgs false
namespace Go.Proofs.YtbecfcnbgeeghaaDoor
open Go Go.RowKit Go.Proofs.E
attribute [local irreducible] Go.wpList Go.Code.wp Go.Proofs.E.exec Go.Proofs.E.wpLexG

theorem chz_eq (e f g : UInt32) : (e &&& f) ^^^ (~~~e &&& g) = chz e f g := by
  unfold chz
  apply UInt32.eq_of_toBitVec_eq
  apply BitVec.eq_of_getLsbD_eq
  intro i hi
  simp [hi]
  cases e.toBitVec[i] <;> cases f.toBitVec[i] <;> cases g.toBitVec[i] <;> rfl
theorem maj_eq (a b c : UInt32) : ((a &&& b) ^^^ (a &&& c)) ^^^ (b &&& c) = maj a b c := by
  unfold maj
  apply UInt32.eq_of_toBitVec_eq
  apply BitVec.eq_of_getLsbD_eq
  intro i hi
  simp [hi]
  cases a.toBitVec[i] <;> cases b.toBitVec[i] <;> cases c.toBitVec[i] <;> rfl

theorem keys_any (w : World) : Calls Tryd.prog 99 #[] w (Ret fun v w' => v = .agg (K256.map v32).toArray ∧ Ch [] w w') := by
  refine enter [undef, undef] Tryd.func99 rfl rfl ?_
  repeat (first | ((with_reducible apply is_st); refine su ?_) | ((with_reducible apply is_gd); first | refine gt ?_ | refine gf ?_ | refine gu ?_) | ((with_reducible apply is_en); refine en ?_) | (with_reducible first | apply x_then | apply wp_seq | apply c_region | apply wp_block | apply wp_skip | apply wp_exit | apply wp_ret | apply x_then_ret | apply x_then_exit | apply x_block | apply x_block_ret | apply x_block_exit | refine x_block_other (by decide) ?_))
  refine wl_alloc (fun w1 b hb => ?_)
  have hB : Blk w1 b ((List.replicate 64 (0 : UInt32)).map v32) 114 := hb.blk
  repeat (first | ((with_reducible apply is_st); refine su ?_) | ((with_reducible apply is_gd); first | refine gt ?_ | refine gf ?_ | refine gu ?_) | ((with_reducible apply is_en); refine en ?_) | (with_reducible first | apply x_then | apply wp_seq | apply c_region | apply wp_block | apply wp_skip | apply wp_exit | apply wp_ret | apply x_then_ret | apply x_then_exit | apply x_block | apply x_block_ret | apply x_block_exit | refine x_block_other (by decide) ?_))
  refine wl_val (r_build_arr (vs := K256.map v32) rfl rfl (by intro u hu; obtain ⟨x, _, rfl⟩ := List.mem_map.1 hu; rfl)) ?_
  refine stbw (n := 64) (vs := K256.map v32) hB rfl rfl rfl (by simp) one_32 (fun w2 hB2 hch2 hs2 => ?_)
  repeat (first | ((with_reducible apply is_st); refine su ?_) | ((with_reducible apply is_gd); first | refine gt ?_ | refine gf ?_ | refine gu ?_) | ((with_reducible apply is_en); refine en ?_) | (with_reducible first | apply x_then | apply wp_seq | apply c_region | apply wp_block | apply wp_skip | apply wp_exit | apply wp_ret | apply x_then_ret | apply x_then_exit | apply x_block | apply x_block_ret | apply x_block_exit | refine x_block_other (by decide) ?_))
  exact outc rfl rfl (hB2.row (n := 64) (o := 0) (ds := K256.map v32) rfl) rfl ⟨rfl, hb.ch.own hch2 (by rw [hb.at_]; exact Nat.le_refl _)⟩

set_option maxHeartbeats 8000000 in
theorem rblock_any (h : S8) (bs : List UInt8) (hl : bs.length = 64) (v : Value) (w : World) (hR : (Ty.enc eU8).Rd [] w v bs) :
    Calls Tryd.prog 95 #[.agg (h.l.map v32).toArray, v] w (Ret fun u w' => u = .agg ((squeeze h bs).l.map v32).toArray ∧ Ch [] w w') := by
  refine enter [.agg (h.l.map v32).toArray, v, undef, undef, undef, undef, undef, undef, undef, undef, undef, undef, undef, undef, undef, undef, undef, undef, undef, undef, undef, undef, undef, undef, undef, undef, undef, undef, undef, undef, undef, undef, undef, undef, undef, undef, undef, undef, undef, undef, undef, undef, undef, undef, undef, undef, undef, undef, undef, undef, undef, undef, undef, undef, undef, undef, undef, undef, undef, undef, undef, undef, undef, undef, undef, undef, undef, undef, undef, undef, undef, undef, undef, undef, undef, undef, undef, undef, undef, undef, undef, undef, undef, undef, undef, undef, undef, undef, undef, undef, undef, undef, undef, undef, undef, undef, undef, undef, undef, undef, undef, undef, undef, undef, undef, undef, undef, undef, undef, undef, undef, undef, undef, undef, undef, undef, undef, undef, undef, undef, undef, undef, undef, undef, undef, undef, undef, undef, undef, undef, undef, undef, undef, undef, undef, undef, undef, undef, undef, undef, undef, undef, undef, undef, undef, undef, undef, undef, undef, undef, undef, undef, undef, undef, undef, undef, undef, undef, undef, undef, undef, undef, undef, undef, undef, undef, undef, undef, undef, undef, undef, undef, undef, undef, undef, undef, undef, undef, undef, undef, undef, undef, undef, undef, undef, undef, undef, undef, undef, undef, undef, undef, undef, undef, undef] Tryd.func95 rfl rfl ?_
  repeat (first | ((with_reducible apply is_st); refine su ?_) | ((with_reducible apply is_gd); first | refine gt ?_ | refine gf ?_ | refine gu ?_) | ((with_reducible apply is_en); refine en ?_) | (with_reducible first | apply x_then | apply wp_seq | apply c_region | apply wp_block | apply wp_skip | apply wp_exit | apply wp_ret | apply x_then_ret | apply x_then_exit | apply x_block | apply x_block_ret | apply x_block_exit | refine x_block_other (by decide) ?_))
  refine wl_box (v := .agg (h.l.map v32).toArray) rfl (fun w1 bh hh => ?_)
  repeat (first | ((with_reducible apply is_st); refine su ?_) | ((with_reducible apply is_gd); first | refine gt ?_ | refine gf ?_ | refine gu ?_) | ((with_reducible apply is_en); refine en ?_) | (with_reducible first | apply x_then | apply wp_seq | apply c_region | apply wp_block | apply wp_skip | apply wp_exit | apply wp_ret | apply x_then_ret | apply x_then_exit | apply x_block | apply x_block_ret | apply x_block_exit | refine x_block_other (by decide) ?_))
  refine wl_alloc (fun w2 c hc => ?_)
  repeat (first | ((with_reducible apply is_st); refine su ?_) | ((with_reducible apply is_gd); first | refine gt ?_ | refine gf ?_ | refine gu ?_) | ((with_reducible apply is_en); refine en ?_) | (with_reducible first | apply x_then | apply wp_seq | apply c_region | apply wp_block | apply wp_skip | apply wp_exit | apply wp_ret | apply x_then_ret | apply x_then_exit | apply x_block | apply x_block_ret | apply x_block_exit | refine x_block_other (by decide) ?_))
  refine wl_alloc (fun w3 bw hw => ?_)
  have hH : Blk w3 bh (h.l.map v32) 104 := (hh.blk.ch hc.ch (by simp)).ch hw.ch (by simp)
  have hC : Blk w3 c ((List.replicate 8 (0 : UInt32)).map v32) 104 := hc.blk.ch hw.ch (by simp)
  have hW : Blk w3 bw ((sch bs 0 ++ List.replicate (64 - 0) 0).map v32) 114 := hw.blk
  have hch : Ch [] w w3 := (hh.ch.then hc.ch).then hw.ch
  have hbh : bh = w.heap.size := hh.at_
  have hbc : c = bh + 1 := by rw [hc.at_, hh.size]
  have hbw : bw = c + 1 := by rw [hw.at_, hc.size]
  repeat (first | ((with_reducible apply is_st); refine su ?_) | ((with_reducible apply is_gd); first | refine gt ?_ | refine gf ?_ | refine gu ?_) | ((with_reducible apply is_en); refine en ?_) | (with_reducible first | apply x_then | apply wp_seq | apply c_region | apply wp_block | apply wp_skip | apply wp_exit | apply wp_ret | apply x_then_ret | apply x_then_exit | apply x_block | apply x_block_ret | apply x_block_exit | refine x_block_other (by decide) ?_))
  
  refine c_loop (fun k l w' => ∃ (i : Nat), (∃ jj : Nat → Value, l = [jj 0, v, .pointer (some ⟨bh, 0, none⟩), jj 3, .pointer (some ⟨c, 0, none⟩), .pointer (some ⟨bw, 0, none⟩), .int .i64 (i : Int), jj 7, jj 8, jj 9, jj 10, jj 11, jj 12, jj 13, jj 14, jj 15, jj 16, jj 17, jj 18, jj 19, jj 20, jj 21, jj 22, jj 23, jj 24, jj 25, jj 26, jj 27, jj 28, jj 29, jj 30, jj 31, jj 32, jj 33, jj 34, jj 35, jj 36, jj 37, jj 38, jj 39, jj 40, jj 41, jj 42, jj 43, jj 44, jj 45, jj 46, jj 47, jj 48, jj 49, jj 50, jj 51, jj 52, jj 53, jj 54, jj 55, jj 56, jj 57, jj 58, jj 59, jj 60, jj 61, jj 62, jj 63, jj 64, jj 65, jj 66, jj 67, jj 68, jj 69, jj 70, jj 71, jj 72, jj 73, jj 74, jj 75, jj 76, jj 77, jj 78, jj 79, jj 80, jj 81, jj 82, jj 83, jj 84, jj 85, jj 86, jj 87, jj 88, jj 89, jj 90, jj 91, jj 92, jj 93, jj 94, jj 95, jj 96, jj 97, jj 98, jj 99, jj 100, jj 101, jj 102, jj 103, jj 104, jj 105, jj 106, jj 107, jj 108, jj 109, jj 110, jj 111, jj 112, jj 113, jj 114, jj 115, jj 116, jj 117, jj 118, jj 119, jj 120, jj 121, jj 122, jj 123, jj 124, jj 125, jj 126, jj 127, jj 128, jj 129, jj 130, jj 131, jj 132, jj 133, jj 134, jj 135, jj 136, jj 137, jj 138, jj 139, jj 140, jj 141, jj 142, jj 143, jj 144, jj 145, jj 146, jj 147, jj 148, jj 149, jj 150, jj 151, jj 152, jj 153, jj 154, jj 155, jj 156, jj 157, jj 158, jj 159, jj 160, jj 161, jj 162, jj 163, jj 164, jj 165, jj 166, jj 167, jj 168, jj 169, jj 170, jj 171, jj 172, jj 173, jj 174, jj 175, jj 176, jj 177, jj 178, jj 179, jj 180, jj 181, jj 182, jj 183, jj 184, jj 185, jj 186, jj 187, jj 188, jj 189, jj 190, jj 191, jj 192, jj 193, jj 194]) ∧ i + k = 16 ∧ Ch [] w w' ∧ Blk w' bh (h.l.map v32) 104 ∧ Blk w' c ((List.replicate 8 (0 : UInt32)).map v32) 104 ∧ Blk w' bw ((sch bs i ++ List.replicate (64 - (sch bs i).length) 0).map v32) 114) 16
    ⟨0, exj rfl, rfl, hch, hH, hC, hW⟩ ?_
  rintro k l w4 ⟨i, ⟨jj, rfl⟩, hik, hch4, hH4, hC4, hW4⟩
  have hsl := sch_len bs i
  repeat (first | ((with_reducible apply is_st); refine su ?_) | ((with_reducible apply is_gd); first | refine gt ?_ | refine gf ?_ | refine gu ?_) | ((with_reducible apply is_en); refine en ?_) | (with_reducible first | apply x_then | apply wp_seq | apply c_region | apply wp_block | apply wp_skip | apply wp_exit | apply wp_ret | apply x_then_ret | apply x_then_exit | apply x_block | apply x_block_ret | apply x_block_exit | refine x_block_other (by decide) ?_))
  refine c_cond rfl (fun h16 => ?_) (fun h16 => ?_)
  · repeat (first | ((with_reducible apply is_st); refine su ?_) | ((with_reducible apply is_gd); first | refine gt ?_ | refine gf ?_ | refine gu ?_) | ((with_reducible apply is_en); refine en ?_) | (with_reducible first | apply x_then | apply wp_seq | apply c_region | apply wp_block | apply wp_skip | apply wp_exit | apply wp_ret | apply x_then_ret | apply x_then_exit | apply x_block | apply x_block_ret | apply x_block_exit | refine x_block_other (by decide) ?_))
    refine c_drawl 35 [] (by kernel_rfl) (by kernel_rfl) (by kernel_rfl) (fun w5 hc5 hs5 => ?_)
    have hR5 := hR.ch (hch4.then hc5)
    have hg : ∀ {j : Nat} {x : UInt8} {q : Int}, bs[q.toNat]? = some x → q = (j : Int) → x = bs.getD j 0 := by
      intro j x q hx hq
      subst hq
      rw [Int.toNat_natCast] at hx
      rw [List.getD_eq_getElem?_getD, hx]
      rfl
    repeat (first | ((with_reducible apply is_sg); refine sgu ?_) | ((with_reducible apply is_gg); first | refine gtg ?_ | refine gfg ?_ | refine gug ?_) | ((with_reducible apply is_eg); refine eg ?_))
    (try ((with_reducible apply is_gg); first | refine gtg ?_ | refine gfg ?_ | refine gug ?_)); refine ixg hR5 (fun b o x hx hA => ?_)
    obtain rfl := hg (j := 4 * i) hx (by omega)
    (try ((with_reducible apply is_gg); first | refine gtg ?_ | refine gfg ?_ | refine gug ?_)); refine ldg hA ?_
    repeat (first | ((with_reducible apply is_sg); refine sgu ?_) | ((with_reducible apply is_gg); first | refine gtg ?_ | refine gfg ?_ | refine gug ?_) | ((with_reducible apply is_eg); refine eg ?_))
    (try ((with_reducible apply is_gg); first | refine gtg ?_ | refine gfg ?_ | refine gug ?_)); refine ixg hR5 (fun b o x hx hA => ?_)
    obtain rfl := hg (j := 4 * i + 1) hx (by omega)
    (try ((with_reducible apply is_gg); first | refine gtg ?_ | refine gfg ?_ | refine gug ?_)); refine ldg hA ?_
    repeat (first | ((with_reducible apply is_sg); refine sgu ?_) | ((with_reducible apply is_gg); first | refine gtg ?_ | refine gfg ?_ | refine gug ?_) | ((with_reducible apply is_eg); refine eg ?_))
    (try ((with_reducible apply is_gg); first | refine gtg ?_ | refine gfg ?_ | refine gug ?_)); refine ixg hR5 (fun b o x hx hA => ?_)
    obtain rfl := hg (j := 4 * i + 2) hx (by omega)
    (try ((with_reducible apply is_gg); first | refine gtg ?_ | refine gfg ?_ | refine gug ?_)); refine ldg hA ?_
    repeat (first | ((with_reducible apply is_sg); refine sgu ?_) | ((with_reducible apply is_gg); first | refine gtg ?_ | refine gfg ?_ | refine gug ?_) | ((with_reducible apply is_eg); refine eg ?_))
    (try ((with_reducible apply is_gg); first | refine gtg ?_ | refine gfg ?_ | refine gug ?_)); refine ixg hR5 (fun b o x hx hA => ?_)
    obtain rfl := hg (j := 4 * i + 3) hx (by omega)
    (try ((with_reducible apply is_gg); first | refine gtg ?_ | refine gfg ?_ | refine gug ?_)); refine ldg hA ?_
    repeat (first | ((with_reducible apply is_sg); refine sgu ?_) | ((with_reducible apply is_gg); first | refine gtg ?_ | refine gfg ?_ | refine gug ?_) | ((with_reducible apply is_eg); refine eg ?_))
    refine lastg rfl (by kernel_rfl) (fun w6 hc6 => ?_)
    refine stb (v := v32 (word bs i)) ((hW4.ch hc5 (by simp)).ch hc6 (by simp)) rfl rfl rfl rfl (by simp; omega) (fun w7 hB7 hch7 hs7 => ?_)
    rw [set_next (by omega) (by omega)] at hB7
    refine x_last rfl rfl (fun w8 hc8 => ?_)
    have hc48 : Ch [bw] w4 w8 := (((Ch.some hc5).add hc6).then hch7).add hc8
    repeat (first | ((with_reducible apply is_st); refine su ?_) | ((with_reducible apply is_gd); first | refine gt ?_ | refine gf ?_ | refine gu ?_) | ((with_reducible apply is_en); refine en ?_) | (with_reducible first | apply x_then | apply wp_seq | apply c_region | apply wp_block | apply wp_skip | apply wp_exit | apply wp_ret | apply x_then_ret | apply x_then_exit | apply x_block | apply x_block_ret | apply x_block_exit | refine x_block_other (by decide) ?_))
    refine x_goes (k - 1) rfl (by omega) ⟨i + 1, exj rfl, by omega, hch4.own hc48 (by omega), hH4.ch hc48 (by simp; omega), hC4.ch hc48 (by simp; omega), ?_⟩
    have e : nextW bs (sch bs i) = word bs i := by unfold nextW; rw [hsl, if_pos (by omega)]
    rw [sch, e]
    exact hB7.ch hc8 (by simp)
  · repeat (first | ((with_reducible apply is_st); refine su ?_) | ((with_reducible apply is_gd); first | refine gt ?_ | refine gf ?_ | refine gu ?_) | ((with_reducible apply is_en); refine en ?_) | (with_reducible first | apply x_then | apply wp_seq | apply c_region | apply wp_block | apply wp_skip | apply wp_exit | apply wp_ret | apply x_then_ret | apply x_then_exit | apply x_block | apply x_block_ret | apply x_block_exit | refine x_block_other (by decide) ?_))
    obtain rfl : i = 16 := by omega
    
    refine c_loop (fun k l w' => ∃ (i : Nat), (∃ jj : Nat → Value, l = [jj 0, jj 1, .pointer (some ⟨bh, 0, none⟩), jj 3, .pointer (some ⟨c, 0, none⟩), .pointer (some ⟨bw, 0, none⟩), jj 6, .int .i64 (i : Int), jj 8, jj 9, jj 10, jj 11, jj 12, jj 13, jj 14, jj 15, jj 16, jj 17, jj 18, jj 19, jj 20, jj 21, jj 22, jj 23, jj 24, jj 25, jj 26, jj 27, jj 28, jj 29, jj 30, jj 31, jj 32, jj 33, jj 34, jj 35, jj 36, jj 37, jj 38, jj 39, jj 40, jj 41, jj 42, jj 43, jj 44, jj 45, jj 46, jj 47, jj 48, jj 49, jj 50, jj 51, jj 52, jj 53, jj 54, jj 55, jj 56, jj 57, jj 58, jj 59, jj 60, jj 61, jj 62, jj 63, jj 64, jj 65, jj 66, jj 67, jj 68, jj 69, jj 70, jj 71, jj 72, jj 73, jj 74, jj 75, jj 76, jj 77, jj 78, jj 79, jj 80, jj 81, jj 82, jj 83, jj 84, jj 85, jj 86, jj 87, jj 88, jj 89, jj 90, jj 91, jj 92, jj 93, jj 94, jj 95, jj 96, jj 97, jj 98, jj 99, jj 100, jj 101, jj 102, jj 103, jj 104, jj 105, jj 106, jj 107, jj 108, jj 109, jj 110, jj 111, jj 112, jj 113, jj 114, jj 115, jj 116, jj 117, jj 118, jj 119, jj 120, jj 121, jj 122, jj 123, jj 124, jj 125, jj 126, jj 127, jj 128, jj 129, jj 130, jj 131, jj 132, jj 133, jj 134, jj 135, jj 136, jj 137, jj 138, jj 139, jj 140, jj 141, jj 142, jj 143, jj 144, jj 145, jj 146, jj 147, jj 148, jj 149, jj 150, jj 151, jj 152, jj 153, jj 154, jj 155, jj 156, jj 157, jj 158, jj 159, jj 160, jj 161, jj 162, jj 163, jj 164, jj 165, jj 166, jj 167, jj 168, jj 169, jj 170, jj 171, jj 172, jj 173, jj 174, jj 175, jj 176, jj 177, jj 178, jj 179, jj 180, jj 181, jj 182, jj 183, jj 184, jj 185, jj 186, jj 187, jj 188, jj 189, jj 190, jj 191, jj 192, jj 193, jj 194]) ∧ i + k = 64 ∧ 16 ≤ i ∧ Ch [] w w' ∧ Blk w' bh (h.l.map v32) 104 ∧ Blk w' c ((List.replicate 8 (0 : UInt32)).map v32) 104 ∧ Blk w' bw ((sch bs i ++ List.replicate (64 - (sch bs i).length) 0).map v32) 114) 48
      ⟨16, exj rfl, rfl, by omega, hch4, hH4, hC4, hW4⟩ ?_
    clear hch4 hH4 hC4 hW4 hsl h16 hik
    rintro k l w4 ⟨i, ⟨jj, rfl⟩, hik, hi16, hch4, hH4, hC4, hW4⟩
    have hsl := sch_len bs i
    repeat (first | ((with_reducible apply is_st); refine su ?_) | ((with_reducible apply is_gd); first | refine gt ?_ | refine gf ?_ | refine gu ?_) | ((with_reducible apply is_en); refine en ?_) | (with_reducible first | apply x_then | apply wp_seq | apply c_region | apply wp_block | apply wp_skip | apply wp_exit | apply wp_ret | apply x_then_ret | apply x_then_exit | apply x_block | apply x_block_ret | apply x_block_exit | refine x_block_other (by decide) ?_))
    refine c_cond rfl (fun h64 => ?_) (fun h64 => ?_)
    · repeat (first | ((with_reducible apply is_st); refine su ?_) | ((with_reducible apply is_gd); first | refine gt ?_ | refine gf ?_ | refine gu ?_) | ((with_reducible apply is_en); refine en ?_) | (with_reducible first | apply x_then | apply wp_seq | apply c_region | apply wp_block | apply wp_skip | apply wp_exit | apply wp_ret | apply x_then_ret | apply x_then_exit | apply x_block | apply x_block_ret | apply x_block_exit | refine x_block_other (by decide) ?_))
      refine c_draw [] (by kernel_rfl) (by kernel_rfl) (fun w5 hc5 hs5 => ?_)
      have hW5 := hW4.ch hc5 (by simp)
      repeat (first | ((with_reducible apply is_sg); refine sgu ?_) | ((with_reducible apply is_gg); first | refine gtg ?_ | refine gfg ?_ | refine gug ?_) | ((with_reducible apply is_eg); refine eg ?_))
      refine ldbg hW5 (by simp) rfl (get_pad (i := i - 15) (by omega) (by omega)) ?_
      repeat (first | ((with_reducible apply is_sg); refine sgu ?_) | ((with_reducible apply is_gg); first | refine gtg ?_ | refine gfg ?_ | refine gug ?_) | ((with_reducible apply is_eg); refine eg ?_))
      refine ldbg hW5 (by simp) rfl (get_pad (i := i - 2) (by omega) (by omega)) ?_
      repeat (first | ((with_reducible apply is_sg); refine sgu ?_) | ((with_reducible apply is_gg); first | refine gtg ?_ | refine gfg ?_ | refine gug ?_) | ((with_reducible apply is_eg); refine eg ?_))
      intro w6 hc6
      repeat (first | ((with_reducible apply is_st); refine su ?_) | ((with_reducible apply is_gd); first | refine gt ?_ | refine gf ?_ | refine gu ?_) | ((with_reducible apply is_en); refine en ?_) | (with_reducible first | apply x_then | apply wp_seq | apply c_region | apply wp_block | apply wp_skip | apply wp_exit | apply wp_ret | apply x_then_ret | apply x_then_exit | apply x_block | apply x_block_ret | apply x_block_exit | refine x_block_other (by decide) ?_))
      refine c_drawl 29 [] (by kernel_rfl) (by kernel_rfl) (by kernel_rfl) (fun w7 hc7 hs7 => ?_)
      have hW7 := (hW5.ch hc6 (by simp)).ch hc7 (by simp)
      repeat (first | ((with_reducible apply is_sg); refine sgu ?_) | ((with_reducible apply is_gg); first | refine gtg ?_ | refine gfg ?_ | refine gug ?_) | ((with_reducible apply is_eg); refine eg ?_))
      refine ldbg hW7 (by simp) rfl (get_pad (i := i - 16) (by omega) (by omega)) ?_
      repeat (first | ((with_reducible apply is_sg); refine sgu ?_) | ((with_reducible apply is_gg); first | refine gtg ?_ | refine gfg ?_ | refine gug ?_) | ((with_reducible apply is_eg); refine eg ?_))
      (try ((with_reducible apply is_gg); first | refine gtg ?_ | refine gfg ?_ | refine gug ?_)); refine cag (turn_g _ 7 (by omega)) ?_
      repeat (first | ((with_reducible apply is_sg); refine sgu ?_) | ((with_reducible apply is_gg); first | refine gtg ?_ | refine gfg ?_ | refine gug ?_) | ((with_reducible apply is_eg); refine eg ?_))
      (try ((with_reducible apply is_gg); first | refine gtg ?_ | refine gfg ?_ | refine gug ?_)); refine cag (turn_g _ 18 (by omega)) ?_
      repeat (first | ((with_reducible apply is_sg); refine sgu ?_) | ((with_reducible apply is_gg); first | refine gtg ?_ | refine gfg ?_ | refine gug ?_) | ((with_reducible apply is_eg); refine eg ?_))
      refine ldbg hW7 (by simp) rfl (get_pad (i := i - 7) (by omega) (by omega)) ?_
      repeat (first | ((with_reducible apply is_sg); refine sgu ?_) | ((with_reducible apply is_gg); first | refine gtg ?_ | refine gfg ?_ | refine gug ?_) | ((with_reducible apply is_eg); refine eg ?_))
      (try ((with_reducible apply is_gg); first | refine gtg ?_ | refine gfg ?_ | refine gug ?_)); refine cag (turn_g _ 17 (by omega)) ?_
      repeat (first | ((with_reducible apply is_sg); refine sgu ?_) | ((with_reducible apply is_gg); first | refine gtg ?_ | refine gfg ?_ | refine gug ?_) | ((with_reducible apply is_eg); refine eg ?_))
      (try ((with_reducible apply is_gg); first | refine gtg ?_ | refine gfg ?_ | refine gug ?_)); refine cag (turn_g _ 19 (by omega)) ?_
      repeat (first | ((with_reducible apply is_sg); refine sgu ?_) | ((with_reducible apply is_gg); first | refine gtg ?_ | refine gfg ?_ | refine gug ?_) | ((with_reducible apply is_eg); refine eg ?_))
      refine lastg rfl (by kernel_rfl) (fun w8 hc8 => ?_)
      have e : nextW bs (sch bs i) = (((sch bs i).getD (i - 16) 0 + sg0 ((sch bs i).getD (i - 15) 0)) + (sch bs i).getD (i - 7) 0) + sg1 ((sch bs i).getD (i - 2) 0) := by unfold nextW; rw [hsl, if_neg (by omega)]
      refine stb (v := v32 ((((sch bs i).getD (i - 16) 0 + sg0 ((sch bs i).getD (i - 15) 0)) + (sch bs i).getD (i - 7) 0) + sg1 ((sch bs i).getD (i - 2) 0))) (hW7.ch hc8 (by simp)) rfl rfl rfl rfl (by simp; omega) (fun w9 hB9 hch9 hs9 => ?_)
      rw [set_next (by omega) (by omega), ← e] at hB9
      refine x_last rfl rfl (fun w10 hc10 => ?_)
      have hc410 : Ch [bw] w4 w10 := ((((((Ch.some hc5).add hc6).add hc7).add hc8)).then hch9).add hc10
      repeat (first | ((with_reducible apply is_st); refine su ?_) | ((with_reducible apply is_gd); first | refine gt ?_ | refine gf ?_ | refine gu ?_) | ((with_reducible apply is_en); refine en ?_) | (with_reducible first | apply x_then | apply wp_seq | apply c_region | apply wp_block | apply wp_skip | apply wp_exit | apply wp_ret | apply x_then_ret | apply x_then_exit | apply x_block | apply x_block_ret | apply x_block_exit | refine x_block_other (by decide) ?_))
      refine x_goes (k - 1) rfl (by omega) ⟨i + 1, exj rfl, by omega, by omega, hch4.own hc410 (by omega), hH4.ch hc410 (by simp; omega), hC4.ch hc410 (by simp; omega), hB9.ch hc10 (by simp)⟩
    · obtain rfl : i = 64 := by omega
      have hz : (sch bs 64 ++ List.replicate (64 - (sch bs 64).length) 0) = sch bs 64 := by rw [hsl]; simp
      rw [hz] at hW4
      generalize hWW : sch bs 64 = W at hW4 hsl
      repeat (first | ((with_reducible apply is_st); refine su ?_) | ((with_reducible apply is_gd); first | refine gt ?_ | refine gf ?_ | refine gu ?_) | ((with_reducible apply is_en); refine en ?_) | (with_reducible first | apply x_then | apply wp_seq | apply c_region | apply wp_block | apply wp_skip | apply wp_exit | apply wp_ret | apply x_then_ret | apply x_then_exit | apply x_block | apply x_block_ret | apply x_block_exit | refine x_block_other (by decide) ?_))
      (try ((with_reducible apply is_gd); first | refine gt ?_ | refine gf ?_ | refine gu ?_)); refine ca (keys_any w4) ?_
      rintro _ w5 ⟨rfl, hc5⟩
      repeat (first | ((with_reducible apply is_st); refine su ?_) | ((with_reducible apply is_gd); first | refine gt ?_ | refine gf ?_ | refine gu ?_) | ((with_reducible apply is_en); refine en ?_) | (with_reducible first | apply x_then | apply wp_seq | apply c_region | apply wp_block | apply wp_skip | apply wp_exit | apply wp_ret | apply x_then_ret | apply x_then_exit | apply x_block | apply x_block_ret | apply x_block_exit | refine x_block_other (by decide) ?_))
      refine wl_alloc (fun w6 bk hk => ?_)
      have hbk : bw < bk := by rw [hk.at_]; exact (hW4.ch hc5 (by simp)).lt
      have hK0 : Blk w6 bk ((List.replicate 64 (0 : UInt32)).map v32) 114 := hk.blk
      repeat (first | ((with_reducible apply is_st); refine su ?_) | ((with_reducible apply is_gd); first | refine gt ?_ | refine gf ?_ | refine gu ?_) | ((with_reducible apply is_en); refine en ?_) | (with_reducible first | apply x_then | apply wp_seq | apply c_region | apply wp_block | apply wp_skip | apply wp_exit | apply wp_ret | apply x_then_ret | apply x_then_exit | apply x_block | apply x_block_ret | apply x_block_exit | refine x_block_other (by decide) ?_))
      refine stbw (n := 64) hK0 rfl rfl rfl (by simp) one_32 (fun w7 hK7 hch7 hs7 => ?_)
      have hc47 : Ch [bk] w4 w7 := ((Ch.some hc5).add hk.ch).then hch7
      have hc7 : Ch [] w w7 := hch4.own hc47 (by omega)
      have hH7 := hH4.ch hc47 (by simp; omega)
      have hC7 := hC4.ch hc47 (by simp; omega)
      have hW7 := hW4.ch hc47 (by simp; omega)
      repeat (first | ((with_reducible apply is_st); refine su ?_) | ((with_reducible apply is_gd); first | refine gt ?_ | refine gf ?_ | refine gu ?_) | ((with_reducible apply is_en); refine en ?_) | (with_reducible first | apply x_then | apply wp_seq | apply c_region | apply wp_block | apply wp_skip | apply wp_exit | apply wp_ret | apply x_then_ret | apply x_then_exit | apply x_block | apply x_block_ret | apply x_block_exit | refine x_block_other (by decide) ?_))
      refine ldbr hH7 rfl (ds := h.l.map v32) rfl rfl ?_
      repeat (first | ((with_reducible apply is_st); refine su ?_) | ((with_reducible apply is_gd); first | refine gt ?_ | refine gf ?_ | refine gu ?_) | ((with_reducible apply is_en); refine en ?_) | (with_reducible first | apply x_then | apply wp_seq | apply c_region | apply wp_block | apply wp_skip | apply wp_exit | apply wp_ret | apply x_then_ret | apply x_then_exit | apply x_block | apply x_block_ret | apply x_block_exit | refine x_block_other (by decide) ?_))
      refine wl_alloc (fun w8 bv hv => ?_)
      have hbv : bk < bv := by rw [hv.at_]; exact hK7.lt
      repeat (first | ((with_reducible apply is_st); refine su ?_) | ((with_reducible apply is_gd); first | refine gt ?_ | refine gf ?_ | refine gu ?_) | ((with_reducible apply is_en); refine en ?_) | (with_reducible first | apply x_then | apply wp_seq | apply c_region | apply wp_block | apply wp_skip | apply wp_exit | apply wp_ret | apply x_then_ret | apply x_then_exit | apply x_block | apply x_block_ret | apply x_block_exit | refine x_block_other (by decide) ?_))
      refine stbw (n := 8) hv.blk rfl rfl rfl rfl one_32 (fun w9 hV9 hch9 hs9 => ?_)
      have hc79 : Ch [bv] w7 w9 := (Ch.some hv.ch).then hch9
      repeat (first | ((with_reducible apply is_st); refine su ?_) | ((with_reducible apply is_gd); first | refine gt ?_ | refine gf ?_ | refine gu ?_) | ((with_reducible apply is_en); refine en ?_) | (with_reducible first | apply x_then | apply wp_seq | apply c_region | apply wp_block | apply wp_skip | apply wp_exit | apply wp_ret | apply x_then_ret | apply x_then_exit | apply x_block | apply x_block_ret | apply x_block_exit | refine x_block_other (by decide) ?_))
      
      refine c_loop (fun k l w' => ∃ (i : Nat), (∃ jj : Nat → Value, l = [jj 0, jj 1, .pointer (some ⟨bh, 0, none⟩), jj 3, .pointer (some ⟨c, 0, none⟩), .pointer (some ⟨bw, 0, none⟩), jj 6, jj 7, jj 8, jj 9, .pointer (some ⟨bk, 0, none⟩), .pointer (some ⟨bv, 0, none⟩), .int .i64 (i : Int), jj 13, jj 14, jj 15, jj 16, jj 17, jj 18, jj 19, jj 20, jj 21, jj 22, jj 23, jj 24, jj 25, jj 26, jj 27, jj 28, jj 29, jj 30, jj 31, jj 32, jj 33, jj 34, jj 35, jj 36, jj 37, jj 38, jj 39, jj 40, jj 41, jj 42, jj 43, jj 44, jj 45, jj 46, jj 47, jj 48, jj 49, jj 50, jj 51, jj 52, jj 53, jj 54, jj 55, jj 56, jj 57, jj 58, jj 59, jj 60, jj 61, jj 62, jj 63, jj 64, jj 65, jj 66, jj 67, jj 68, jj 69, jj 70, jj 71, jj 72, jj 73, jj 74, jj 75, jj 76, jj 77, jj 78, jj 79, jj 80, jj 81, jj 82, jj 83, jj 84, jj 85, jj 86, jj 87, jj 88, jj 89, jj 90, jj 91, jj 92, jj 93, jj 94, jj 95, jj 96, jj 97, jj 98, jj 99, jj 100, jj 101, jj 102, jj 103, jj 104, jj 105, jj 106, jj 107, jj 108, jj 109, jj 110, jj 111, jj 112, jj 113, jj 114, jj 115, jj 116, jj 117, jj 118, jj 119, jj 120, jj 121, jj 122, jj 123, jj 124, jj 125, jj 126, jj 127, jj 128, jj 129, jj 130, jj 131, jj 132, jj 133, jj 134, jj 135, jj 136, jj 137, jj 138, jj 139, jj 140, jj 141, jj 142, jj 143, jj 144, jj 145, jj 146, jj 147, jj 148, jj 149, jj 150, jj 151, jj 152, jj 153, jj 154, jj 155, jj 156, jj 157, jj 158, jj 159, jj 160, jj 161, jj 162, jj 163, jj 164, jj 165, jj 166, jj 167, jj 168, jj 169, jj 170, jj 171, jj 172, jj 173, jj 174, jj 175, jj 176, jj 177, jj 178, jj 179, jj 180, jj 181, jj 182, jj 183, jj 184, jj 185, jj 186, jj 187, jj 188, jj 189, jj 190, jj 191, jj 192, jj 193, jj 194]) ∧ i + k = 64 ∧ Ch [] w w' ∧ Blk w' bh (h.l.map v32) 104 ∧ Blk w' c ((List.replicate 8 (0 : UInt32)).map v32) 104 ∧ Blk w' bw (W.map v32) 114 ∧ Blk w' bk (K256.map v32) 114 ∧ Blk w' bv ((runs W i h).l.map v32) 104) 64
        ⟨0, exj rfl, rfl, hc7.own hc79 (by omega), hH7.ch hc79 (by simp; omega), hC7.ch hc79 (by simp; omega), hW7.ch hc79 (by simp; omega), hK7.ch hc79 (by simp; omega), hV9⟩ ?_
      rintro k l w10 ⟨i, ⟨jj, rfl⟩, hik, hc10, hH10, hC10, hW10, hK10, hV10⟩
      generalize hs : runs W i h = s at hV10
      repeat (first | ((with_reducible apply is_st); refine su ?_) | ((with_reducible apply is_gd); first | refine gt ?_ | refine gf ?_ | refine gu ?_) | ((with_reducible apply is_en); refine en ?_) | (with_reducible first | apply x_then | apply wp_seq | apply c_region | apply wp_block | apply wp_skip | apply wp_exit | apply wp_ret | apply x_then_ret | apply x_then_exit | apply x_block | apply x_block_ret | apply x_block_exit | refine x_block_other (by decide) ?_))
      refine c_cond rfl (fun h64 => ?_) (fun h64 => ?_)
      · repeat (first | ((with_reducible apply is_st); refine su ?_) | ((with_reducible apply is_gd); first | refine gt ?_ | refine gf ?_ | refine gu ?_) | ((with_reducible apply is_en); refine en ?_) | (with_reducible first | apply x_then | apply wp_seq | apply c_region | apply wp_block | apply wp_skip | apply wp_exit | apply wp_ret | apply x_then_ret | apply x_then_exit | apply x_block | apply x_block_ret | apply x_block_exit | refine x_block_other (by decide) ?_))
        refine c_draw [] (by kernel_rfl) (by kernel_rfl) (fun w11 hc11 hs11 => ?_)
        have hV11 := hV10.ch hc11 (by simp)
        repeat (first | ((with_reducible apply is_sg); refine sgu ?_) | ((with_reducible apply is_gg); first | refine gtg ?_ | refine gfg ?_ | refine gug ?_) | ((with_reducible apply is_eg); refine eg ?_))
        refine ldbg (v := v32 s.a) hV11 (by simp) rfl rfl ?_
        repeat (first | ((with_reducible apply is_sg); refine sgu ?_) | ((with_reducible apply is_gg); first | refine gtg ?_ | refine gfg ?_ | refine gug ?_) | ((with_reducible apply is_eg); refine eg ?_))
        refine ldbg (v := v32 s.e) hV11 (by simp) rfl rfl ?_
        repeat (first | ((with_reducible apply is_sg); refine sgu ?_) | ((with_reducible apply is_gg); first | refine gtg ?_ | refine gfg ?_ | refine gug ?_) | ((with_reducible apply is_eg); refine eg ?_))
        intro w12 hc12
        repeat (first | ((with_reducible apply is_st); refine su ?_) | ((with_reducible apply is_gd); first | refine gt ?_ | refine gf ?_ | refine gu ?_) | ((with_reducible apply is_en); refine en ?_) | (with_reducible first | apply x_then | apply wp_seq | apply c_region | apply wp_block | apply wp_skip | apply wp_exit | apply wp_ret | apply x_then_ret | apply x_then_exit | apply x_block | apply x_block_ret | apply x_block_exit | refine x_block_other (by decide) ?_))
        refine c_draw [] (by kernel_rfl) (by kernel_rfl) (fun w13 hc13 hs13 => ?_)
        have hc1013 : Ch [] w10 w13 := (hc11.then hc12).then hc13
        have hV13 := hV10.ch hc1013 (by simp)
        have hK13 := hK10.ch hc1013 (by simp)
        have hW13 := hW10.ch hc1013 (by simp)
        repeat (first | ((with_reducible apply is_sg); refine sgu ?_) | ((with_reducible apply is_gg); first | refine gtg ?_ | refine gfg ?_ | refine gug ?_) | ((with_reducible apply is_eg); refine eg ?_))
        refine ldbg (v := v32 s.h) hV13 (by simp) rfl rfl ?_
        repeat (first | ((with_reducible apply is_sg); refine sgu ?_) | ((with_reducible apply is_gg); first | refine gtg ?_ | refine gfg ?_ | refine gug ?_) | ((with_reducible apply is_eg); refine eg ?_))
        (try ((with_reducible apply is_gg); first | refine gtg ?_ | refine gfg ?_ | refine gug ?_)); refine cag (turn_g _ 6 (by omega)) ?_
        repeat (first | ((with_reducible apply is_sg); refine sgu ?_) | ((with_reducible apply is_gg); first | refine gtg ?_ | refine gfg ?_ | refine gug ?_) | ((with_reducible apply is_eg); refine eg ?_))
        (try ((with_reducible apply is_gg); first | refine gtg ?_ | refine gfg ?_ | refine gug ?_)); refine cag (turn_g _ 11 (by omega)) ?_
        repeat (first | ((with_reducible apply is_sg); refine sgu ?_) | ((with_reducible apply is_gg); first | refine gtg ?_ | refine gfg ?_ | refine gug ?_) | ((with_reducible apply is_eg); refine eg ?_))
        (try ((with_reducible apply is_gg); first | refine gtg ?_ | refine gfg ?_ | refine gug ?_)); refine cag (turn_g _ 25 (by omega)) ?_
        repeat (first | ((with_reducible apply is_sg); refine sgu ?_) | ((with_reducible apply is_gg); first | refine gtg ?_ | refine gfg ?_ | refine gug ?_) | ((with_reducible apply is_eg); refine eg ?_))
        refine ldbg (v := v32 s.f) hV13 (by simp) rfl rfl ?_
        repeat (first | ((with_reducible apply is_sg); refine sgu ?_) | ((with_reducible apply is_gg); first | refine gtg ?_ | refine gfg ?_ | refine gug ?_) | ((with_reducible apply is_eg); refine eg ?_))
        refine ldbg (v := v32 s.g) hV13 (by simp) rfl rfl ?_
        repeat (first | ((with_reducible apply is_sg); refine sgu ?_) | ((with_reducible apply is_gg); first | refine gtg ?_ | refine gfg ?_ | refine gug ?_) | ((with_reducible apply is_eg); refine eg ?_))
        refine ldbg hK13 (by simp) rfl (mg' v32 (i := i) 0 (by omega) (by show i < 64; omega)) ?_
        repeat (first | ((with_reducible apply is_sg); refine sgu ?_) | ((with_reducible apply is_gg); first | refine gtg ?_ | refine gfg ?_ | refine gug ?_) | ((with_reducible apply is_eg); refine eg ?_))
        refine ldbg hW13 (by simp) rfl (mg' v32 (i := i) 0 (by omega) (by omega)) ?_
        repeat (first | ((with_reducible apply is_sg); refine sgu ?_) | ((with_reducible apply is_gg); first | refine gtg ?_ | refine gfg ?_ | refine gug ?_) | ((with_reducible apply is_eg); refine eg ?_))
        intro w14 hc14
        rw [chz_eq]
        repeat (first | ((with_reducible apply is_st); refine su ?_) | ((with_reducible apply is_gd); first | refine gt ?_ | refine gf ?_ | refine gu ?_) | ((with_reducible apply is_en); refine en ?_) | (with_reducible first | apply x_then | apply wp_seq | apply c_region | apply wp_block | apply wp_skip | apply wp_exit | apply wp_ret | apply x_then_ret | apply x_then_exit | apply x_block | apply x_block_ret | apply x_block_exit | refine x_block_other (by decide) ?_))
        refine c_draw [] (by kernel_rfl) (by kernel_rfl) (fun w15 hc15 hs15 => ?_)
        have hc1015 : Ch [] w10 w15 := (hc1013.then hc14).then hc15
        have hV15 := hV10.ch hc1015 (by simp)
        repeat (first | ((with_reducible apply is_sg); refine sgu ?_) | ((with_reducible apply is_gg); first | refine gtg ?_ | refine gfg ?_ | refine gug ?_) | ((with_reducible apply is_eg); refine eg ?_))
        (try ((with_reducible apply is_gg); first | refine gtg ?_ | refine gfg ?_ | refine gug ?_)); refine cag (turn_g _ 2 (by omega)) ?_
        repeat (first | ((with_reducible apply is_sg); refine sgu ?_) | ((with_reducible apply is_gg); first | refine gtg ?_ | refine gfg ?_ | refine gug ?_) | ((with_reducible apply is_eg); refine eg ?_))
        (try ((with_reducible apply is_gg); first | refine gtg ?_ | refine gfg ?_ | refine gug ?_)); refine cag (turn_g _ 13 (by omega)) ?_
        repeat (first | ((with_reducible apply is_sg); refine sgu ?_) | ((with_reducible apply is_gg); first | refine gtg ?_ | refine gfg ?_ | refine gug ?_) | ((with_reducible apply is_eg); refine eg ?_))
        (try ((with_reducible apply is_gg); first | refine gtg ?_ | refine gfg ?_ | refine gug ?_)); refine cag (turn_g _ 22 (by omega)) ?_
        repeat (first | ((with_reducible apply is_sg); refine sgu ?_) | ((with_reducible apply is_gg); first | refine gtg ?_ | refine gfg ?_ | refine gug ?_) | ((with_reducible apply is_eg); refine eg ?_))
        refine ldbg (v := v32 s.b) hV15 (by simp) rfl rfl ?_
        repeat (first | ((with_reducible apply is_sg); refine sgu ?_) | ((with_reducible apply is_gg); first | refine gtg ?_ | refine gfg ?_ | refine gug ?_) | ((with_reducible apply is_eg); refine eg ?_))
        refine ldbg (v := v32 s.c) hV15 (by simp) rfl rfl ?_
        repeat (first | ((with_reducible apply is_sg); refine sgu ?_) | ((with_reducible apply is_gg); first | refine gtg ?_ | refine gfg ?_ | refine gug ?_) | ((with_reducible apply is_eg); refine eg ?_))
        refine ldbg (v := v32 s.b) hV15 (by simp) rfl rfl ?_
        repeat (first | ((with_reducible apply is_sg); refine sgu ?_) | ((with_reducible apply is_gg); first | refine gtg ?_ | refine gfg ?_ | refine gug ?_) | ((with_reducible apply is_eg); refine eg ?_))
        refine ldbg (v := v32 s.c) hV15 (by simp) rfl rfl ?_
        repeat (first | ((with_reducible apply is_sg); refine sgu ?_) | ((with_reducible apply is_gg); first | refine gtg ?_ | refine gfg ?_ | refine gug ?_) | ((with_reducible apply is_eg); refine eg ?_))
        intro w16 hc16
        rw [maj_eq]
        have hc1016 := hc1015.then hc16
        have hV16 := hV10.ch hc1016 (by simp)
        repeat (first | ((with_reducible apply is_st); refine su ?_) | ((with_reducible apply is_gd); first | refine gt ?_ | refine gf ?_ | refine gu ?_) | ((with_reducible apply is_en); refine en ?_) | (with_reducible first | apply x_then | apply wp_seq | apply c_region | apply wp_block | apply wp_skip | apply wp_exit | apply wp_ret | apply x_then_ret | apply x_then_exit | apply x_block | apply x_block_ret | apply x_block_exit | refine x_block_other (by decide) ?_))
        refine ldb (v := v32 s.a) hV16 rfl rfl ?_
        repeat (first | ((with_reducible apply is_st); refine su ?_) | ((with_reducible apply is_gd); first | refine gt ?_ | refine gf ?_ | refine gu ?_) | ((with_reducible apply is_en); refine en ?_) | (with_reducible first | apply x_then | apply wp_seq | apply c_region | apply wp_block | apply wp_skip | apply wp_exit | apply wp_ret | apply x_then_ret | apply x_then_exit | apply x_block | apply x_block_ret | apply x_block_exit | refine x_block_other (by decide) ?_))
        refine ldb (v := v32 s.b) hV16 rfl rfl ?_
        repeat (first | ((with_reducible apply is_st); refine su ?_) | ((with_reducible apply is_gd); first | refine gt ?_ | refine gf ?_ | refine gu ?_) | ((with_reducible apply is_en); refine en ?_) | (with_reducible first | apply x_then | apply wp_seq | apply c_region | apply wp_block | apply wp_skip | apply wp_exit | apply wp_ret | apply x_then_ret | apply x_then_exit | apply x_block | apply x_block_ret | apply x_block_exit | refine x_block_other (by decide) ?_))
        refine ldb (v := v32 s.c) hV16 rfl rfl ?_
        repeat (first | ((with_reducible apply is_st); refine su ?_) | ((with_reducible apply is_gd); first | refine gt ?_ | refine gf ?_ | refine gu ?_) | ((with_reducible apply is_en); refine en ?_) | (with_reducible first | apply x_then | apply wp_seq | apply c_region | apply wp_block | apply wp_skip | apply wp_exit | apply wp_ret | apply x_then_ret | apply x_then_exit | apply x_block | apply x_block_ret | apply x_block_exit | refine x_block_other (by decide) ?_))
        refine ldb (v := v32 s.d) hV16 rfl rfl ?_
        repeat (first | ((with_reducible apply is_st); refine su ?_) | ((with_reducible apply is_gd); first | refine gt ?_ | refine gf ?_ | refine gu ?_) | ((with_reducible apply is_en); refine en ?_) | (with_reducible first | apply x_then | apply wp_seq | apply c_region | apply wp_block | apply wp_skip | apply wp_exit | apply wp_ret | apply x_then_ret | apply x_then_exit | apply x_block | apply x_block_ret | apply x_block_exit | refine x_block_other (by decide) ?_))
        refine ldb (v := v32 s.e) hV16 rfl rfl ?_
        repeat (first | ((with_reducible apply is_st); refine su ?_) | ((with_reducible apply is_gd); first | refine gt ?_ | refine gf ?_ | refine gu ?_) | ((with_reducible apply is_en); refine en ?_) | (with_reducible first | apply x_then | apply wp_seq | apply c_region | apply wp_block | apply wp_skip | apply wp_exit | apply wp_ret | apply x_then_ret | apply x_then_exit | apply x_block | apply x_block_ret | apply x_block_exit | refine x_block_other (by decide) ?_))
        refine ldb (v := v32 s.f) hV16 rfl rfl ?_
        repeat (first | ((with_reducible apply is_st); refine su ?_) | ((with_reducible apply is_gd); first | refine gt ?_ | refine gf ?_ | refine gu ?_) | ((with_reducible apply is_en); refine en ?_) | (with_reducible first | apply x_then | apply wp_seq | apply c_region | apply wp_block | apply wp_skip | apply wp_exit | apply wp_ret | apply x_then_ret | apply x_then_exit | apply x_block | apply x_block_ret | apply x_block_exit | refine x_block_other (by decide) ?_))
        refine ldb (v := v32 s.g) hV16 rfl rfl ?_
        rw [← UInt32.add_assoc]
        refine wl_val (r_build_arr (vs := (rnd (K256.getD i 0) (W.getD i 0) s).l.map v32) rfl rfl (by intro u hu; obtain ⟨x, _, rfl⟩ := List.mem_map.1 hu; rfl)) ?_
        refine stbw (n := 8) (vs := (rnd (K256.getD i 0) (W.getD i 0) s).l.map v32) hV16 rfl rfl rfl rfl one_32 (fun w17 hV17 hch17 hs17 => ?_)
        have hc1017 : Ch [bv] w10 w17 := (Ch.some hc1016).then hch17
        repeat (first | ((with_reducible apply is_st); refine su ?_) | ((with_reducible apply is_gd); first | refine gt ?_ | refine gf ?_ | refine gu ?_) | ((with_reducible apply is_en); refine en ?_) | (with_reducible first | apply x_then | apply wp_seq | apply c_region | apply wp_block | apply wp_skip | apply wp_exit | apply wp_ret | apply x_then_ret | apply x_then_exit | apply x_block | apply x_block_ret | apply x_block_exit | refine x_block_other (by decide) ?_))
        refine x_goes (k - 1) rfl (by omega) ⟨i + 1, exj rfl, by omega, hc10.own hc1017 (by omega), hH10.ch hc1017 (by simp; omega), hC10.ch hc1017 (by simp; omega), hW10.ch hc1017 (by simp; omega), hK10.ch hc1017 (by simp; omega), ?_⟩
        rw [runs, hs]
        exact hV17
      · repeat (first | ((with_reducible apply is_st); refine su ?_) | ((with_reducible apply is_gd); first | refine gt ?_ | refine gf ?_ | refine gu ?_) | ((with_reducible apply is_en); refine en ?_) | (with_reducible first | apply x_then | apply wp_seq | apply c_region | apply wp_block | apply wp_skip | apply wp_exit | apply wp_ret | apply x_then_ret | apply x_then_exit | apply x_block | apply x_block_ret | apply x_block_exit | refine x_block_other (by decide) ?_))
        obtain rfl : i = 64 := by omega
        
        refine c_loop (fun k l w' => ∃ (i : Nat), (∃ jj : Nat → Value, l = [jj 0, jj 1, .pointer (some ⟨bh, 0, none⟩), jj 3, .pointer (some ⟨c, 0, none⟩), jj 5, jj 6, jj 7, jj 8, jj 9, jj 10, .pointer (some ⟨bv, 0, none⟩), jj 12, jj 13, jj 14, jj 15, jj 16, jj 17, jj 18, jj 19, jj 20, jj 21, jj 22, jj 23, jj 24, jj 25, jj 26, jj 27, jj 28, jj 29, jj 30, jj 31, jj 32, jj 33, jj 34, jj 35, jj 36, jj 37, jj 38, jj 39, jj 40, jj 41, jj 42, jj 43, jj 44, jj 45, jj 46, jj 47, jj 48, jj 49, jj 50, jj 51, jj 52, jj 53, jj 54, jj 55, jj 56, jj 57, jj 58, jj 59, jj 60, jj 61, jj 62, jj 63, jj 64, jj 65, jj 66, jj 67, jj 68, jj 69, jj 70, jj 71, jj 72, jj 73, jj 74, jj 75, jj 76, jj 77, jj 78, jj 79, jj 80, jj 81, jj 82, jj 83, jj 84, jj 85, jj 86, jj 87, jj 88, jj 89, jj 90, jj 91, jj 92, jj 93, jj 94, jj 95, jj 96, jj 97, jj 98, jj 99, jj 100, jj 101, jj 102, jj 103, jj 104, jj 105, jj 106, jj 107, jj 108, jj 109, jj 110, jj 111, jj 112, jj 113, jj 114, jj 115, jj 116, jj 117, jj 118, jj 119, jj 120, jj 121, jj 122, jj 123, jj 124, jj 125, jj 126, jj 127, jj 128, jj 129, jj 130, jj 131, jj 132, jj 133, jj 134, jj 135, jj 136, jj 137, jj 138, jj 139, jj 140, jj 141, jj 142, jj 143, jj 144, jj 145, jj 146, jj 147, jj 148, jj 149, jj 150, jj 151, jj 152, jj 153, jj 154, jj 155, jj 156, jj 157, jj 158, jj 159, jj 160, jj 161, jj 162, jj 163, jj 164, jj 165, jj 166, jj 167, jj 168, jj 169, jj 170, jj 171, jj 172, jj 173, jj 174, jj 175, jj 176, jj 177, jj 178, jj 179, jj 180, jj 181, .int .i64 (i : Int), jj 183, jj 184, jj 185, jj 186, jj 187, jj 188, jj 189, jj 190, jj 191, jj 192, jj 193, jj 194]) ∧ i + k = 8 ∧ Ch [] w w' ∧ Blk w' c ((List.replicate 8 (0 : UInt32)).map v32) 104 ∧ Blk w' bh ((mix h.l s.l i).map v32) 104 ∧ Blk w' bv (s.l.map v32) 104) 8
          ⟨0, exj rfl, rfl, hc10, hC10, hH10, hV10⟩ ?_
        rintro k l w11 ⟨i, ⟨jj, rfl⟩, hik, hc11, hC11, hH11, hV11⟩
        have hml := mix_len h.l s.l i
        repeat (first | ((with_reducible apply is_st); refine su ?_) | ((with_reducible apply is_gd); first | refine gt ?_ | refine gf ?_ | refine gu ?_) | ((with_reducible apply is_en); refine en ?_) | (with_reducible first | apply x_then | apply wp_seq | apply c_region | apply wp_block | apply wp_skip | apply wp_exit | apply wp_ret | apply x_then_ret | apply x_then_exit | apply x_block | apply x_block_ret | apply x_block_exit | refine x_block_other (by decide) ?_))
        refine c_cond rfl (fun h8 => ?_) (fun h8 => ?_)
        · repeat (first | ((with_reducible apply is_st); refine su ?_) | ((with_reducible apply is_gd); first | refine gt ?_ | refine gf ?_ | refine gu ?_) | ((with_reducible apply is_en); refine en ?_) | (with_reducible first | apply x_then | apply wp_seq | apply c_region | apply wp_block | apply wp_skip | apply wp_exit | apply wp_ret | apply x_then_ret | apply x_then_exit | apply x_block | apply x_block_ret | apply x_block_exit | refine x_block_other (by decide) ?_))
          refine c_drawl 8 [] (by kernel_rfl) (by kernel_rfl) (by kernel_rfl) (fun w12 hc12 hs12 => ?_)
          have hH12 := hH11.ch hc12 (by simp)
          have hV12 := hV11.ch hc12 (by simp)
          repeat (first | ((with_reducible apply is_sg); refine sgu ?_) | ((with_reducible apply is_gg); first | refine gtg ?_ | refine gfg ?_ | refine gug ?_) | ((with_reducible apply is_eg); refine eg ?_))
          refine ldbg (v := v32 (h.l.getD i 0)) hH12 (by simp) rfl (by
            rw [mg' v32 (i := i) 0 (by omega) (by omega), mix_get _ _ (by omega), if_neg (by omega)]) ?_
          repeat (first | ((with_reducible apply is_sg); refine sgu ?_) | ((with_reducible apply is_gg); first | refine gtg ?_ | refine gfg ?_ | refine gug ?_) | ((with_reducible apply is_eg); refine eg ?_))
          refine ldbg (v := v32 (s.l.getD i 0)) hV12 (by simp) rfl (mg' v32 (i := i) 0 (by omega) (by show i < 8; omega)) ?_
          repeat (first | ((with_reducible apply is_sg); refine sgu ?_) | ((with_reducible apply is_gg); first | refine gtg ?_ | refine gfg ?_ | refine gug ?_) | ((with_reducible apply is_eg); refine eg ?_))
          refine lastg rfl (by kernel_rfl) (fun w13 hc13 => ?_)
          refine stb (v := v32 (h.l.getD i 0 + s.l.getD i 0)) (hH12.ch hc13 (by simp)) rfl rfl rfl rfl (by simp [hml]; omega) (fun w14 hB14 hch14 hs14 => ?_)
          rw [← List.map_set, show 0 + ((i : Int)).toNat * 1 = i by omega, mix_set _ _ (by omega)] at hB14
          refine x_last rfl rfl (fun w15 hc15 => ?_)
          have hc1115 : Ch [bh] w11 w15 := (((Ch.some hc12).add hc13).then hch14).add hc15
          repeat (first | ((with_reducible apply is_st); refine su ?_) | ((with_reducible apply is_gd); first | refine gt ?_ | refine gf ?_ | refine gu ?_) | ((with_reducible apply is_en); refine en ?_) | (with_reducible first | apply x_then | apply wp_seq | apply c_region | apply wp_block | apply wp_skip | apply wp_exit | apply wp_ret | apply x_then_ret | apply x_then_exit | apply x_block | apply x_block_ret | apply x_block_exit | refine x_block_other (by decide) ?_))
          refine x_goes (k - 1) rfl (by omega) ⟨i + 1, exj rfl, by omega, hc11.own hc1115 (by omega), hC11.ch hc1115 (by simp; omega), hB14.ch hc15 (by simp), hV11.ch hc1115 (by simp; omega)⟩
        · repeat (first | ((with_reducible apply is_st); refine su ?_) | ((with_reducible apply is_gd); first | refine gt ?_ | refine gf ?_ | refine gu ?_) | ((with_reducible apply is_en); refine en ?_) | (with_reducible first | apply x_then | apply wp_seq | apply c_region | apply wp_block | apply wp_skip | apply wp_exit | apply wp_ret | apply x_then_ret | apply x_then_exit | apply x_block | apply x_block_ret | apply x_block_exit | refine x_block_other (by decide) ?_))
          obtain rfl : i = 8 := by omega
          rw [mix_all] at hH11
          refine ldbr hH11 rfl (ds := (h.add s).l.map v32) rfl rfl ?_
          repeat (first | ((with_reducible apply is_st); refine su ?_) | ((with_reducible apply is_gd); first | refine gt ?_ | refine gf ?_ | refine gu ?_) | ((with_reducible apply is_en); refine en ?_) | (with_reducible first | apply x_then | apply wp_seq | apply c_region | apply wp_block | apply wp_skip | apply wp_exit | apply wp_ret | apply x_then_ret | apply x_then_exit | apply x_block | apply x_block_ret | apply x_block_exit | refine x_block_other (by decide) ?_))
          refine stbw (n := 8) hC11 rfl rfl rfl (by simp) one_32 (fun w12 hC12 hch12 hs12 => ?_)
          repeat (first | ((with_reducible apply is_st); refine su ?_) | ((with_reducible apply is_gd); first | refine gt ?_ | refine gf ?_ | refine gu ?_) | ((with_reducible apply is_en); refine en ?_) | (with_reducible first | apply x_then | apply wp_seq | apply c_region | apply wp_block | apply wp_skip | apply wp_exit | apply wp_ret | apply x_then_ret | apply x_then_exit | apply x_block | apply x_block_ret | apply x_block_exit | refine x_block_other (by decide) ?_))
          subst hs
          subst hWW
          exact outc rfl rfl (hC12.row (n := 8) (o := 0) (ds := (squeeze h bs).l.map v32) rfl) rfl ⟨rfl, hc11.own hch12 (by omega)⟩
end Go.Proofs.YtbecfcnbgeeghaaDoor

/- Walks: the reference's SHA-256: a block.
   Walks: the reference's padding, sums, nodes. -/
import Derived.Test.YtkpkfplcoakfcaaDoorSha
set_option linter.unusedVariables false
set_option linter.unusedSimpArgs false
namespace Go.Proofs.YtkpkfplcoakfcaaDoor
open Go Go.RowKit Go.Proofs.E
attribute [local irreducible] Go.wpList Go.Code.wp Go.Proofs.E.exec Go.Proofs.E.wpLexG

theorem chz_eq (e f g : UInt32) : (e &&& f) ^^^ (~~~e &&& g) = chz e f g := by
  unfold chz
  apply UInt32.eq_of_toBitVec_eq
  apply BitVec.eq_of_getLsbD_eq
  intro i hi
  simp [hi]
  cases e.toBitVec[i] <;> cases f.toBitVec[i] <;> cases g.toBitVec[i] <;> rfl
theorem maj_eq (a b c : UInt32) : ((a &&& b) ^^^ (a &&& c)) ^^^ (b &&& c) = maj a b c := by
  unfold maj
  apply UInt32.eq_of_toBitVec_eq
  apply BitVec.eq_of_getLsbD_eq
  intro i hi
  simp [hi]
  cases a.toBitVec[i] <;> cases b.toBitVec[i] <;> cases c.toBitVec[i] <;> rfl

theorem keys_any (w : World) : Calls Tryd.prog 126 #[] w (Ret fun v w' => v = .agg (K256.map v32).toArray ∧ Ch [] w w') := by
  refine enter [undef, undef] Tryd.func126 rfl rfl ?_
  repeat (first | ((with_reducible apply is_st); refine su ?_) | ((with_reducible apply is_gd); first | refine gt ?_ | refine gf ?_ | refine gu ?_) | ((with_reducible apply is_en); refine en ?_) | (with_reducible apply c_region) | refine ws ?_ | refine x_block_other (by decide) ?_)
  refine wl_alloc (fun w1 b hb => ?_)
  have hB : Blk w1 b ((List.replicate 64 (0 : UInt32)).map v32) 160 := hb.blk
  repeat (first | ((with_reducible apply is_st); refine su ?_) | ((with_reducible apply is_gd); first | refine gt ?_ | refine gf ?_ | refine gu ?_) | ((with_reducible apply is_en); refine en ?_) | (with_reducible apply c_region) | refine ws ?_ | refine x_block_other (by decide) ?_)
  refine wl_val (r_build_arr (vs := K256.map v32) rfl rfl (by intro u hu; obtain ⟨x, _, rfl⟩ := List.mem_map.1 hu; rfl)) ?_
  refine stbw (n := 64) (vs := K256.map v32) hB rfl rfl rfl (by simp) one_32 (fun w2 hB2 hch2 hs2 => ?_)
  repeat (first | ((with_reducible apply is_st); refine su ?_) | ((with_reducible apply is_gd); first | refine gt ?_ | refine gf ?_ | refine gu ?_) | ((with_reducible apply is_en); refine en ?_) | (with_reducible apply c_region) | refine ws ?_ | refine x_block_other (by decide) ?_)
  exact outc rfl rfl (hB2.row (n := 64) (o := 0) (ds := K256.map v32) rfl) rfl ⟨rfl, hb.ch.own hch2 (by rw [hb.at_]; exact Nat.le_refl _)⟩

set_option maxHeartbeats 8000000 in
theorem rblock_any (h : S8) (bs : List UInt8) (hl : bs.length = 64) (v : Value) (w : World) (hR : (Ty.enc eU8).Rd [] w v bs) :
    Calls Tryd.prog 106 #[.agg (h.l.map v32).toArray, v] w (Ret fun u w' => u = .agg ((squeeze h bs).l.map v32).toArray ∧ Ch [] w w') := by
  refine enter [.agg (h.l.map v32).toArray, v, undef, undef, undef, undef, undef, undef, undef, undef, undef, undef, undef, undef, undef, undef, undef, undef, undef, undef, undef, undef, undef, undef, undef, undef, undef, undef, undef, undef, undef, undef, undef, undef, undef, undef, undef, undef, undef, undef, undef, undef, undef, undef, undef, undef, undef, undef, undef, undef, undef, undef, undef, undef, undef, undef, undef, undef, undef, undef, undef, undef, undef, undef, undef, undef, undef, undef, undef, undef, undef, undef, undef, undef, undef, undef, undef, undef, undef, undef, undef, undef, undef, undef, undef, undef, undef, undef, undef, undef, undef, undef, undef, undef, undef, undef, undef, undef, undef, undef, undef, undef, undef, undef, undef, undef, undef, undef, undef, undef, undef, undef, undef, undef, undef, undef, undef, undef, undef, undef, undef, undef, undef, undef, undef, undef, undef, undef, undef, undef, undef, undef, undef, undef, undef, undef, undef, undef, undef, undef, undef, undef, undef, undef, undef, undef, undef, undef, undef, undef, undef, undef, undef, undef, undef, undef, undef, undef, undef, undef, undef, undef, undef, undef, undef, undef, undef, undef, undef, undef, undef, undef, undef, undef, undef, undef, undef, undef, undef, undef, undef, undef, undef, undef, undef, undef, undef, undef, undef, undef, undef, undef, undef, undef, undef] Tryd.func106 rfl rfl ?_
  repeat (first | ((with_reducible apply is_st); refine su ?_) | ((with_reducible apply is_gd); first | refine gt ?_ | refine gf ?_ | refine gu ?_) | ((with_reducible apply is_en); refine en ?_) | (with_reducible apply c_region) | refine ws ?_ | refine x_block_other (by decide) ?_)
  refine wl_box (v := .agg (h.l.map v32).toArray) rfl (fun w1 bh hh => ?_)
  repeat (first | ((with_reducible apply is_st); refine su ?_) | ((with_reducible apply is_gd); first | refine gt ?_ | refine gf ?_ | refine gu ?_) | ((with_reducible apply is_en); refine en ?_) | (with_reducible apply c_region) | refine ws ?_ | refine x_block_other (by decide) ?_)
  refine wl_alloc (fun w2 c hc => ?_)
  repeat (first | ((with_reducible apply is_st); refine su ?_) | ((with_reducible apply is_gd); first | refine gt ?_ | refine gf ?_ | refine gu ?_) | ((with_reducible apply is_en); refine en ?_) | (with_reducible apply c_region) | refine ws ?_ | refine x_block_other (by decide) ?_)
  refine wl_alloc (fun w3 bw hw => ?_)
  have hH : Blk w3 bh (h.l.map v32) 144 := (hh.blk.ch hc.ch (by simp)).ch hw.ch (by simp)
  have hC : Blk w3 c ((List.replicate 8 (0 : UInt32)).map v32) 144 := hc.blk.ch hw.ch (by simp)
  have hW : Blk w3 bw ((sch bs 0 ++ List.replicate (64 - 0) 0).map v32) 160 := hw.blk
  have hch : Ch [] w w3 := (hh.ch.then hc.ch).then hw.ch
  have hbh : bh = w.heap.size := hh.at_
  have hbc : c = bh + 1 := by rw [hc.at_, hh.size]
  have hbw : bw = c + 1 := by rw [hw.at_, hc.size]
  repeat (first | ((with_reducible apply is_st); refine su ?_) | ((with_reducible apply is_gd); first | refine gt ?_ | refine gf ?_ | refine gu ?_) | ((with_reducible apply is_en); refine en ?_) | (with_reducible apply c_region) | refine ws ?_ | refine x_block_other (by decide) ?_)
  
  refine c_loop (fun k l w' => ∃ (i : Nat), (∃ jj : Nat → Value, l = [jj 0, v, .pointer (some ⟨bh, 0, none⟩), jj 3, .pointer (some ⟨c, 0, none⟩), .pointer (some ⟨bw, 0, none⟩), .int .i64 (i : Int), jj 7, jj 8, jj 9, jj 10, jj 11, jj 12, jj 13, jj 14, jj 15, jj 16, jj 17, jj 18, jj 19, jj 20, jj 21, jj 22, jj 23, jj 24, jj 25, jj 26, jj 27, jj 28, jj 29, jj 30, jj 31, jj 32, jj 33, jj 34, jj 35, jj 36, jj 37, jj 38, jj 39, jj 40, jj 41, jj 42, jj 43, jj 44, jj 45, jj 46, jj 47, jj 48, jj 49, jj 50, jj 51, jj 52, jj 53, jj 54, jj 55, jj 56, jj 57, jj 58, jj 59, jj 60, jj 61, jj 62, jj 63, jj 64, jj 65, jj 66, jj 67, jj 68, jj 69, jj 70, jj 71, jj 72, jj 73, jj 74, jj 75, jj 76, jj 77, jj 78, jj 79, jj 80, jj 81, jj 82, jj 83, jj 84, jj 85, jj 86, jj 87, jj 88, jj 89, jj 90, jj 91, jj 92, jj 93, jj 94, jj 95, jj 96, jj 97, jj 98, jj 99, jj 100, jj 101, jj 102, jj 103, jj 104, jj 105, jj 106, jj 107, jj 108, jj 109, jj 110, jj 111, jj 112, jj 113, jj 114, jj 115, jj 116, jj 117, jj 118, jj 119, jj 120, jj 121, jj 122, jj 123, jj 124, jj 125, jj 126, jj 127, jj 128, jj 129, jj 130, jj 131, jj 132, jj 133, jj 134, jj 135, jj 136, jj 137, jj 138, jj 139, jj 140, jj 141, jj 142, jj 143, jj 144, jj 145, jj 146, jj 147, jj 148, jj 149, jj 150, jj 151, jj 152, jj 153, jj 154, jj 155, jj 156, jj 157, jj 158, jj 159, jj 160, jj 161, jj 162, jj 163, jj 164, jj 165, jj 166, jj 167, jj 168, jj 169, jj 170, jj 171, jj 172, jj 173, jj 174, jj 175, jj 176, jj 177, jj 178, jj 179, jj 180, jj 181, jj 182, jj 183, jj 184, jj 185, jj 186, jj 187, jj 188, jj 189, jj 190, jj 191, jj 192, jj 193, jj 194]) ∧ i + k = 16 ∧ Ch [] w w' ∧ Blk w' bh (h.l.map v32) 144 ∧ Blk w' c ((List.replicate 8 (0 : UInt32)).map v32) 144 ∧ Blk w' bw ((sch bs i ++ List.replicate (64 - (sch bs i).length) 0).map v32) 160) 16
    ⟨0, exj rfl, rfl, hch, hH, hC, hW⟩ ?_
  rintro k l w4 ⟨i, ⟨jj, rfl⟩, hik, hch4, hH4, hC4, hW4⟩
  have hsl := sch_len bs i
  repeat (first | ((with_reducible apply is_st); refine su ?_) | ((with_reducible apply is_gd); first | refine gt ?_ | refine gf ?_ | refine gu ?_) | ((with_reducible apply is_en); refine en ?_) | (with_reducible apply c_region) | refine ws ?_ | refine x_block_other (by decide) ?_)
  refine c_cond rfl (fun h16 => ?_) (fun h16 => ?_)
  · repeat (first | ((with_reducible apply is_st); refine su ?_) | ((with_reducible apply is_gd); first | refine gt ?_ | refine gf ?_ | refine gu ?_) | ((with_reducible apply is_en); refine en ?_) | (with_reducible apply c_region) | refine ws ?_ | refine x_block_other (by decide) ?_)
    refine c_drawl 35 [] (by kernel_rfl) (by kernel_rfl) (by kernel_rfl) (fun w5 hc5 hs5 => ?_)
    have hR5 := hR.ch (hch4.then hc5)
    have hg : ∀ {j : Nat} {x : UInt8} {q : Int}, bs[q.toNat]? = some x → q = (j : Int) → x = bs.getD j 0 := by
      intro j x q hx hq
      subst hq
      rw [Int.toNat_natCast] at hx
      rw [List.getD_eq_getElem?_getD, hx]
      rfl
    repeat (first | ((with_reducible apply is_sg); refine sgu ?_) | ((with_reducible apply is_gg); first | refine gtg ?_ | refine gfg ?_ | refine gug ?_) | ((with_reducible apply is_eg); refine eg ?_))
    (try ((with_reducible apply is_gg); first | refine gtg ?_ | refine gfg ?_ | refine gug ?_)); refine ixg hR5 (fun b o x hx hA => ?_)
    obtain rfl := hg (j := 4 * i) hx (by omega)
    (try ((with_reducible apply is_gg); first | refine gtg ?_ | refine gfg ?_ | refine gug ?_)); refine ldg hA ?_
    repeat (first | ((with_reducible apply is_sg); refine sgu ?_) | ((with_reducible apply is_gg); first | refine gtg ?_ | refine gfg ?_ | refine gug ?_) | ((with_reducible apply is_eg); refine eg ?_))
    (try ((with_reducible apply is_gg); first | refine gtg ?_ | refine gfg ?_ | refine gug ?_)); refine ixg hR5 (fun b o x hx hA => ?_)
    obtain rfl := hg (j := 4 * i + 1) hx (by omega)
    (try ((with_reducible apply is_gg); first | refine gtg ?_ | refine gfg ?_ | refine gug ?_)); refine ldg hA ?_
    repeat (first | ((with_reducible apply is_sg); refine sgu ?_) | ((with_reducible apply is_gg); first | refine gtg ?_ | refine gfg ?_ | refine gug ?_) | ((with_reducible apply is_eg); refine eg ?_))
    (try ((with_reducible apply is_gg); first | refine gtg ?_ | refine gfg ?_ | refine gug ?_)); refine ixg hR5 (fun b o x hx hA => ?_)
    obtain rfl := hg (j := 4 * i + 2) hx (by omega)
    (try ((with_reducible apply is_gg); first | refine gtg ?_ | refine gfg ?_ | refine gug ?_)); refine ldg hA ?_
    repeat (first | ((with_reducible apply is_sg); refine sgu ?_) | ((with_reducible apply is_gg); first | refine gtg ?_ | refine gfg ?_ | refine gug ?_) | ((with_reducible apply is_eg); refine eg ?_))
    (try ((with_reducible apply is_gg); first | refine gtg ?_ | refine gfg ?_ | refine gug ?_)); refine ixg hR5 (fun b o x hx hA => ?_)
    obtain rfl := hg (j := 4 * i + 3) hx (by omega)
    (try ((with_reducible apply is_gg); first | refine gtg ?_ | refine gfg ?_ | refine gug ?_)); refine ldg hA ?_
    repeat (first | ((with_reducible apply is_sg); refine sgu ?_) | ((with_reducible apply is_gg); first | refine gtg ?_ | refine gfg ?_ | refine gug ?_) | ((with_reducible apply is_eg); refine eg ?_))
    refine lastg rfl (by kernel_rfl) (fun w6 hc6 => ?_)
    refine stb (v := v32 (word bs i)) ((hW4.ch hc5 (by simp)).ch hc6 (by simp)) rfl rfl rfl rfl (by simp; omega) (fun w7 hB7 hch7 hs7 => ?_)
    rw [set_next (by omega) (by omega)] at hB7
    refine x_last rfl rfl (fun w8 hc8 => ?_)
    have hc48 : Ch [bw] w4 w8 := (((Ch.some hc5).add hc6).then hch7).add hc8
    repeat (first | ((with_reducible apply is_st); refine su ?_) | ((with_reducible apply is_gd); first | refine gt ?_ | refine gf ?_ | refine gu ?_) | ((with_reducible apply is_en); refine en ?_) | (with_reducible apply c_region) | refine ws ?_ | refine x_block_other (by decide) ?_)
    refine x_goes (k - 1) rfl (by omega) ⟨i + 1, exj rfl, by omega, hch4.own hc48 (by omega), hH4.ch hc48 (by simp; omega), hC4.ch hc48 (by simp; omega), ?_⟩
    have e : nextW bs (sch bs i) = word bs i := by unfold nextW; rw [hsl, if_pos (by omega)]
    rw [sch, e]
    exact hB7.ch hc8 (by simp)
  · repeat (first | ((with_reducible apply is_st); refine su ?_) | ((with_reducible apply is_gd); first | refine gt ?_ | refine gf ?_ | refine gu ?_) | ((with_reducible apply is_en); refine en ?_) | (with_reducible apply c_region) | refine ws ?_ | refine x_block_other (by decide) ?_)
    obtain rfl : i = 16 := by omega
    
    refine c_loop (fun k l w' => ∃ (i : Nat), (∃ jj : Nat → Value, l = [jj 0, jj 1, .pointer (some ⟨bh, 0, none⟩), jj 3, .pointer (some ⟨c, 0, none⟩), .pointer (some ⟨bw, 0, none⟩), jj 6, .int .i64 (i : Int), jj 8, jj 9, jj 10, jj 11, jj 12, jj 13, jj 14, jj 15, jj 16, jj 17, jj 18, jj 19, jj 20, jj 21, jj 22, jj 23, jj 24, jj 25, jj 26, jj 27, jj 28, jj 29, jj 30, jj 31, jj 32, jj 33, jj 34, jj 35, jj 36, jj 37, jj 38, jj 39, jj 40, jj 41, jj 42, jj 43, jj 44, jj 45, jj 46, jj 47, jj 48, jj 49, jj 50, jj 51, jj 52, jj 53, jj 54, jj 55, jj 56, jj 57, jj 58, jj 59, jj 60, jj 61, jj 62, jj 63, jj 64, jj 65, jj 66, jj 67, jj 68, jj 69, jj 70, jj 71, jj 72, jj 73, jj 74, jj 75, jj 76, jj 77, jj 78, jj 79, jj 80, jj 81, jj 82, jj 83, jj 84, jj 85, jj 86, jj 87, jj 88, jj 89, jj 90, jj 91, jj 92, jj 93, jj 94, jj 95, jj 96, jj 97, jj 98, jj 99, jj 100, jj 101, jj 102, jj 103, jj 104, jj 105, jj 106, jj 107, jj 108, jj 109, jj 110, jj 111, jj 112, jj 113, jj 114, jj 115, jj 116, jj 117, jj 118, jj 119, jj 120, jj 121, jj 122, jj 123, jj 124, jj 125, jj 126, jj 127, jj 128, jj 129, jj 130, jj 131, jj 132, jj 133, jj 134, jj 135, jj 136, jj 137, jj 138, jj 139, jj 140, jj 141, jj 142, jj 143, jj 144, jj 145, jj 146, jj 147, jj 148, jj 149, jj 150, jj 151, jj 152, jj 153, jj 154, jj 155, jj 156, jj 157, jj 158, jj 159, jj 160, jj 161, jj 162, jj 163, jj 164, jj 165, jj 166, jj 167, jj 168, jj 169, jj 170, jj 171, jj 172, jj 173, jj 174, jj 175, jj 176, jj 177, jj 178, jj 179, jj 180, jj 181, jj 182, jj 183, jj 184, jj 185, jj 186, jj 187, jj 188, jj 189, jj 190, jj 191, jj 192, jj 193, jj 194]) ∧ i + k = 64 ∧ 16 ≤ i ∧ Ch [] w w' ∧ Blk w' bh (h.l.map v32) 144 ∧ Blk w' c ((List.replicate 8 (0 : UInt32)).map v32) 144 ∧ Blk w' bw ((sch bs i ++ List.replicate (64 - (sch bs i).length) 0).map v32) 160) 48
      ⟨16, exj rfl, rfl, by omega, hch4, hH4, hC4, hW4⟩ ?_
    clear hch4 hH4 hC4 hW4 hsl h16 hik
    rintro k l w4 ⟨i, ⟨jj, rfl⟩, hik, hi16, hch4, hH4, hC4, hW4⟩
    have hsl := sch_len bs i
    repeat (first | ((with_reducible apply is_st); refine su ?_) | ((with_reducible apply is_gd); first | refine gt ?_ | refine gf ?_ | refine gu ?_) | ((with_reducible apply is_en); refine en ?_) | (with_reducible apply c_region) | refine ws ?_ | refine x_block_other (by decide) ?_)
    refine c_cond rfl (fun h64 => ?_) (fun h64 => ?_)
    · repeat (first | ((with_reducible apply is_st); refine su ?_) | ((with_reducible apply is_gd); first | refine gt ?_ | refine gf ?_ | refine gu ?_) | ((with_reducible apply is_en); refine en ?_) | (with_reducible apply c_region) | refine ws ?_ | refine x_block_other (by decide) ?_)
      refine c_draw [] (by kernel_rfl) (by kernel_rfl) (fun w5 hc5 hs5 => ?_)
      have hW5 := hW4.ch hc5 (by simp)
      repeat (first | ((with_reducible apply is_sg); refine sgu ?_) | ((with_reducible apply is_gg); first | refine gtg ?_ | refine gfg ?_ | refine gug ?_) | ((with_reducible apply is_eg); refine eg ?_))
      refine ldbg hW5 (by simp) rfl (get_pad (i := i - 15) (by omega) (by omega)) ?_
      repeat (first | ((with_reducible apply is_sg); refine sgu ?_) | ((with_reducible apply is_gg); first | refine gtg ?_ | refine gfg ?_ | refine gug ?_) | ((with_reducible apply is_eg); refine eg ?_))
      refine ldbg hW5 (by simp) rfl (get_pad (i := i - 2) (by omega) (by omega)) ?_
      repeat (first | ((with_reducible apply is_sg); refine sgu ?_) | ((with_reducible apply is_gg); first | refine gtg ?_ | refine gfg ?_ | refine gug ?_) | ((with_reducible apply is_eg); refine eg ?_))
      intro w6 hc6
      repeat (first | ((with_reducible apply is_st); refine su ?_) | ((with_reducible apply is_gd); first | refine gt ?_ | refine gf ?_ | refine gu ?_) | ((with_reducible apply is_en); refine en ?_) | (with_reducible apply c_region) | refine ws ?_ | refine x_block_other (by decide) ?_)
      refine c_drawl 29 [] (by kernel_rfl) (by kernel_rfl) (by kernel_rfl) (fun w7 hc7 hs7 => ?_)
      have hW7 := (hW5.ch hc6 (by simp)).ch hc7 (by simp)
      repeat (first | ((with_reducible apply is_sg); refine sgu ?_) | ((with_reducible apply is_gg); first | refine gtg ?_ | refine gfg ?_ | refine gug ?_) | ((with_reducible apply is_eg); refine eg ?_))
      refine ldbg hW7 (by simp) rfl (get_pad (i := i - 16) (by omega) (by omega)) ?_
      repeat (first | ((with_reducible apply is_sg); refine sgu ?_) | ((with_reducible apply is_gg); first | refine gtg ?_ | refine gfg ?_ | refine gug ?_) | ((with_reducible apply is_eg); refine eg ?_))
      (try ((with_reducible apply is_gg); first | refine gtg ?_ | refine gfg ?_ | refine gug ?_)); refine cag (turn_g _ 7 (by omega)) ?_
      repeat (first | ((with_reducible apply is_sg); refine sgu ?_) | ((with_reducible apply is_gg); first | refine gtg ?_ | refine gfg ?_ | refine gug ?_) | ((with_reducible apply is_eg); refine eg ?_))
      (try ((with_reducible apply is_gg); first | refine gtg ?_ | refine gfg ?_ | refine gug ?_)); refine cag (turn_g _ 18 (by omega)) ?_
      repeat (first | ((with_reducible apply is_sg); refine sgu ?_) | ((with_reducible apply is_gg); first | refine gtg ?_ | refine gfg ?_ | refine gug ?_) | ((with_reducible apply is_eg); refine eg ?_))
      refine ldbg hW7 (by simp) rfl (get_pad (i := i - 7) (by omega) (by omega)) ?_
      repeat (first | ((with_reducible apply is_sg); refine sgu ?_) | ((with_reducible apply is_gg); first | refine gtg ?_ | refine gfg ?_ | refine gug ?_) | ((with_reducible apply is_eg); refine eg ?_))
      (try ((with_reducible apply is_gg); first | refine gtg ?_ | refine gfg ?_ | refine gug ?_)); refine cag (turn_g _ 17 (by omega)) ?_
      repeat (first | ((with_reducible apply is_sg); refine sgu ?_) | ((with_reducible apply is_gg); first | refine gtg ?_ | refine gfg ?_ | refine gug ?_) | ((with_reducible apply is_eg); refine eg ?_))
      (try ((with_reducible apply is_gg); first | refine gtg ?_ | refine gfg ?_ | refine gug ?_)); refine cag (turn_g _ 19 (by omega)) ?_
      repeat (first | ((with_reducible apply is_sg); refine sgu ?_) | ((with_reducible apply is_gg); first | refine gtg ?_ | refine gfg ?_ | refine gug ?_) | ((with_reducible apply is_eg); refine eg ?_))
      refine lastg rfl (by kernel_rfl) (fun w8 hc8 => ?_)
      have e : nextW bs (sch bs i) = (((sch bs i).getD (i - 16) 0 + sg0 ((sch bs i).getD (i - 15) 0)) + (sch bs i).getD (i - 7) 0) + sg1 ((sch bs i).getD (i - 2) 0) := by unfold nextW; rw [hsl, if_neg (by omega)]
      refine stb (v := v32 ((((sch bs i).getD (i - 16) 0 + sg0 ((sch bs i).getD (i - 15) 0)) + (sch bs i).getD (i - 7) 0) + sg1 ((sch bs i).getD (i - 2) 0))) (hW7.ch hc8 (by simp)) rfl rfl rfl rfl (by simp; omega) (fun w9 hB9 hch9 hs9 => ?_)
      rw [set_next (by omega) (by omega), ← e] at hB9
      refine x_last rfl rfl (fun w10 hc10 => ?_)
      have hc410 : Ch [bw] w4 w10 := ((((((Ch.some hc5).add hc6).add hc7).add hc8)).then hch9).add hc10
      repeat (first | ((with_reducible apply is_st); refine su ?_) | ((with_reducible apply is_gd); first | refine gt ?_ | refine gf ?_ | refine gu ?_) | ((with_reducible apply is_en); refine en ?_) | (with_reducible apply c_region) | refine ws ?_ | refine x_block_other (by decide) ?_)
      refine x_goes (k - 1) rfl (by omega) ⟨i + 1, exj rfl, by omega, by omega, hch4.own hc410 (by omega), hH4.ch hc410 (by simp; omega), hC4.ch hc410 (by simp; omega), hB9.ch hc10 (by simp)⟩
    · obtain rfl : i = 64 := by omega
      have hz : (sch bs 64 ++ List.replicate (64 - (sch bs 64).length) 0) = sch bs 64 := by rw [hsl]; simp
      rw [hz] at hW4
      generalize hWW : sch bs 64 = W at hW4 hsl
      repeat (first | ((with_reducible apply is_st); refine su ?_) | ((with_reducible apply is_gd); first | refine gt ?_ | refine gf ?_ | refine gu ?_) | ((with_reducible apply is_en); refine en ?_) | (with_reducible apply c_region) | refine ws ?_ | refine x_block_other (by decide) ?_)
      (try ((with_reducible apply is_gd); first | refine gt ?_ | refine gf ?_ | refine gu ?_)); refine ca (keys_any w4) ?_
      rintro _ w5 ⟨rfl, hc5⟩
      repeat (first | ((with_reducible apply is_st); refine su ?_) | ((with_reducible apply is_gd); first | refine gt ?_ | refine gf ?_ | refine gu ?_) | ((with_reducible apply is_en); refine en ?_) | (with_reducible apply c_region) | refine ws ?_ | refine x_block_other (by decide) ?_)
      refine wl_alloc (fun w6 bk hk => ?_)
      have hbk : bw < bk := by rw [hk.at_]; exact (hW4.ch hc5 (by simp)).lt
      have hK0 : Blk w6 bk ((List.replicate 64 (0 : UInt32)).map v32) 160 := hk.blk
      repeat (first | ((with_reducible apply is_st); refine su ?_) | ((with_reducible apply is_gd); first | refine gt ?_ | refine gf ?_ | refine gu ?_) | ((with_reducible apply is_en); refine en ?_) | (with_reducible apply c_region) | refine ws ?_ | refine x_block_other (by decide) ?_)
      refine stbw (n := 64) hK0 rfl rfl rfl (by simp) one_32 (fun w7 hK7 hch7 hs7 => ?_)
      have hc47 : Ch [bk] w4 w7 := ((Ch.some hc5).add hk.ch).then hch7
      have hc7 : Ch [] w w7 := hch4.own hc47 (by omega)
      have hH7 := hH4.ch hc47 (by simp; omega)
      have hC7 := hC4.ch hc47 (by simp; omega)
      have hW7 := hW4.ch hc47 (by simp; omega)
      repeat (first | ((with_reducible apply is_st); refine su ?_) | ((with_reducible apply is_gd); first | refine gt ?_ | refine gf ?_ | refine gu ?_) | ((with_reducible apply is_en); refine en ?_) | (with_reducible apply c_region) | refine ws ?_ | refine x_block_other (by decide) ?_)
      refine ldbr hH7 rfl (ds := h.l.map v32) rfl rfl ?_
      repeat (first | ((with_reducible apply is_st); refine su ?_) | ((with_reducible apply is_gd); first | refine gt ?_ | refine gf ?_ | refine gu ?_) | ((with_reducible apply is_en); refine en ?_) | (with_reducible apply c_region) | refine ws ?_ | refine x_block_other (by decide) ?_)
      refine wl_alloc (fun w8 bv hv => ?_)
      have hbv : bk < bv := by rw [hv.at_]; exact hK7.lt
      repeat (first | ((with_reducible apply is_st); refine su ?_) | ((with_reducible apply is_gd); first | refine gt ?_ | refine gf ?_ | refine gu ?_) | ((with_reducible apply is_en); refine en ?_) | (with_reducible apply c_region) | refine ws ?_ | refine x_block_other (by decide) ?_)
      refine stbw (n := 8) hv.blk rfl rfl rfl rfl one_32 (fun w9 hV9 hch9 hs9 => ?_)
      have hc79 : Ch [bv] w7 w9 := (Ch.some hv.ch).then hch9
      repeat (first | ((with_reducible apply is_st); refine su ?_) | ((with_reducible apply is_gd); first | refine gt ?_ | refine gf ?_ | refine gu ?_) | ((with_reducible apply is_en); refine en ?_) | (with_reducible apply c_region) | refine ws ?_ | refine x_block_other (by decide) ?_)
      
      refine c_loop (fun k l w' => ∃ (i : Nat), (∃ jj : Nat → Value, l = [jj 0, jj 1, .pointer (some ⟨bh, 0, none⟩), jj 3, .pointer (some ⟨c, 0, none⟩), .pointer (some ⟨bw, 0, none⟩), jj 6, jj 7, jj 8, jj 9, .pointer (some ⟨bk, 0, none⟩), .pointer (some ⟨bv, 0, none⟩), .int .i64 (i : Int), jj 13, jj 14, jj 15, jj 16, jj 17, jj 18, jj 19, jj 20, jj 21, jj 22, jj 23, jj 24, jj 25, jj 26, jj 27, jj 28, jj 29, jj 30, jj 31, jj 32, jj 33, jj 34, jj 35, jj 36, jj 37, jj 38, jj 39, jj 40, jj 41, jj 42, jj 43, jj 44, jj 45, jj 46, jj 47, jj 48, jj 49, jj 50, jj 51, jj 52, jj 53, jj 54, jj 55, jj 56, jj 57, jj 58, jj 59, jj 60, jj 61, jj 62, jj 63, jj 64, jj 65, jj 66, jj 67, jj 68, jj 69, jj 70, jj 71, jj 72, jj 73, jj 74, jj 75, jj 76, jj 77, jj 78, jj 79, jj 80, jj 81, jj 82, jj 83, jj 84, jj 85, jj 86, jj 87, jj 88, jj 89, jj 90, jj 91, jj 92, jj 93, jj 94, jj 95, jj 96, jj 97, jj 98, jj 99, jj 100, jj 101, jj 102, jj 103, jj 104, jj 105, jj 106, jj 107, jj 108, jj 109, jj 110, jj 111, jj 112, jj 113, jj 114, jj 115, jj 116, jj 117, jj 118, jj 119, jj 120, jj 121, jj 122, jj 123, jj 124, jj 125, jj 126, jj 127, jj 128, jj 129, jj 130, jj 131, jj 132, jj 133, jj 134, jj 135, jj 136, jj 137, jj 138, jj 139, jj 140, jj 141, jj 142, jj 143, jj 144, jj 145, jj 146, jj 147, jj 148, jj 149, jj 150, jj 151, jj 152, jj 153, jj 154, jj 155, jj 156, jj 157, jj 158, jj 159, jj 160, jj 161, jj 162, jj 163, jj 164, jj 165, jj 166, jj 167, jj 168, jj 169, jj 170, jj 171, jj 172, jj 173, jj 174, jj 175, jj 176, jj 177, jj 178, jj 179, jj 180, jj 181, jj 182, jj 183, jj 184, jj 185, jj 186, jj 187, jj 188, jj 189, jj 190, jj 191, jj 192, jj 193, jj 194]) ∧ i + k = 64 ∧ Ch [] w w' ∧ Blk w' bh (h.l.map v32) 144 ∧ Blk w' c ((List.replicate 8 (0 : UInt32)).map v32) 144 ∧ Blk w' bw (W.map v32) 160 ∧ Blk w' bk (K256.map v32) 160 ∧ Blk w' bv ((runs W i h).l.map v32) 144) 64
        ⟨0, exj rfl, rfl, hc7.own hc79 (by omega), hH7.ch hc79 (by simp; omega), hC7.ch hc79 (by simp; omega), hW7.ch hc79 (by simp; omega), hK7.ch hc79 (by simp; omega), hV9⟩ ?_
      rintro k l w10 ⟨i, ⟨jj, rfl⟩, hik, hc10, hH10, hC10, hW10, hK10, hV10⟩
      generalize hs : runs W i h = s at hV10
      repeat (first | ((with_reducible apply is_st); refine su ?_) | ((with_reducible apply is_gd); first | refine gt ?_ | refine gf ?_ | refine gu ?_) | ((with_reducible apply is_en); refine en ?_) | (with_reducible apply c_region) | refine ws ?_ | refine x_block_other (by decide) ?_)
      refine c_cond rfl (fun h64 => ?_) (fun h64 => ?_)
      · repeat (first | ((with_reducible apply is_st); refine su ?_) | ((with_reducible apply is_gd); first | refine gt ?_ | refine gf ?_ | refine gu ?_) | ((with_reducible apply is_en); refine en ?_) | (with_reducible apply c_region) | refine ws ?_ | refine x_block_other (by decide) ?_)
        refine c_draw [] (by kernel_rfl) (by kernel_rfl) (fun w11 hc11 hs11 => ?_)
        have hV11 := hV10.ch hc11 (by simp)
        repeat (first | ((with_reducible apply is_sg); refine sgu ?_) | ((with_reducible apply is_gg); first | refine gtg ?_ | refine gfg ?_ | refine gug ?_) | ((with_reducible apply is_eg); refine eg ?_))
        refine ldbg (v := v32 s.a) hV11 (by simp) rfl rfl ?_
        repeat (first | ((with_reducible apply is_sg); refine sgu ?_) | ((with_reducible apply is_gg); first | refine gtg ?_ | refine gfg ?_ | refine gug ?_) | ((with_reducible apply is_eg); refine eg ?_))
        refine ldbg (v := v32 s.e) hV11 (by simp) rfl rfl ?_
        repeat (first | ((with_reducible apply is_sg); refine sgu ?_) | ((with_reducible apply is_gg); first | refine gtg ?_ | refine gfg ?_ | refine gug ?_) | ((with_reducible apply is_eg); refine eg ?_))
        intro w12 hc12
        repeat (first | ((with_reducible apply is_st); refine su ?_) | ((with_reducible apply is_gd); first | refine gt ?_ | refine gf ?_ | refine gu ?_) | ((with_reducible apply is_en); refine en ?_) | (with_reducible apply c_region) | refine ws ?_ | refine x_block_other (by decide) ?_)
        refine c_draw [] (by kernel_rfl) (by kernel_rfl) (fun w13 hc13 hs13 => ?_)
        have hc1013 : Ch [] w10 w13 := (hc11.then hc12).then hc13
        have hV13 := hV10.ch hc1013 (by simp)
        have hK13 := hK10.ch hc1013 (by simp)
        have hW13 := hW10.ch hc1013 (by simp)
        repeat (first | ((with_reducible apply is_sg); refine sgu ?_) | ((with_reducible apply is_gg); first | refine gtg ?_ | refine gfg ?_ | refine gug ?_) | ((with_reducible apply is_eg); refine eg ?_))
        refine ldbg (v := v32 s.h) hV13 (by simp) rfl rfl ?_
        repeat (first | ((with_reducible apply is_sg); refine sgu ?_) | ((with_reducible apply is_gg); first | refine gtg ?_ | refine gfg ?_ | refine gug ?_) | ((with_reducible apply is_eg); refine eg ?_))
        (try ((with_reducible apply is_gg); first | refine gtg ?_ | refine gfg ?_ | refine gug ?_)); refine cag (turn_g _ 6 (by omega)) ?_
        repeat (first | ((with_reducible apply is_sg); refine sgu ?_) | ((with_reducible apply is_gg); first | refine gtg ?_ | refine gfg ?_ | refine gug ?_) | ((with_reducible apply is_eg); refine eg ?_))
        (try ((with_reducible apply is_gg); first | refine gtg ?_ | refine gfg ?_ | refine gug ?_)); refine cag (turn_g _ 11 (by omega)) ?_
        repeat (first | ((with_reducible apply is_sg); refine sgu ?_) | ((with_reducible apply is_gg); first | refine gtg ?_ | refine gfg ?_ | refine gug ?_) | ((with_reducible apply is_eg); refine eg ?_))
        (try ((with_reducible apply is_gg); first | refine gtg ?_ | refine gfg ?_ | refine gug ?_)); refine cag (turn_g _ 25 (by omega)) ?_
        repeat (first | ((with_reducible apply is_sg); refine sgu ?_) | ((with_reducible apply is_gg); first | refine gtg ?_ | refine gfg ?_ | refine gug ?_) | ((with_reducible apply is_eg); refine eg ?_))
        refine ldbg (v := v32 s.f) hV13 (by simp) rfl rfl ?_
        repeat (first | ((with_reducible apply is_sg); refine sgu ?_) | ((with_reducible apply is_gg); first | refine gtg ?_ | refine gfg ?_ | refine gug ?_) | ((with_reducible apply is_eg); refine eg ?_))
        refine ldbg (v := v32 s.g) hV13 (by simp) rfl rfl ?_
        repeat (first | ((with_reducible apply is_sg); refine sgu ?_) | ((with_reducible apply is_gg); first | refine gtg ?_ | refine gfg ?_ | refine gug ?_) | ((with_reducible apply is_eg); refine eg ?_))
        refine ldbg hK13 (by simp) rfl (mg' v32 (i := i) 0 (by omega) (by show i < 64; omega)) ?_
        repeat (first | ((with_reducible apply is_sg); refine sgu ?_) | ((with_reducible apply is_gg); first | refine gtg ?_ | refine gfg ?_ | refine gug ?_) | ((with_reducible apply is_eg); refine eg ?_))
        refine ldbg hW13 (by simp) rfl (mg' v32 (i := i) 0 (by omega) (by omega)) ?_
        repeat (first | ((with_reducible apply is_sg); refine sgu ?_) | ((with_reducible apply is_gg); first | refine gtg ?_ | refine gfg ?_ | refine gug ?_) | ((with_reducible apply is_eg); refine eg ?_))
        intro w14 hc14
        rw [chz_eq]
        repeat (first | ((with_reducible apply is_st); refine su ?_) | ((with_reducible apply is_gd); first | refine gt ?_ | refine gf ?_ | refine gu ?_) | ((with_reducible apply is_en); refine en ?_) | (with_reducible apply c_region) | refine ws ?_ | refine x_block_other (by decide) ?_)
        refine c_draw [] (by kernel_rfl) (by kernel_rfl) (fun w15 hc15 hs15 => ?_)
        have hc1015 : Ch [] w10 w15 := (hc1013.then hc14).then hc15
        have hV15 := hV10.ch hc1015 (by simp)
        repeat (first | ((with_reducible apply is_sg); refine sgu ?_) | ((with_reducible apply is_gg); first | refine gtg ?_ | refine gfg ?_ | refine gug ?_) | ((with_reducible apply is_eg); refine eg ?_))
        (try ((with_reducible apply is_gg); first | refine gtg ?_ | refine gfg ?_ | refine gug ?_)); refine cag (turn_g _ 2 (by omega)) ?_
        repeat (first | ((with_reducible apply is_sg); refine sgu ?_) | ((with_reducible apply is_gg); first | refine gtg ?_ | refine gfg ?_ | refine gug ?_) | ((with_reducible apply is_eg); refine eg ?_))
        (try ((with_reducible apply is_gg); first | refine gtg ?_ | refine gfg ?_ | refine gug ?_)); refine cag (turn_g _ 13 (by omega)) ?_
        repeat (first | ((with_reducible apply is_sg); refine sgu ?_) | ((with_reducible apply is_gg); first | refine gtg ?_ | refine gfg ?_ | refine gug ?_) | ((with_reducible apply is_eg); refine eg ?_))
        (try ((with_reducible apply is_gg); first | refine gtg ?_ | refine gfg ?_ | refine gug ?_)); refine cag (turn_g _ 22 (by omega)) ?_
        repeat (first | ((with_reducible apply is_sg); refine sgu ?_) | ((with_reducible apply is_gg); first | refine gtg ?_ | refine gfg ?_ | refine gug ?_) | ((with_reducible apply is_eg); refine eg ?_))
        refine ldbg (v := v32 s.b) hV15 (by simp) rfl rfl ?_
        repeat (first | ((with_reducible apply is_sg); refine sgu ?_) | ((with_reducible apply is_gg); first | refine gtg ?_ | refine gfg ?_ | refine gug ?_) | ((with_reducible apply is_eg); refine eg ?_))
        refine ldbg (v := v32 s.c) hV15 (by simp) rfl rfl ?_
        repeat (first | ((with_reducible apply is_sg); refine sgu ?_) | ((with_reducible apply is_gg); first | refine gtg ?_ | refine gfg ?_ | refine gug ?_) | ((with_reducible apply is_eg); refine eg ?_))
        refine ldbg (v := v32 s.b) hV15 (by simp) rfl rfl ?_
        repeat (first | ((with_reducible apply is_sg); refine sgu ?_) | ((with_reducible apply is_gg); first | refine gtg ?_ | refine gfg ?_ | refine gug ?_) | ((with_reducible apply is_eg); refine eg ?_))
        refine ldbg (v := v32 s.c) hV15 (by simp) rfl rfl ?_
        repeat (first | ((with_reducible apply is_sg); refine sgu ?_) | ((with_reducible apply is_gg); first | refine gtg ?_ | refine gfg ?_ | refine gug ?_) | ((with_reducible apply is_eg); refine eg ?_))
        intro w16 hc16
        rw [maj_eq]
        have hc1016 := hc1015.then hc16
        have hV16 := hV10.ch hc1016 (by simp)
        repeat (first | ((with_reducible apply is_st); refine su ?_) | ((with_reducible apply is_gd); first | refine gt ?_ | refine gf ?_ | refine gu ?_) | ((with_reducible apply is_en); refine en ?_) | (with_reducible apply c_region) | refine ws ?_ | refine x_block_other (by decide) ?_)
        refine ldb (v := v32 s.a) hV16 rfl rfl ?_
        repeat (first | ((with_reducible apply is_st); refine su ?_) | ((with_reducible apply is_gd); first | refine gt ?_ | refine gf ?_ | refine gu ?_) | ((with_reducible apply is_en); refine en ?_) | (with_reducible apply c_region) | refine ws ?_ | refine x_block_other (by decide) ?_)
        refine ldb (v := v32 s.b) hV16 rfl rfl ?_
        repeat (first | ((with_reducible apply is_st); refine su ?_) | ((with_reducible apply is_gd); first | refine gt ?_ | refine gf ?_ | refine gu ?_) | ((with_reducible apply is_en); refine en ?_) | (with_reducible apply c_region) | refine ws ?_ | refine x_block_other (by decide) ?_)
        refine ldb (v := v32 s.c) hV16 rfl rfl ?_
        repeat (first | ((with_reducible apply is_st); refine su ?_) | ((with_reducible apply is_gd); first | refine gt ?_ | refine gf ?_ | refine gu ?_) | ((with_reducible apply is_en); refine en ?_) | (with_reducible apply c_region) | refine ws ?_ | refine x_block_other (by decide) ?_)
        refine ldb (v := v32 s.d) hV16 rfl rfl ?_
        repeat (first | ((with_reducible apply is_st); refine su ?_) | ((with_reducible apply is_gd); first | refine gt ?_ | refine gf ?_ | refine gu ?_) | ((with_reducible apply is_en); refine en ?_) | (with_reducible apply c_region) | refine ws ?_ | refine x_block_other (by decide) ?_)
        refine ldb (v := v32 s.e) hV16 rfl rfl ?_
        repeat (first | ((with_reducible apply is_st); refine su ?_) | ((with_reducible apply is_gd); first | refine gt ?_ | refine gf ?_ | refine gu ?_) | ((with_reducible apply is_en); refine en ?_) | (with_reducible apply c_region) | refine ws ?_ | refine x_block_other (by decide) ?_)
        refine ldb (v := v32 s.f) hV16 rfl rfl ?_
        repeat (first | ((with_reducible apply is_st); refine su ?_) | ((with_reducible apply is_gd); first | refine gt ?_ | refine gf ?_ | refine gu ?_) | ((with_reducible apply is_en); refine en ?_) | (with_reducible apply c_region) | refine ws ?_ | refine x_block_other (by decide) ?_)
        refine ldb (v := v32 s.g) hV16 rfl rfl ?_
        rw [← UInt32.add_assoc]
        refine wl_val (r_build_arr (vs := (rnd (K256.getD i 0) (W.getD i 0) s).l.map v32) rfl rfl (by intro u hu; obtain ⟨x, _, rfl⟩ := List.mem_map.1 hu; rfl)) ?_
        refine stbw (n := 8) (vs := (rnd (K256.getD i 0) (W.getD i 0) s).l.map v32) hV16 rfl rfl rfl rfl one_32 (fun w17 hV17 hch17 hs17 => ?_)
        have hc1017 : Ch [bv] w10 w17 := (Ch.some hc1016).then hch17
        repeat (first | ((with_reducible apply is_st); refine su ?_) | ((with_reducible apply is_gd); first | refine gt ?_ | refine gf ?_ | refine gu ?_) | ((with_reducible apply is_en); refine en ?_) | (with_reducible apply c_region) | refine ws ?_ | refine x_block_other (by decide) ?_)
        refine x_goes (k - 1) rfl (by omega) ⟨i + 1, exj rfl, by omega, hc10.own hc1017 (by omega), hH10.ch hc1017 (by simp; omega), hC10.ch hc1017 (by simp; omega), hW10.ch hc1017 (by simp; omega), hK10.ch hc1017 (by simp; omega), ?_⟩
        rw [runs, hs]
        exact hV17
      · repeat (first | ((with_reducible apply is_st); refine su ?_) | ((with_reducible apply is_gd); first | refine gt ?_ | refine gf ?_ | refine gu ?_) | ((with_reducible apply is_en); refine en ?_) | (with_reducible apply c_region) | refine ws ?_ | refine x_block_other (by decide) ?_)
        obtain rfl : i = 64 := by omega
        
        refine c_loop (fun k l w' => ∃ (i : Nat), (∃ jj : Nat → Value, l = [jj 0, jj 1, .pointer (some ⟨bh, 0, none⟩), jj 3, .pointer (some ⟨c, 0, none⟩), jj 5, jj 6, jj 7, jj 8, jj 9, jj 10, .pointer (some ⟨bv, 0, none⟩), jj 12, jj 13, jj 14, jj 15, jj 16, jj 17, jj 18, jj 19, jj 20, jj 21, jj 22, jj 23, jj 24, jj 25, jj 26, jj 27, jj 28, jj 29, jj 30, jj 31, jj 32, jj 33, jj 34, jj 35, jj 36, jj 37, jj 38, jj 39, jj 40, jj 41, jj 42, jj 43, jj 44, jj 45, jj 46, jj 47, jj 48, jj 49, jj 50, jj 51, jj 52, jj 53, jj 54, jj 55, jj 56, jj 57, jj 58, jj 59, jj 60, jj 61, jj 62, jj 63, jj 64, jj 65, jj 66, jj 67, jj 68, jj 69, jj 70, jj 71, jj 72, jj 73, jj 74, jj 75, jj 76, jj 77, jj 78, jj 79, jj 80, jj 81, jj 82, jj 83, jj 84, jj 85, jj 86, jj 87, jj 88, jj 89, jj 90, jj 91, jj 92, jj 93, jj 94, jj 95, jj 96, jj 97, jj 98, jj 99, jj 100, jj 101, jj 102, jj 103, jj 104, jj 105, jj 106, jj 107, jj 108, jj 109, jj 110, jj 111, jj 112, jj 113, jj 114, jj 115, jj 116, jj 117, jj 118, jj 119, jj 120, jj 121, jj 122, jj 123, jj 124, jj 125, jj 126, jj 127, jj 128, jj 129, jj 130, jj 131, jj 132, jj 133, jj 134, jj 135, jj 136, jj 137, jj 138, jj 139, jj 140, jj 141, jj 142, jj 143, jj 144, jj 145, jj 146, jj 147, jj 148, jj 149, jj 150, jj 151, jj 152, jj 153, jj 154, jj 155, jj 156, jj 157, jj 158, jj 159, jj 160, jj 161, jj 162, jj 163, jj 164, jj 165, jj 166, jj 167, jj 168, jj 169, jj 170, jj 171, jj 172, jj 173, jj 174, jj 175, jj 176, jj 177, jj 178, jj 179, jj 180, jj 181, .int .i64 (i : Int), jj 183, jj 184, jj 185, jj 186, jj 187, jj 188, jj 189, jj 190, jj 191, jj 192, jj 193, jj 194]) ∧ i + k = 8 ∧ Ch [] w w' ∧ Blk w' c ((List.replicate 8 (0 : UInt32)).map v32) 144 ∧ Blk w' bh ((mix h.l s.l i).map v32) 144 ∧ Blk w' bv (s.l.map v32) 144) 8
          ⟨0, exj rfl, rfl, hc10, hC10, hH10, hV10⟩ ?_
        rintro k l w11 ⟨i, ⟨jj, rfl⟩, hik, hc11, hC11, hH11, hV11⟩
        have hml := mix_len h.l s.l i
        repeat (first | ((with_reducible apply is_st); refine su ?_) | ((with_reducible apply is_gd); first | refine gt ?_ | refine gf ?_ | refine gu ?_) | ((with_reducible apply is_en); refine en ?_) | (with_reducible apply c_region) | refine ws ?_ | refine x_block_other (by decide) ?_)
        refine c_cond rfl (fun h8 => ?_) (fun h8 => ?_)
        · repeat (first | ((with_reducible apply is_st); refine su ?_) | ((with_reducible apply is_gd); first | refine gt ?_ | refine gf ?_ | refine gu ?_) | ((with_reducible apply is_en); refine en ?_) | (with_reducible apply c_region) | refine ws ?_ | refine x_block_other (by decide) ?_)
          refine c_drawl 8 [] (by kernel_rfl) (by kernel_rfl) (by kernel_rfl) (fun w12 hc12 hs12 => ?_)
          have hH12 := hH11.ch hc12 (by simp)
          have hV12 := hV11.ch hc12 (by simp)
          repeat (first | ((with_reducible apply is_sg); refine sgu ?_) | ((with_reducible apply is_gg); first | refine gtg ?_ | refine gfg ?_ | refine gug ?_) | ((with_reducible apply is_eg); refine eg ?_))
          refine ldbg (v := v32 (h.l.getD i 0)) hH12 (by simp) rfl (by
            rw [mg' v32 (i := i) 0 (by omega) (by omega), mix_get _ _ (by omega), if_neg (by omega)]) ?_
          repeat (first | ((with_reducible apply is_sg); refine sgu ?_) | ((with_reducible apply is_gg); first | refine gtg ?_ | refine gfg ?_ | refine gug ?_) | ((with_reducible apply is_eg); refine eg ?_))
          refine ldbg (v := v32 (s.l.getD i 0)) hV12 (by simp) rfl (mg' v32 (i := i) 0 (by omega) (by show i < 8; omega)) ?_
          repeat (first | ((with_reducible apply is_sg); refine sgu ?_) | ((with_reducible apply is_gg); first | refine gtg ?_ | refine gfg ?_ | refine gug ?_) | ((with_reducible apply is_eg); refine eg ?_))
          refine lastg rfl (by kernel_rfl) (fun w13 hc13 => ?_)
          refine stb (v := v32 (h.l.getD i 0 + s.l.getD i 0)) (hH12.ch hc13 (by simp)) rfl rfl rfl rfl (by simp [hml]; omega) (fun w14 hB14 hch14 hs14 => ?_)
          rw [← List.map_set, show 0 + ((i : Int)).toNat * 1 = i by omega, mix_set _ _ (by omega)] at hB14
          refine x_last rfl rfl (fun w15 hc15 => ?_)
          have hc1115 : Ch [bh] w11 w15 := (((Ch.some hc12).add hc13).then hch14).add hc15
          repeat (first | ((with_reducible apply is_st); refine su ?_) | ((with_reducible apply is_gd); first | refine gt ?_ | refine gf ?_ | refine gu ?_) | ((with_reducible apply is_en); refine en ?_) | (with_reducible apply c_region) | refine ws ?_ | refine x_block_other (by decide) ?_)
          refine x_goes (k - 1) rfl (by omega) ⟨i + 1, exj rfl, by omega, hc11.own hc1115 (by omega), hC11.ch hc1115 (by simp; omega), hB14.ch hc15 (by simp), hV11.ch hc1115 (by simp; omega)⟩
        · repeat (first | ((with_reducible apply is_st); refine su ?_) | ((with_reducible apply is_gd); first | refine gt ?_ | refine gf ?_ | refine gu ?_) | ((with_reducible apply is_en); refine en ?_) | (with_reducible apply c_region) | refine ws ?_ | refine x_block_other (by decide) ?_)
          obtain rfl : i = 8 := by omega
          rw [mix_all] at hH11
          refine ldbr hH11 rfl (ds := (h.add s).l.map v32) rfl rfl ?_
          repeat (first | ((with_reducible apply is_st); refine su ?_) | ((with_reducible apply is_gd); first | refine gt ?_ | refine gf ?_ | refine gu ?_) | ((with_reducible apply is_en); refine en ?_) | (with_reducible apply c_region) | refine ws ?_ | refine x_block_other (by decide) ?_)
          refine stbw (n := 8) hC11 rfl rfl rfl (by simp) one_32 (fun w12 hC12 hch12 hs12 => ?_)
          repeat (first | ((with_reducible apply is_st); refine su ?_) | ((with_reducible apply is_gd); first | refine gt ?_ | refine gf ?_ | refine gu ?_) | ((with_reducible apply is_en); refine en ?_) | (with_reducible apply c_region) | refine ws ?_ | refine x_block_other (by decide) ?_)
          subst hs
          subst hWW
          exact outc rfl rfl (hC12.row (n := 8) (o := 0) (ds := (squeeze h bs).l.map v32) rfl) rfl ⟨rfl, hc11.own hch12 (by omega)⟩
end Go.Proofs.YtkpkfplcoakfcaaDoor
set_option linter.unusedVariables false
set_option linter.unusedSimpArgs false
namespace Go.Proofs.YtkpkfplcoakfcaaDoor
open Go Go.RowKit Go.Proofs.E
attribute [local irreducible] Go.wpList Go.Code.wp Go.Proofs.E.exec Go.Proofs.E.wpLexG

set_option maxHeartbeats 8000000 in
theorem padded_any (v : Value) (bs : List UInt8) (w : World) (hR : (Ty.enc eU8).Rd [] w v bs) (hT : bs.length ≤ 140737488355200) :
    Calls Tryd.prog 105 #[v] w (Ret fun u w' => Own eU8 w' w.heap.size 5 u (bs ++ tail bs.length) ∧ Ch [] w w') := by
  refine enter [v, undef, undef, undef, undef, undef, undef, undef, undef, undef, undef, undef, undef, undef, undef, undef, undef, undef, undef, undef, undef, undef, undef, undef, undef, undef, undef, undef, undef, undef, undef, undef, undef, undef, undef, undef] Tryd.func105 rfl rfl ?_
  repeat (first | ((with_reducible apply is_st); refine su ?_) | ((with_reducible apply is_gd); first | refine gt ?_ | refine gf ?_ | refine gu ?_) | ((with_reducible apply is_en); refine en ?_) | (with_reducible apply c_region) | refine ws ?_ | refine x_block_other (by decide) ?_)
  refine wl_buildSlice (vs := []) rfl rfl (by simp) (by decide) (fun w1 d hd => ?_)
  have hO1 : Own eU8 w1 w.heap.size 5 (.slice (some ⟨d, 0, none⟩) 0 0) [] := Own.of_new (en := eU8) hd rfl (Nat.le_refl _) (by simp) rfl
  repeat (first | ((with_reducible apply is_st); refine su ?_) | ((with_reducible apply is_gd); first | refine gt ?_ | refine gf ?_ | refine gu ?_) | ((with_reducible apply is_en); refine en ?_) | (with_reducible apply c_region) | refine ws ?_ | refine x_block_other (by decide) ?_)
  refine apb (v := .slice (some ⟨d, 0, none⟩) 0 0) rfl rfl hO1 hd.ch.size rfl (hR.ch hd.ch) (by simp; omega) (by simp; omega) (fun v2 w2 hO2 hc2 hat2 => ?_)
  have hc02 : Ch [] w w2 := hd.ch.trans hc2 (by simp) (fun x hx hm => by
    have := (hO1.lt (k := x) (by simpa using hm)).1
    omega)
  rw [List.nil_append] at hO2
  repeat (first | ((with_reducible apply is_st); refine su ?_) | ((with_reducible apply is_gd); first | refine gt ?_ | refine gf ?_ | refine gu ?_) | ((with_reducible apply is_en); refine en ?_) | (with_reducible apply c_region) | refine ws ?_ | refine x_block_other (by decide) ?_)
  (try ((with_reducible apply is_gd); first | refine gt ?_ | refine gf ?_ | refine gu ?_)); refine pu (0x80 : UInt8) hO2 hc02.size (fun _ v3 w3 hO3 hc3 hat3 => ?_)
  have hc03 : Ch [] w w3 := hc02.trans hc3 (by simp) (fun x hx hm => by
    have := (hO2.lt (k := x) (by simpa using hm)).1
    omega)
  repeat (first | ((with_reducible apply is_st); refine su ?_) | ((with_reducible apply is_gd); first | refine gt ?_ | refine gf ?_ | refine gu ?_) | ((with_reducible apply is_en); refine en ?_) | (with_reducible apply c_region) | refine ws ?_ | refine x_block_other (by decide) ?_)
  
  refine c_loop (fun k l w' => ∃ (u : Value) (xs : List UInt8), (∃ jj : Nat → Value, l = [v, jj 1, jj 2, u, jj 4, jj 5, jj 6, jj 7, jj 8, jj 9, jj 10, jj 11, jj 12, jj 13, jj 14, jj 15, jj 16, jj 17, jj 18, jj 19, jj 20, jj 21, jj 22, jj 23, jj 24, jj 25, jj 26, jj 27, jj 28, jj 29, jj 30, jj 31, jj 32, jj 33, jj 34, jj 35]) ∧ k = (120 - xs.length % 64) % 64 ∧ xs.length + k ≤ bs.length + 65 ∧ xs ++ List.replicate k 0 = bs ++ 0x80 :: List.replicate ((120 - (bs.length + 1) % 64) % 64) 0 ∧ Own eU8 w' w.heap.size 5 u xs ∧ Ch [] w w') ((120 - (bs.length + 1) % 64) % 64)
    ⟨_, _, exj rfl, by simp, by simp; omega, by simp, hO3, hc03⟩ ?_
  rintro k l w4 ⟨u, xs, ⟨jj, rfl⟩, hk, hkl, hxs, hO4, hc4⟩
  obtain ⟨A, cap, rfl, hcap⟩ := hO4.form
  repeat (first | ((with_reducible apply is_st); refine su ?_) | ((with_reducible apply is_gd); first | refine gt ?_ | refine gf ?_ | refine gu ?_) | ((with_reducible apply is_en); refine en ?_) | (with_reducible apply c_region) | refine ws ?_ | refine x_block_other (by decide) ?_)
  rw [show ((xs.length : Int)).tmod 64 = ((xs.length % 64 : Nat) : Int) by rfl]
  refine c_cond rfl (fun h => ?_) (fun h => ?_)
  · obtain ⟨k, rfl⟩ : ∃ k', k = k' + 1 := ⟨k - 1, by omega⟩
    repeat (first | ((with_reducible apply is_st); refine su ?_) | ((with_reducible apply is_gd); first | refine gt ?_ | refine gf ?_ | refine gu ?_) | ((with_reducible apply is_en); refine en ?_) | (with_reducible apply c_region) | refine ws ?_ | refine x_block_other (by decide) ?_)
    (try ((with_reducible apply is_gd); first | refine gt ?_ | refine gf ?_ | refine gu ?_)); refine pu (0 : UInt8) hO4 hc4.size (fun _ v5 w5 hO5 hc5 hat5 => ?_)
    have hc05 : Ch [] w w5 := hc4.trans hc5 (by simp) (fun x hx hm => by
      have := (hO4.lt (k := x) (by simpa using hm)).1
      omega)
    repeat (first | ((with_reducible apply is_st); refine su ?_) | ((with_reducible apply is_gd); first | refine gt ?_ | refine gf ?_ | refine gu ?_) | ((with_reducible apply is_en); refine en ?_) | (with_reducible apply c_region) | refine ws ?_ | refine x_block_other (by decide) ?_)
    refine x_goes k rfl (by omega) ⟨v5, xs ++ [0], exj rfl, by simp; omega, by simp; omega, by rw [← hxs, List.append_assoc]; rfl, hO5, hc05⟩
  · obtain rfl : k = 0 := by omega
    rw [List.replicate_zero, List.append_nil] at hxs
    obtain ⟨B, cap2, rfl⟩ := hR.form
    repeat (first | ((with_reducible apply is_st); refine su ?_) | ((with_reducible apply is_gd); first | refine gt ?_ | refine gf ?_ | refine gu ?_) | ((with_reducible apply is_en); refine en ?_) | (with_reducible apply c_region) | refine ws ?_ | refine x_block_other (by decide) ?_)
    have hN : IntKind.u64.wrap ((bs.length : Int) * 8) = ((8 * bs.length : Nat) : Int) := by rw [wrap_u64 (by omega)]; omega
    try rw [hN]
    try rw [show (bs.length : Int) * 8 = ((8 * bs.length : Nat) : Int) by omega]
    
    refine c_loop (fun k l w' => ∃ (u : Value) (ys : List UInt8), (∃ jj : Nat → Value, l = [jj 0, jj 1, jj 2, u, .int .u64 ((8 * bs.length : Nat) : Int), .int .i64 ((k : Int) - 1), jj 6, jj 7, jj 8, jj 9, jj 10, jj 11, jj 12, jj 13, jj 14, jj 15, jj 16, jj 17, jj 18, jj 19, jj 20, jj 21, jj 22, jj 23, jj 24, jj 25, jj 26, jj 27, jj 28, jj 29, jj 30, jj 31, jj 32, jj 33, jj 34, jj 35]) ∧ k ≤ 8 ∧ ys.length + k = xs.length + 8 ∧ ys ++ lenUp (8 * bs.length) k = bs ++ tail bs.length ∧ Own eU8 w' w.heap.size 5 u ys ∧ Ch [] w w') 8
      ⟨_, xs, exj rfl, by omega, rfl, by rw [hxs]; simp [tail], hO4, hc4⟩ ?_
    rintro k l w5 ⟨u, ys, ⟨jj, rfl⟩, hk5, hl5, hys, hO5, hc5⟩
    repeat (first | ((with_reducible apply is_st); refine su ?_) | ((with_reducible apply is_gd); first | refine gt ?_ | refine gf ?_ | refine gu ?_) | ((with_reducible apply is_en); refine en ?_) | (with_reducible apply c_region) | refine ws ?_ | refine x_block_other (by decide) ?_)
    refine c_cond rfl (fun h8 => ?_) (fun h8 => ?_)
    · obtain ⟨k, rfl⟩ : ∃ k', k = k' + 1 := ⟨k - 1, by omega⟩
      have he : IntKind.u8.wrap (((8 * bs.length : Nat) : Int).fdiv (2 ^ min (8 * (((k + 1 : Nat) : Int) - 1)).toNat IntKind.u64.bits)) = ((UInt8.ofNat (8 * bs.length / 2 ^ (8 * k))).toNat : Int) := by
        rw [show (8 * (((k + 1 : Nat) : Int) - 1)).toNat = 8 * k by omega, Nat.min_eq_left (show 8 * k ≤ IntKind.u64.bits by simp only [IntKind.bits]; omega)]
        rw [show ((2 : Int) ^ (8 * k)) = ((2 ^ (8 * k) : Nat) : Int) by simp, Int.fdiv_eq_ediv_of_nonneg _ (by exact_mod_cast Nat.zero_le _), ← Int.natCast_ediv, wrap8, UInt8.toNat_ofNat']
      repeat (first | ((with_reducible apply is_st); refine su ?_) | ((with_reducible apply is_gd); first | refine gt ?_ | refine gf ?_ | refine gu ?_) | ((with_reducible apply is_en); refine en ?_) | (with_reducible apply c_region) | refine ws ?_ | refine x_block_other (by decide) ?_)
      rw [he]
      (try ((with_reducible apply is_gd); first | refine gt ?_ | refine gf ?_ | refine gu ?_)); refine pu (UInt8.ofNat (8 * bs.length / 2 ^ (8 * k))) hO5 hc5.size (fun _ v6 w6 hO6 hc6 hat6 => ?_)
      have hc06 : Ch [] w w6 := hc5.trans hc6 (by simp) (fun x hx hm => by
        have := (hO5.lt (k := x) (by simpa using hm)).1
        omega)
      repeat (first | ((with_reducible apply is_st); refine su ?_) | ((with_reducible apply is_gd); first | refine gt ?_ | refine gf ?_ | refine gu ?_) | ((with_reducible apply is_en); refine en ?_) | (with_reducible apply c_region) | refine ws ?_ | refine x_block_other (by decide) ?_)
      refine x_goes k rfl (by omega) ⟨v6, ys ++ [UInt8.ofNat (8 * bs.length / 2 ^ (8 * k))], exj (by rw [show (k : Int) - 1 = ((k + 1 : Nat) : Int) - 1 - 1 by omega]; rfl), by omega, by simp; omega, by rw [← hys, List.append_assoc]; rfl, hO6, hc06⟩
    · obtain rfl : k = 0 := by omega
      repeat (first | ((with_reducible apply is_st); refine su ?_) | ((with_reducible apply is_gd); first | refine gt ?_ | refine gf ?_ | refine gu ?_) | ((with_reducible apply is_en); refine en ?_) | (with_reducible apply c_region) | refine ws ?_ | refine x_block_other (by decide) ?_)
      refine out1 rfl ⟨?_, hc5⟩
      rw [← hys, show ys ++ lenUp (8 * bs.length) 0 = ys by simp [lenUp]]
      exact hO5

set_option maxHeartbeats 8000000 in
theorem rsum_any (v : Value) (bs : List UInt8) (w : World) (hR : (Ty.enc eU8).Rd [] w v bs) (hT : bs.length ≤ 140737488355200) :
    Calls Tryd.prog 78 #[v] w (Ret fun u w' => u = hv (shaOf bs) ∧ Ch [] w w') := by
  refine enter [v, undef, undef, undef, undef, undef, undef, undef, undef, undef, undef, undef, undef, undef, undef, undef, undef, undef, undef, undef, undef, undef, undef, undef, undef, undef, undef, undef, undef, undef, undef, undef, undef, undef, undef, undef, undef, undef, undef, undef, undef, undef, undef, undef, undef, undef, undef, undef, undef, undef, undef, undef, undef, undef, undef, undef, undef, undef] Tryd.func78 rfl rfl ?_
  repeat (first | ((with_reducible apply is_st); refine su ?_) | ((with_reducible apply is_gd); first | refine gt ?_ | refine gf ?_ | refine gu ?_) | ((with_reducible apply is_en); refine en ?_) | (with_reducible apply c_region) | refine ws ?_ | refine x_block_other (by decide) ?_)
  refine wl_alloc (fun w1 c hc => ?_)
  have hC1 : Blk w1 c ((List.replicate 32 (0 : UInt8)).map u8v) 27 := hc.blk
  have hcw : c = w.heap.size := hc.at_
  repeat (first | ((with_reducible apply is_st); refine su ?_) | ((with_reducible apply is_gd); first | refine gt ?_ | refine gf ?_ | refine gu ?_) | ((with_reducible apply is_en); refine en ?_) | (with_reducible apply c_region) | refine ws ?_ | refine x_block_other (by decide) ?_)
  refine wl_val (r_build_arr (vs := H0.l.map v32) rfl rfl (by intro u hu; obtain ⟨x, _, rfl⟩ := List.mem_map.1 hu; rfl)) ?_
  refine wl_alloc (fun w2 b hb => ?_)
  have hcb : b = c + 1 := by rw [hb.at_, hc.size]
  refine stbw (n := 8) (vs := H0.l.map v32) hb.blk rfl rfl rfl rfl one_32 (fun w3 hB3 hch3 hs3 => ?_)
  have hc13 : Ch [b] w1 w3 := (Ch.some hb.ch).then hch3
  have hc3 : Ch [] w w3 := hc.ch.own hc13 (by omega)
  have hC3 := hC1.ch hc13 (by simp; omega)
  repeat (first | ((with_reducible apply is_st); refine su ?_) | ((with_reducible apply is_gd); first | refine gt ?_ | refine gf ?_ | refine gu ?_) | ((with_reducible apply is_en); refine en ?_) | (with_reducible apply c_region) | refine ws ?_ | refine x_block_other (by decide) ?_)
  (try ((with_reducible apply is_gd); first | refine gt ?_ | refine gf ?_ | refine gu ?_)); refine ca (padded_any v bs w3 (hR.ch hc3) hT) ?_
  rintro p w4 ⟨hO4, hc4⟩
  obtain ⟨A, cap, hp, hcap⟩ := hO4.form
  have hsum : shaOf bs = digest ((bs ++ tail bs.length).foldl put1 St0).h := rfl
  have htl : ∀ k, (lenUp (8 * bs.length) k).length = k := by
    intro k
    induction k with
    | zero => rfl
    | succ k ih => rw [lenUp, List.length_cons, ih]
  have hpl : (bs ++ tail bs.length).length % 64 = 0 ∧ (bs ++ tail bs.length).length ≤ bs.length + 72 := by
    simp only [tail, List.length_append, List.length_cons, List.length_replicate, htl]
    omega
  have hP4 : (Ty.enc eU8).Rd [] w4 p (bs ++ tail bs.length) := hO4.rd (by simp) (by omega)
  generalize bs ++ tail bs.length = ps at *
  subst hp
  repeat (first | ((with_reducible apply is_st); refine su ?_) | ((with_reducible apply is_gd); first | refine gt ?_ | refine gf ?_ | refine gu ?_) | ((with_reducible apply is_en); refine en ?_) | (with_reducible apply c_region) | refine ws ?_ | refine x_block_other (by decide) ?_)
  
  refine c_loop (fun k l w' => ∃ (i : Nat), (∃ jj : Nat → Value, l = [jj 0, jj 1, .pointer (some ⟨c, 0, none⟩), .pointer (some ⟨b, 0, none⟩), .slice A ps.length cap, .int .i64 (i : Int), jj 6, jj 7, jj 8, jj 9, jj 10, jj 11, jj 12, jj 13, jj 14, jj 15, jj 16, jj 17, jj 18, jj 19, jj 20, jj 21, jj 22, jj 23, jj 24, jj 25, jj 26, jj 27, jj 28, jj 29, jj 30, jj 31, jj 32, jj 33, jj 34, jj 35, jj 36, jj 37, jj 38, jj 39, jj 40, jj 41, jj 42, jj 43, jj 44, jj 45, jj 46, jj 47, jj 48, jj 49, jj 50, jj 51, jj 52, jj 53, jj 54, jj 55, jj 56, jj 57]) ∧ i + k = ps.length ∧ i % 64 = 0 ∧ Ch [] w w' ∧ Ch [b] w4 w' ∧ Blk w' c ((List.replicate 32 (0 : UInt8)).map u8v) 27 ∧ Blk w' b (((ps.take i).foldl put1 St0).h.l.map v32) 144) ps.length
    ⟨0, exj rfl, by omega, rfl, hc3.then hc4, Ch.refl _ _, hC3.ch hc4 (by simp), hB3.ch hc4 (by simp)⟩ ?_
  rintro k l w5 ⟨i, ⟨jj, rfl⟩, hik, hi64, hc5, hc45, hC5, hB5⟩
  repeat (first | ((with_reducible apply is_st); refine su ?_) | ((with_reducible apply is_gd); first | refine gt ?_ | refine gf ?_ | refine gu ?_) | ((with_reducible apply is_en); refine en ?_) | (with_reducible apply c_region) | refine ws ?_ | refine x_block_other (by decide) ?_)
  refine c_cond rfl (fun h => ?_) (fun h => ?_)
  · have hil : i + 64 ≤ ps.length := by omega
    have hch : (ps.take (i + 64)) = ps.take i ++ (ps.take (i + 64)).drop i := by
      conv => lhs; rw [← List.take_append_drop i (ps.take (i + 64))]
      rw [List.take_take, Nat.min_eq_left (by omega)]
    have hdl : ((ps.take (i + 64)).drop i).length = 64 := by rw [List.length_drop, List.length_take]; omega
    have hrl : ((ps.take i).foldl put1 St0).rest.length = 64 := put1_rest _ _ rfl
    have hn : ((ps.take i).foldl put1 St0).n = i := by rw [put1_n, List.length_take]; simp only [St0]; omega
    have hst : ((ps.take (i + 64)).foldl put1 St0).h = squeeze ((ps.take i).foldl put1 St0).h ((ps.take (i + 64)).drop i) := by
      conv => lhs; rw [hch]
      rw [List.foldl_append, put_chunk _ _ (by intro e; rw [e] at hdl; simp at hdl) (by rw [hn, hdl]; omega) hrl, hn, hdl, if_pos (by omega), hi64]
      show squeeze _ (splU _ _ _) = _
      congr 1
      simp [splU, hdl, hrl]
    repeat (first | ((with_reducible apply is_st); refine su ?_) | ((with_reducible apply is_gd); first | refine gt ?_ | refine gf ?_ | refine gu ?_) | ((with_reducible apply is_en); refine en ?_) | (with_reducible apply c_region) | refine ws ?_ | refine x_block_other (by decide) ?_)
    refine c_drawl 7 [] (by kernel_rfl) (by kernel_rfl) (by kernel_rfl) (fun w6 hc6 hs6 => ?_)
    have hB6 := hB5.ch hc6 (by simp)
    have hP6 : (Ty.enc eU8).Rd [] w6 (.slice A ps.length cap) ps := by
      refine Ty.Rd.mv (hO4.rd (S := [b]) (fun q hq => ?_) (by omega)) (hc45.add hc6) (fun _ _ h => h) |>.mv (Ch.refl [] w6) (by simp)
      have := (hO4.lt hq).1
      have := hB3.lt
      simp
      omega
    repeat (first | ((with_reducible apply is_sg); refine sgu ?_) | ((with_reducible apply is_gg); first | refine gtg ?_ | refine gfg ?_ | refine gug ?_) | ((with_reducible apply is_eg); refine eg ?_))
    refine ldbrg hB6 (by simp) rfl (ds := ((ps.take i).foldl put1 St0).h.l.map v32) rfl rfl ?_
    repeat (first | ((with_reducible apply is_sg); refine sgu ?_) | ((with_reducible apply is_gg); first | refine gtg ?_ | refine gfg ?_ | refine gug ?_) | ((with_reducible apply is_eg); refine eg ?_))
    refine wg_cut_lh rfl hP6 rfl rfl rfl (by omega) (by omega) (by omega) (fun v' hR' => ?_)
    rw [show ((i : Int) + 64).toNat = i + 64 by omega, show ((i : Int)).toNat = i by omega] at hR'
    (try ((with_reducible apply is_gg); first | refine gtg ?_ | refine gfg ?_ | refine gug ?_)); refine cag (fun w7 hc7 => rblock_any ((ps.take i).foldl put1 St0).h _ hdl v' w7 (hR'.ch hc7)) ?_
    refine lastg rfl (by kernel_rfl) (fun w8 hc8 => ?_)
    refine stbw (n := 8) (vs := (squeeze ((ps.take i).foldl put1 St0).h ((ps.take (i + 64)).drop i)).l.map v32) (hB6.ch hc8 (by simp)) rfl rfl rfl rfl one_32 (fun w9 hB9 hch9 hs9 => ?_)
    rw [← hst] at hB9
    refine x_last rfl rfl (fun w10 hc10 => ?_)
    have hc510 : Ch [b] w5 w10 := (((Ch.some hc6).add hc8).then hch9).add hc10
    repeat (first | ((with_reducible apply is_st); refine su ?_) | ((with_reducible apply is_gd); first | refine gt ?_ | refine gf ?_ | refine gu ?_) | ((with_reducible apply is_en); refine en ?_) | (with_reducible apply c_region) | refine ws ?_ | refine x_block_other (by decide) ?_)
    refine x_goes (k - 64) rfl (by omega) ⟨i + 64, exj rfl, by omega, by omega, hc5.own hc510 (by omega), hc45.then hc510, hC5.ch hc510 (by simp; omega), hB9.ch hc10 (by simp)⟩
  · obtain rfl : i = ps.length := by omega
    rw [List.take_length] at hB5
    rw [hsum]
    generalize (ps.foldl put1 St0).h = s6 at *
    repeat (first | ((with_reducible apply is_st); refine su ?_) | ((with_reducible apply is_gd); first | refine gt ?_ | refine gf ?_ | refine gu ?_) | ((with_reducible apply is_en); refine en ?_) | (with_reducible apply c_region) | refine ws ?_ | refine x_block_other (by decide) ?_)
    refine wl_alloc (fun w7 d hd => ?_)
    have hD7 : Blk w7 d ((outK s6 (4 * 0)).map u8v) 27 := hd.blk
    have hdc : b < d := by rw [hd.at_]; exact hB5.lt
    have hc7 : Ch [] w w7 := hc5.then hd.ch
    have hC7 := hC5.ch hd.ch (by simp)
    repeat (first | ((with_reducible apply is_st); refine su ?_) | ((with_reducible apply is_gd); first | refine gt ?_ | refine gf ?_ | refine gu ?_) | ((with_reducible apply is_en); refine en ?_) | (with_reducible apply c_region) | refine ws ?_ | refine x_block_other (by decide) ?_)
    refine ldbr (hB5.ch hd.ch (by simp)) rfl (ds := s6.l.map v32) rfl rfl ?_
    repeat (first | ((with_reducible apply is_st); refine su ?_) | ((with_reducible apply is_gd); first | refine gt ?_ | refine gf ?_ | refine gu ?_) | ((with_reducible apply is_en); refine en ?_) | (with_reducible apply c_region) | refine ws ?_ | refine x_block_other (by decide) ?_)
    
    refine c_loop (fun k l w' => ∃ (i : Nat), (∃ jj : Nat → Value, l = [jj 0, jj 1, .pointer (some ⟨c, 0, none⟩), jj 3, jj 4, jj 5, .pointer (some ⟨d, 0, none⟩), jj 7, jj 8, jj 9, jj 10, jj 11, jj 12, jj 13, jj 14, jj 15, jj 16, jj 17, jj 18, jj 19, jj 20, jj 21, jj 22, jj 23, jj 24, .agg (s6.l.map v32).toArray, .int .i64 (i : Int), jj 27, jj 28, jj 29, jj 30, jj 31, jj 32, jj 33, jj 34, jj 35, jj 36, jj 37, jj 38, jj 39, jj 40, jj 41, jj 42, jj 43, jj 44, jj 45, jj 46, jj 47, jj 48, jj 49, jj 50, jj 51, jj 52, jj 53, jj 54, jj 55, jj 56, jj 57]) ∧ i + k = 8 ∧ Ch [] w w' ∧ Blk w' c ((List.replicate 32 (0 : UInt8)).map u8v) 27 ∧ Blk w' d ((outK s6 (4 * i)).map u8v) 27) 8
      ⟨0, exj rfl, rfl, hc7, hC7, hD7⟩ ?_
    rintro k l w8 ⟨i, ⟨jj, rfl⟩, hik, hc8, hC8, hD8⟩
    have hol := outK_len s6
    repeat (first | ((with_reducible apply is_st); refine su ?_) | ((with_reducible apply is_gd); first | refine gt ?_ | refine gf ?_ | refine gu ?_) | ((with_reducible apply is_en); refine en ?_) | (with_reducible apply c_region) | refine ws ?_ | refine x_block_other (by decide) ?_)
    refine c_cond rfl (fun h8 => ?_) (fun h8 => ?_)
    · repeat (first | ((with_reducible apply is_st); refine su ?_) | ((with_reducible apply is_gd); first | refine gt ?_ | refine gf ?_ | refine gu ?_) | ((with_reducible apply is_en); refine en ?_) | (with_reducible apply c_region) | refine ws ?_ | refine x_block_other (by decide) ?_)
      refine wl_val (r_index_one (v := v32 (s6.l.getD i 0)) rfl rfl (by omega) (by omega) (mg' v32 (i := i) 0 (by omega) (by show i < 8; omega))) ?_
      repeat (first | ((with_reducible apply is_st); refine su ?_) | ((with_reducible apply is_gd); first | refine gt ?_ | refine gf ?_ | refine gu ?_) | ((with_reducible apply is_en); refine en ?_) | (with_reducible apply c_region) | refine ws ?_ | refine x_block_other (by decide) ?_)
      refine stb (v := u8v (s6.l.getD i 0 >>> UInt32.ofNat 24).toUInt8) hD8 rfl rfl rfl rfl (by simp [hol]; omega) (fun w9 hD9 hch9 hs9 => ?_)
      rw [outK_set s6 (k := 4 * i) (x := (s6.l.getD i 0 >>> UInt32.ofNat 24).toUInt8) (by omega) (by omega) (byteAt_ s6 i 0 (by omega)).symm] at hD9
      repeat (first | ((with_reducible apply is_st); refine su ?_) | ((with_reducible apply is_gd); first | refine gt ?_ | refine gf ?_ | refine gu ?_) | ((with_reducible apply is_en); refine en ?_) | (with_reducible apply c_region) | refine ws ?_ | refine x_block_other (by decide) ?_)
      refine stb (v := u8v (s6.l.getD i 0 >>> UInt32.ofNat 16).toUInt8) hD9 rfl rfl rfl rfl (by simp [hol]; omega) (fun w10 hD10 hch10 hs10 => ?_)
      rw [outK_set s6 (k := 4 * i + 1) (x := (s6.l.getD i 0 >>> UInt32.ofNat 16).toUInt8) (by omega) (by omega) (byteAt_ s6 i 1 (by omega)).symm] at hD10
      repeat (first | ((with_reducible apply is_st); refine su ?_) | ((with_reducible apply is_gd); first | refine gt ?_ | refine gf ?_ | refine gu ?_) | ((with_reducible apply is_en); refine en ?_) | (with_reducible apply c_region) | refine ws ?_ | refine x_block_other (by decide) ?_)
      refine stb (v := u8v (s6.l.getD i 0 >>> UInt32.ofNat 8).toUInt8) hD10 rfl rfl rfl rfl (by simp [hol]; omega) (fun w11 hD11 hch11 hs11 => ?_)
      rw [outK_set s6 (k := 4 * i + 2) (x := (s6.l.getD i 0 >>> UInt32.ofNat 8).toUInt8) (by omega) (by omega) (byteAt_ s6 i 2 (by omega)).symm] at hD11
      repeat (first | ((with_reducible apply is_st); refine su ?_) | ((with_reducible apply is_gd); first | refine gt ?_ | refine gf ?_ | refine gu ?_) | ((with_reducible apply is_en); refine en ?_) | (with_reducible apply c_region) | refine ws ?_ | refine x_block_other (by decide) ?_)
      refine stb (v := u8v (s6.l.getD i 0).toUInt8) hD11 rfl rfl rfl rfl (by simp [hol]; omega) (fun w12 hD12 hch12 hs12 => ?_)
      rw [outK_set s6 (k := 4 * i + 3) (x := (s6.l.getD i 0).toUInt8) (by omega) (by omega) (byteAt_ s6 i 3 (by omega)).symm] at hD12
      have hch : Ch [d] w8 w12 := ((hch9.then hch10).then hch11).then hch12
      repeat (first | ((with_reducible apply is_st); refine su ?_) | ((with_reducible apply is_gd); first | refine gt ?_ | refine gf ?_ | refine gu ?_) | ((with_reducible apply is_en); refine en ?_) | (with_reducible apply c_region) | refine ws ?_ | refine x_block_other (by decide) ?_)
      refine x_goes (k - 1) rfl (by omega) ⟨i + 1, exj rfl, by omega, hc8.own hch (by omega), hC8.ch hch (by simp; omega), ?_⟩
      rw [show 4 * (i + 1) = 4 * i + 3 + 1 by omega]
      exact hD12
    · obtain rfl : i = 8 := by omega
      repeat (first | ((with_reducible apply is_st); refine su ?_) | ((with_reducible apply is_gd); first | refine gt ?_ | refine gf ?_ | refine gu ?_) | ((with_reducible apply is_en); refine en ?_) | (with_reducible apply c_region) | refine ws ?_ | refine x_block_other (by decide) ?_)
      refine ldbr hD8 rfl (ds := (digest s6).map u8v) (by simp [digest, List.take_of_length_le, hol]) (by simp [digest, hol]) ?_
      repeat (first | ((with_reducible apply is_st); refine su ?_) | ((with_reducible apply is_gd); first | refine gt ?_ | refine gf ?_ | refine gu ?_) | ((with_reducible apply is_en); refine en ?_) | (with_reducible apply c_region) | refine ws ?_ | refine x_block_other (by decide) ?_)
      refine stbw (n := 32) hC8 rfl rfl (by simp [digest, hol]) (by simp) one_u8 (fun w9 hC9 hch9 hs9 => ?_)
      repeat (first | ((with_reducible apply is_st); refine su ?_) | ((with_reducible apply is_gd); first | refine gt ?_ | refine gf ?_ | refine gu ?_) | ((with_reducible apply is_en); refine en ?_) | (with_reducible apply c_region) | refine ws ?_ | refine x_block_other (by decide) ?_)
      exact outc rfl rfl (hC9.row (n := 32) (o := 0) (ds := (digest s6).map u8v) (by simp [digest, List.take_of_length_le, hol])) (by simp [digest, hol]) ⟨rfl, hc8.own hch9 (by omega)⟩

theorem rbytes_any (q : UInt8) (v : Value) (ls : List (List UInt8)) (w : World) (hR : (Ty.sl (Ty.enc eU8)).Rd [] w v ls) (hT : 1 + ls.flatten.length ≤ 140737488355328) :
    Calls Tryd.prog 104 #[u8v q, v] w (Ret fun u w' => Own eU8 w' w.heap.size 5 u (q :: ls.flatten) ∧ Ch [] w w') := by
  refine enter [u8v q, v, undef, undef, undef, undef, undef, undef, undef, undef, undef, undef, undef, undef, undef, undef, undef, undef, undef, undef, undef] Tryd.func104 rfl rfl ?_
  repeat (first | ((with_reducible apply is_st); refine su ?_) | ((with_reducible apply is_gd); first | refine gt ?_ | refine gf ?_ | refine gu ?_) | ((with_reducible apply is_en); refine en ?_) | (with_reducible apply c_region) | refine ws ?_ | refine x_block_other (by decide) ?_)
  refine wl_buildSlice (vs := [u8v q]) rfl rfl (by intro u hu; simp at hu; subst hu; rfl) (by decide) (fun w1 d hd => ?_)
  have hO1 : Own eU8 w1 w.heap.size 5 _ [q] := Own.of_new (en := eU8) hd rfl (Nat.le_refl _) (by simp) rfl
  repeat (first | ((with_reducible apply is_st); refine su ?_) | ((with_reducible apply is_gd); first | refine gt ?_ | refine gf ?_ | refine gu ?_) | ((with_reducible apply is_en); refine en ?_) | (with_reducible apply c_region) | refine ws ?_ | refine x_block_other (by decide) ?_)
  obtain ⟨A, cap, rfl⟩ := hR.form
  have hle := hR.le
  repeat (first | ((with_reducible apply is_st); refine su ?_) | ((with_reducible apply is_gd); first | refine gt ?_ | refine gf ?_ | refine gu ?_) | ((with_reducible apply is_en); refine en ?_) | (with_reducible apply c_region) | refine ws ?_ | refine x_block_other (by decide) ?_)
  
  refine c_loop (fun k l w' => ∃ (u : Value) (i : Nat), (∃ jj : Nat → Value, l = [jj 0, jj 1, jj 2, jj 3, jj 4, u, jj 6, jj 7, jj 8, jj 9, .slice A ls.length cap, .int .i64 (ls.length : Int), .int .i64 (i : Int), jj 13, jj 14, jj 15, jj 16, jj 17, jj 18, jj 19, jj 20]) ∧ i + k = ls.length ∧ Own eU8 w' w.heap.size 5 u (q :: (ls.take i).flatten) ∧ Ch [] w w') ls.length
    ⟨_, 0, exj rfl, by omega, hO1, hd.ch⟩ ?_
  rintro k l w2 ⟨u, i, ⟨jj, rfl⟩, hik, hO2, hc2⟩
  repeat (first | ((with_reducible apply is_st); refine su ?_) | ((with_reducible apply is_gd); first | refine gt ?_ | refine gf ?_ | refine gu ?_) | ((with_reducible apply is_en); refine en ?_) | (with_reducible apply c_region) | refine ws ?_ | refine x_block_other (by decide) ?_)
  refine c_cond rfl (fun h => ?_) (fun h => ?_)
  · repeat (first | ((with_reducible apply is_st); refine su ?_) | ((with_reducible apply is_gd); first | refine gt ?_ | refine gf ?_ | refine gu ?_) | ((with_reducible apply is_en); refine en ?_) | (with_reducible apply c_region) | refine ws ?_ | refine x_block_other (by decide) ?_)
    (try ((with_reducible apply is_gd); first | refine gt ?_ | refine gf ?_ | refine gu ?_)); refine ix (hR.ch hc2) (fun b o x hx hA => ?_)
    repeat (first | ((with_reducible apply is_st); refine su ?_) | ((with_reducible apply is_gd); first | refine gt ?_ | refine gf ?_ | refine gu ?_) | ((with_reducible apply is_en); refine en ?_) | (with_reducible apply c_region) | refine ws ?_ | refine x_block_other (by decide) ?_)
    refine wl_load_one rfl hA rfl (fun vx hvx => ?_)
    obtain ⟨vx', hvx', hRx⟩ := hvx
    injection hvx' with hvx' _
    subst hvx'
    rw [Int.toNat_natCast] at hx
    have hxi : (ls.take (i + 1)).flatten = (ls.take i).flatten ++ x := by
      rw [List.take_add_one, hx]
      simp
    have hlen : (ls.take (i + 1)).flatten.length ≤ ls.flatten.length := by
      conv => rhs; rw [← List.take_append_drop (i + 1) ls, List.flatten_append, List.length_append]
      omega
    rw [hxi, List.length_append] at hlen
    repeat (first | ((with_reducible apply is_st); refine su ?_) | ((with_reducible apply is_gd); first | refine gt ?_ | refine gf ?_ | refine gu ?_) | ((with_reducible apply is_en); refine en ?_) | (with_reducible apply c_region) | refine ws ?_ | refine x_block_other (by decide) ?_)
    refine apb (v := u) rfl rfl hO2 hc2.size rfl hRx (by rw [List.length_cons]; omega) (by rw [List.length_cons]; omega) (fun v' w3 hO3 hc3 hat => ?_)
    repeat (first | ((with_reducible apply is_st); refine su ?_) | ((with_reducible apply is_gd); first | refine gt ?_ | refine gf ?_ | refine gu ?_) | ((with_reducible apply is_en); refine en ?_) | (with_reducible apply c_region) | refine ws ?_ | refine x_block_other (by decide) ?_)
    refine x_goes (k - 1) rfl (by omega) ⟨v', i + 1, exj rfl, by omega, ?_, ?_⟩
    · rw [hxi]
      simpa using hO3
    · refine hc2.trans hc3 (by simp) (fun x hx hm => ?_)
      have := (hO2.lt (k := x) (by simpa using hm)).1
      omega
  · obtain rfl : k = 0 := by omega
    obtain rfl : i = ls.length := by omega
    repeat (first | ((with_reducible apply is_st); refine su ?_) | ((with_reducible apply is_gd); first | refine gt ?_ | refine gf ?_ | refine gu ?_) | ((with_reducible apply is_en); refine en ?_) | (with_reducible apply c_region) | refine ws ?_ | refine x_block_other (by decide) ?_)
    refine out1 rfl ⟨?_, hc2⟩
    rw [List.take_length] at hO2
    exact hO2
theorem rof_any (q : UInt8) (v : Value) (ls : List (List UInt8)) (w : World) (hR : (Ty.sl (Ty.enc eU8)).Rd [] w v ls) (hT : 1 + ls.flatten.length ≤ 140737488355200) :
    Calls Tryd.prog 77 #[u8v q, v] w (Ret fun u w' => u = hv (shaOf (q :: ls.flatten)) ∧ Ch [] w w') := by
  refine enter [u8v q, v, undef, undef, undef, undef, undef, undef, undef] Tryd.func77 rfl rfl ?_
  repeat (first | ((with_reducible apply is_st); refine su ?_) | ((with_reducible apply is_gd); first | refine gt ?_ | refine gf ?_ | refine gu ?_) | ((with_reducible apply is_en); refine en ?_) | (with_reducible apply c_region) | refine ws ?_ | refine x_block_other (by decide) ?_)
  refine wl_alloc (fun w1 c hc => ?_)
  have hC1 : Blk w1 c ((List.replicate 32 (0 : UInt8)).map u8v) 28 := hc.blk
  repeat (first | ((with_reducible apply is_st); refine su ?_) | ((with_reducible apply is_gd); first | refine gt ?_ | refine gf ?_ | refine gu ?_) | ((with_reducible apply is_en); refine en ?_) | (with_reducible apply c_region) | refine ws ?_ | refine x_block_other (by decide) ?_)
  (try ((with_reducible apply is_gd); first | refine gt ?_ | refine gf ?_ | refine gu ?_)); refine ca (rbytes_any q v ls w1 (hR.ch hc.ch) (by omega)) ?_
  rintro u w2 ⟨hO2, hc2⟩
  repeat (first | ((with_reducible apply is_st); refine su ?_) | ((with_reducible apply is_gd); first | refine gt ?_ | refine gf ?_ | refine gu ?_) | ((with_reducible apply is_en); refine en ?_) | (with_reducible apply c_region) | refine ws ?_ | refine x_block_other (by decide) ?_)
  (try ((with_reducible apply is_gd); first | refine gt ?_ | refine gf ?_ | refine gu ?_)); refine ca (rsum_any u _ w2 (hO2.rd (by simp) (by rw [List.length_cons]; omega)) (by rw [List.length_cons]; omega)) ?_
  rintro _ w3 ⟨rfl, hc3⟩
  have hls := shaOf_len (q :: ls.flatten)
  have hC3 := (hC1.ch hc2 (by simp)).ch hc3 (by simp)
  repeat (first | ((with_reducible apply is_st); refine su ?_) | ((with_reducible apply is_gd); first | refine gt ?_ | refine gf ?_ | refine gu ?_) | ((with_reducible apply is_en); refine en ?_) | (with_reducible apply c_region) | refine ws ?_ | refine x_block_other (by decide) ?_)
  refine stbw (n := 32) hC3 rfl rfl (hv_len hls) (by simp) one_u8 (fun w7 hC7 hch7 hs7 => ?_)
  repeat (first | ((with_reducible apply is_st); refine su ?_) | ((with_reducible apply is_gd); first | refine gt ?_ | refine gf ?_ | refine gu ?_) | ((with_reducible apply is_en); refine en ?_) | (with_reducible apply c_region) | refine ws ?_ | refine x_block_other (by decide) ?_)
  exact outc rfl rfl (hC7.row (n := 32) (o := 0) (ds := (shaOf (q :: ls.flatten)).map u8v) (by simp [List.take_of_length_le, hls])) (by simp [hls]) ⟨rfl, ((hc.ch.then hc2).then hc3).own hch7 (by rw [hc.at_]; exact Nat.le_refl _)⟩
end Go.Proofs.YtkpkfplcoakfcaaDoor

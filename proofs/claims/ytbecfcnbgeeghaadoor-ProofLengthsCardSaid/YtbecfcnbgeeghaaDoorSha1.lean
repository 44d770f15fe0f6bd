/- Walks of SHA-256: turning words, the words of a block. -/
import Derived.Test.YtbecfcnbgeeghaaDoorInst
import Derived.Test.YtbecfcnbgeeghaaDoorU
set_option linter.unusedVariables false
set_option linter.unusedSimpArgs false
namespace Go.Proofs.YtbecfcnbgeeghaaDoor
open Go Go.RowKit Go.Proofs.E
attribute [local irreducible] Go.wpList Go.Code.wp Go.Proofs.E.exec Go.Proofs.E.wpLexG

/-! ### Plain words -/
def sg0 (x : UInt32) : UInt32 := rotr x 7 ^^^ rotr x 18 ^^^ (x >>> UInt32.ofNat 3)
def sg1 (x : UInt32) : UInt32 := rotr x 17 ^^^ rotr x 19 ^^^ (x >>> UInt32.ofNat 10)
/-- A word of four bytes. -/
def word (b : List UInt8) (i : Nat) : UInt32 := ((((b.getD (4 * i) 0).toUInt32 <<< UInt32.ofNat 24) ||| ((b.getD (4 * i + 1) 0).toUInt32 <<< UInt32.ofNat 16)) ||| ((b.getD (4 * i + 2) 0).toUInt32 <<< UInt32.ofNat 8)) ||| (b.getD (4 * i + 3) 0).toUInt32
/-- The next of a block's words. -/
def nextW (b : List UInt8) (l : List UInt32) : UInt32 :=
  if l.length < 16 then word b l.length else ((l.getD (l.length - 16) 0 + sg0 (l.getD (l.length - 15) 0)) + l.getD (l.length - 7) 0) + sg1 (l.getD (l.length - 2) 0)
def sch (b : List UInt8) : Nat → List UInt32
  | 0 => []
  | n + 1 => sch b n ++ [nextW b (sch b n)]
theorem sch_len (b : List UInt8) : ∀ n, (sch b n).length = n
  | 0 => rfl
  | n + 1 => by rw [sch, List.length_append, sch_len b n]; rfl

theorem rotl_any (x : UInt32) (r : Nat) (h : 1 ≤ r ∧ r ≤ 31) (w : World) : Calls Tryd.prog 101 #[v32 x, .int .i64 (-(r : Int))] w (Ret fun v w' => v = v32 (rotr x r) ∧ w' = w) := by
  refine enter [v32 x, .int .i64 (-(r : Int)), undef, undef, undef, undef, undef, undef, undef, undef, undef, undef, undef, undef, undef, undef, undef] Tryd.func101 rfl rfl ?_
  repeat (first | ((with_reducible apply is_st); refine su ?_) | ((with_reducible apply is_gd); first | refine gt ?_ | refine gf ?_ | refine gu ?_) | ((with_reducible apply is_en); refine en ?_) | (with_reducible first | apply x_then | apply wp_seq | apply c_region | apply wp_block | apply wp_skip | apply wp_exit | apply wp_ret | apply x_then_ret | apply x_then_exit | apply x_block | apply x_block_ret | apply x_block_exit | refine x_block_other (by decide) ?_))
  refine wl_val (r_and rfl rfl) ?_
  have e : IntKind.u64.wrap (BitVec.ofInt IntKind.u64.bits (IntKind.u64.wrap (-(r : Int))) &&& BitVec.ofInt IntKind.u64.bits 31).toNat = ((32 - r : Nat) : Int) := by
    have : IntKind.u64.wrap (-(r : Int)) = ((2 ^ 64 - r : Nat) : Int) := by
      simp only [IntKind.wrap, IntKind.signed, IntKind.bits, Bool.false_and, Bool.false_eq_true, if_false]
      omega
    rw [this, show (31 : Int) = ((31 : Nat) : Int) by rfl, BitVec.ofInt_natCast, BitVec.ofInt_natCast, BitVec.toNat_and]
    simp only [BitVec.toNat_ofNat, IntKind.bits]
    rw [Nat.mod_eq_of_lt (show 2 ^ 64 - r < 2 ^ 64 by omega), Nat.mod_eq_of_lt (show 31 < 2 ^ 64 by omega), Nat.and_two_pow_sub_one_eq_mod _ 5]
    rw [wrap_u64 (by omega)]
    omega
  rw [e]
  repeat (first | ((with_reducible apply is_st); refine su ?_) | ((with_reducible apply is_gd); first | refine gt ?_ | refine gf ?_ | refine gu ?_) | ((with_reducible apply is_en); refine en ?_) | (with_reducible first | apply x_then | apply wp_seq | apply c_region | apply wp_block | apply wp_skip | apply wp_exit | apply wp_ret | apply x_then_ret | apply x_then_exit | apply x_block | apply x_block_ret | apply x_block_exit | refine x_block_other (by decide) ?_))
  refine out1 rfl ⟨?_, rfl⟩
  show v32 _ = v32 _
  rw [show (32 - ((32 - r : Nat) : Int)).toNat = r by omega]
  unfold rotr
  rw [UInt32.or_comm]
theorem turn_any (x : UInt32) (r : Nat) (h : 1 ≤ r ∧ r ≤ 31) (w : World) : Calls Tryd.prog 98 #[v32 x, .int .u64 (r : Int)] w (Ret fun v w' => v = v32 (rotr x r) ∧ w' = w) := by
  refine enter [v32 x, .int .u64 (r : Int), undef, undef, undef, undef, undef, undef, undef, undef, undef, undef, undef] Tryd.func98 rfl rfl ?_
  repeat (first | ((with_reducible apply is_st); refine su ?_) | ((with_reducible apply is_gd); first | refine gt ?_ | refine gf ?_ | refine gu ?_) | ((with_reducible apply is_en); refine en ?_) | (with_reducible first | apply x_then | apply wp_seq | apply c_region | apply wp_block | apply wp_skip | apply wp_exit | apply wp_ret | apply x_then_ret | apply x_then_exit | apply x_block | apply x_block_ret | apply x_block_exit | refine x_block_other (by decide) ?_))
  refine out1 rfl ⟨?_, rfl⟩
  show v32 _ = v32 _
  rw [show (32 - (r : Int)).toNat = 32 - r by omega]
  rfl

/-! ### A block's words -/
theorem set_next {l : List UInt32} {n j : Nat} {x : UInt32} (hn : l.length < n) (hj : j = l.length) : ((l ++ List.replicate (n - l.length) 0).map v32).set j (v32 x) = ((l ++ [x]) ++ List.replicate (n - (l ++ [x]).length) 0).map v32 := by
  subst hj
  rw [← List.map_set]
  congr 1
  rw [List.set_append_right _ _ (Nat.le_refl _), Nat.sub_self, List.length_append, List.append_assoc]
  congr 1
  obtain ⟨m, hm⟩ : ∃ m, n - l.length = m + 1 := ⟨n - l.length - 1, by omega⟩
  rw [hm, show n - (l.length + [x].length) = m by simp; omega]
  rfl
theorem get_pad {l : List UInt32} {n j i : Nat} (e : j = i) (h : i < l.length) : ((l ++ List.replicate n 0).map v32)[j]? = some (v32 (l.getD i 0)) := by
  rw [mg' v32 0 e (by rw [List.length_append]; omega)]
  rw [List.getD_eq_getElem?_getD, List.getD_eq_getElem?_getD, List.getElem?_append_left h]
set_option maxHeartbeats 4000000 in
theorem schedule_any (bb o : Nat) (bs : List UInt8) (hl : bs.length = 64) (w : World) (hlt : bb < w.heap.size) (hR : w.rangeAt bb o (bs.map u8v)) :
    Calls Tryd.prog 100 #[.pointer (some ⟨bb, o, none⟩)] w (Ret fun v w' => v = .agg ((sch bs 64).map v32).toArray ∧ Ch [] w w') := by
  refine enter [.pointer (some ⟨bb, o, none⟩), undef, undef, undef, undef, undef, undef, undef, undef, undef, undef, undef, undef, undef, undef, undef, undef, undef, undef, undef, undef, undef, undef, undef, undef, undef, undef, undef, undef, undef, undef, undef, undef, undef, undef, undef, undef, undef, undef, undef, undef, undef, undef, undef, undef, undef, undef, undef, undef, undef, undef, undef, undef, undef, undef, undef, undef, undef, undef, undef, undef, undef, undef, undef, undef, undef, undef, undef, undef, undef, undef, undef, undef, undef, undef, undef, undef, undef, undef, undef, undef, undef, undef, undef, undef, undef, undef, undef, undef, undef, undef, undef, undef, undef] Tryd.func100 rfl rfl ?_
  repeat (first | ((with_reducible apply is_st); refine su ?_) | ((with_reducible apply is_gd); first | refine gt ?_ | refine gf ?_ | refine gu ?_) | ((with_reducible apply is_en); refine en ?_) | (with_reducible first | apply x_then | apply wp_seq | apply c_region | apply wp_block | apply wp_skip | apply wp_exit | apply wp_ret | apply x_then_ret | apply x_then_exit | apply x_block | apply x_block_ret | apply x_block_exit | refine x_block_other (by decide) ?_))
  refine wl_alloc (fun w1 c hc => ?_)
  repeat (first | ((with_reducible apply is_st); refine su ?_) | ((with_reducible apply is_gd); first | refine gt ?_ | refine gf ?_ | refine gu ?_) | ((with_reducible apply is_en); refine en ?_) | (with_reducible first | apply x_then | apply wp_seq | apply c_region | apply wp_block | apply wp_skip | apply wp_exit | apply wp_ret | apply x_then_ret | apply x_then_exit | apply x_block | apply x_block_ret | apply x_block_exit | refine x_block_other (by decide) ?_))
  refine wl_alloc (fun w2 bw hb => ?_)
  have hC : Blk w2 c (List.replicate 64 (Value.int .u32 0)) 114 := hc.blk.ch hb.ch (by simp)
  have hW : Blk w2 bw ((sch bs 0 ++ List.replicate (64 - 0) 0).map v32) 114 := hb.blk
  have hcw : c = w.heap.size := hc.at_
  have hbw : bw = c + 1 := by rw [hb.at_, hc.size]
  have hch : Ch [] w w2 := hc.ch.then hb.ch
  repeat (first | ((with_reducible apply is_st); refine su ?_) | ((with_reducible apply is_gd); first | refine gt ?_ | refine gf ?_ | refine gu ?_) | ((with_reducible apply is_en); refine en ?_) | (with_reducible first | apply x_then | apply wp_seq | apply c_region | apply wp_block | apply wp_skip | apply wp_exit | apply wp_ret | apply x_then_ret | apply x_then_exit | apply x_block | apply x_block_ret | apply x_block_exit | refine x_block_other (by decide) ?_))
  
  refine c_loop (fun k l w' => ∃ (i : Nat), (∃ jj : Nat → Value, l = [.pointer (some ⟨bb, o, none⟩), jj 1, .pointer (some ⟨c, 0, none⟩), .pointer (some ⟨bw, 0, none⟩), jj 4, jj 5, jj 6, jj 7, jj 8, .int .i64 (i : Int), jj 10, jj 11, jj 12, jj 13, jj 14, jj 15, jj 16, jj 17, jj 18, jj 19, jj 20, jj 21, jj 22, jj 23, jj 24, jj 25, jj 26, jj 27, jj 28, jj 29, jj 30, jj 31, jj 32, jj 33, jj 34, jj 35, jj 36, jj 37, jj 38, jj 39, jj 40, jj 41, jj 42, jj 43, jj 44, jj 45, jj 46, jj 47, jj 48, jj 49, jj 50, jj 51, jj 52, jj 53, jj 54, jj 55, jj 56, jj 57, jj 58, jj 59, jj 60, jj 61, jj 62, jj 63, jj 64, jj 65, jj 66, jj 67, jj 68, jj 69, jj 70, jj 71, jj 72, jj 73, jj 74, jj 75, jj 76, jj 77, jj 78, jj 79, jj 80, jj 81, jj 82, jj 83, jj 84, jj 85, jj 86, jj 87, jj 88, jj 89, jj 90, jj 91, jj 92, jj 93]) ∧ i + k = 64 ∧ Ch [] w w' ∧ Blk w' c (List.replicate 64 (Value.int .u32 0)) 114 ∧ Blk w' bw ((sch bs i ++ List.replicate (64 - (sch bs i).length) 0).map v32) 114) 64
    ⟨0, exj rfl, rfl, hch, hC, hW⟩ ?_
  rintro k l w3 ⟨i, ⟨jj, rfl⟩, hik, hch3, hC3, hW3⟩
  have hsl := sch_len bs i
  have hR3 := hch3.rangeAt hR hlt (by simp)
  have hlt3 : bb < w3.heap.size := Nat.lt_of_lt_of_le hlt hch3.size
  repeat (first | ((with_reducible apply is_st); refine su ?_) | ((with_reducible apply is_gd); first | refine gt ?_ | refine gf ?_ | refine gu ?_) | ((with_reducible apply is_en); refine en ?_) | (with_reducible first | apply x_then | apply wp_seq | apply c_region | apply wp_block | apply wp_skip | apply wp_exit | apply wp_ret | apply x_then_ret | apply x_then_exit | apply x_block | apply x_block_ret | apply x_block_exit | refine x_block_other (by decide) ?_))
  refine c_cond rfl (fun h => ?_) (fun h => ?_)
  · repeat (first | ((with_reducible apply is_st); refine su ?_) | ((with_reducible apply is_gd); first | refine gt ?_ | refine gf ?_ | refine gu ?_) | ((with_reducible apply is_en); refine en ?_) | (with_reducible first | apply x_then | apply wp_seq | apply c_region | apply wp_block | apply wp_skip | apply wp_exit | apply wp_ret | apply x_then_ret | apply x_then_exit | apply x_block | apply x_block_ret | apply x_block_exit | refine x_block_other (by decide) ?_))
    refine c_cond rfl (fun h16 => ?_) (fun h16 => ?_)
    · repeat (first | ((with_reducible apply is_st); refine su ?_) | ((with_reducible apply is_gd); first | refine gt ?_ | refine gf ?_ | refine gu ?_) | ((with_reducible apply is_en); refine en ?_) | (with_reducible first | apply x_then | apply wp_seq | apply c_region | apply wp_block | apply wp_skip | apply wp_exit | apply wp_ret | apply x_then_ret | apply x_then_exit | apply x_block | apply x_block_ret | apply x_block_exit | refine x_block_other (by decide) ?_))
      refine c_drawl 39 [] (by kernel_rfl) (by kernel_rfl) (by kernel_rfl) (fun w4 hc4 hs4 => ?_)
      have hR4 := hc4.rangeAt hR3 hlt3 (by simp)
      have hlt4 : bb < w4.heap.size := by omega
      have hW4 := hW3.ch hc4 (by simp)
      repeat (first | ((with_reducible apply is_sg); refine sgu ?_) | ((with_reducible apply is_gg); first | refine gtg ?_ | refine gfg ?_ | refine gug ?_) | ((with_reducible apply is_eg); refine eg ?_))
      refine ldrg_ (j := 4 * i) hR4 hlt4 (by simp) rfl (by omega) (mg u8v 0 (by omega)) ?_
      repeat (first | ((with_reducible apply is_sg); refine sgu ?_) | ((with_reducible apply is_gg); first | refine gtg ?_ | refine gfg ?_ | refine gug ?_) | ((with_reducible apply is_eg); refine eg ?_))
      refine ldrg_ (j := 4 * i + 1) hR4 hlt4 (by simp) rfl (by omega) (mg u8v 0 (by omega)) ?_
      repeat (first | ((with_reducible apply is_sg); refine sgu ?_) | ((with_reducible apply is_gg); first | refine gtg ?_ | refine gfg ?_ | refine gug ?_) | ((with_reducible apply is_eg); refine eg ?_))
      refine ldrg_ (j := 4 * i + 2) hR4 hlt4 (by simp) rfl (by omega) (mg u8v 0 (by omega)) ?_
      repeat (first | ((with_reducible apply is_sg); refine sgu ?_) | ((with_reducible apply is_gg); first | refine gtg ?_ | refine gfg ?_ | refine gug ?_) | ((with_reducible apply is_eg); refine eg ?_))
      refine ldrg_ (j := 4 * i + 3) hR4 hlt4 (by simp) rfl (by omega) (mg u8v 0 (by omega)) ?_
      repeat (first | ((with_reducible apply is_sg); refine sgu ?_) | ((with_reducible apply is_gg); first | refine gtg ?_ | refine gfg ?_ | refine gug ?_) | ((with_reducible apply is_eg); refine eg ?_))
      refine lastg rfl (by kernel_rfl) (fun w5 hc5 => ?_)
      refine stb (v := v32 (word bs i)) (hW4.ch hc5 (by simp)) rfl rfl rfl rfl (by simp; omega) (fun w6 hB6 hch6 hs6 => ?_)
      rw [set_next (by omega) (by omega)] at hB6
      refine x_last rfl rfl (fun w7 hc7 => ?_)
      repeat (first | ((with_reducible apply is_st); refine su ?_) | ((with_reducible apply is_gd); first | refine gt ?_ | refine gf ?_ | refine gu ?_) | ((with_reducible apply is_en); refine en ?_) | (with_reducible first | apply x_then | apply wp_seq | apply c_region | apply wp_block | apply wp_skip | apply wp_exit | apply wp_ret | apply x_then_ret | apply x_then_exit | apply x_block | apply x_block_ret | apply x_block_exit | refine x_block_other (by decide) ?_))
      refine x_goes (k - 1) rfl (by omega) ⟨i + 1, exj rfl, by omega, ?_, ?_, ?_⟩
      · exact (((hch3.then hc4).then hc5).own hch6 (by omega)).then hc7
      · exact (((hC3.ch hc4 (by simp)).ch hc5 (by simp)).ch hch6 (by simp; omega)).ch hc7 (by simp)
      · have := hB6.ch hc7 (by simp)
        have e : nextW bs (sch bs i) = word bs i := by unfold nextW; rw [hsl, if_pos (by omega)]
        rw [sch, e]
        exact this
    · repeat (first | ((with_reducible apply is_st); refine su ?_) | ((with_reducible apply is_gd); first | refine gt ?_ | refine gf ?_ | refine gu ?_) | ((with_reducible apply is_en); refine en ?_) | (with_reducible first | apply x_then | apply wp_seq | apply c_region | apply wp_block | apply wp_skip | apply wp_exit | apply wp_ret | apply x_then_ret | apply x_then_exit | apply x_block | apply x_block_ret | apply x_block_exit | refine x_block_other (by decide) ?_))
      refine c_draw [] (by kernel_rfl) (by kernel_rfl) (fun w4 hc4 hs4 => ?_)
      have hW4 := hW3.ch hc4 (by simp)
      repeat (first | ((with_reducible apply is_sg); refine sgu ?_) | ((with_reducible apply is_gg); first | refine gtg ?_ | refine gfg ?_ | refine gug ?_) | ((with_reducible apply is_eg); refine eg ?_))
      refine ldbg hW4 (by simp) rfl (get_pad (i := i - 15) (by omega) (by omega)) ?_
      repeat (first | ((with_reducible apply is_sg); refine sgu ?_) | ((with_reducible apply is_gg); first | refine gtg ?_ | refine gfg ?_ | refine gug ?_) | ((with_reducible apply is_eg); refine eg ?_))
      refine ldbg hW4 (by simp) rfl (get_pad (i := i - 2) (by omega) (by omega)) ?_
      repeat (first | ((with_reducible apply is_sg); refine sgu ?_) | ((with_reducible apply is_gg); first | refine gtg ?_ | refine gfg ?_ | refine gug ?_) | ((with_reducible apply is_eg); refine eg ?_))
      intro w5 hc5
      repeat (first | ((with_reducible apply is_st); refine su ?_) | ((with_reducible apply is_gd); first | refine gt ?_ | refine gf ?_ | refine gu ?_) | ((with_reducible apply is_en); refine en ?_) | (with_reducible first | apply x_then | apply wp_seq | apply c_region | apply wp_block | apply wp_skip | apply wp_exit | apply wp_ret | apply x_then_ret | apply x_then_exit | apply x_block | apply x_block_ret | apply x_block_exit | refine x_block_other (by decide) ?_))
      (try ((with_reducible apply is_gd); first | refine gt ?_ | refine gf ?_ | refine gu ?_)); refine ca (rotl_any _ 7 (by omega) _) ?_
      rintro _ _ ⟨rfl, rfl⟩
      repeat (first | ((with_reducible apply is_st); refine su ?_) | ((with_reducible apply is_gd); first | refine gt ?_ | refine gf ?_ | refine gu ?_) | ((with_reducible apply is_en); refine en ?_) | (with_reducible first | apply x_then | apply wp_seq | apply c_region | apply wp_block | apply wp_skip | apply wp_exit | apply wp_ret | apply x_then_ret | apply x_then_exit | apply x_block | apply x_block_ret | apply x_block_exit | refine x_block_other (by decide) ?_))
      (try ((with_reducible apply is_gd); first | refine gt ?_ | refine gf ?_ | refine gu ?_)); refine ca (rotl_any _ 18 (by omega) _) ?_
      rintro _ _ ⟨rfl, rfl⟩
      repeat (first | ((with_reducible apply is_st); refine su ?_) | ((with_reducible apply is_gd); first | refine gt ?_ | refine gf ?_ | refine gu ?_) | ((with_reducible apply is_en); refine en ?_) | (with_reducible first | apply x_then | apply wp_seq | apply c_region | apply wp_block | apply wp_skip | apply wp_exit | apply wp_ret | apply x_then_ret | apply x_then_exit | apply x_block | apply x_block_ret | apply x_block_exit | refine x_block_other (by decide) ?_))
      (try ((with_reducible apply is_gd); first | refine gt ?_ | refine gf ?_ | refine gu ?_)); refine ca (rotl_any _ 17 (by omega) _) ?_
      rintro _ _ ⟨rfl, rfl⟩
      repeat (first | ((with_reducible apply is_st); refine su ?_) | ((with_reducible apply is_gd); first | refine gt ?_ | refine gf ?_ | refine gu ?_) | ((with_reducible apply is_en); refine en ?_) | (with_reducible first | apply x_then | apply wp_seq | apply c_region | apply wp_block | apply wp_skip | apply wp_exit | apply wp_ret | apply x_then_ret | apply x_then_exit | apply x_block | apply x_block_ret | apply x_block_exit | refine x_block_other (by decide) ?_))
      (try ((with_reducible apply is_gd); first | refine gt ?_ | refine gf ?_ | refine gu ?_)); refine ca (rotl_any _ 19 (by omega) _) ?_
      rintro _ w5 ⟨rfl, rfl⟩
      repeat (first | ((with_reducible apply is_st); refine su ?_) | ((with_reducible apply is_gd); first | refine gt ?_ | refine gf ?_ | refine gu ?_) | ((with_reducible apply is_en); refine en ?_) | (with_reducible first | apply x_then | apply wp_seq | apply c_region | apply wp_block | apply wp_skip | apply wp_exit | apply wp_ret | apply x_then_ret | apply x_then_exit | apply x_block | apply x_block_ret | apply x_block_exit | refine x_block_other (by decide) ?_))
      refine c_drawl 15 [] (by kernel_rfl) (by kernel_rfl) (by kernel_rfl) (fun w6 hc6 hs6 => ?_)
      have hW6 := (hW4.ch hc5 (by simp)).ch hc6 (by simp)
      repeat (first | ((with_reducible apply is_sg); refine sgu ?_) | ((with_reducible apply is_gg); first | refine gtg ?_ | refine gfg ?_ | refine gug ?_) | ((with_reducible apply is_eg); refine eg ?_))
      refine ldbg hW6 (by simp) rfl (get_pad (i := i - 16) (by omega) (by omega)) ?_
      repeat (first | ((with_reducible apply is_sg); refine sgu ?_) | ((with_reducible apply is_gg); first | refine gtg ?_ | refine gfg ?_ | refine gug ?_) | ((with_reducible apply is_eg); refine eg ?_))
      refine ldbg hW6 (by simp) rfl (get_pad (i := i - 7) (by omega) (by omega)) ?_
      repeat (first | ((with_reducible apply is_sg); refine sgu ?_) | ((with_reducible apply is_gg); first | refine gtg ?_ | refine gfg ?_ | refine gug ?_) | ((with_reducible apply is_eg); refine eg ?_))
      refine lastg rfl (by kernel_rfl) (fun w7 hc7 => ?_)
      have e : nextW bs (sch bs i) = (((sch bs i).getD (i - 16) 0 + sg0 ((sch bs i).getD (i - 15) 0)) + (sch bs i).getD (i - 7) 0) + sg1 ((sch bs i).getD (i - 2) 0) := by unfold nextW; rw [hsl, if_neg (by omega)]
      refine stb (v := v32 ((((sch bs i).getD (i - 16) 0 + sg0 ((sch bs i).getD (i - 15) 0)) + (sch bs i).getD (i - 7) 0) + sg1 ((sch bs i).getD (i - 2) 0))) (hW6.ch hc7 (by simp)) rfl rfl rfl rfl (by simp; omega) (fun w8 hB8 hch8 hs8 => ?_)
      rw [set_next (by omega) (by omega), ← e] at hB8
      refine x_last rfl rfl (fun w9 hc9 => ?_)
      repeat (first | ((with_reducible apply is_st); refine su ?_) | ((with_reducible apply is_gd); first | refine gt ?_ | refine gf ?_ | refine gu ?_) | ((with_reducible apply is_en); refine en ?_) | (with_reducible first | apply x_then | apply wp_seq | apply c_region | apply wp_block | apply wp_skip | apply wp_exit | apply wp_ret | apply x_then_ret | apply x_then_exit | apply x_block | apply x_block_ret | apply x_block_exit | refine x_block_other (by decide) ?_))
      refine x_goes (k - 1) rfl (by omega) ⟨i + 1, exj rfl, by omega, ?_, ?_, ?_⟩
      · exact ((((hch3.then hc4).then (hc5.then hc6)).then hc7).own hch8 (by omega)).then hc9
      · exact (((((hC3.ch hc4 (by simp)).ch hc5 (by simp)).ch hc6 (by simp)).ch hc7 (by simp)).ch hch8 (by simp; omega)).ch hc9 (by simp)
      · exact hB8.ch hc9 (by simp)
  · repeat (first | ((with_reducible apply is_st); refine su ?_) | ((with_reducible apply is_gd); first | refine gt ?_ | refine gf ?_ | refine gu ?_) | ((with_reducible apply is_en); refine en ?_) | (with_reducible first | apply x_then | apply wp_seq | apply c_region | apply wp_block | apply wp_skip | apply wp_exit | apply wp_ret | apply x_then_ret | apply x_then_exit | apply x_block | apply x_block_ret | apply x_block_exit | refine x_block_other (by decide) ?_))
    obtain rfl : i = 64 := by omega
    have hz : (sch bs 64 ++ List.replicate (64 - (sch bs 64).length) 0) = sch bs 64 := by rw [hsl]; simp
    rw [hz] at hW3
    refine ldbr hW3 rfl (ds := (sch bs 64).map v32) (by simp [List.take_of_length_le, hsl]) (by simp [hsl]) ?_
    repeat (first | ((with_reducible apply is_st); refine su ?_) | ((with_reducible apply is_gd); first | refine gt ?_ | refine gf ?_ | refine gu ?_) | ((with_reducible apply is_en); refine en ?_) | (with_reducible first | apply x_then | apply wp_seq | apply c_region | apply wp_block | apply wp_skip | apply wp_exit | apply wp_ret | apply x_then_ret | apply x_then_exit | apply x_block | apply x_block_ret | apply x_block_exit | refine x_block_other (by decide) ?_))
    refine stbw hC3 rfl rfl (by simp [hsl]) (by simp) (by intro u hu; obtain ⟨x, _, rfl⟩ := List.mem_map.1 hu; rfl) (fun w4 hB4 hch4 hs4 => ?_)
    repeat (first | ((with_reducible apply is_st); refine su ?_) | ((with_reducible apply is_gd); first | refine gt ?_ | refine gf ?_ | refine gu ?_) | ((with_reducible apply is_en); refine en ?_) | (with_reducible first | apply x_then | apply wp_seq | apply c_region | apply wp_block | apply wp_skip | apply wp_exit | apply wp_ret | apply x_then_ret | apply x_then_exit | apply x_block | apply x_block_ret | apply x_block_exit | refine x_block_other (by decide) ?_))
    exact outc rfl rfl (hB4.row (n := 64) (o := 0) (ds := (sch bs 64).map v32) (by simp [List.take_of_length_le, hsl])) (by simp [hsl]) ⟨rfl, hch3.own hch4 (by omega)⟩
end Go.Proofs.YtbecfcnbgeeghaaDoor

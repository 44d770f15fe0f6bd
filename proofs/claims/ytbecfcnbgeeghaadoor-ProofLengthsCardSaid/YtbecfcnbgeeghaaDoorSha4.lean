/- Walks of SHA-256: from the first state to the sum. -/
import Derived.Test.YtbecfcnbgeeghaaDoorSha3
set_option linter.unusedVariables false
set_option linter.unusedSimpArgs false
namespace Go.Proofs.YtbecfcnbgeeghaaDoor
open Go Go.RowKit Go.Proofs.E
attribute [local irreducible] Go.wpList Go.Code.wp Go.Proofs.E.exec Go.Proofs.E.wpLexG

def H0 : S8 := ⟨0x6a09e667, 0xbb67ae85, 0x3c6ef372, 0xa54ff53a, 0x510e527f, 0x9b05688c, 0x1f83d9ab, 0x5be0cd19⟩
def St0 : St := ⟨H0, List.replicate 64 0, 0⟩
/-- The eight bytes of a length, from the greatest. -/
def lenUp (N : Nat) : Nat → List UInt8
  | 0 => []
  | k + 1 => UInt8.ofNat (N / 2 ^ (8 * k)) :: lenUp N k
/-- What is put behind n bytes. -/
def tail (n : Nat) : List UInt8 := (0x80 :: List.replicate ((120 - (n + 1) % 64) % 64) 0) ++ lenUp (8 * n) 8
def wb (x : UInt32) : List UInt8 := [(x >>> UInt32.ofNat 24).toUInt8, (x >>> UInt32.ofNat 16).toUInt8, (x >>> UInt32.ofNat 8).toUInt8, x.toUInt8]
def byteAt (s : S8) (j : Nat) : UInt8 := (wb (s.l.getD (j / 4) 0)).getD (j % 4) 0
def outK (s : S8) (k : Nat) : List UInt8 := (List.range 32).map fun j => if j < k then byteAt s j else 0
def digest (s : S8) : List UInt8 := outK s 32
def shaOf (bs : List UInt8) : List UInt8 := digest ((bs ++ tail bs.length).foldl put1 St0).h
theorem outK_len (s : S8) (k : Nat) : (outK s k).length = 32 := by simp [outK]
theorem outK_zero (s : S8) : outK s 0 = List.replicate 32 0 := rfl
theorem outK_set (s : S8) {k i : Nat} {x : UInt8} (hi : i = k) (h : k < 32) (hx : x = byteAt s k) : ((outK s k).map u8v).set i (u8v x) = (outK s (k + 1)).map u8v := by
  subst hi hx
  rw [← List.map_set]
  congr 1
  apply List.ext_getElem?
  intro j
  by_cases hj : j < 32
  · rw [List.getElem?_set]
    by_cases hij : i = j
    · subst hij
      simp [outK, hj]
    · rw [if_neg hij]
      simp only [outK, List.getElem?_map, List.getElem?_range hj, Option.map_some]
      congr 1
      by_cases hlt : j < i
      · rw [if_pos hlt, if_pos (by omega)]
      · rw [if_neg hlt, if_neg (by omega)]
  · rw [List.getElem?_eq_none (by simp [outK_len]; omega), List.getElem?_eq_none (by simp [outK_len]; omega)]
theorem byteAt_ (s : S8) (i : Nat) (c : Nat) (hc : c < 4) : byteAt s (4 * i + c) = (wb (s.l.getD i 0)).getD c 0 := by
  unfold byteAt
  rw [show (4 * i + c) / 4 = i by omega, show (4 * i + c) % 4 = c by omega]
theorem shaOf_len (bs : List UInt8) : (shaOf bs).length = 32 := outK_len _ _
theorem put1_n (s : St) : ∀ bs : List UInt8, (bs.foldl put1 s).n = s.n + bs.length
  | [] => rfl
  | x :: bs => by rw [List.foldl_cons, put1_n _ bs, List.length_cons]; show s.n + 1 + _ = _; omega
theorem put1_rest : ∀ (bs : List UInt8) (s : St), s.rest.length = 64 → (bs.foldl put1 s).rest.length = 64
  | [], s, h => h
  | x :: bs, s, h => put1_rest bs (put1 s x) (by simp [put1, h])

theorem fresh_any (w : World) : Calls Tryd.prog 90 #[] w (Ret fun v w' => v = .agg (stc H0 (List.replicate 64 0) 0 true).toArray ∧ Ch [] w w') := by
  refine enter [undef, undef, undef] Tryd.func90 rfl rfl ?_
  repeat (first | ((with_reducible apply is_st); refine su ?_) | ((with_reducible apply is_gd); first | refine gt ?_ | refine gf ?_ | refine gu ?_) | ((with_reducible apply is_en); refine en ?_) | (with_reducible first | apply x_then | apply wp_seq | apply c_region | apply wp_block | apply wp_skip | apply wp_exit | apply wp_ret | apply x_then_ret | apply x_then_exit | apply x_block | apply x_block_ret | apply x_block_exit | refine x_block_other (by decide) ?_))
  refine wl_alloc (fun w1 b hb => ?_)
  repeat (first | ((with_reducible apply is_st); refine su ?_) | ((with_reducible apply is_gd); first | refine gt ?_ | refine gf ?_ | refine gu ?_) | ((with_reducible apply is_en); refine en ?_) | (with_reducible first | apply x_then | apply wp_seq | apply c_region | apply wp_block | apply wp_skip | apply wp_exit | apply wp_ret | apply x_then_ret | apply x_then_exit | apply x_block | apply x_block_ret | apply x_block_exit | refine x_block_other (by decide) ?_))
  refine wl_val (r_build_arr (vs := H0.l.map v32) rfl rfl (by intro u hu; obtain ⟨x, _, rfl⟩ := List.mem_map.1 hu; rfl)) ?_
  repeat (first | ((with_reducible apply is_st); refine su ?_) | ((with_reducible apply is_gd); first | refine gt ?_ | refine gf ?_ | refine gu ?_) | ((with_reducible apply is_en); refine en ?_) | (with_reducible first | apply x_then | apply wp_seq | apply c_region | apply wp_block | apply wp_skip | apply wp_exit | apply wp_ret | apply x_then_ret | apply x_then_exit | apply x_block | apply x_block_ret | apply x_block_exit | refine x_block_other (by decide) ?_))
  have hbuild : ∀ (l : List Value) (T : TypeId) (w : World), ev l (.tmp 1) = .agg (H0.l.map v32).toArray → (exec (ev l) (.build 107 #[(0, .tmp 1), (3, .const (.bool true))]) T).run Tryd.prog w = .ok (.value (.agg (stc H0 (List.replicate 64 0) 0 true).toArray)) w := by
    intro l T w h
    have hz := run_zero (P := Tryd.prog) (E := 107) (w := w)
    have h0 := run_size (P := Tryd.prog) (E := 104) (w := w)
    have h1 := run_size (P := Tryd.prog) (E := 105) (w := w)
    have h2 := run_size (P := Tryd.prog) (E := 3) (w := w)
    have h3 := run_size (P := Tryd.prog) (E := 4) (w := w)
    simp [exec, execOp, Instr.build, run_underlying Tryd.underlying107, hz, h, h0, h1, h2, h3]
    rfl
  refine wl_val (hbuild _ _ _ rfl) ?_
  repeat (first | ((with_reducible apply is_st); refine su ?_) | ((with_reducible apply is_gd); first | refine gt ?_ | refine gf ?_ | refine gu ?_) | ((with_reducible apply is_en); refine en ?_) | (with_reducible first | apply x_then | apply wp_seq | apply c_region | apply wp_block | apply wp_skip | apply wp_exit | apply wp_ret | apply x_then_ret | apply x_then_exit | apply x_block | apply x_block_ret | apply x_block_exit | refine x_block_other (by decide) ?_))
  refine stbw (n := 74) hb.blk rfl rfl rfl rfl (by decide) (fun w2 hB2 hch2 hs2 => ?_)
  repeat (first | ((with_reducible apply is_st); refine su ?_) | ((with_reducible apply is_gd); first | refine gt ?_ | refine gf ?_ | refine gu ?_) | ((with_reducible apply is_en); refine en ?_) | (with_reducible first | apply x_then | apply wp_seq | apply c_region | apply wp_block | apply wp_skip | apply wp_exit | apply wp_ret | apply x_then_ret | apply x_then_exit | apply x_block | apply x_block_ret | apply x_block_exit | refine x_block_other (by decide) ?_))
  exact outc rfl rfl (hB2.row (n := 74) (o := 0) rfl) rfl ⟨rfl, hb.ch.own hch2 (by rw [hb.at_]; exact Nat.le_refl _)⟩

set_option maxHeartbeats 8000000 in
theorem done_any (s : St) (hl : s.rest.length = 64) (m : Bool) (w : World) (hK : Laid w) (hn : s.n ≤ 1152921504606846976) :
    Calls Tryd.prog 92 #[.agg (stc s.h s.rest s.n m).toArray] w (Ret fun u w' => u = .agg ((digest ((tail s.n).foldl put1 s).h).map u8v).toArray ∧ Ch [] w w') := by
  refine enter [.agg (stc s.h s.rest s.n m).toArray, undef, undef, undef, undef, undef, undef, undef, undef, undef, undef, undef, undef, undef, undef, undef, undef, undef, undef, undef, undef, undef, undef, undef, undef, undef, undef, undef, undef, undef, undef, undef, undef, undef, undef, undef, undef, undef, undef, undef, undef, undef, undef, undef, undef, undef, undef, undef, undef, undef, undef, undef, undef, undef, undef, undef, undef, undef, undef, undef, undef, undef, undef, undef] Tryd.func92 rfl rfl ?_
  repeat (first | ((with_reducible apply is_st); refine su ?_) | ((with_reducible apply is_gd); first | refine gt ?_ | refine gf ?_ | refine gu ?_) | ((with_reducible apply is_en); refine en ?_) | (with_reducible first | apply x_then | apply wp_seq | apply c_region | apply wp_block | apply wp_skip | apply wp_exit | apply wp_ret | apply x_then_ret | apply x_then_exit | apply x_block | apply x_block_ret | apply x_block_exit | refine x_block_other (by decide) ?_))
  refine wl_box (v := .agg (stc s.h s.rest s.n m).toArray) rfl (fun w1 b hb => ?_)
  repeat (first | ((with_reducible apply is_st); refine su ?_) | ((with_reducible apply is_gd); first | refine gt ?_ | refine gf ?_ | refine gu ?_) | ((with_reducible apply is_en); refine en ?_) | (with_reducible first | apply x_then | apply wp_seq | apply c_region | apply wp_block | apply wp_skip | apply wp_exit | apply wp_ret | apply x_then_ret | apply x_then_exit | apply x_block | apply x_block_ret | apply x_block_exit | refine x_block_other (by decide) ?_))
  refine wl_alloc (fun w2 c hc => ?_)
  have hbw : b = w.heap.size := hb.at_
  have hcb : c = b + 1 := by rw [hc.at_, hb.size]
  have hlen : s.rest.length = 64 := hl
  have hB2 : Blk w2 b (stc s.h s.rest s.n m) 107 := by
    have := hb.blk.ch hc.ch (by simp)
    exact this
  have hC2 : Blk w2 c ((List.replicate 32 (0 : UInt8)).map u8v) 26 := hc.blk
  have hK2 : Laid w2 := (hK.ch hb.ch (by simp)).ch hc.ch (by simp)
  have h2w := hK.1
  have hc2 : Ch [] w w2 := hb.ch.then hc.ch
  repeat (first | ((with_reducible apply is_st); refine su ?_) | ((with_reducible apply is_gd); first | refine gt ?_ | refine gf ?_ | refine gu ?_) | ((with_reducible apply is_en); refine en ?_) | (with_reducible first | apply x_then | apply wp_seq | apply c_region | apply wp_block | apply wp_skip | apply wp_exit | apply wp_ret | apply x_then_ret | apply x_then_exit | apply x_block | apply x_block_ret | apply x_block_exit | refine x_block_other (by decide) ?_))
  refine ldb (v := .int .i64 (s.n : Int)) hB2 rfl (stc_n hl) ?_
  repeat (first | ((with_reducible apply is_st); refine su ?_) | ((with_reducible apply is_gd); first | refine gt ?_ | refine gf ?_ | refine gu ?_) | ((with_reducible apply is_en); refine en ?_) | (with_reducible first | apply x_then | apply wp_seq | apply c_region | apply wp_block | apply wp_skip | apply wp_exit | apply wp_ret | apply x_then_ret | apply x_then_exit | apply x_block | apply x_block_ret | apply x_block_exit | refine x_block_other (by decide) ?_))
  refine wl_buildSlice (vs := [u8v 0x80]) rfl rfl (by decide) (by decide) (fun w3 d3 hd3 => ?_)
  have hD3 : Blk w3 d3 ([(0x80 : UInt8)].map u8v) 5 := hd3.blk
  have hd3w : w.heap.size + 2 ≤ d3 := by rw [hd3.at_]; have := hc.size; omega
  have hsz : (IntKind.u64.wrap ((s.n : Int) * 2 ^ min (3 : Int).toNat IntKind.u64.bits)) = ((8 * s.n : Nat) : Int) := by
    rw [show (2 : Int) ^ min (3 : Int).toNat IntKind.u64.bits = 8 by decide]
    rw [wrap_u64 (by omega)]
    omega
  repeat (first | ((with_reducible apply is_st); refine su ?_) | ((with_reducible apply is_gd); first | refine gt ?_ | refine gf ?_ | refine gu ?_) | ((with_reducible apply is_en); refine en ?_) | (with_reducible first | apply x_then | apply wp_seq | apply c_region | apply wp_block | apply wp_skip | apply wp_exit | apply wp_ret | apply x_then_ret | apply x_then_exit | apply x_block | apply x_block_ret | apply x_block_exit | refine x_block_other (by decide) ?_))
  (try ((with_reducible apply is_gd); first | refine gt ?_ | refine gf ?_ | refine gu ?_)); refine ca (take_any b 107 s hl m _ [0x80] w3 (hB2.ch hd3.ch (by simp)) (hK2.ch hd3.ch (by simp)) (by omega) (hD3.rd8 (cap := 1) (by simp; omega) (by decide) (by decide)) (by simp; omega)) ?_
  rintro _ w4 ⟨rfl, hB4, hc4⟩
  have hC4 := (hC2.ch hd3.ch (by simp)).ch hc4 (by simp; omega)
  have hc24 : Ch [] w w4 := (hc2.then hd3.ch).own hc4 (by omega)
  repeat (first | ((with_reducible apply is_st); refine su ?_) | ((with_reducible apply is_gd); first | refine gt ?_ | refine gf ?_ | refine gu ?_) | ((with_reducible apply is_en); refine en ?_) | (with_reducible first | apply x_then | apply wp_seq | apply c_region | apply wp_block | apply wp_skip | apply wp_exit | apply wp_ret | apply x_then_ret | apply x_then_exit | apply x_block | apply x_block_ret | apply x_block_exit | refine x_block_other (by decide) ?_))
  rw [hsz]
  
  generalize hfin : (tail s.n).foldl put1 s = fin
  have hl4 : ([(0x80 : UInt8)].foldl put1 s).rest.length = 64 := put1_rest _ _ hl
  have hn4 : ([(0x80 : UInt8)].foldl put1 s).n = s.n + 1 := put1_n _ _
  have hf4 : (List.replicate ((120 - (s.n + 1) % 64) % 64) 0 ++ lenUp (8 * s.n) 8).foldl put1 ([(0x80 : UInt8)].foldl put1 s) = fin := by
    rw [← hfin]
    rfl
  generalize [(0x80 : UInt8)].foldl put1 s = s4 at hB4 hl4 hn4 hf4
  refine c_loop (fun k l w' => ∃ (s' : St), (∃ jj : Nat → Value, l = [jj 0, .pointer (some ⟨b, 0, none⟩), .pointer (some ⟨c, 0, none⟩), .int .u64 ((8 * s.n : Nat) : Int), jj 4, jj 5, jj 6, jj 7, jj 8, jj 9, jj 10, jj 11, jj 12, jj 13, jj 14, jj 15, jj 16, jj 17, jj 18, jj 19, jj 20, jj 21, jj 22, jj 23, jj 24, jj 25, jj 26, jj 27, jj 28, jj 29, jj 30, jj 31, jj 32, jj 33, jj 34, jj 35, jj 36, jj 37, jj 38, jj 39, jj 40, jj 41, jj 42, jj 43, jj 44, jj 45, jj 46, jj 47, jj 48, jj 49, jj 50, jj 51, jj 52, jj 53, jj 54, jj 55, jj 56, jj 57, jj 58, jj 59, jj 60, jj 61, jj 62, jj 63]) ∧ k = (120 - s'.n % 64) % 64 ∧ (List.replicate k 0 ++ lenUp (8 * s.n) 8).foldl put1 s' = fin ∧ s'.rest.length = 64 ∧ s'.n + k ≤ s.n + 64 ∧ Ch [] w w' ∧ Blk w' b (stc s'.h s'.rest s'.n m) 107 ∧ Blk w' c ((List.replicate 32 (0 : UInt8)).map u8v) 26) ((120 - (s.n + 1) % 64) % 64)
    ⟨s4, exj rfl, by rw [hn4], hf4, hl4, by rw [hn4]; omega, hc24, hB4, hC4⟩ ?_
  rintro k l w5 ⟨s5, ⟨jj, rfl⟩, hk5, hf5, hl5, hn5, hc5, hB5, hC5⟩
  repeat (first | ((with_reducible apply is_st); refine su ?_) | ((with_reducible apply is_gd); first | refine gt ?_ | refine gf ?_ | refine gu ?_) | ((with_reducible apply is_en); refine en ?_) | (with_reducible first | apply x_then | apply wp_seq | apply c_region | apply wp_block | apply wp_skip | apply wp_exit | apply wp_ret | apply x_then_ret | apply x_then_exit | apply x_block | apply x_block_ret | apply x_block_exit | refine x_block_other (by decide) ?_))
  refine ldb (v := .int .i64 (s5.n : Int)) hB5 rfl (stc_n hl5) ?_
  repeat (first | ((with_reducible apply is_st); refine su ?_) | ((with_reducible apply is_gd); first | refine gt ?_ | refine gf ?_ | refine gu ?_) | ((with_reducible apply is_en); refine en ?_) | (with_reducible first | apply x_then | apply wp_seq | apply c_region | apply wp_block | apply wp_skip | apply wp_exit | apply wp_ret | apply x_then_ret | apply x_then_exit | apply x_block | apply x_block_ret | apply x_block_exit | refine x_block_other (by decide) ?_))
  rw [show ((s5.n : Int)).tmod 64 = ((s5.n % 64 : Nat) : Int) by rfl]
  refine c_cond rfl (fun h56 => ?_) (fun h56 => ?_)
  · repeat (first | ((with_reducible apply is_st); refine su ?_) | ((with_reducible apply is_gd); first | refine gt ?_ | refine gf ?_ | refine gu ?_) | ((with_reducible apply is_en); refine en ?_) | (with_reducible first | apply x_then | apply wp_seq | apply c_region | apply wp_block | apply wp_skip | apply wp_exit | apply wp_ret | apply x_then_ret | apply x_then_exit | apply x_block | apply x_block_ret | apply x_block_exit | refine x_block_other (by decide) ?_))
    refine wl_buildSlice (vs := [u8v 0]) rfl rfl (by decide) (by decide) (fun w6 d6 hd6 => ?_)
    have hD6 : Blk w6 d6 ([(0 : UInt8)].map u8v) 5 := hd6.blk
    have hd6w : c < d6 := by rw [hd6.at_]; exact hC5.lt
    repeat (first | ((with_reducible apply is_st); refine su ?_) | ((with_reducible apply is_gd); first | refine gt ?_ | refine gf ?_ | refine gu ?_) | ((with_reducible apply is_en); refine en ?_) | (with_reducible first | apply x_then | apply wp_seq | apply c_region | apply wp_block | apply wp_skip | apply wp_exit | apply wp_ret | apply x_then_ret | apply x_then_exit | apply x_block | apply x_block_ret | apply x_block_exit | refine x_block_other (by decide) ?_))
    (try ((with_reducible apply is_gd); first | refine gt ?_ | refine gf ?_ | refine gu ?_)); refine ca (take_any b 107 s5 hl5 m _ [0] w6 (hB5.ch hd6.ch (by simp)) ((hK.ch hc5 (by simp)).ch hd6.ch (by simp)) (by omega) (hD6.rd8 (cap := 1) (by simp; omega) (by decide) (by decide)) (by simp; omega)) ?_
    rintro _ w7 ⟨rfl, hB7, hc7⟩
    repeat (first | ((with_reducible apply is_st); refine su ?_) | ((with_reducible apply is_gd); first | refine gt ?_ | refine gf ?_ | refine gu ?_) | ((with_reducible apply is_en); refine en ?_) | (with_reducible first | apply x_then | apply wp_seq | apply c_region | apply wp_block | apply wp_skip | apply wp_exit | apply wp_ret | apply x_then_ret | apply x_then_exit | apply x_block | apply x_block_ret | apply x_block_exit | refine x_block_other (by decide) ?_))
    obtain ⟨k, rfl⟩ : ∃ k', k = k' + 1 := ⟨k - 1, by omega⟩
    have hn7 : ([(0 : UInt8)].foldl put1 s5).n = s5.n + 1 := put1_n _ _
    refine x_goes k rfl (by omega) ⟨[(0 : UInt8)].foldl put1 s5, exj rfl, by rw [hn7]; omega, by rw [← hf5]; rfl, put1_rest _ _ hl5, by rw [hn7]; omega, (hc5.then hd6.ch).own hc7 (by omega), hB7, (hC5.ch hd6.ch (by simp)).ch hc7 (by simp; omega)⟩
  · have hk0 : k = 0 := by omega
    subst hk0
    repeat (first | ((with_reducible apply is_st); refine su ?_) | ((with_reducible apply is_gd); first | refine gt ?_ | refine gf ?_ | refine gu ?_) | ((with_reducible apply is_en); refine en ?_) | (with_reducible first | apply x_then | apply wp_seq | apply c_region | apply wp_block | apply wp_skip | apply wp_exit | apply wp_ret | apply x_then_ret | apply x_then_exit | apply x_block | apply x_block_ret | apply x_block_exit | refine x_block_other (by decide) ?_))
    
    refine c_loop (fun k l w' => ∃ (s' : St), (∃ jj : Nat → Value, l = [jj 0, .pointer (some ⟨b, 0, none⟩), .pointer (some ⟨c, 0, none⟩), .int .u64 ((8 * s.n : Nat) : Int), .int .i64 (8 * (k : Int) - 8), jj 5, jj 6, jj 7, jj 8, jj 9, jj 10, jj 11, jj 12, jj 13, jj 14, jj 15, jj 16, jj 17, jj 18, jj 19, jj 20, jj 21, jj 22, jj 23, jj 24, jj 25, jj 26, jj 27, jj 28, jj 29, jj 30, jj 31, jj 32, jj 33, jj 34, jj 35, jj 36, jj 37, jj 38, jj 39, jj 40, jj 41, jj 42, jj 43, jj 44, jj 45, jj 46, jj 47, jj 48, jj 49, jj 50, jj 51, jj 52, jj 53, jj 54, jj 55, jj 56, jj 57, jj 58, jj 59, jj 60, jj 61, jj 62, jj 63]) ∧ k ≤ 8 ∧ (lenUp (8 * s.n) k).foldl put1 s' = fin ∧ s'.rest.length = 64 ∧ s'.n + k ≤ s.n + 72 ∧ Ch [] w w' ∧ Blk w' b (stc s'.h s'.rest s'.n m) 107 ∧ Blk w' c ((List.replicate 32 (0 : UInt8)).map u8v) 26) 8
      ⟨s5, exj rfl, by omega, hf5, hl5, by omega, hc5, hB5, hC5⟩ ?_
    rintro k l w6 ⟨s6, ⟨jj, rfl⟩, hk6, hf6, hl6, hn6, hc6, hB6, hC6⟩
    repeat (first | ((with_reducible apply is_st); refine su ?_) | ((with_reducible apply is_gd); first | refine gt ?_ | refine gf ?_ | refine gu ?_) | ((with_reducible apply is_en); refine en ?_) | (with_reducible first | apply x_then | apply wp_seq | apply c_region | apply wp_block | apply wp_skip | apply wp_exit | apply wp_ret | apply x_then_ret | apply x_then_exit | apply x_block | apply x_block_ret | apply x_block_exit | refine x_block_other (by decide) ?_))
    refine c_cond rfl (fun h8 => ?_) (fun h8 => ?_)
    · obtain ⟨k, rfl⟩ : ∃ k', k = k' + 1 := ⟨k - 1, by omega⟩
      have he : IntKind.u8.wrap (((8 * s.n : Nat) : Int).fdiv (2 ^ min (8 * ((k + 1 : Nat) : Int) - 8).toNat IntKind.u64.bits)) = ((UInt8.ofNat (8 * s.n / 2 ^ (8 * k))).toNat : Int) := by
        rw [show (8 * ((k + 1 : Nat) : Int) - 8).toNat = 8 * k by omega, Nat.min_eq_left (show 8 * k ≤ IntKind.u64.bits by simp only [IntKind.bits]; omega)]
        rw [show ((2 : Int) ^ (8 * k)) = ((2 ^ (8 * k) : Nat) : Int) by simp, Int.fdiv_eq_ediv_of_nonneg _ (by exact_mod_cast Nat.zero_le _), ← Int.natCast_ediv, wrap8, UInt8.toNat_ofNat']
      repeat (first | ((with_reducible apply is_st); refine su ?_) | ((with_reducible apply is_gd); first | refine gt ?_ | refine gf ?_ | refine gu ?_) | ((with_reducible apply is_en); refine en ?_) | (with_reducible first | apply x_then | apply wp_seq | apply c_region | apply wp_block | apply wp_skip | apply wp_exit | apply wp_ret | apply x_then_ret | apply x_then_exit | apply x_block | apply x_block_ret | apply x_block_exit | refine x_block_other (by decide) ?_))
      rw [he]
      refine wl_buildSlice (vs := [u8v (UInt8.ofNat (8 * s.n / 2 ^ (8 * k)))]) rfl rfl (by intro v hv; simp at hv; subst hv; rfl) (by decide) (fun w7 d7 hd7 => ?_)
      have hD7 : Blk w7 d7 ([UInt8.ofNat (8 * s.n / 2 ^ (8 * k))].map u8v) 5 := hd7.blk
      have hd7w : c < d7 := by rw [hd7.at_]; exact hC6.lt
      repeat (first | ((with_reducible apply is_st); refine su ?_) | ((with_reducible apply is_gd); first | refine gt ?_ | refine gf ?_ | refine gu ?_) | ((with_reducible apply is_en); refine en ?_) | (with_reducible first | apply x_then | apply wp_seq | apply c_region | apply wp_block | apply wp_skip | apply wp_exit | apply wp_ret | apply x_then_ret | apply x_then_exit | apply x_block | apply x_block_ret | apply x_block_exit | refine x_block_other (by decide) ?_))
      (try ((with_reducible apply is_gd); first | refine gt ?_ | refine gf ?_ | refine gu ?_)); refine ca (take_any b 107 s6 hl6 m _ [UInt8.ofNat (8 * s.n / 2 ^ (8 * k))] w7 (hB6.ch hd7.ch (by simp)) ((hK.ch hc6 (by simp)).ch hd7.ch (by simp)) (by omega) (hD7.rd8 (cap := 1) (by simp; omega) (by simp) (by simp)) (by simp; omega)) ?_
      rintro _ w8 ⟨rfl, hB8, hc8⟩
      repeat (first | ((with_reducible apply is_st); refine su ?_) | ((with_reducible apply is_gd); first | refine gt ?_ | refine gf ?_ | refine gu ?_) | ((with_reducible apply is_en); refine en ?_) | (with_reducible first | apply x_then | apply wp_seq | apply c_region | apply wp_block | apply wp_skip | apply wp_exit | apply wp_ret | apply x_then_ret | apply x_then_exit | apply x_block | apply x_block_ret | apply x_block_exit | refine x_block_other (by decide) ?_))
      have hn8 : ([UInt8.ofNat (8 * s.n / 2 ^ (8 * k))].foldl put1 s6).n = s6.n + 1 := put1_n _ _
      refine x_goes k rfl (by omega) ⟨[UInt8.ofNat (8 * s.n / 2 ^ (8 * k))].foldl put1 s6, exj (by rw [show 8 * (k : Int) - 8 = 8 * ((k + 1 : Nat) : Int) - 8 - 8 by omega]; rfl), by omega, by rw [← hf6]; rfl, put1_rest _ _ hl6, by rw [hn8]; omega, (hc6.then hd7.ch).own hc8 (by omega), hB8, (hC6.ch hd7.ch (by simp)).ch hc8 (by simp; omega)⟩
    · have hk0 : k = 0 := by omega
      subst hk0
      have hf6' : s6 = fin := hf6
      subst hf6'
      repeat (first | ((with_reducible apply is_st); refine su ?_) | ((with_reducible apply is_gd); first | refine gt ?_ | refine gf ?_ | refine gu ?_) | ((with_reducible apply is_en); refine en ?_) | (with_reducible first | apply x_then | apply wp_seq | apply c_region | apply wp_block | apply wp_skip | apply wp_exit | apply wp_ret | apply x_then_ret | apply x_then_exit | apply x_block | apply x_block_ret | apply x_block_exit | refine x_block_other (by decide) ?_))
      refine wl_alloc (fun w7 d hd => ?_)
      have hD7 : Blk w7 d ((outK s6.h (4 * 0)).map u8v) 26 := hd.blk
      have hdc : c < d := by rw [hd.at_]; exact hC6.lt
      have hc7 : Ch [] w w7 := hc6.then hd.ch
      have hC7 := hC6.ch hd.ch (by simp)
      repeat (first | ((with_reducible apply is_st); refine su ?_) | ((with_reducible apply is_gd); first | refine gt ?_ | refine gf ?_ | refine gu ?_) | ((with_reducible apply is_en); refine en ?_) | (with_reducible first | apply x_then | apply wp_seq | apply c_region | apply wp_block | apply wp_skip | apply wp_exit | apply wp_ret | apply x_then_ret | apply x_then_exit | apply x_block | apply x_block_ret | apply x_block_exit | refine x_block_other (by decide) ?_))
      refine ldbr (hB6.ch hd.ch (by simp)) rfl (ds := s6.h.l.map v32) rfl rfl ?_
      repeat (first | ((with_reducible apply is_st); refine su ?_) | ((with_reducible apply is_gd); first | refine gt ?_ | refine gf ?_ | refine gu ?_) | ((with_reducible apply is_en); refine en ?_) | (with_reducible first | apply x_then | apply wp_seq | apply c_region | apply wp_block | apply wp_skip | apply wp_exit | apply wp_ret | apply x_then_ret | apply x_then_exit | apply x_block | apply x_block_ret | apply x_block_exit | refine x_block_other (by decide) ?_))
      
      refine c_loop (fun k l w' => ∃ (i : Nat), (∃ jj : Nat → Value, l = [jj 0, .pointer (some ⟨b, 0, none⟩), .pointer (some ⟨c, 0, none⟩), jj 3, jj 4, .pointer (some ⟨d, 0, none⟩), jj 6, jj 7, jj 8, jj 9, jj 10, jj 11, jj 12, jj 13, jj 14, jj 15, jj 16, jj 17, jj 18, jj 19, jj 20, jj 21, jj 22, jj 23, jj 24, jj 25, jj 26, jj 27, jj 28, jj 29, jj 30, .agg (s6.h.l.map v32).toArray, .int .i64 (i : Int), jj 33, jj 34, jj 35, jj 36, jj 37, jj 38, jj 39, jj 40, jj 41, jj 42, jj 43, jj 44, jj 45, jj 46, jj 47, jj 48, jj 49, jj 50, jj 51, jj 52, jj 53, jj 54, jj 55, jj 56, jj 57, jj 58, jj 59, jj 60, jj 61, jj 62, jj 63]) ∧ i + k = 8 ∧ Ch [] w w' ∧ Blk w' c ((List.replicate 32 (0 : UInt8)).map u8v) 26 ∧ Blk w' d ((outK s6.h (4 * i)).map u8v) 26) 8
        ⟨0, exj rfl, rfl, hc7, hC7, hD7⟩ ?_
      rintro k l w8 ⟨i, ⟨jj, rfl⟩, hik, hc8, hC8, hD8⟩
      have hol := outK_len s6.h
      repeat (first | ((with_reducible apply is_st); refine su ?_) | ((with_reducible apply is_gd); first | refine gt ?_ | refine gf ?_ | refine gu ?_) | ((with_reducible apply is_en); refine en ?_) | (with_reducible first | apply x_then | apply wp_seq | apply c_region | apply wp_block | apply wp_skip | apply wp_exit | apply wp_ret | apply x_then_ret | apply x_then_exit | apply x_block | apply x_block_ret | apply x_block_exit | refine x_block_other (by decide) ?_))
      refine c_cond rfl (fun h8 => ?_) (fun h8 => ?_)
      · repeat (first | ((with_reducible apply is_st); refine su ?_) | ((with_reducible apply is_gd); first | refine gt ?_ | refine gf ?_ | refine gu ?_) | ((with_reducible apply is_en); refine en ?_) | (with_reducible first | apply x_then | apply wp_seq | apply c_region | apply wp_block | apply wp_skip | apply wp_exit | apply wp_ret | apply x_then_ret | apply x_then_exit | apply x_block | apply x_block_ret | apply x_block_exit | refine x_block_other (by decide) ?_))
        refine wl_val (r_index_one (v := v32 (s6.h.l.getD i 0)) rfl rfl (by omega) (by omega) (mg' v32 (i := i) 0 (by omega) (by show i < 8; omega))) ?_
        repeat (first | ((with_reducible apply is_st); refine su ?_) | ((with_reducible apply is_gd); first | refine gt ?_ | refine gf ?_ | refine gu ?_) | ((with_reducible apply is_en); refine en ?_) | (with_reducible first | apply x_then | apply wp_seq | apply c_region | apply wp_block | apply wp_skip | apply wp_exit | apply wp_ret | apply x_then_ret | apply x_then_exit | apply x_block | apply x_block_ret | apply x_block_exit | refine x_block_other (by decide) ?_))
        refine stb (v := u8v (s6.h.l.getD i 0 >>> UInt32.ofNat 24).toUInt8) hD8 rfl rfl rfl rfl (by simp [hol]; omega) (fun w9 hD9 hch9 hs9 => ?_)
        rw [outK_set s6.h (k := 4 * i) (x := (s6.h.l.getD i 0 >>> UInt32.ofNat 24).toUInt8) (by omega) (by omega) (byteAt_ s6.h i 0 (by omega)).symm] at hD9
        repeat (first | ((with_reducible apply is_st); refine su ?_) | ((with_reducible apply is_gd); first | refine gt ?_ | refine gf ?_ | refine gu ?_) | ((with_reducible apply is_en); refine en ?_) | (with_reducible first | apply x_then | apply wp_seq | apply c_region | apply wp_block | apply wp_skip | apply wp_exit | apply wp_ret | apply x_then_ret | apply x_then_exit | apply x_block | apply x_block_ret | apply x_block_exit | refine x_block_other (by decide) ?_))
        refine stb (v := u8v (s6.h.l.getD i 0 >>> UInt32.ofNat 16).toUInt8) hD9 rfl rfl rfl rfl (by simp [hol]; omega) (fun w10 hD10 hch10 hs10 => ?_)
        rw [outK_set s6.h (k := 4 * i + 1) (x := (s6.h.l.getD i 0 >>> UInt32.ofNat 16).toUInt8) (by omega) (by omega) (byteAt_ s6.h i 1 (by omega)).symm] at hD10
        repeat (first | ((with_reducible apply is_st); refine su ?_) | ((with_reducible apply is_gd); first | refine gt ?_ | refine gf ?_ | refine gu ?_) | ((with_reducible apply is_en); refine en ?_) | (with_reducible first | apply x_then | apply wp_seq | apply c_region | apply wp_block | apply wp_skip | apply wp_exit | apply wp_ret | apply x_then_ret | apply x_then_exit | apply x_block | apply x_block_ret | apply x_block_exit | refine x_block_other (by decide) ?_))
        refine stb (v := u8v (s6.h.l.getD i 0 >>> UInt32.ofNat 8).toUInt8) hD10 rfl rfl rfl rfl (by simp [hol]; omega) (fun w11 hD11 hch11 hs11 => ?_)
        rw [outK_set s6.h (k := 4 * i + 2) (x := (s6.h.l.getD i 0 >>> UInt32.ofNat 8).toUInt8) (by omega) (by omega) (byteAt_ s6.h i 2 (by omega)).symm] at hD11
        repeat (first | ((with_reducible apply is_st); refine su ?_) | ((with_reducible apply is_gd); first | refine gt ?_ | refine gf ?_ | refine gu ?_) | ((with_reducible apply is_en); refine en ?_) | (with_reducible first | apply x_then | apply wp_seq | apply c_region | apply wp_block | apply wp_skip | apply wp_exit | apply wp_ret | apply x_then_ret | apply x_then_exit | apply x_block | apply x_block_ret | apply x_block_exit | refine x_block_other (by decide) ?_))
        refine stb (v := u8v (s6.h.l.getD i 0).toUInt8) hD11 rfl rfl rfl rfl (by simp [hol]; omega) (fun w12 hD12 hch12 hs12 => ?_)
        rw [outK_set s6.h (k := 4 * i + 3) (x := (s6.h.l.getD i 0).toUInt8) (by omega) (by omega) (byteAt_ s6.h i 3 (by omega)).symm] at hD12
        have hch : Ch [d] w8 w12 := ((hch9.then hch10).then hch11).then hch12
        repeat (first | ((with_reducible apply is_st); refine su ?_) | ((with_reducible apply is_gd); first | refine gt ?_ | refine gf ?_ | refine gu ?_) | ((with_reducible apply is_en); refine en ?_) | (with_reducible first | apply x_then | apply wp_seq | apply c_region | apply wp_block | apply wp_skip | apply wp_exit | apply wp_ret | apply x_then_ret | apply x_then_exit | apply x_block | apply x_block_ret | apply x_block_exit | refine x_block_other (by decide) ?_))
        refine x_goes (k - 1) rfl (by omega) ⟨i + 1, exj rfl, by omega, hc8.own hch (by omega), hC8.ch hch (by simp; omega), ?_⟩
        rw [show 4 * (i + 1) = 4 * i + 3 + 1 by omega]
        exact hD12
      · obtain rfl : i = 8 := by omega
        repeat (first | ((with_reducible apply is_st); refine su ?_) | ((with_reducible apply is_gd); first | refine gt ?_ | refine gf ?_ | refine gu ?_) | ((with_reducible apply is_en); refine en ?_) | (with_reducible first | apply x_then | apply wp_seq | apply c_region | apply wp_block | apply wp_skip | apply wp_exit | apply wp_ret | apply x_then_ret | apply x_then_exit | apply x_block | apply x_block_ret | apply x_block_exit | refine x_block_other (by decide) ?_))
        refine ldbr hD8 rfl (ds := (digest s6.h).map u8v) (by simp [digest, List.take_of_length_le, hol]) (by simp [digest, hol]) ?_
        repeat (first | ((with_reducible apply is_st); refine su ?_) | ((with_reducible apply is_gd); first | refine gt ?_ | refine gf ?_ | refine gu ?_) | ((with_reducible apply is_en); refine en ?_) | (with_reducible first | apply x_then | apply wp_seq | apply c_region | apply wp_block | apply wp_skip | apply wp_exit | apply wp_ret | apply x_then_ret | apply x_then_exit | apply x_block | apply x_block_ret | apply x_block_exit | refine x_block_other (by decide) ?_))
        refine stbw (n := 32) hC8 rfl rfl (by simp [digest, hol]) (by simp) one_u8 (fun w9 hC9 hch9 hs9 => ?_)
        repeat (first | ((with_reducible apply is_st); refine su ?_) | ((with_reducible apply is_gd); first | refine gt ?_ | refine gf ?_ | refine gu ?_) | ((with_reducible apply is_en); refine en ?_) | (with_reducible first | apply x_then | apply wp_seq | apply c_region | apply wp_block | apply wp_skip | apply wp_exit | apply wp_ret | apply x_then_ret | apply x_then_exit | apply x_block | apply x_block_ret | apply x_block_exit | refine x_block_other (by decide) ?_))
        exact outc rfl rfl (hC9.row (n := 32) (o := 0) (ds := (digest s6.h).map u8v) (by simp [digest, List.take_of_length_le, hol])) (by simp [digest, hol]) ⟨rfl, hc8.own hch9 (by omega)⟩
end Go.Proofs.YtbecfcnbgeeghaaDoor

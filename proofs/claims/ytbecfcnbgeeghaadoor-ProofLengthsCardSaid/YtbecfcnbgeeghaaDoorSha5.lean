/- Walks: the sum of bytes, of a kind, of two nodes. -/
import Derived.Test.YtbecfcnbgeeghaaDoorSha4
import Derived.Test.YtbecfcnbgeeghaaDoorV
set_option linter.unusedVariables false
set_option linter.unusedSimpArgs false
namespace Go.Proofs.YtbecfcnbgeeghaaDoor
open Go Go.RowKit Go.Proofs.E
attribute [local irreducible] Go.wpList Go.Code.wp Go.Proofs.E.exec Go.Proofs.E.wpLexG

/-- A sum's bytes as a value. -/
def hv (a : List UInt8) : Value := .agg (a.map u8v).toArray
def nodeOf (a b : List UInt8) : List UInt8 := shaOf (1 :: (a ++ b))
def emptyOf : List UInt8 := shaOf []
theorem nodeOf_len (a b : List UInt8) : (nodeOf a b).length = 32 := shaOf_len _
theorem hv_len {a : List UInt8} (h : a.length = 32) : (a.map u8v).length = 32 := by simp [h]

theorem sum_any (v : Value) (bs : List UInt8) (w : World) (hK : Laid w) (hR : (Ty.enc eU8).Rd [] w v bs) (hle : bs.length ≤ 281474976710656) :
    Calls Tryd.prog 79 #[v] w (Ret fun u w' => u = hv (shaOf bs) ∧ Ch [] w w') := by
  refine enter [v, undef, undef, undef, undef, undef, undef, undef, undef] Tryd.func79 rfl rfl ?_
  have h2 := hK.1
  repeat (first | ((with_reducible apply is_st); refine su ?_) | ((with_reducible apply is_gd); first | refine gt ?_ | refine gf ?_ | refine gu ?_) | ((with_reducible apply is_en); refine en ?_) | (with_reducible first | apply x_then | apply wp_seq | apply c_region | apply wp_block | apply wp_skip | apply wp_exit | apply wp_ret | apply x_then_ret | apply x_then_exit | apply x_block | apply x_block_ret | apply x_block_exit | refine x_block_other (by decide) ?_))
  refine wl_alloc (fun w1 c hc => ?_)
  have hC1 : Blk w1 c ((List.replicate 32 (0 : UInt8)).map u8v) 26 := hc.blk
  have hcw : c = w.heap.size := hc.at_
  repeat (first | ((with_reducible apply is_st); refine su ?_) | ((with_reducible apply is_gd); first | refine gt ?_ | refine gf ?_ | refine gu ?_) | ((with_reducible apply is_en); refine en ?_) | (with_reducible first | apply x_then | apply wp_seq | apply c_region | apply wp_block | apply wp_skip | apply wp_exit | apply wp_ret | apply x_then_ret | apply x_then_exit | apply x_block | apply x_block_ret | apply x_block_exit | refine x_block_other (by decide) ?_))
  (try ((with_reducible apply is_gd); first | refine gt ?_ | refine gf ?_ | refine gu ?_)); refine ca (fresh_any w1) ?_
  rintro _ w2 ⟨rfl, hc2⟩
  repeat (first | ((with_reducible apply is_st); refine su ?_) | ((with_reducible apply is_gd); first | refine gt ?_ | refine gf ?_ | refine gu ?_) | ((with_reducible apply is_en); refine en ?_) | (with_reducible first | apply x_then | apply wp_seq | apply c_region | apply wp_block | apply wp_skip | apply wp_exit | apply wp_ret | apply x_then_ret | apply x_then_exit | apply x_block | apply x_block_ret | apply x_block_exit | refine x_block_other (by decide) ?_))
  refine wl_alloc (fun w3 b hb => ?_)
  have hc13 : Ch [] w1 w3 := hc2.then hb.ch
  have hcb : c < b := by rw [hb.at_]; exact (hC1.ch hc2 (by simp)).lt
  repeat (first | ((with_reducible apply is_st); refine su ?_) | ((with_reducible apply is_gd); first | refine gt ?_ | refine gf ?_ | refine gu ?_) | ((with_reducible apply is_en); refine en ?_) | (with_reducible first | apply x_then | apply wp_seq | apply c_region | apply wp_block | apply wp_skip | apply wp_exit | apply wp_ret | apply x_then_ret | apply x_then_exit | apply x_block | apply x_block_ret | apply x_block_exit | refine x_block_other (by decide) ?_))
  refine stbw (n := 74) hb.blk rfl rfl rfl rfl (by decide) (fun w4 hB4 hch4 hs4 => ?_)
  have hc4 : Ch [] w w4 := (hc.ch.then hc13).own hch4 (by omega)
  have hC4 := (hC1.ch hc13 (by simp)).ch hch4 (by simp; omega)
  repeat (first | ((with_reducible apply is_st); refine su ?_) | ((with_reducible apply is_gd); first | refine gt ?_ | refine gf ?_ | refine gu ?_) | ((with_reducible apply is_en); refine en ?_) | (with_reducible first | apply x_then | apply wp_seq | apply c_region | apply wp_block | apply wp_skip | apply wp_exit | apply wp_ret | apply x_then_ret | apply x_then_exit | apply x_block | apply x_block_ret | apply x_block_exit | refine x_block_other (by decide) ?_))
  (try ((with_reducible apply is_gd); first | refine gt ?_ | refine gf ?_ | refine gu ?_)); refine ca (take_any b 107 St0 rfl true v bs w4 hB4 (hK.ch hc4 (by simp)) (by omega) (hR.mv (Ch.some hc4) (fun k hk hm => by simp at hm; omega)) (by simp [St0]; omega)) ?_
  rintro _ w5 ⟨rfl, hB5, hc5⟩
  have hc05 : Ch [] w w5 := hc4.own hc5 (by omega)
  have hC5 := hC4.ch hc5 (by simp; omega)
  have hn5 : (bs.foldl put1 St0).n = bs.length := by rw [put1_n]; simp [St0]
  have hl5 : (bs.foldl put1 St0).rest.length = 64 := put1_rest _ _ rfl
  have hsum : shaOf bs = digest ((tail (bs.foldl put1 St0).n).foldl put1 (bs.foldl put1 St0)).h := by
    rw [shaOf, List.foldl_append, hn5]
  generalize bs.foldl put1 St0 = s5 at *
  repeat (first | ((with_reducible apply is_st); refine su ?_) | ((with_reducible apply is_gd); first | refine gt ?_ | refine gf ?_ | refine gu ?_) | ((with_reducible apply is_en); refine en ?_) | (with_reducible first | apply x_then | apply wp_seq | apply c_region | apply wp_block | apply wp_skip | apply wp_exit | apply wp_ret | apply x_then_ret | apply x_then_exit | apply x_block | apply x_block_ret | apply x_block_exit | refine x_block_other (by decide) ?_))
  refine ldbr hB5 rfl (ds := stc s5.h s5.rest s5.n true) (by simp [List.take_of_length_le, stc_len hl5]) (stc_len hl5) ?_
  repeat (first | ((with_reducible apply is_st); refine su ?_) | ((with_reducible apply is_gd); first | refine gt ?_ | refine gf ?_ | refine gu ?_) | ((with_reducible apply is_en); refine en ?_) | (with_reducible first | apply x_then | apply wp_seq | apply c_region | apply wp_block | apply wp_skip | apply wp_exit | apply wp_ret | apply x_then_ret | apply x_then_exit | apply x_block | apply x_block_ret | apply x_block_exit | refine x_block_other (by decide) ?_))
  (try ((with_reducible apply is_gd); first | refine gt ?_ | refine gf ?_ | refine gu ?_)); refine ca (done_any s5 hl5 true w5 (hK.ch hc05 (by simp)) (by omega)) ?_
  rintro _ w6 ⟨rfl, hc6⟩
  rw [← hsum]
  have hls := shaOf_len bs
  have hC6 := hC5.ch hc6 (by simp)
  repeat (first | ((with_reducible apply is_st); refine su ?_) | ((with_reducible apply is_gd); first | refine gt ?_ | refine gf ?_ | refine gu ?_) | ((with_reducible apply is_en); refine en ?_) | (with_reducible first | apply x_then | apply wp_seq | apply c_region | apply wp_block | apply wp_skip | apply wp_exit | apply wp_ret | apply x_then_ret | apply x_then_exit | apply x_block | apply x_block_ret | apply x_block_exit | refine x_block_other (by decide) ?_))
  refine stbw (n := 32) hC6 rfl rfl (hv_len hls) (by simp) one_u8 (fun w7 hC7 hch7 hs7 => ?_)
  repeat (first | ((with_reducible apply is_st); refine su ?_) | ((with_reducible apply is_gd); first | refine gt ?_ | refine gf ?_ | refine gu ?_) | ((with_reducible apply is_en); refine en ?_) | (with_reducible first | apply x_then | apply wp_seq | apply c_region | apply wp_block | apply wp_skip | apply wp_exit | apply wp_ret | apply x_then_ret | apply x_then_exit | apply x_block | apply x_block_ret | apply x_block_exit | refine x_block_other (by decide) ?_))
  exact outc rfl rfl (hC7.row (n := 32) (o := 0) (ds := (shaOf bs).map u8v) (by simp [List.take_of_length_le, hls])) (by simp [hls]) ⟨rfl, (hc05.then hc6).own hch7 (by omega)⟩

theorem bytes_any (q : UInt8) (v : Value) (ls : List (List UInt8)) (w : World) (hR : (Ty.sl (Ty.enc eU8)).Rd [] w v ls) (hT : 1 + ls.flatten.length ≤ 140737488355328) :
    Calls Tryd.prog 93 #[u8v q, v] w (Ret fun u w' => Own eU8 w' w.heap.size 5 u (q :: ls.flatten) ∧ Ch [] w w') := by
  refine enter [u8v q, v, undef, undef, undef, undef, undef, undef, undef, undef, undef, undef, undef, undef, undef, undef, undef, undef, undef, undef, undef] Tryd.func93 rfl rfl ?_
  repeat (first | ((with_reducible apply is_st); refine su ?_) | ((with_reducible apply is_gd); first | refine gt ?_ | refine gf ?_ | refine gu ?_) | ((with_reducible apply is_en); refine en ?_) | (with_reducible first | apply x_then | apply wp_seq | apply c_region | apply wp_block | apply wp_skip | apply wp_exit | apply wp_ret | apply x_then_ret | apply x_then_exit | apply x_block | apply x_block_ret | apply x_block_exit | refine x_block_other (by decide) ?_))
  refine wl_buildSlice (vs := [u8v q]) rfl rfl (by intro u hu; simp at hu; subst hu; rfl) (by decide) (fun w1 d hd => ?_)
  have hO1 : Own eU8 w1 w.heap.size 5 _ [q] := Own.of_new (en := eU8) hd rfl (Nat.le_refl _) (by simp) rfl
  repeat (first | ((with_reducible apply is_st); refine su ?_) | ((with_reducible apply is_gd); first | refine gt ?_ | refine gf ?_ | refine gu ?_) | ((with_reducible apply is_en); refine en ?_) | (with_reducible first | apply x_then | apply wp_seq | apply c_region | apply wp_block | apply wp_skip | apply wp_exit | apply wp_ret | apply x_then_ret | apply x_then_exit | apply x_block | apply x_block_ret | apply x_block_exit | refine x_block_other (by decide) ?_))
  obtain ⟨A, cap, rfl⟩ := hR.form
  have hle := hR.le
  repeat (first | ((with_reducible apply is_st); refine su ?_) | ((with_reducible apply is_gd); first | refine gt ?_ | refine gf ?_ | refine gu ?_) | ((with_reducible apply is_en); refine en ?_) | (with_reducible first | apply x_then | apply wp_seq | apply c_region | apply wp_block | apply wp_skip | apply wp_exit | apply wp_ret | apply x_then_ret | apply x_then_exit | apply x_block | apply x_block_ret | apply x_block_exit | refine x_block_other (by decide) ?_))
  
  refine c_loop (fun k l w' => ∃ (u : Value) (i : Nat), (∃ jj : Nat → Value, l = [jj 0, jj 1, jj 2, jj 3, jj 4, u, jj 6, jj 7, jj 8, jj 9, .slice A ls.length cap, .int .i64 (ls.length : Int), .int .i64 (i : Int), jj 13, jj 14, jj 15, jj 16, jj 17, jj 18, jj 19, jj 20]) ∧ i + k = ls.length ∧ Own eU8 w' w.heap.size 5 u (q :: (ls.take i).flatten) ∧ Ch [] w w') ls.length
    ⟨_, 0, exj rfl, by omega, hO1, hd.ch⟩ ?_
  rintro k l w2 ⟨u, i, ⟨jj, rfl⟩, hik, hO2, hc2⟩
  repeat (first | ((with_reducible apply is_st); refine su ?_) | ((with_reducible apply is_gd); first | refine gt ?_ | refine gf ?_ | refine gu ?_) | ((with_reducible apply is_en); refine en ?_) | (with_reducible first | apply x_then | apply wp_seq | apply c_region | apply wp_block | apply wp_skip | apply wp_exit | apply wp_ret | apply x_then_ret | apply x_then_exit | apply x_block | apply x_block_ret | apply x_block_exit | refine x_block_other (by decide) ?_))
  refine c_cond rfl (fun h => ?_) (fun h => ?_)
  · repeat (first | ((with_reducible apply is_st); refine su ?_) | ((with_reducible apply is_gd); first | refine gt ?_ | refine gf ?_ | refine gu ?_) | ((with_reducible apply is_en); refine en ?_) | (with_reducible first | apply x_then | apply wp_seq | apply c_region | apply wp_block | apply wp_skip | apply wp_exit | apply wp_ret | apply x_then_ret | apply x_then_exit | apply x_block | apply x_block_ret | apply x_block_exit | refine x_block_other (by decide) ?_))
    (try ((with_reducible apply is_gd); first | refine gt ?_ | refine gf ?_ | refine gu ?_)); refine ix (hR.ch hc2) (fun b o x hx hA => ?_)
    repeat (first | ((with_reducible apply is_st); refine su ?_) | ((with_reducible apply is_gd); first | refine gt ?_ | refine gf ?_ | refine gu ?_) | ((with_reducible apply is_en); refine en ?_) | (with_reducible first | apply x_then | apply wp_seq | apply c_region | apply wp_block | apply wp_skip | apply wp_exit | apply wp_ret | apply x_then_ret | apply x_then_exit | apply x_block | apply x_block_ret | apply x_block_exit | refine x_block_other (by decide) ?_))
    refine wl_load_one rfl hA rfl (fun vx hvx => ?_)
    obtain ⟨vx', hvx', hRx⟩ := hvx
    injection hvx' with hvx' _
    subst hvx'
    rw [Int.toNat_natCast] at hx
    have hxi : (ls.take (i + 1)).flatten = (ls.take i).flatten ++ x := by
      rw [List.take_add_one, hx]
      simp
    have hlen : (ls.take (i + 1)).flatten.length ≤ ls.flatten.length := by
      conv => rhs; rw [← List.take_append_drop (i + 1) ls, List.flatten_append, List.length_append]
      omega
    rw [hxi, List.length_append] at hlen
    repeat (first | ((with_reducible apply is_st); refine su ?_) | ((with_reducible apply is_gd); first | refine gt ?_ | refine gf ?_ | refine gu ?_) | ((with_reducible apply is_en); refine en ?_) | (with_reducible first | apply x_then | apply wp_seq | apply c_region | apply wp_block | apply wp_skip | apply wp_exit | apply wp_ret | apply x_then_ret | apply x_then_exit | apply x_block | apply x_block_ret | apply x_block_exit | refine x_block_other (by decide) ?_))
    refine apb (v := u) rfl rfl hO2 hc2.size rfl hRx (by rw [List.length_cons]; omega) (by rw [List.length_cons]; omega) (fun v' w3 hO3 hc3 hat => ?_)
    repeat (first | ((with_reducible apply is_st); refine su ?_) | ((with_reducible apply is_gd); first | refine gt ?_ | refine gf ?_ | refine gu ?_) | ((with_reducible apply is_en); refine en ?_) | (with_reducible first | apply x_then | apply wp_seq | apply c_region | apply wp_block | apply wp_skip | apply wp_exit | apply wp_ret | apply x_then_ret | apply x_then_exit | apply x_block | apply x_block_ret | apply x_block_exit | refine x_block_other (by decide) ?_))
    refine x_goes (k - 1) rfl (by omega) ⟨v', i + 1, exj rfl, by omega, ?_, ?_⟩
    · rw [hxi]
      simpa using hO3
    · refine hc2.trans hc3 (by simp) (fun x hx hm => ?_)
      have := (hO2.lt (k := x) (by simpa using hm)).1
      omega
  · obtain rfl : k = 0 := by omega
    obtain rfl : i = ls.length := by omega
    repeat (first | ((with_reducible apply is_st); refine su ?_) | ((with_reducible apply is_gd); first | refine gt ?_ | refine gf ?_ | refine gu ?_) | ((with_reducible apply is_en); refine en ?_) | (with_reducible first | apply x_then | apply wp_seq | apply c_region | apply wp_block | apply wp_skip | apply wp_exit | apply wp_ret | apply x_then_ret | apply x_then_exit | apply x_block | apply x_block_ret | apply x_block_exit | refine x_block_other (by decide) ?_))
    refine out1 rfl ⟨?_, hc2⟩
    rw [List.take_length] at hO2
    exact hO2
theorem of_any (q : UInt8) (v : Value) (ls : List (List UInt8)) (w : World) (hK : Laid w) (hR : (Ty.sl (Ty.enc eU8)).Rd [] w v ls) (hT : 1 + ls.flatten.length ≤ 140737488355328) :
    Calls Tryd.prog 80 #[u8v q, v] w (Ret fun u w' => u = hv (shaOf (q :: ls.flatten)) ∧ Ch [] w w') := by
  refine enter [u8v q, v, undef, undef, undef, undef, undef, undef, undef] Tryd.func80 rfl rfl ?_
  repeat (first | ((with_reducible apply is_st); refine su ?_) | ((with_reducible apply is_gd); first | refine gt ?_ | refine gf ?_ | refine gu ?_) | ((with_reducible apply is_en); refine en ?_) | (with_reducible first | apply x_then | apply wp_seq | apply c_region | apply wp_block | apply wp_skip | apply wp_exit | apply wp_ret | apply x_then_ret | apply x_then_exit | apply x_block | apply x_block_ret | apply x_block_exit | refine x_block_other (by decide) ?_))
  refine wl_alloc (fun w1 c hc => ?_)
  have hC1 : Blk w1 c ((List.replicate 32 (0 : UInt8)).map u8v) 26 := hc.blk
  repeat (first | ((with_reducible apply is_st); refine su ?_) | ((with_reducible apply is_gd); first | refine gt ?_ | refine gf ?_ | refine gu ?_) | ((with_reducible apply is_en); refine en ?_) | (with_reducible first | apply x_then | apply wp_seq | apply c_region | apply wp_block | apply wp_skip | apply wp_exit | apply wp_ret | apply x_then_ret | apply x_then_exit | apply x_block | apply x_block_ret | apply x_block_exit | refine x_block_other (by decide) ?_))
  (try ((with_reducible apply is_gd); first | refine gt ?_ | refine gf ?_ | refine gu ?_)); refine ca (bytes_any q v ls w1 (hR.ch hc.ch) hT) ?_
  rintro u w2 ⟨hO2, hc2⟩
  repeat (first | ((with_reducible apply is_st); refine su ?_) | ((with_reducible apply is_gd); first | refine gt ?_ | refine gf ?_ | refine gu ?_) | ((with_reducible apply is_en); refine en ?_) | (with_reducible first | apply x_then | apply wp_seq | apply c_region | apply wp_block | apply wp_skip | apply wp_exit | apply wp_ret | apply x_then_ret | apply x_then_exit | apply x_block | apply x_block_ret | apply x_block_exit | refine x_block_other (by decide) ?_))
  (try ((with_reducible apply is_gd); first | refine gt ?_ | refine gf ?_ | refine gu ?_)); refine ca (sum_any u _ w2 ((hK.ch hc.ch (by simp)).ch hc2 (by simp)) (hO2.rd (by simp) (by rw [List.length_cons]; omega)) (by rw [List.length_cons]; omega)) ?_
  rintro _ w3 ⟨rfl, hc3⟩
  have hls := shaOf_len (q :: ls.flatten)
  have hC3 := (hC1.ch hc2 (by simp)).ch hc3 (by simp)
  repeat (first | ((with_reducible apply is_st); refine su ?_) | ((with_reducible apply is_gd); first | refine gt ?_ | refine gf ?_ | refine gu ?_) | ((with_reducible apply is_en); refine en ?_) | (with_reducible first | apply x_then | apply wp_seq | apply c_region | apply wp_block | apply wp_skip | apply wp_exit | apply wp_ret | apply x_then_ret | apply x_then_exit | apply x_block | apply x_block_ret | apply x_block_exit | refine x_block_other (by decide) ?_))
  refine stbw (n := 32) hC3 rfl rfl (hv_len hls) (by simp) one_u8 (fun w7 hC7 hch7 hs7 => ?_)
  repeat (first | ((with_reducible apply is_st); refine su ?_) | ((with_reducible apply is_gd); first | refine gt ?_ | refine gf ?_ | refine gu ?_) | ((with_reducible apply is_en); refine en ?_) | (with_reducible first | apply x_then | apply wp_seq | apply c_region | apply wp_block | apply wp_skip | apply wp_exit | apply wp_ret | apply x_then_ret | apply x_then_exit | apply x_block | apply x_block_ret | apply x_block_exit | refine x_block_other (by decide) ?_))
  exact outc rfl rfl (hC7.row (n := 32) (o := 0) (ds := (shaOf (q :: ls.flatten)).map u8v) (by simp [List.take_of_length_le, hls])) (by simp [hls]) ⟨rfl, ((hc.ch.then hc2).then hc3).own hch7 (by rw [hc.at_]; exact Nat.le_refl _)⟩
theorem node_any (a b : List UInt8) (ha : a.length = 32) (hb : b.length = 32) (w : World) (hK : Laid w) :
    Calls Tryd.prog 54 #[hv a, hv b] w (Ret fun u w' => u = hv (nodeOf a b) ∧ Ch [] w w') := by
  refine enter [hv a, hv b, undef, undef, undef, undef, undef, undef, undef] Tryd.func54 rfl rfl ?_
  repeat (first | ((with_reducible apply is_st); refine su ?_) | ((with_reducible apply is_gd); first | refine gt ?_ | refine gf ?_ | refine gu ?_) | ((with_reducible apply is_en); refine en ?_) | (with_reducible first | apply x_then | apply wp_seq | apply c_region | apply wp_block | apply wp_skip | apply wp_exit | apply wp_ret | apply x_then_ret | apply x_then_exit | apply x_block | apply x_block_ret | apply x_block_exit | refine x_block_other (by decide) ?_))
  refine wl_box (v := hv a) rfl (fun w1 c1 hc1 => ?_)
  repeat (first | ((with_reducible apply is_st); refine su ?_) | ((with_reducible apply is_gd); first | refine gt ?_ | refine gf ?_ | refine gu ?_) | ((with_reducible apply is_en); refine en ?_) | (with_reducible first | apply x_then | apply wp_seq | apply c_region | apply wp_block | apply wp_skip | apply wp_exit | apply wp_ret | apply x_then_ret | apply x_then_exit | apply x_block | apply x_block_ret | apply x_block_exit | refine x_block_other (by decide) ?_))
  refine wl_box (v := hv b) rfl (fun w2 c2 hc2 => ?_)
  repeat (first | ((with_reducible apply is_st); refine su ?_) | ((with_reducible apply is_gd); first | refine gt ?_ | refine gf ?_ | refine gu ?_) | ((with_reducible apply is_en); refine en ?_) | (with_reducible first | apply x_then | apply wp_seq | apply c_region | apply wp_block | apply wp_skip | apply wp_exit | apply wp_ret | apply x_then_ret | apply x_then_exit | apply x_block | apply x_block_ret | apply x_block_exit | refine x_block_other (by decide) ?_))
  refine wl_alloc (fun w3 c hc => ?_)
  have hA3 : Blk w3 c1 (a.map u8v) 26 := (hc1.blk.ch hc2.ch (by simp)).ch hc.ch (by simp)
  have hB3 : Blk w3 c2 (b.map u8v) 26 := hc2.blk.ch hc.ch (by simp)
  have hC3 : Blk w3 c ((List.replicate 32 (0 : UInt8)).map u8v) 26 := hc.blk
  have hc3 : Ch [] w w3 := (hc1.ch.then hc2.ch).then hc.ch
  have hcw : w.heap.size ≤ c := by rw [hc.at_]; exact (hc1.ch.then hc2.ch).size
  repeat (first | ((with_reducible apply is_st); refine su ?_) | ((with_reducible apply is_gd); first | refine gt ?_ | refine gf ?_ | refine gu ?_) | ((with_reducible apply is_en); refine en ?_) | (with_reducible first | apply x_then | apply wp_seq | apply c_region | apply wp_block | apply wp_skip | apply wp_exit | apply wp_ret | apply x_then_ret | apply x_then_exit | apply x_block | apply x_block_ret | apply x_block_exit | refine x_block_other (by decide) ?_))
  refine c_drawl 4 [] (by kernel_rfl) (by kernel_rfl) (by kernel_rfl) (fun w4 hc4 hs4 => ?_)
  refine wg_val (fun _ _ => r_cut_arr0 rfl) ?_
  refine wg_val (fun _ _ => r_cut_arr0 rfl) ?_
  refine lastg rfl (by kernel_rfl) (fun w5 hc5 => ?_)
  refine wl_buildSlice (vs := [.slice (some ⟨c1, 0, none⟩) 32 32, .slice (some ⟨c2, 0, none⟩) 32 32]) rfl rfl (by intro u hu; simp at hu; rcases hu with rfl | rfl <;> rfl) (by decide) (fun w6 d hd => ?_)
  refine x_mid rfl hd.ch ?_
  have hc36 : Ch [] w3 w6 := (hc4.then hc5).then hd.ch
  have hA6 := hA3.ch hc36 (by simp)
  have hB6 := hB3.ch hc36 (by simp)
  have hR6 : (Ty.sl (Ty.enc eU8)).Rd [] w6 (.slice (some ⟨d, 0, none⟩) 2 2) [a, b] := by
    refine Rd.of_blk1 hd.blk (by simp) rfl rfl (by decide) (fun i x hx => ?_)
    match i, hx with
    | 0, hx =>
      simp only [List.getElem?_cons_zero, Option.some.injEq] at hx
      subst hx
      exact ⟨_, rfl, _, rfl, by have := hA6.rd8 (S := []) (cap := 32) (by simp) (by omega) (by omega); rwa [ha] at this⟩
    | 1, hx =>
      simp only [List.getElem?_cons_succ, List.getElem?_cons_zero, Option.some.injEq] at hx
      subst hx
      exact ⟨_, rfl, _, rfl, by have := hB6.rd8 (S := []) (cap := 32) (by simp) (by omega) (by omega); rwa [hb] at this⟩
  have hK6 := hK.ch (hc3.then hc36) (by simp)
  (try ((with_reducible apply is_gg); first | refine gtg ?_ | refine gfg ?_ | refine gug ?_)); refine cag (fun w7 hc7 => (of_any 1 _ [a, b] w7 (hK6.ch hc7 (by simp)) (hR6.ch hc7) (by simp; omega))) ?_
  have hls := nodeOf_len a b
  refine lastg rfl (by kernel_rfl) (fun w8 hc8 => ?_)
  refine stbw (n := 32) (vs := (nodeOf a b).map u8v) ((hC3.ch hc36 (by simp)).ch hc8 (by simp)) rfl ?_ (hv_len hls) (by simp) one_u8 (fun w9 hC9 hch9 hs9 => ?_)
  · show hv (shaOf (1 :: [a, b].flatten)) = hv (nodeOf a b)
    simp [nodeOf]
  refine x_last rfl rfl (fun w10 hc10 => ?_)
  repeat (first | ((with_reducible apply is_st); refine su ?_) | ((with_reducible apply is_gd); first | refine gt ?_ | refine gf ?_ | refine gu ?_) | ((with_reducible apply is_en); refine en ?_) | (with_reducible first | apply x_then | apply wp_seq | apply c_region | apply wp_block | apply wp_skip | apply wp_exit | apply wp_ret | apply x_then_ret | apply x_then_exit | apply x_block | apply x_block_ret | apply x_block_exit | refine x_block_other (by decide) ?_))
  exact outc rfl rfl ((hC9.ch hc10 (by simp)).row (n := 32) (o := 0) (ds := (nodeOf a b).map u8v) (by simp [List.take_of_length_le, hls])) (by simp [hls]) ⟨rfl, ((((hc3.then hc36).then hc8)).own hch9 hcw).then hc10⟩
theorem empty_any (w : World) (hK : Laid w) : Calls Tryd.prog 53 #[] w (Ret fun u w' => u = hv emptyOf ∧ Ch [] w w') := by
  refine enter [undef, undef] Tryd.func53 rfl rfl ?_
  repeat (first | ((with_reducible apply is_st); refine su ?_) | ((with_reducible apply is_gd); first | refine gt ?_ | refine gf ?_ | refine gu ?_) | ((with_reducible apply is_en); refine en ?_) | (with_reducible first | apply x_then | apply wp_seq | apply c_region | apply wp_block | apply wp_skip | apply wp_exit | apply wp_ret | apply x_then_ret | apply x_then_exit | apply x_block | apply x_block_ret | apply x_block_exit | refine x_block_other (by decide) ?_))
  refine wl_alloc (fun w1 c hc => ?_)
  have hC1 : Blk w1 c ((List.replicate 32 (0 : UInt8)).map u8v) 26 := hc.blk
  repeat (first | ((with_reducible apply is_st); refine su ?_) | ((with_reducible apply is_gd); first | refine gt ?_ | refine gf ?_ | refine gu ?_) | ((with_reducible apply is_en); refine en ?_) | (with_reducible first | apply x_then | apply wp_seq | apply c_region | apply wp_block | apply wp_skip | apply wp_exit | apply wp_ret | apply x_then_ret | apply x_then_exit | apply x_block | apply x_block_ret | apply x_block_exit | refine x_block_other (by decide) ?_))
  (try ((with_reducible apply is_gd); first | refine gt ?_ | refine gf ?_ | refine gu ?_)); refine ca (sum_any (.slice none 0 0) [] w1 (hK.ch hc.ch (by simp)) (Ty.Rd.nil _ _ _ _ _) (by decide)) ?_
  rintro _ w3 ⟨rfl, hc3⟩
  have hls := shaOf_len []
  have hC3 := hC1.ch hc3 (by simp)
  repeat (first | ((with_reducible apply is_st); refine su ?_) | ((with_reducible apply is_gd); first | refine gt ?_ | refine gf ?_ | refine gu ?_) | ((with_reducible apply is_en); refine en ?_) | (with_reducible first | apply x_then | apply wp_seq | apply c_region | apply wp_block | apply wp_skip | apply wp_exit | apply wp_ret | apply x_then_ret | apply x_then_exit | apply x_block | apply x_block_ret | apply x_block_exit | refine x_block_other (by decide) ?_))
  refine stbw (n := 32) hC3 rfl rfl (hv_len hls) (by simp) one_u8 (fun w7 hC7 hch7 hs7 => ?_)
  repeat (first | ((with_reducible apply is_st); refine su ?_) | ((with_reducible apply is_gd); first | refine gt ?_ | refine gf ?_ | refine gu ?_) | ((with_reducible apply is_en); refine en ?_) | (with_reducible first | apply x_then | apply wp_seq | apply c_region | apply wp_block | apply wp_skip | apply wp_exit | apply wp_ret | apply x_then_ret | apply x_then_exit | apply x_block | apply x_block_ret | apply x_block_exit | refine x_block_other (by decide) ?_))
  exact outc rfl rfl (hC7.row (n := 32) (o := 0) (ds := (shaOf []).map u8v) (by simp [List.take_of_length_le, hls])) (by simp [hls]) ⟨rfl, (hc.ch.then hc3).own hch7 (by rw [hc.at_]; exact Nat.le_refl _)⟩
end Go.Proofs.YtbecfcnbgeeghaaDoor

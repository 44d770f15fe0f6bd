/- Walks of SHA-256: bytes more. -/
import Derived.Test.YtbecfcnbgeeghaaDoorSha2
set_option linter.unusedVariables false
set_option linter.unusedSimpArgs false
namespace Go.Proofs.YtbecfcnbgeeghaaDoor
open Go Go.RowKit Go.Proofs.E
attribute [local irreducible] Go.wpList Go.Code.wp Go.Proofs.E.exec Go.Proofs.E.wpLexG

/-! ### Byte by byte -/
structure St where (h : S8) (rest : List UInt8) (n : Nat)
def put1 (s : St) (x : UInt8) : St := ⟨if (s.n + 1) % 64 = 0 then squeeze s.h (s.rest.set (s.n % 64) x) else s.h, s.rest.set (s.n % 64) x, s.n + 1⟩
def splU (cs : List UInt8) (o : Nat) (vs : List UInt8) : List UInt8 := cs.take o ++ vs ++ cs.drop (o + vs.length)
theorem splU_map (cs : List UInt8) (o : Nat) (vs : List UInt8) : (splU cs o vs).map u8v = spl (cs.map u8v) o (vs.map u8v) := by
  simp [splU, spl, List.map_take, List.map_drop]
theorem splU_len {cs : List UInt8} {o : Nat} {vs : List UInt8} (h : o + vs.length ≤ cs.length) : (splU cs o vs).length = cs.length := by
  simp [splU]; omega
theorem splU_one {cs : List UInt8} {o : Nat} {v : UInt8} (h : o < cs.length) : splU cs o [v] = cs.set o v := by
  unfold splU
  rw [List.set_eq_take_append_cons_drop, if_pos h]
  simp
theorem splU_cons {cs : List UInt8} {o : Nat} {v : UInt8} {vs : List UInt8} (h : o + (v :: vs).length ≤ cs.length) : splU (cs.set o v) (o + 1) vs = splU cs o (v :: vs) := by
  simp only [List.length_cons] at h
  unfold splU
  rw [List.take_set, List.drop_set, if_pos (by omega), List.length_cons, show o + 1 + vs.length = o + (vs.length + 1) by omega]
  rw [List.set_eq_take_append_cons_drop, if_pos (by simp; omega), List.take_take, Nat.min_eq_left (by omega), List.drop_eq_nil_of_le (by simp; omega)]
  simp
theorem put_chunk : ∀ (cs : List UInt8) (s : St), cs ≠ [] → s.n % 64 + cs.length ≤ 64 → s.rest.length = 64 →
    cs.foldl put1 s = ⟨if (s.n + cs.length) % 64 = 0 then squeeze s.h (splU s.rest (s.n % 64) cs) else s.h, splU s.rest (s.n % 64) cs, s.n + cs.length⟩
  | [], s, h, _, _ => absurd rfl h
  | [x], s, _, h, hl => by
    rw [splU_one (by omega)]
    rfl
  | x :: y :: cs, s, _, h, hl => by
    simp only [List.length_cons] at h
    rw [List.foldl_cons, put_chunk (y :: cs) (put1 s x) (by simp) (by simp only [put1, List.length_cons]; omega) (by simp [put1, hl])]
    have e1 : (s.n + 1) % 64 = s.n % 64 + 1 := by omega
    simp only [put1, e1, if_neg (show ¬ s.n % 64 + 1 = 0 by omega), List.length_cons]
    rw [splU_cons (by simp; omega), show s.n + 1 + (cs.length + 1) = s.n + (cs.length + 1 + 1) by omega]
theorem stc_n {h : S8} {rest : List UInt8} {n : Int} {m : Bool} (hl : rest.length = 64) : (stc h rest n m)[72]? = some (.int .i64 n) := by
  unfold stc
  rw [List.getElem?_append_right (by simp [S8.l]), List.getElem?_append_right (by simp [S8.l, hl])]
  simp [S8.l, hl]
theorem stc_setn {h : S8} {rest : List UInt8} {n n' : Int} {m : Bool} (hl : rest.length = 64) : (stc h rest n m).set 72 (.int .i64 n') = stc h rest n' m := by
  unfold stc
  rw [List.set_append_right _ _ (by simp [S8.l]), List.set_append_right _ _ (by simp [S8.l, hl])]
  simp [S8.l, hl]
theorem stc_spl {h : S8} {rest cs : List UInt8} {n : Int} {m : Bool} {j : Nat} (hl : rest.length = 64) (hj : j + cs.length ≤ 64) : spl (stc h rest n m) (8 + j) (cs.map u8v) = stc h (splU rest j cs) n m := by
  unfold stc
  rw [spl_app (by simp [S8.l]) (by simp [hl]; omega) j (by simp [hl]; omega), splU_map]
theorem stc_len {h : S8} {rest : List UInt8} {n : Int} {m : Bool} (hl : rest.length = 64) : (stc h rest n m).length = 74 := by simp [stc, S8.l, hl]

set_option maxHeartbeats 8000000 in
theorem take_any (b : Nat) (E : TypeId) (s : St) (hl : s.rest.length = 64) (m : Bool) (v : Value) (bs : List UInt8) (w : World) (hB : Blk w b (stc s.h s.rest s.n m) E) (hK : Laid w) (hb2 : b ≠ 2)
    (hR : (Ty.enc eU8).Rd [b] w v bs) (hn : s.n + bs.length ≤ 4611686018427387904) :
    Calls Tryd.prog 91 #[.pointer (some ⟨b, 0, none⟩), v] w (Ret fun u w' => u = .tuple #[] ∧ Blk w' b (stc (bs.foldl put1 s).h (bs.foldl put1 s).rest (bs.foldl put1 s).n m) E ∧ Ch [b] w w') := by
  refine enter [.pointer (some ⟨b, 0, none⟩), v, undef, undef, undef, undef, undef, undef, undef, undef, undef, undef, undef, undef, undef, undef, undef, undef, undef, undef, undef, undef, undef, undef, undef, undef, undef, undef, undef, undef, undef, undef, undef, undef, undef, undef, undef, undef] Tryd.func91 rfl rfl ?_
  have hblt := hB.lt
  repeat (first | ((with_reducible apply is_st); refine su ?_) | ((with_reducible apply is_gd); first | refine gt ?_ | refine gf ?_ | refine gu ?_) | ((with_reducible apply is_en); refine en ?_) | (with_reducible first | apply x_then | apply wp_seq | apply c_region | apply wp_block | apply wp_skip | apply wp_exit | apply wp_ret | apply x_then_ret | apply x_then_exit | apply x_block | apply x_block_ret | apply x_block_exit | refine x_block_other (by decide) ?_))
  
  refine c_loop (fun k l w' => ∃ (u : Value) (s' : St) (cs : List UInt8), (∃ jj : Nat → Value, l = [.pointer (some ⟨b, 0, none⟩), u, jj 2, jj 3, jj 4, jj 5, jj 6, jj 7, jj 8, jj 9, jj 10, jj 11, jj 12, jj 13, jj 14, jj 15, jj 16, jj 17, jj 18, jj 19, jj 20, jj 21, jj 22, jj 23, jj 24, jj 25, jj 26, jj 27, jj 28, jj 29, jj 30, jj 31, jj 32, jj 33, jj 34, jj 35, jj 36, jj 37]) ∧ cs.length = k ∧ cs.foldl put1 s' = bs.foldl put1 s ∧ s'.rest.length = 64 ∧ s'.n + cs.length = s.n + bs.length ∧ Ch [b] w w' ∧ (Ty.enc eU8).Rd [b] w' u cs ∧ Blk w' b (stc s'.h s'.rest s'.n m) E) bs.length
    ⟨v, s, bs, exj rfl, rfl, rfl, hl, rfl, Ch.refl _ _, hR, hB⟩ ?_
  rintro k l w3 ⟨u, s', cs, ⟨jj, rfl⟩, rfl, hfold, hl3, hn3, hc3, hR3, hB3⟩
  obtain ⟨A, cap, rfl⟩ := hR3.form
  repeat (first | ((with_reducible apply is_st); refine su ?_) | ((with_reducible apply is_gd); first | refine gt ?_ | refine gf ?_ | refine gu ?_) | ((with_reducible apply is_en); refine en ?_) | (with_reducible first | apply x_then | apply wp_seq | apply c_region | apply wp_block | apply wp_skip | apply wp_exit | apply wp_ret | apply x_then_ret | apply x_then_exit | apply x_block | apply x_block_ret | apply x_block_exit | refine x_block_other (by decide) ?_))
  refine c_cond rfl (fun h => ?_) (fun h => ?_)
  · have hne : cs ≠ [] := by intro e; subst e; simp at h
    obtain ⟨b2, o2, cap2, hv, hb2lt, hb2S, hrow⟩ := row8 hR3 hne
    injection hv with hA _ hcap
    subst hA
    have tm : ((s'.n : Int)).tmod 64 = ((s'.n % 64 : Nat) : Int) := rfl
    have hpos : 0 < cs.length := List.length_pos_iff.2 hne
    obtain ⟨kk, hkk⟩ : ∃ kk, kk = Nat.min cs.length (64 - s'.n % 64) := ⟨_, rfl⟩
    have hkl : kk ≤ cs.length := hkk ▸ Nat.min_le_left _ _
    have hkr : kk ≤ 64 - s'.n % 64 := hkk ▸ Nat.min_le_right _ _
    have hk0 : 0 < kk := by rw [hkk]; show 0 < min _ _; omega
    have htl : (cs.take kk).length = kk := by simp; omega
    repeat (first | ((with_reducible apply is_st); refine su ?_) | ((with_reducible apply is_gd); first | refine gt ?_ | refine gf ?_ | refine gu ?_) | ((with_reducible apply is_en); refine en ?_) | (with_reducible first | apply x_then | apply wp_seq | apply c_region | apply wp_block | apply wp_skip | apply wp_exit | apply wp_ret | apply x_then_ret | apply x_then_exit | apply x_block | apply x_block_ret | apply x_block_exit | refine x_block_other (by decide) ?_))
    refine c_drawl 10 [] (by kernel_rfl) (by kernel_rfl) (by kernel_rfl) (fun w4 hc4 hs4 => ?_)
    have hB4 := hB3.ch hc4 (by simp)
    repeat (first | ((with_reducible apply is_sg); refine sgu ?_) | ((with_reducible apply is_gg); first | refine gtg ?_ | refine gfg ?_ | refine gug ?_) | ((with_reducible apply is_eg); refine eg ?_))
    refine ldbg (v := .int .i64 (s'.n : Int)) hB4 (by simp) rfl (stc_n hl3) ?_
    repeat (first | ((with_reducible apply is_sg); refine sgu ?_) | ((with_reducible apply is_gg); first | refine gtg ?_ | refine gfg ?_ | refine gug ?_) | ((with_reducible apply is_eg); refine eg ?_))
    rw [tm]
    refine wg_val (fun _ _ => r_cut_arr rfl rfl (by omega) (by omega)) ?_
    repeat (first | ((with_reducible apply is_sg); refine sgu ?_) | ((with_reducible apply is_gg); first | refine gtg ?_ | refine gfg ?_ | refine gug ?_) | ((with_reducible apply is_eg); refine eg ?_))
    refine lastg rfl (by kernel_rfl) (fun w5 hc5 => ?_)
    have hrow5 := hc5.rangeAt (hc4.rangeAt hrow hb2lt (by simp)) (Nat.lt_of_lt_of_le hb2lt hc4.size) (by simp)
    have hrow5' := range_sub (i := 0) (n := kk) hrow5
    rw [List.drop_zero, ← List.map_take, Nat.add_zero] at hrow5'
    refine cpb (cs := (cs.take kk).map u8v) rfl rfl (hB4.ch hc5 (by simp)) (by rw [List.length_map, htl, hkk, Int.toNat_natCast]) hrow5' (by rw [stc_len hl3, List.length_map, htl]; omega) one_u8 (fun w6 hB6 hch6 hs6 => ?_)
    rw [show 0 + 8 + ((s'.n % 64 : Nat) : Int).toNat * 1 = 8 + s'.n % 64 by omega, stc_spl hl3 (by rw [htl]; omega)] at hB6
    rw [List.length_map, htl]
    refine x_late rfl rfl ?_
    repeat (first | ((with_reducible apply is_sg); refine sgu ?_) | ((with_reducible apply is_gg); first | refine gtg ?_ | refine gfg ?_ | refine gug ?_) | ((with_reducible apply is_eg); refine eg ?_))
    intro w7 hc7
    have hc37 : Ch [b] w3 w7 := (((Ch.some hc4).add hc5).into hch6 (.inr (by simp))).add hc7
    have hB7 := hB6.ch hc7 (by simp)
    have hl7 : (splU s'.rest (s'.n % 64) (cs.take kk)).length = 64 := by rw [splU_len (by rw [htl]; omega), hl3]
    repeat (first | ((with_reducible apply is_st); refine su ?_) | ((with_reducible apply is_gd); first | refine gt ?_ | refine gf ?_ | refine gu ?_) | ((with_reducible apply is_en); refine en ?_) | (with_reducible first | apply x_then | apply wp_seq | apply c_region | apply wp_block | apply wp_skip | apply wp_exit | apply wp_ret | apply x_then_ret | apply x_then_exit | apply x_block | apply x_block_ret | apply x_block_exit | refine x_block_other (by decide) ?_))
    refine wl_cut_lo rfl (hR3.mv hc37 (fun _ _ h => h)) rfl rfl (by omega) (by omega) (fun u' hR7 => ?_)
    rw [Int.toNat_natCast] at hR7
    repeat (first | ((with_reducible apply is_st); refine su ?_) | ((with_reducible apply is_gd); first | refine gt ?_ | refine gf ?_ | refine gu ?_) | ((with_reducible apply is_en); refine en ?_) | (with_reducible first | apply x_then | apply wp_seq | apply c_region | apply wp_block | apply wp_skip | apply wp_exit | apply wp_ret | apply x_then_ret | apply x_then_exit | apply x_block | apply x_block_ret | apply x_block_exit | refine x_block_other (by decide) ?_))
    refine ldb (v := .int .i64 (s'.n : Int)) hB7 rfl (stc_n hl7) ?_
    repeat (first | ((with_reducible apply is_st); refine su ?_) | ((with_reducible apply is_gd); first | refine gt ?_ | refine gf ?_ | refine gu ?_) | ((with_reducible apply is_en); refine en ?_) | (with_reducible first | apply x_then | apply wp_seq | apply c_region | apply wp_block | apply wp_skip | apply wp_exit | apply wp_ret | apply x_then_ret | apply x_then_exit | apply x_block | apply x_block_ret | apply x_block_exit | refine x_block_other (by decide) ?_))
    refine stb (v := .int .i64 ((s'.n + kk : Nat) : Int)) hB7 rfl (by show Value.int .i64 _ = _; congr 1) rfl rfl (by rw [stc_len hl7]; decide) (fun w8 hB8 hch8 hs8 => ?_)
    rw [show 0 + 72 = 72 by rfl, stc_setn hl7] at hB8
    have hc38 := hc37.into hch8 (.inr (by simp))
    have hR8 := hR7.mv hch8 (fun _ _ h => h)
    have tm2 : (((s'.n + kk : Nat) : Int)).tmod 64 = (((s'.n + kk) % 64 : Nat) : Int) := rfl
    repeat (first | ((with_reducible apply is_st); refine su ?_) | ((with_reducible apply is_gd); first | refine gt ?_ | refine gf ?_ | refine gu ?_) | ((with_reducible apply is_en); refine en ?_) | (with_reducible first | apply x_then | apply wp_seq | apply c_region | apply wp_block | apply wp_skip | apply wp_exit | apply wp_ret | apply x_then_ret | apply x_then_exit | apply x_block | apply x_block_ret | apply x_block_exit | refine x_block_other (by decide) ?_))
    refine ldb (v := .int .i64 ((s'.n + kk : Nat) : Int)) hB8 rfl (stc_n hl7) ?_
    repeat (first | ((with_reducible apply is_st); refine su ?_) | ((with_reducible apply is_gd); first | refine gt ?_ | refine gf ?_ | refine gu ?_) | ((with_reducible apply is_en); refine en ?_) | (with_reducible first | apply x_then | apply wp_seq | apply c_region | apply wp_block | apply wp_skip | apply wp_exit | apply wp_ret | apply x_then_ret | apply x_then_exit | apply x_block | apply x_block_ret | apply x_block_exit | refine x_block_other (by decide) ?_))
    have hsplit : (cs.drop kk).foldl put1 ((cs.take kk).foldl put1 s') = bs.foldl put1 s := by
      rw [← List.foldl_append, List.take_append_drop, hfold]
    rw [put_chunk (cs.take kk) s' (by intro e; rw [e] at htl; simp at htl; omega) (by rw [htl]; omega) hl3, htl] at hsplit
    refine c_cond rfl (fun h0 => ?_) (fun h0 => ?_)
    · rw [tm2] at h0
      rw [if_pos (by omega)] at hsplit
      repeat (first | ((with_reducible apply is_st); refine su ?_) | ((with_reducible apply is_gd); first | refine gt ?_ | refine gf ?_ | refine gu ?_) | ((with_reducible apply is_en); refine en ?_) | (with_reducible first | apply x_then | apply wp_seq | apply c_region | apply wp_block | apply wp_skip | apply wp_exit | apply wp_ret | apply x_then_ret | apply x_then_exit | apply x_block | apply x_block_ret | apply x_block_exit | refine x_block_other (by decide) ?_))
      (try ((with_reducible apply is_gd); first | refine gt ?_ | refine gf ?_ | refine gu ?_)); refine ca (block_any b E s'.h _ hl7 _ _ w8 hB8 (hK.ch (hc3.then hc38) (by simp; omega)) hb2) ?_
      rintro _ w9 ⟨rfl, hB9, hc9⟩
      repeat (first | ((with_reducible apply is_st); refine su ?_) | ((with_reducible apply is_gd); first | refine gt ?_ | refine gf ?_ | refine gu ?_) | ((with_reducible apply is_en); refine en ?_) | (with_reducible first | apply x_then | apply wp_seq | apply c_region | apply wp_block | apply wp_skip | apply wp_exit | apply wp_ret | apply x_then_ret | apply x_then_exit | apply x_block | apply x_block_ret | apply x_block_exit | refine x_block_other (by decide) ?_))
      refine x_goes (cs.drop kk).length rfl (by simp; omega) ⟨u', _, cs.drop kk, exj rfl, rfl, hsplit, hl7, by simp; omega, (hc3.then hc38).then hc9, hR8.mv hc9 (fun _ _ h => h), hB9⟩
    · rw [tm2] at h0
      rw [if_neg (by omega)] at hsplit
      repeat (first | ((with_reducible apply is_st); refine su ?_) | ((with_reducible apply is_gd); first | refine gt ?_ | refine gf ?_ | refine gu ?_) | ((with_reducible apply is_en); refine en ?_) | (with_reducible first | apply x_then | apply wp_seq | apply c_region | apply wp_block | apply wp_skip | apply wp_exit | apply wp_ret | apply x_then_ret | apply x_then_exit | apply x_block | apply x_block_ret | apply x_block_exit | refine x_block_other (by decide) ?_))
      refine x_goes (cs.drop kk).length rfl (by simp; omega) ⟨u', _, cs.drop kk, exj rfl, rfl, hsplit, hl7, by simp; omega, hc3.then hc38, hR8, hB8⟩
  · repeat (first | ((with_reducible apply is_st); refine su ?_) | ((with_reducible apply is_gd); first | refine gt ?_ | refine gf ?_ | refine gu ?_) | ((with_reducible apply is_en); refine en ?_) | (with_reducible first | apply x_then | apply wp_seq | apply c_region | apply wp_block | apply wp_skip | apply wp_exit | apply wp_ret | apply x_then_ret | apply x_then_exit | apply x_block | apply x_block_ret | apply x_block_exit | refine x_block_other (by decide) ?_))
    have : cs = [] := List.eq_nil_of_length_eq_zero (by omega)
    subst this
    refine out0 rfl ⟨rfl, ?_, hc3⟩
    rw [← hfold]
    exact hB3
end Go.Proofs.YtbecfcnbgeeghaaDoor

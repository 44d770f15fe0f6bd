/- Walks: the iterator over the parts of a tree beside a range. -/
import Derived.Test.YtfldckjkipmibaaSeq
import Derived.Test.YtfldckjkipmibaaSplitN
import Derived.Test.YtfldckjkipmibaaMem2
set_option linter.unusedVariables false
set_option linter.unusedSimpArgs false
namespace Go.Proofs.E
open Go Go.RowKit
section
variable {P : Program} {l : List Value} {w : World} {T : TypeId}
theorem Own.form2 {α : Type} {en : En α} {base : Nat} {E : TypeId} {v : Value} {xs : List α} (h : Own en w base E v xs) (hne : xs ≠ []) : ∃ g cap, v = .slice (some ⟨g, 0, none⟩) xs.length cap ∧ xs.length ≤ cap ∧ ∀ j, j ≤ xs.length → Own en w base E (.slice (some ⟨g, 0, none⟩) j cap) (xs.take j) := by
  rcases h.2 with ⟨rfl, h0⟩ | ⟨g, cap, cur, rfl, hg, hh, hc1, hc2, hc3, hc4⟩
  · exact absurd (List.eq_nil_of_length_eq_zero h0) hne
  · refine ⟨g, cap, rfl, hc1, fun j hj => ?_⟩
    have hlen : (xs.take j).length = j := by rw [List.length_take]; omega
    refine ⟨by rw [flatMap_len en.hl], .inr ⟨g, cap, cur, by rw [hlen], hg, hh, by rw [hlen]; omega, hc2, hc3, ?_⟩⟩
    rw [hlen]
    have h1 : (cur.toList.take (xs.length * en.n)).take (j * en.n) = cur.toList.take (j * en.n) := by
      rw [List.take_take, Nat.min_eq_left (Nat.mul_le_mul_right _ hj)]
    rw [← h1, hc4]
    conv => lhs; rw [← List.take_append_drop j xs, List.flatMap_append]
    exact List.take_left' (by rw [flatMap_len en.hl, hlen])
theorem Own.kw {α : Type} {en : En α} {base b : Nat} {E TT : TypeId} {v v7 : Value} {xs : List α} {w' : World} (h : Own en w base E v xs) (hk : Kw b TT w w') (h7 : Blk w b [v7] TT) (hb : b < base) (hn : ∀ k, v7.ownBlock = some k → v.ownBlock ≠ some k) : Own en w' base E v xs := by
  refine ⟨h.1, ?_⟩
  rcases h.2 with h2 | ⟨g, cap, cur, rfl, hg, hh, r⟩
  · exact .inl h2
  · exact .inr ⟨g, cap, cur, rfl, hg, (hk.go v7 h7).1 g _ hh rfl (by omega) (fun e => hn g e rfl), r⟩
theorem Blk.kw {b bb : Nat} {TT E : TypeId} {v7 : Value} {cs : List Value} {w' : World} (h : Blk w bb cs E) (hk : Kw b TT w w') (h7 : Blk w b [v7] TT) (hb : bb ≠ b) (hn : v7.ownBlock ≠ some bb) : Blk w' bb cs E := (hk.go v7 h7).1 bb _ h rfl hb hn
end
end Go.Proofs.E
namespace Go.Proofs.Ytfldckjkipmibaa
open Go Go.RowKit Go.Proofs.E
attribute [local irreducible] Go.wpList Go.Code.wp Go.Proofs.E.exec Go.Proofs.E.wpLexG
abbrev eP : En (Nat × Nat) := { f := fun t => [.int .i64 (t.1 : Int), .int .i64 (t.2 : Int)], n := 2, hl := fun _ => rfl, h1 := fun t u hu => by simp at hu; rcases hu with rfl | rfl <;> rfl }
def pv (lo hi : Nat) : Value := .agg #[.int .i64 (lo : Int), .int .i64 (hi : Int)]
abbrev Pt := (Nat × Nat) × Bool
def encP (x : Pt) : Array Value := #[pv x.1.1 x.1.2, .bool x.2]
/-- The parts of [lo, hi) beside [a, b), and single leaves or parts within. -/
def ptF (a b : Nat) : Nat → Nat → Nat → List Pt
  | 0, _, _ => []
  | f + 1, lo, hi => if hi ≤ a ∨ b ≤ lo then [((lo, hi), true)] else if hi - lo = 1 ∨ (a ≤ lo ∧ hi ≤ b) then [((lo, hi), false)] else ptF a b f lo (lo + splitN (hi - lo)) ++ ptF a b f (lo + splitN (hi - lo)) hi
def ptN (a b lo hi : Nat) : List Pt := ptF a b (hi - lo) lo hi
theorem ptF_any (a b : Nat) : ∀ (f g lo hi : Nat), lo < hi → hi - lo ≤ f → hi - lo ≤ g → hi ≤ 9223372036854775807 → ptF a b f lo hi = ptF a b g lo hi
  | 0, _, lo, hi, h, hf, _, _ => by omega
  | _ + 1, 0, lo, hi, h, _, hg, _ => by omega
  | f + 1, g + 1, lo, hi, h, hf, hg, hb => by
    rw [ptF, ptF]
    split
    · rfl
    · split
      · rfl
      · rename_i h1 h2
        have := splitN_lt (n := hi - lo) (by omega) (by omega)
        rw [ptF_any a b f g lo _ (by omega) (by omega) (by omega) (by omega), ptF_any a b f g _ hi (by omega) (by omega) (by omega) (by omega)]
theorem pt_out {a b lo hi : Nat} (h : lo < hi) (ho : hi ≤ a ∨ b ≤ lo) : ptN a b lo hi = [((lo, hi), true)] := by
  unfold ptN
  obtain ⟨f, hf⟩ : ∃ f, hi - lo = f + 1 := ⟨hi - lo - 1, by omega⟩
  rw [hf, ptF, if_pos ho]
theorem pt_in {a b lo hi : Nat} (h : lo < hi) (ho : ¬ (hi ≤ a ∨ b ≤ lo)) (hl : hi - lo = 1 ∨ (a ≤ lo ∧ hi ≤ b)) : ptN a b lo hi = [((lo, hi), false)] := by
  unfold ptN
  obtain ⟨f, hf⟩ : ∃ f, hi - lo = f + 1 := ⟨hi - lo - 1, by omega⟩
  rw [hf, ptF, if_neg ho, if_pos hl]
theorem pt_two {a b lo hi : Nat} (h : lo < hi) (hb : hi ≤ 9223372036854775807) (ho : ¬ (hi ≤ a ∨ b ≤ lo)) (hl : ¬ (hi - lo = 1 ∨ (a ≤ lo ∧ hi ≤ b))) : ptN a b lo hi = ptN a b lo (lo + splitN (hi - lo)) ++ ptN a b (lo + splitN (hi - lo)) hi := by
  have := splitN_lt (n := hi - lo) (by omega) (by omega)
  unfold ptN
  obtain ⟨f, hf⟩ : ∃ f, hi - lo = f + 1 := ⟨hi - lo - 1, by omega⟩
  conv => lhs; rw [hf, ptF]
  rw [if_neg ho, if_neg hl, ptF_any a b f _ lo _ (by omega) (by omega) (Nat.le_refl _) (by omega), ptF_any a b f _ _ hi (by omega) (by omega) (Nat.le_refl _) (by omega)]
def stkL (a b : Nat) (stk : List (Nat × Nat)) : List Pt := stk.reverse.flatMap fun p => ptN a b p.1 p.2
theorem stkL_snoc {a b : Nat} {stk : List (Nat × Nat)} {p : Nat × Nat} : stkL a b (stk ++ [p]) = ptN a b p.1 p.2 ++ stkL a b stk := by
  unfold stkL
  rw [List.reverse_append]
  rfl
def msum (stk : List (Nat × Nat)) : Nat := (stk.map fun p => 2 * (p.2 - p.1) - 1).sum
theorem msum_snoc {stk : List (Nat × Nat)} {p : Nat × Nat} : msum (stk ++ [p]) = msum stk + (2 * (p.2 - p.1) - 1) := by
  unfold msum
  simp
theorem msum_len {stk : List (Nat × Nat)} (h : ∀ p ∈ stk, p.1 < p.2) : stk.length ≤ msum stk := by
  induction stk with
  | nil => simp [msum]
  | cons p stk ih =>
    have h1 := h p (by simp)
    have h2 := ih (fun q hq => h q (by simp [hq]))
    unfold msum at h2 ⊢
    simp
    omega
set_option maxHeartbeats 16000000 in
theorem parts_seq {n : Nat} {w0 : World} {b7 bn bf bt : Nat} {N a b : Nat} (hab : a < b) (hbN : b ≤ N) (hN : N ≤ 1099511627776) (h7 : Blk w0 b7 [.slice none 0 0] 23) (hBn : Blk w0 bn [.int .i64 (N : Int)] 3) (hBf : Blk w0 bf [.int .i64 (a : Int)] 3) (hBt : Blk w0 bt [.int .i64 (b : Int)] 3)
    (hd : bn ≠ b7 ∧ bf ≠ b7 ∧ bt ≠ b7) : SeqX Try.prog n 14 #[.pointer (some ⟨bn, 0, none⟩), .pointer (some ⟨bf, 0, none⟩), .pointer (some ⟨bt, 0, none⟩)] encP b7 23 (ptN a b 0 N) w0 := by
  intro lr J W hW hJ hY h0
  refine callsIn_wide.2 ?_
  suffices h : Calls Try.prog 14 #[.func (.yield lr) #[] #[], .pointer (some ⟨bn, 0, none⟩), .pointer (some ⟨bf, 0, none⟩), .pointer (some ⟨bt, 0, none⟩)] W (Ret fun _ W' => J (ptN a b 0 N) W') from
    h.mono fun e w ⟨v, he, h⟩ => ⟨⟨v, he⟩, h⟩
  refine enter [.func (.yield lr) #[] #[], .pointer (some ⟨bn, 0, none⟩), .pointer (some ⟨bf, 0, none⟩), .pointer (some ⟨bt, 0, none⟩), undef, undef, undef, undef, undef, undef, undef, undef, undef, undef, undef, undef, undef, undef, undef, undef, undef, undef, undef, undef, undef, undef, undef, undef, undef, undef, undef, undef, undef, undef, undef, undef, undef, undef, undef, undef, undef, undef, undef, undef, undef, undef, undef, undef, undef, undef, undef, undef, undef, undef, undef, undef, undef, undef, undef, undef, undef, undef, undef, undef, undef, undef, undef, undef, undef, undef, undef, undef, undef, undef, undef, undef, undef, undef, undef, undef, undef, undef, undef, undef, undef, undef] Try.func14 rfl rfl ?_
  have hcW : Ch [] w0 W := Ch.of_below hW
  have l7 := Nat.lt_of_lt_of_le h7.lt' hcW.size
  have ln := Nat.lt_of_lt_of_le hBn.lt' hcW.size
  have lf := Nat.lt_of_lt_of_le hBf.lt' hcW.size
  have lt := Nat.lt_of_lt_of_le hBt.lt' hcW.size
  have h7 := h7.ch hcW (by simp)
  have hBn := hBn.ch hcW (by simp)
  have hBf := hBf.ch hcW (by simp)
  have hBt := hBt.ch hcW (by simp)
  repeat (first | ((with_reducible apply is_st); refine su ?_) | ((with_reducible apply is_gd); first | refine gt ?_ | refine gf ?_ | refine gu ?_) | ((with_reducible apply is_en); refine en ?_) | (with_reducible first | apply x_then | apply wp_seq | apply c_region | apply wp_block | apply wp_skip | apply wp_exit | apply wp_ret | apply wp_label | apply wp_scope_straight | apply x_ng | apply x_ng_ret | apply x_ng_exit | apply x_then_ret | apply x_then_exit | apply x_block | apply x_block_ret | apply x_block_exit | refine x_block_other (by decide) ?_))
  refine ldb hBn rfl rfl ?_
  (try ((with_reducible apply is_gd); first | refine gt ?_ | refine gf ?_ | refine gu ?_)); refine wl_val (r_build_arr (e := 3) (m := 1) (vs := [.int .i64 0, .int .i64 (N : Int)]) rfl rfl (by simp [Value.cells])) ?_
  refine wl_buildSlice (parts := [(0, .tmp 10)]) (vs := [pv 0 N]) rfl rfl (by simp [pv, Value.cells]) (by omega) (fun w1 b1 hb1 => ?_)
  have hO1 : Go.Proofs.E.Own eP w1 W.heap.size 25 (.slice (some ⟨b1, 0, none⟩) 1 1) [(0, N)] := Go.Proofs.E.Own.of_new hb1 rfl (Nat.le_refl _) (by simp) rfl
  have hJ1 := hJ _ _ _ h0 (Mv.ch hb1.ch (Nat.le_refl _))
  have hm0 : msum [(0, N)] = 2 * N - 1 := by simp [msum]
  repeat (first | ((with_reducible apply is_st); refine su ?_) | ((with_reducible apply is_gd); first | refine gt ?_ | refine gf ?_ | refine gu ?_) | ((with_reducible apply is_en); refine en ?_) | (with_reducible first | apply x_then | apply wp_seq | apply c_region | apply wp_block | apply wp_skip | apply wp_exit | apply wp_ret | apply wp_label | apply wp_scope_straight | apply x_ng | apply x_ng_ret | apply x_ng_exit | apply x_then_ret | apply x_then_exit | apply x_block | apply x_block_ret | apply x_block_exit | refine x_block_other (by decide) ?_))
  
  refine c_loop (fun k l w' => ∃ (v v7 : Value) (stk : List (Nat × Nat)) (pre : List Pt), (∃ jj : Nat → Value, l = [.func (.yield lr) #[] #[], .pointer (some ⟨bn, 0, none⟩), .pointer (some ⟨bf, 0, none⟩), .pointer (some ⟨bt, 0, none⟩), jj 4, v, jj 6, jj 7, jj 8, jj 9, jj 10, jj 11, jj 12, jj 13, jj 14, jj 15, jj 16, jj 17, jj 18, jj 19, jj 20, jj 21, jj 22, jj 23, jj 24, jj 25, jj 26, jj 27, jj 28, jj 29, jj 30, jj 31, jj 32, jj 33, jj 34, jj 35, jj 36, jj 37, jj 38, jj 39, jj 40, jj 41, jj 42, jj 43, jj 44, jj 45, jj 46, jj 47, jj 48, jj 49, jj 50, jj 51, jj 52, jj 53, jj 54, jj 55, jj 56, jj 57, jj 58, jj 59, jj 60, jj 61, jj 62, jj 63, jj 64, jj 65, jj 66, jj 67, jj 68, jj 69, jj 70, jj 71, jj 72, jj 73, jj 74, jj 75, jj 76, jj 77, jj 78, jj 79, jj 80, jj 81, jj 82, jj 83, jj 84, jj 85]) ∧ k = msum stk ∧ k ≤ 2 * N ∧ (∀ p ∈ stk, p.1 < p.2 ∧ p.2 ≤ N) ∧ pre ++ stkL a b stk = ptN a b 0 N ∧ J pre w' ∧ Go.Proofs.E.Own eP w' W.heap.size 25 v stk ∧
      Blk w' b7 [v7] 23 ∧ (∀ k, v7.ownBlock = some k → W.heap.size ≤ k ∧ k < w'.heap.size ∧ v.ownBlock ≠ some k) ∧ Blk w' bn [.int .i64 (N : Int)] 3 ∧ Blk w' bf [.int .i64 (a : Int)] 3 ∧ Blk w' bt [.int .i64 (b : Int)] 3 ∧ W.heap.size ≤ w'.heap.size) (2 * N - 1)
    ⟨_, .slice none 0 0, [(0, N)], [], exj rfl, hm0.symm, by omega, fun p hp => by simp at hp; subst hp; exact ⟨by omega, Nat.le_refl _⟩, by unfold stkL; simp, hJ1, hO1, h7.ch hb1.ch (by simp), (fun k hk => by cases hk), hBn.ch hb1.ch (by simp), hBf.ch hb1.ch (by simp), hBt.ch hb1.ch (by simp), hb1.ch.size⟩ ?_
  rintro k l w4 ⟨v, v7, stk, pre, ⟨jj, rfl⟩, rfl, hk2, hst, hpre, hJ4, hO, h7, h77, hBn, hBf, hBt, hz4⟩
  obtain ⟨A, c, rfl, hcle⟩ := hO.form
  have hslen := msum_len (fun p hp => (hst p hp).1)
  repeat (first | ((with_reducible apply is_st); refine su ?_) | ((with_reducible apply is_gd); first | refine gt ?_ | refine gf ?_ | refine gu ?_) | ((with_reducible apply is_en); refine en ?_) | (with_reducible first | apply x_then | apply wp_seq | apply c_region | apply wp_block | apply wp_skip | apply wp_exit | apply wp_ret | apply wp_label | apply wp_scope_straight | apply x_ng | apply x_ng_ret | apply x_ng_exit | apply x_then_ret | apply x_then_exit | apply x_block | apply x_block_ret | apply x_block_exit | refine x_block_other (by decide) ?_))
  refine c_cond rfl (fun hl => ?_) (fun hl => ?_)
  · have hne : stk ≠ [] := fun e => by subst e; simp at hl
    obtain ⟨g, cap, hvv, hcap, hcut⟩ := hO.form2 hne
    injection hvv with hv1 _ hv3
    subst hv1 hv3
    obtain ⟨ys, ⟨lo, hi⟩, rfl⟩ : ∃ ys p, stk = ys ++ [p] := ⟨stk.dropLast, stk.getLast hne, (List.dropLast_concat_getLast hne).symm⟩
    have hyl : (ys ++ [(lo, hi)]).length = ys.length + 1 := by simp
    obtain ⟨hlh, hhN⟩ := hst (lo, hi) (by simp)
    have hlh : lo < hi := hlh
    have hhN : hi ≤ N := hhN
    have hpre2 : (pre ++ ptN a b lo hi) ++ stkL a b ys = ptN a b 0 N := by rw [List.append_assoc, ← stkL_snoc (p := (lo, hi))]; exact hpre
    have hms : msum (ys ++ [(lo, hi)]) = msum ys + (2 * (hi - lo) - 1) := msum_snoc
    have hOy : Go.Proofs.E.Own eP w4 W.heap.size 25 (.slice (some ⟨g, 0, none⟩) ys.length c) ys := by
      have := hcut ys.length (by omega)
      rwa [List.take_left' rfl] at this
    have hgB := hOy.lt (k := g) rfl
    have hg7 : v7.ownBlock ≠ some g := fun e => (h77 g e).2.2 rfl
    repeat (first | ((with_reducible apply is_st); refine su ?_) | ((with_reducible apply is_gd); first | refine gt ?_ | refine gf ?_ | refine gu ?_) | ((with_reducible apply is_en); refine en ?_) | (with_reducible first | apply x_then | apply wp_seq | apply c_region | apply wp_block | apply wp_skip | apply wp_exit | apply wp_ret | apply wp_label | apply wp_scope_straight | apply x_ng | apply x_ng_ret | apply x_ng_exit | apply x_then_ret | apply x_then_exit | apply x_block | apply x_block_ret | apply x_block_exit | refine x_block_other (by decide) ?_))
    (try ((with_reducible apply is_gd); first | refine gt ?_ | refine gf ?_ | refine gu ?_)); refine ix (hO.rd (S := []) (by simp) (by omega)) (fun b5 o5 x hx hA => ?_)
    rw [show (((ys ++ [(lo, hi)]).length : Int) - 1).toNat = ys.length by omega, List.getElem?_append_right (Nat.le_refl _), Nat.sub_self] at hx
    obtain rfl := Option.some.inj hx
    (try ((with_reducible apply is_gd); first | refine gt ?_ | refine gf ?_ | refine gu ?_)); refine ldr hA ?_
    refine wl_alloc (fun w5 b6 hb6 => ?_)
    refine stbw (n := 2) (vs := eP.f (lo, hi)) hb6.blk rfl rfl rfl rfl (eP.h1 (lo, hi)) (fun w6 hB6 hch6 hs6 => ?_)
    have e6 := hb6.at_
    have hc6 : Ch [] w4 w6 := hb6.ch.own hch6 (by omega)
    have hJ6 := hJ _ _ _ hJ4 (Mv.ch hc6 hz4)
    have hOy := hOy.ch hc6 (by simp)
    have h7 := h7.ch hc6 (by simp)
    have hBn := hBn.ch hc6 (by simp)
    have hBf := hBf.ch hc6 (by simp)
    have hBt := hBt.ch hc6 (by simp)
    have z6 := hc6.size
    have h77 : ∀ k, v7.ownBlock = some k → W.heap.size ≤ k ∧ k < w6.heap.size ∧ g ≠ k := fun k hk => by
      obtain ⟨q1, q2, q3⟩ := h77 k hk
      exact ⟨q1, by omega, fun e => q3 (by rw [e]; rfl)⟩
    repeat (first | ((with_reducible apply is_st); refine su ?_) | ((with_reducible apply is_gd); first | refine gt ?_ | refine gf ?_ | refine gu ?_) | ((with_reducible apply is_en); refine en ?_) | (with_reducible first | apply x_then | apply wp_seq | apply c_region | apply wp_block | apply wp_skip | apply wp_exit | apply wp_ret | apply wp_label | apply wp_scope_straight | apply x_ng | apply x_ng_ret | apply x_ng_exit | apply x_then_ret | apply x_then_exit | apply x_block | apply x_block_ret | apply x_block_exit | refine x_block_other (by decide) ?_))
    (try ((with_reducible apply is_gd); first | refine gt ?_ | refine gf ?_ | refine gu ?_)); refine wl_val (r_cut_own rfl rfl (by omega) (by omega)) ?_
    rw [show (((ys ++ [(lo, hi)]).length : Int) - 1).toNat = ys.length by omega]
    repeat (first | ((with_reducible apply is_st); refine su ?_) | ((with_reducible apply is_gd); first | refine gt ?_ | refine gf ?_ | refine gu ?_) | ((with_reducible apply is_en); refine en ?_) | (with_reducible first | apply x_then | apply wp_seq | apply c_region | apply wp_block | apply wp_skip | apply wp_exit | apply wp_ret | apply wp_label | apply wp_scope_straight | apply x_ng | apply x_ng_ret | apply x_ng_exit | apply x_then_ret | apply x_then_exit | apply x_block | apply x_block_ret | apply x_block_exit | refine x_block_other (by decide) ?_))
    refine ldb hB6 rfl rfl ?_
    refine ldb hBf rfl rfl ?_
    have hfin : ∀ w7 : World, Kw b7 23 w6 w7 → ∃ v7' : Value, Blk w7 b7 [v7'] 23 ∧ (∀ k, v7'.ownBlock = some k → W.heap.size ≤ k ∧ k < w7.heap.size ∧ (Value.slice (some ⟨g, 0, none⟩) ys.length c).ownBlock ≠ some k) ∧ Go.Proofs.E.Own eP w7 W.heap.size 25 (.slice (some ⟨g, 0, none⟩) ys.length c) ys ∧
        Blk w7 bn [.int .i64 (N : Int)] 3 ∧ Blk w7 bf [.int .i64 (a : Int)] 3 ∧ Blk w7 bt [.int .i64 (b : Int)] 3 ∧ W.heap.size ≤ w7.heap.size := fun w7 hk7 => by
      obtain ⟨v7', h7', ho7⟩ := (hk7.go v7 h7).2
      have z7 := hk7.size
      have hno : ∀ bb, bb < W.heap.size → v7.ownBlock ≠ some bb := fun bb hb e => by have := (h77 bb e).1; omega
      refine ⟨v7', h7', fun k hk => ?_, hOy.kw hk7 h7 l7 (fun k hk e => ?_), hBn.kw hk7 h7 hd.1 (hno _ ln), hBf.kw hk7 h7 hd.2.1 (hno _ lf), hBt.kw hk7 h7 hd.2.2 (hno _ lt), by omega⟩
      · rcases ho7 with ho7 | ⟨q, ho7, hq1, hq2⟩
        · obtain ⟨q1, q2, q3⟩ := h77 k (ho7.symm.trans hk)
          exact ⟨q1, by omega, fun e => q3 (Option.some.inj e)⟩
        · have : q = k := Option.some.inj (ho7.symm.trans hk)
          subst this
          exact ⟨by omega, hq2, fun e => by
            have : g = q := Option.some.inj e
            omega⟩
      · exact (h77 k hk).2.2 (Option.some.inj e)
    by_cases h1 : hi ≤ a
    · have hpt := pt_out hlh (.inl h1 : hi ≤ a ∨ b ≤ lo)
      repeat (first | ((with_reducible apply is_st); refine su ?_) | ((with_reducible apply is_gd); first | refine gt ?_ | refine gf ?_ | refine gu ?_) | ((with_reducible apply is_en); refine en ?_) | (with_reducible first | apply x_then | apply wp_seq | apply wp_block | apply wp_skip | apply wp_exit | apply wp_ret | apply wp_label | apply wp_scope_straight | apply x_ng | apply x_ng_ret | apply x_ng_exit | apply x_then_ret | apply x_then_exit | apply x_block | apply x_block_ret | apply x_block_exit | refine x_block_other (by decide) ?_))
      refine c_region ?_
      repeat (first | ((with_reducible apply is_st); refine su ?_) | ((with_reducible apply is_gd); first | refine gt ?_ | refine gf ?_ | refine gu ?_) | ((with_reducible apply is_en); refine en ?_) | (with_reducible first | apply x_then | apply wp_seq | apply wp_block | apply wp_skip | apply wp_exit | apply wp_ret | apply wp_label | apply wp_scope_straight | apply x_ng | apply x_ng_ret | apply x_ng_exit | apply x_then_ret | apply x_then_exit | apply x_block | apply x_block_ret | apply x_block_exit | refine x_block_other (by decide) ?_))
      refine c_condb rfl (fun _ => ?_) (fun h => by cases h)
      repeat (first | ((with_reducible apply is_st); refine su ?_) | ((with_reducible apply is_gd); first | refine gt ?_ | refine gf ?_ | refine gu ?_) | ((with_reducible apply is_en); refine en ?_) | (with_reducible first | apply x_then | apply wp_seq | apply wp_block | apply wp_skip | apply wp_exit | apply wp_ret | apply wp_label | apply wp_scope_straight | apply x_ng | apply x_ng_ret | apply x_ng_exit | apply x_then_ret | apply x_then_exit | apply x_block | apply x_block_ret | apply x_block_exit | refine x_block_other (by decide) ?_))
      refine (wpIn_wide (n := n)).1 (wpIn_region_lit ?_)
      refine li_val (r_move _) ?_
      refine li_val (r_load_row rfl (hB6.row (n := 2) (o := 0) rfl) rfl) ?_
      refine li_val (r_move _) ?_
      refine li_yield rfl rfl (hY pre ((lo, hi), true) w6 hJ6 (by have := congrArg List.length hpre2; rw [hpt] at this; simp at this; omega)) ?_
      rintro e w7 ⟨rfl, hJ7, hk7⟩
      obtain ⟨v7', h7', h77', hO', hBn', hBf', hBt', hz7⟩ := hfin w7 hk7
      refine ⟨_, rfl, ?_⟩
      refine li_val (r_not rfl) ?_
      refine wpListIn_nil ?_
      repeat (first | ((with_reducible apply is_st); refine su ?_) | ((with_reducible apply is_gd); first | refine gt ?_ | refine gf ?_ | refine gu ?_) | ((with_reducible apply is_en); refine en ?_) | (with_reducible first | apply x_then | apply wp_seq | apply wp_block | apply wp_skip | apply wp_exit | apply wp_ret | apply wp_label | apply wp_scope_straight | apply x_ng | apply x_ng_ret | apply x_ng_exit | apply x_then_ret | apply x_then_exit | apply x_block | apply x_block_ret | apply x_block_exit | refine x_block_other (by decide) ?_))
      refine c_condb rfl (fun h => by cases h) (fun _ => ?_)
      repeat (first | ((with_reducible apply is_st); refine su ?_) | ((with_reducible apply is_gd); first | refine gt ?_ | refine gf ?_ | refine gu ?_) | ((with_reducible apply is_en); refine en ?_) | (with_reducible first | apply x_then | apply wp_seq | apply c_region | apply wp_block | apply wp_skip | apply wp_exit | apply wp_ret | apply wp_label | apply wp_scope_straight | apply x_ng | apply x_ng_ret | apply x_ng_exit | apply x_then_ret | apply x_then_exit | apply x_block | apply x_block_ret | apply x_block_exit | refine x_block_other (by decide) ?_))
      exact x_goes (msum ys) rfl (by omega) ⟨_, v7', ys, pre ++ [((lo, hi), true)], exj rfl, rfl, by omega, fun p hp => hst p (by simp [hp]), by rw [← hpt]; exact hpre2, hJ7, hO', h7', h77', hBn', hBf', hBt', hz7⟩
    · by_cases h2 : b ≤ lo
      · have hpt := pt_out hlh (.inr h2 : hi ≤ a ∨ b ≤ lo)
        repeat (first | ((with_reducible apply is_st); refine su ?_) | ((with_reducible apply is_gd); first | refine gt ?_ | refine gf ?_ | refine gu ?_) | ((with_reducible apply is_en); refine en ?_) | (with_reducible first | apply x_then | apply wp_seq | apply wp_block | apply wp_skip | apply wp_exit | apply wp_ret | apply wp_label | apply wp_scope_straight | apply x_ng | apply x_ng_ret | apply x_ng_exit | apply x_then_ret | apply x_then_exit | apply x_block | apply x_block_ret | apply x_block_exit | refine x_block_other (by decide) ?_))
        (try ((with_reducible apply is_gd); refine gt ?_))
        refine ldb hB6 rfl rfl ?_
        (try ((with_reducible apply is_gd); refine gt ?_))
        refine ldb hBt rfl rfl ?_
        repeat (first | ((with_reducible apply is_st); refine su ?_) | ((with_reducible apply is_gd); first | refine gt ?_ | refine gf ?_ | refine gu ?_) | ((with_reducible apply is_en); refine en ?_) | (with_reducible first | apply x_then | apply wp_seq | apply wp_block | apply wp_skip | apply wp_exit | apply wp_ret | apply wp_label | apply wp_scope_straight | apply x_ng | apply x_ng_ret | apply x_ng_exit | apply x_then_ret | apply x_then_exit | apply x_block | apply x_block_ret | apply x_block_exit | refine x_block_other (by decide) ?_))
        rw [decide_eq_true (show (b : Int) ≤ (lo : Int) by omega)]
        refine c_region ?_
        repeat (first | ((with_reducible apply is_st); refine su ?_) | ((with_reducible apply is_gd); first | refine gt ?_ | refine gf ?_ | refine gu ?_) | ((with_reducible apply is_en); refine en ?_) | (with_reducible first | apply x_then | apply wp_seq | apply wp_block | apply wp_skip | apply wp_exit | apply wp_ret | apply wp_label | apply wp_scope_straight | apply x_ng | apply x_ng_ret | apply x_ng_exit | apply x_then_ret | apply x_then_exit | apply x_block | apply x_block_ret | apply x_block_exit | refine x_block_other (by decide) ?_))
        refine c_condb rfl (fun _ => ?_) (fun h => by cases h)
        repeat (first | ((with_reducible apply is_st); refine su ?_) | ((with_reducible apply is_gd); first | refine gt ?_ | refine gf ?_ | refine gu ?_) | ((with_reducible apply is_en); refine en ?_) | (with_reducible first | apply x_then | apply wp_seq | apply wp_block | apply wp_skip | apply wp_exit | apply wp_ret | apply wp_label | apply wp_scope_straight | apply x_ng | apply x_ng_ret | apply x_ng_exit | apply x_then_ret | apply x_then_exit | apply x_block | apply x_block_ret | apply x_block_exit | refine x_block_other (by decide) ?_))
        refine (wpIn_wide (n := n)).1 (wpIn_region_lit ?_)
        refine li_val (r_move _) ?_
        refine li_val (r_load_row rfl (hB6.row (n := 2) (o := 0) rfl) rfl) ?_
        refine li_val (r_move _) ?_
        refine li_yield rfl rfl (hY pre ((lo, hi), true) w6 hJ6 (by have := congrArg List.length hpre2; rw [hpt] at this; simp at this; omega)) ?_
        rintro e w7 ⟨rfl, hJ7, hk7⟩
        obtain ⟨v7', h7', h77', hO', hBn', hBf', hBt', hz7⟩ := hfin w7 hk7
        refine ⟨_, rfl, ?_⟩
        refine li_val (r_not rfl) ?_
        refine wpListIn_nil ?_
        repeat (first | ((with_reducible apply is_st); refine su ?_) | ((with_reducible apply is_gd); first | refine gt ?_ | refine gf ?_ | refine gu ?_) | ((with_reducible apply is_en); refine en ?_) | (with_reducible first | apply x_then | apply wp_seq | apply wp_block | apply wp_skip | apply wp_exit | apply wp_ret | apply wp_label | apply wp_scope_straight | apply x_ng | apply x_ng_ret | apply x_ng_exit | apply x_then_ret | apply x_then_exit | apply x_block | apply x_block_ret | apply x_block_exit | refine x_block_other (by decide) ?_))
        refine c_condb rfl (fun h => by cases h) (fun _ => ?_)
        repeat (first | ((with_reducible apply is_st); refine su ?_) | ((with_reducible apply is_gd); first | refine gt ?_ | refine gf ?_ | refine gu ?_) | ((with_reducible apply is_en); refine en ?_) | (with_reducible first | apply x_then | apply wp_seq | apply c_region | apply wp_block | apply wp_skip | apply wp_exit | apply wp_ret | apply wp_label | apply wp_scope_straight | apply x_ng | apply x_ng_ret | apply x_ng_exit | apply x_then_ret | apply x_then_exit | apply x_block | apply x_block_ret | apply x_block_exit | refine x_block_other (by decide) ?_))
        exact x_goes (msum ys) rfl (by omega) ⟨_, v7', ys, pre ++ [((lo, hi), true)], exj rfl, rfl, by omega, fun p hp => hst p (by simp [hp]), by rw [← hpt]; exact hpre2, hJ7, hO', h7', h77', hBn', hBf', hBt', hz7⟩
      · have ho : ¬ (hi ≤ a ∨ b ≤ lo) := fun h => h.elim h1 h2
        repeat (first | ((with_reducible apply is_st); refine su ?_) | ((with_reducible apply is_gd); first | refine gt ?_ | refine gf ?_ | refine gu ?_) | ((with_reducible apply is_en); refine en ?_) | (with_reducible first | apply x_then | apply wp_seq | apply wp_block | apply wp_skip | apply wp_exit | apply wp_ret | apply wp_label | apply wp_scope_straight | apply x_ng | apply x_ng_ret | apply x_ng_exit | apply x_then_ret | apply x_then_exit | apply x_block | apply x_block_ret | apply x_block_exit | refine x_block_other (by decide) ?_))
        (try ((with_reducible apply is_gd); refine gt ?_))
        refine ldb hB6 rfl rfl ?_
        (try ((with_reducible apply is_gd); refine gt ?_))
        refine ldb hBt rfl rfl ?_
        repeat (first | ((with_reducible apply is_st); refine su ?_) | ((with_reducible apply is_gd); first | refine gt ?_ | refine gf ?_ | refine gu ?_) | ((with_reducible apply is_en); refine en ?_) | (with_reducible first | apply x_then | apply wp_seq | apply wp_block | apply wp_skip | apply wp_exit | apply wp_ret | apply wp_label | apply wp_scope_straight | apply x_ng | apply x_ng_ret | apply x_ng_exit | apply x_then_ret | apply x_then_exit | apply x_block | apply x_block_ret | apply x_block_exit | refine x_block_other (by decide) ?_))
        rw [decide_eq_false (show ¬ (b : Int) ≤ (lo : Int) by omega)]
        refine c_region ?_
        repeat (first | ((with_reducible apply is_st); refine su ?_) | ((with_reducible apply is_gd); first | refine gt ?_ | refine gf ?_ | refine gu ?_) | ((with_reducible apply is_en); refine en ?_) | (with_reducible first | apply x_then | apply wp_seq | apply wp_block | apply wp_skip | apply wp_exit | apply wp_ret | apply wp_label | apply wp_scope_straight | apply x_ng | apply x_ng_ret | apply x_ng_exit | apply x_then_ret | apply x_then_exit | apply x_block | apply x_block_ret | apply x_block_exit | refine x_block_other (by decide) ?_))
        (try ((with_reducible apply is_gd); refine gt ?_))
        refine ldb hB6 rfl rfl ?_
        repeat (first | ((with_reducible apply is_st); refine su ?_) | ((with_reducible apply is_gd); first | refine gt ?_ | refine gf ?_ | refine gu ?_) | ((with_reducible apply is_en); refine en ?_) | (with_reducible first | apply x_then | apply wp_seq | apply wp_block | apply wp_skip | apply wp_exit | apply wp_ret | apply wp_label | apply wp_scope_straight | apply x_ng | apply x_ng_ret | apply x_ng_exit | apply x_then_ret | apply x_then_exit | apply x_block | apply x_block_ret | apply x_block_exit | refine x_block_other (by decide) ?_))
        (try ((with_reducible apply is_gd); refine gt ?_))
        refine ldb hB6 rfl rfl ?_
        repeat (first | ((with_reducible apply is_st); refine su ?_) | ((with_reducible apply is_gd); first | refine gt ?_ | refine gf ?_ | refine gu ?_) | ((with_reducible apply is_en); refine en ?_) | (with_reducible first | apply x_then | apply wp_seq | apply wp_block | apply wp_skip | apply wp_exit | apply wp_ret | apply wp_label | apply wp_scope_straight | apply x_ng | apply x_ng_ret | apply x_ng_exit | apply x_then_ret | apply x_then_exit | apply x_block | apply x_block_ret | apply x_block_exit | refine x_block_other (by decide) ?_))
        refine c_cond rfl (fun hlf => ?_) (fun hlf => ?_)
        · have hpt := pt_in hlh ho (.inl (by omega) : hi - lo = 1 ∨ (a ≤ lo ∧ hi ≤ b))
          repeat (first | ((with_reducible apply is_st); refine su ?_) | ((with_reducible apply is_gd); first | refine gt ?_ | refine gf ?_ | refine gu ?_) | ((with_reducible apply is_en); refine en ?_) | (with_reducible first | apply x_then | apply wp_seq | apply wp_block | apply wp_skip | apply wp_exit | apply wp_ret | apply wp_label | apply wp_scope_straight | apply x_ng | apply x_ng_ret | apply x_ng_exit | apply x_then_ret | apply x_then_exit | apply x_block | apply x_block_ret | apply x_block_exit | refine x_block_other (by decide) ?_))
          refine (wpIn_wide (n := n)).1 (wpIn_region_lit ?_)
          refine li_val (r_move _) ?_
          refine li_val (r_load_row rfl (hB6.row (n := 2) (o := 0) rfl) rfl) ?_
          refine li_val (r_move _) ?_
          refine li_yield rfl rfl (hY pre ((lo, hi), false) w6 hJ6 (by have := congrArg List.length hpre2; rw [hpt] at this; simp at this; omega)) ?_
          rintro e w7 ⟨rfl, hJ7, hk7⟩
          obtain ⟨v7', h7', h77', hO', hBn', hBf', hBt', hz7⟩ := hfin w7 hk7
          refine ⟨_, rfl, ?_⟩
          refine li_val (r_not rfl) ?_
          refine wpListIn_nil ?_
          repeat (first | ((with_reducible apply is_st); refine su ?_) | ((with_reducible apply is_gd); first | refine gt ?_ | refine gf ?_ | refine gu ?_) | ((with_reducible apply is_en); refine en ?_) | (with_reducible first | apply x_then | apply wp_seq | apply wp_block | apply wp_skip | apply wp_exit | apply wp_ret | apply wp_label | apply wp_scope_straight | apply x_ng | apply x_ng_ret | apply x_ng_exit | apply x_then_ret | apply x_then_exit | apply x_block | apply x_block_ret | apply x_block_exit | refine x_block_other (by decide) ?_))
          refine c_condb rfl (fun h => by cases h) (fun _ => ?_)
          repeat (first | ((with_reducible apply is_st); refine su ?_) | ((with_reducible apply is_gd); first | refine gt ?_ | refine gf ?_ | refine gu ?_) | ((with_reducible apply is_en); refine en ?_) | (with_reducible first | apply x_then | apply wp_seq | apply c_region | apply wp_block | apply wp_skip | apply wp_exit | apply wp_ret | apply wp_label | apply wp_scope_straight | apply x_ng | apply x_ng_ret | apply x_ng_exit | apply x_then_ret | apply x_then_exit | apply x_block | apply x_block_ret | apply x_block_exit | refine x_block_other (by decide) ?_))
          exact x_goes (msum ys) rfl (by omega) ⟨_, v7', ys, pre ++ [((lo, hi), false)], exj rfl, rfl, by omega, fun p hp => hst p (by simp [hp]), by rw [← hpt]; exact hpre2, hJ7, hO', h7', h77', hBn', hBf', hBt', hz7⟩
        · repeat (first | ((with_reducible apply is_st); refine su ?_) | ((with_reducible apply is_gd); first | refine gt ?_ | refine gf ?_ | refine gu ?_) | ((with_reducible apply is_en); refine en ?_) | (with_reducible first | apply x_then | apply wp_seq | apply wp_block | apply wp_skip | apply wp_exit | apply wp_ret | apply wp_label | apply wp_scope_straight | apply x_ng | apply x_ng_ret | apply x_ng_exit | apply x_then_ret | apply x_then_exit | apply x_block | apply x_block_ret | apply x_block_exit | refine x_block_other (by decide) ?_))
          refine c_region ?_
          refine ldb hBf rfl rfl ?_
          repeat (first | ((with_reducible apply is_st); refine su ?_) | ((with_reducible apply is_gd); first | refine gt ?_ | refine gf ?_ | refine gu ?_) | ((with_reducible apply is_en); refine en ?_) | (with_reducible first | apply x_then | apply wp_seq | apply wp_block | apply wp_skip | apply wp_exit | apply wp_ret | apply wp_label | apply wp_scope_straight | apply x_ng | apply x_ng_ret | apply x_ng_exit | apply x_then_ret | apply x_then_exit | apply x_block | apply x_block_ret | apply x_block_exit | refine x_block_other (by decide) ?_))
          refine ldb hB6 rfl rfl ?_
          by_cases ha : a ≤ lo
          · repeat (first | ((with_reducible apply is_st); refine su ?_) | ((with_reducible apply is_gd); first | refine gt ?_ | refine gf ?_ | refine gu ?_) | ((with_reducible apply is_en); refine en ?_) | (with_reducible first | apply x_then | apply wp_seq | apply wp_block | apply wp_skip | apply wp_exit | apply wp_ret | apply wp_label | apply wp_scope_straight | apply x_ng | apply x_ng_ret | apply x_ng_exit | apply x_then_ret | apply x_then_exit | apply x_block | apply x_block_ret | apply x_block_exit | refine x_block_other (by decide) ?_))
            (try ((with_reducible apply is_gd); refine gt ?_))
            refine ldb hB6 rfl rfl ?_
            (try ((with_reducible apply is_gd); refine gt ?_))
            refine ldb hBt rfl rfl ?_
            repeat (first | ((with_reducible apply is_st); refine su ?_) | ((with_reducible apply is_gd); first | refine gt ?_ | refine gf ?_ | refine gu ?_) | ((with_reducible apply is_en); refine en ?_) | (with_reducible first | apply x_then | apply wp_seq | apply wp_block | apply wp_skip | apply wp_exit | apply wp_ret | apply wp_label | apply wp_scope_straight | apply x_ng | apply x_ng_ret | apply x_ng_exit | apply x_then_ret | apply x_then_exit | apply x_block | apply x_block_ret | apply x_block_exit | refine x_block_other (by decide) ?_))
            refine c_cond rfl (fun hhb => ?_) (fun hhb => ?_)
            · have hpt := pt_in hlh ho (.inr (by omega) : hi - lo = 1 ∨ (a ≤ lo ∧ hi ≤ b))
              repeat (first | ((with_reducible apply is_st); refine su ?_) | ((with_reducible apply is_gd); first | refine gt ?_ | refine gf ?_ | refine gu ?_) | ((with_reducible apply is_en); refine en ?_) | (with_reducible first | apply x_then | apply wp_seq | apply wp_block | apply wp_skip | apply wp_exit | apply wp_ret | apply wp_label | apply wp_scope_straight | apply x_ng | apply x_ng_ret | apply x_ng_exit | apply x_then_ret | apply x_then_exit | apply x_block | apply x_block_ret | apply x_block_exit | refine x_block_other (by decide) ?_))
              refine (wpIn_wide (n := n)).1 (wpIn_region_lit ?_)
              refine li_val (r_move _) ?_
              refine li_val (r_load_row rfl (hB6.row (n := 2) (o := 0) rfl) rfl) ?_
              refine li_yield rfl rfl (hY pre ((lo, hi), false) w6 hJ6 (by have := congrArg List.length hpre2; rw [hpt] at this; simp at this; omega)) ?_
              rintro e w7 ⟨rfl, hJ7, hk7⟩
              obtain ⟨v7', h7', h77', hO', hBn', hBf', hBt', hz7⟩ := hfin w7 hk7
              refine ⟨_, rfl, ?_⟩
              refine li_val (r_not rfl) ?_
              refine wpListIn_nil ?_
              repeat (first | ((with_reducible apply is_st); refine su ?_) | ((with_reducible apply is_gd); first | refine gt ?_ | refine gf ?_ | refine gu ?_) | ((with_reducible apply is_en); refine en ?_) | (with_reducible first | apply x_then | apply wp_seq | apply wp_block | apply wp_skip | apply wp_exit | apply wp_ret | apply wp_label | apply wp_scope_straight | apply x_ng | apply x_ng_ret | apply x_ng_exit | apply x_then_ret | apply x_then_exit | apply x_block | apply x_block_ret | apply x_block_exit | refine x_block_other (by decide) ?_))
              refine c_condb rfl (fun h => by cases h) (fun _ => ?_)
              repeat (first | ((with_reducible apply is_st); refine su ?_) | ((with_reducible apply is_gd); first | refine gt ?_ | refine gf ?_ | refine gu ?_) | ((with_reducible apply is_en); refine en ?_) | (with_reducible first | apply x_then | apply wp_seq | apply c_region | apply wp_block | apply wp_skip | apply wp_exit | apply wp_ret | apply wp_label | apply wp_scope_straight | apply x_ng | apply x_ng_ret | apply x_ng_exit | apply x_then_ret | apply x_then_exit | apply x_block | apply x_block_ret | apply x_block_exit | refine x_block_other (by decide) ?_))
              exact x_goes (msum ys) rfl (by omega) ⟨_, v7', ys, pre ++ [((lo, hi), false)], exj rfl, rfl, by omega, fun p hp => hst p (by simp [hp]), by rw [← hpt]; exact hpre2, hJ7, hO', h7', h77', hBn', hBf', hBt', hz7⟩
            · have hleaf : ¬ (hi - lo = 1 ∨ (a ≤ lo ∧ hi ≤ b)) := by omega
              have hsp := splitN_lt (n := hi - lo) (by omega) (by omega)
              repeat (first | ((with_reducible apply is_st); refine su ?_) | ((with_reducible apply is_gd); first | refine gt ?_ | refine gf ?_ | refine gu ?_) | ((with_reducible apply is_en); refine en ?_) | (with_reducible first | apply x_then | apply wp_seq | apply wp_block | apply wp_skip | apply wp_exit | apply wp_ret | apply wp_label | apply wp_scope_straight | apply x_ng | apply x_ng_ret | apply x_ng_exit | apply x_then_ret | apply x_then_exit | apply x_block | apply x_block_ret | apply x_block_exit | refine x_block_other (by decide) ?_))
              refine c_draw [] (by kernel_rfl) (by kernel_rfl) (fun w7 hc7 hs7 => ?_)
              have hB67 := hB6.ch hc7 (by simp)
              repeat (first | ((with_reducible apply is_sg); refine sgu ?_) | ((with_reducible apply is_gg); first | refine gtg ?_ | refine gfg ?_ | refine gug ?_) | ((with_reducible apply is_eg); refine eg ?_))
              refine ldbg hB67 (by simp) rfl rfl ?_
              repeat (first | ((with_reducible apply is_sg); refine sgu ?_) | ((with_reducible apply is_gg); first | refine gtg ?_ | refine gfg ?_ | refine gug ?_) | ((with_reducible apply is_eg); refine eg ?_))
              refine ldbg hB67 (by simp) rfl rfl ?_
              repeat (first | ((with_reducible apply is_sg); refine sgu ?_) | ((with_reducible apply is_gg); first | refine gtg ?_ | refine gfg ?_ | refine gug ?_) | ((with_reducible apply is_eg); refine eg ?_))
              refine ldbg hB67 (by simp) rfl rfl ?_
              repeat (first | ((with_reducible apply is_sg); refine sgu ?_) | ((with_reducible apply is_gg); first | refine gtg ?_ | refine gfg ?_ | refine gug ?_) | ((with_reducible apply is_eg); refine eg ?_))
              (try ((with_reducible apply is_gg); first | refine gtg ?_ | refine gfg ?_ | refine gug ?_)); refine cag (fun w8 hc8 => same_ch (split_any ((hi : Int) - (lo : Int)) (by omega) w8)) ?_
              rw [show (hi : Int) - (lo : Int) = ((hi - lo : Nat) : Int) by omega, splitZ_nat]
              repeat (first | ((with_reducible apply is_sg); refine sgu ?_) | ((with_reducible apply is_gg); first | refine gtg ?_ | refine gfg ?_ | refine gug ?_) | ((with_reducible apply is_eg); refine eg ?_))
              intro w8 hc8
              have htwo := pt_two (a := a) (b := b) hlh (by omega) ho hleaf
              obtain ⟨m, hm⟩ : ∃ m, lo + splitN (hi - lo) = m := ⟨_, rfl⟩
              rw [hm] at htwo
              rw [show (lo : Int) + (splitN (hi - lo) : Int) = (m : Int) by omega]
              have hc68 : Ch [] w6 w8 := hc7.then hc8
              have hB68 := hB67.ch hc8 (by simp)
              have hJ8 := hJ _ _ _ hJ6 (Mv.ch hc68 (by omega))
              have hO8 := hOy.ch hc68 (by simp)
              have h78 := h7.ch hc68 (by simp)
              have hBn8 := hBn.ch hc68 (by simp)
              have hBf8 := hBf.ch hc68 (by simp)
              have hBt8 := hBt.ch hc68 (by simp)
              have z8 := hc68.size
              repeat (first | ((with_reducible apply is_st); refine su ?_) | ((with_reducible apply is_gd); first | refine gt ?_ | refine gf ?_ | refine gu ?_) | ((with_reducible apply is_en); refine en ?_) | (with_reducible first | apply x_then | apply wp_seq | apply c_region | apply wp_block | apply wp_skip | apply wp_exit | apply wp_ret | apply wp_label | apply wp_scope_straight | apply x_ng | apply x_ng_ret | apply x_ng_exit | apply x_then_ret | apply x_then_exit | apply x_block | apply x_block_ret | apply x_block_exit | refine x_block_other (by decide) ?_))
              refine ldb hB68 rfl rfl ?_
              (try ((with_reducible apply is_gd); first | refine gt ?_ | refine gf ?_ | refine gu ?_)); refine wl_val (r_build_arr (e := 3) (m := 1) (vs := [.int .i64 (m : Int), .int .i64 (hi : Int)]) rfl rfl (by simp [Value.cells])) ?_
              repeat (first | ((with_reducible apply is_st); refine su ?_) | ((with_reducible apply is_gd); first | refine gt ?_ | refine gf ?_ | refine gu ?_) | ((with_reducible apply is_en); refine en ?_) | (with_reducible first | apply x_then | apply wp_seq | apply c_region | apply wp_block | apply wp_skip | apply wp_exit | apply wp_ret | apply wp_label | apply wp_scope_straight | apply x_ng | apply x_ng_ret | apply x_ng_exit | apply x_then_ret | apply x_then_exit | apply x_block | apply x_block_ret | apply x_block_exit | refine x_block_other (by decide) ?_))
              refine ldb hB68 rfl rfl ?_
              repeat (first | ((with_reducible apply is_st); refine su ?_) | ((with_reducible apply is_gd); first | refine gt ?_ | refine gf ?_ | refine gu ?_) | ((with_reducible apply is_en); refine en ?_) | (with_reducible first | apply x_then | apply wp_seq | apply c_region | apply wp_block | apply wp_skip | apply wp_exit | apply wp_ret | apply wp_label | apply wp_scope_straight | apply x_ng | apply x_ng_ret | apply x_ng_exit | apply x_then_ret | apply x_then_exit | apply x_block | apply x_block_ret | apply x_block_exit | refine x_block_other (by decide) ?_))
              (try ((with_reducible apply is_gd); first | refine gt ?_ | refine gf ?_ | refine gu ?_)); refine wl_val (r_build_arr (e := 3) (m := 1) (vs := [.int .i64 (lo : Int), .int .i64 (m : Int)]) rfl rfl (by simp [Value.cells])) ?_
              refine wl_buildSlice (parts := [(0, .tmp 49), (1, .tmp 53)]) (vs := [pv m hi, pv lo m]) rfl rfl (by simp [pv, Value.cells]) (by omega) (fun w9 bl hbl => ?_)
              have hbl' : Blk w9 bl ([(m, hi), (lo, m)].flatMap eP.f) 25 := hbl.blk
              have hJ9 := hJ _ _ _ hJ8 (Mv.ch hbl.ch (by omega))
              have hO9 := hO8.ch hbl.ch (by simp)
              have z9 := hbl.ch.size
              have h79 := h78.ch hbl.ch (by simp)
              refine wl_append (en := eP) (n := 2) (v := .slice (some ⟨g, 0, none⟩) ys.length c) (ys := [(m, hi), (lo, m)]) rfl rfl (by decide) rfl hO9 (by omega) rfl (hbl'.row (n := 4) (o := 0) rfl) (by simp; omega) (by simp; omega) (fun v10 w10 hO10 hc10 hat => ?_)
              have hg9 : g < w9.heap.size := (hO9.lt (k := g) rfl).2
              have hc10' : Ch [g] w9 w10 := hc10
              have hmv : Mv W.heap.size b7 23 w9 w10 := ⟨hc10'.os, hc10'.tape, hc10'.output, hc10'.size, fun k hk => hc10'.block k (by omega) (by simp; omega), fun k ⟨u, hu1, hu2, o, ho1, ho2⟩ => hc10'.block k (Array.getElem?_eq_some_iff.1 ho1).1 (by
                have : u = v7 := by
                  have := hu1.symm.trans h79
                  simpa using this
                subst this
                have := (h77 k hu2).2.2
                simp
                omega)⟩
              have hJ10 := hJ _ _ _ hJ9 hmv
              have z10 := hc10'.size
              have hbw : ∀ {bb : Nat} {cs : List Value} {E : TypeId}, bb < W.heap.size → Blk w8 bb cs E → Blk w10 bb cs E := fun hlt hB => (hB.ch hbl.ch (by simp)).ch hc10' (by simp; omega)
              repeat (first | ((with_reducible apply is_st); refine su ?_) | ((with_reducible apply is_gd); first | refine gt ?_ | refine gf ?_ | refine gu ?_) | ((with_reducible apply is_en); refine en ?_) | (with_reducible first | apply x_then | apply wp_seq | apply c_region | apply wp_block | apply wp_skip | apply wp_exit | apply wp_ret | apply wp_label | apply wp_scope_straight | apply x_ng | apply x_ng_ret | apply x_ng_exit | apply x_then_ret | apply x_then_exit | apply x_block | apply x_block_ret | apply x_block_exit | refine x_block_other (by decide) ?_))
              refine x_goes (msum (ys ++ [(m, hi), (lo, m)])) rfl ?_ ⟨v10, v7, ys ++ [(m, hi), (lo, m)], pre, exj rfl, rfl, ?_, ?_, ?_, hJ10, hO10, hbw l7 h78, ?_, hbw ln hBn8, hbw lf hBf8, hbw lt hBt8, by omega⟩
              · rw [show ys ++ [(m, hi), (lo, m)] = (ys ++ [(m, hi)]) ++ [(lo, m)] by simp, msum_snoc, msum_snoc]
                simp only
                omega
              · rw [show ys ++ [(m, hi), (lo, m)] = (ys ++ [(m, hi)]) ++ [(lo, m)] by simp, msum_snoc, msum_snoc]
                simp only
                omega
              · intro p hp
                simp at hp
                rcases hp with hp | rfl | rfl
                · exact hst p (by simp [hp])
                · exact ⟨by omega, by omega⟩
                · exact ⟨by omega, by omega⟩
              · rw [show ys ++ [(m, hi), (lo, m)] = (ys ++ [(m, hi)]) ++ [(lo, m)] by simp, stkL_snoc, stkL_snoc, ← hpre2, htwo]
                simp
              · intro k hk
                obtain ⟨q1, q2, q3⟩ := h77 k hk
                refine ⟨q1, by omega, fun e => ?_⟩
                rcases hat with hat | hat
                · exact q3 (Option.some.inj (hat.symm.trans e))
                · rw [hat] at e
                  have := Option.some.inj e
                  omega
          · have hleaf : ¬ (hi - lo = 1 ∨ (a ≤ lo ∧ hi ≤ b)) := by omega
            repeat (first | ((with_reducible apply is_st); refine su ?_) | ((with_reducible apply is_gd); first | refine gt ?_ | refine gf ?_ | refine gu ?_) | ((with_reducible apply is_en); refine en ?_) | (with_reducible first | apply x_then | apply wp_seq | apply wp_block | apply wp_skip | apply wp_exit | apply wp_ret | apply wp_label | apply wp_scope_straight | apply x_ng | apply x_ng_ret | apply x_ng_exit | apply x_then_ret | apply x_then_exit | apply x_block | apply x_block_ret | apply x_block_exit | refine x_block_other (by decide) ?_))
            refine c_condb rfl (fun h => by cases h) (fun _ => ?_)
            have hsp := splitN_lt (n := hi - lo) (by omega) (by omega)
            repeat (first | ((with_reducible apply is_st); refine su ?_) | ((with_reducible apply is_gd); first | refine gt ?_ | refine gf ?_ | refine gu ?_) | ((with_reducible apply is_en); refine en ?_) | (with_reducible first | apply x_then | apply wp_seq | apply wp_block | apply wp_skip | apply wp_exit | apply wp_ret | apply wp_label | apply wp_scope_straight | apply x_ng | apply x_ng_ret | apply x_ng_exit | apply x_then_ret | apply x_then_exit | apply x_block | apply x_block_ret | apply x_block_exit | refine x_block_other (by decide) ?_))
            refine c_draw [] (by kernel_rfl) (by kernel_rfl) (fun w7 hc7 hs7 => ?_)
            have hB67 := hB6.ch hc7 (by simp)
            repeat (first | ((with_reducible apply is_sg); refine sgu ?_) | ((with_reducible apply is_gg); first | refine gtg ?_ | refine gfg ?_ | refine gug ?_) | ((with_reducible apply is_eg); refine eg ?_))
            refine ldbg hB67 (by simp) rfl rfl ?_
            repeat (first | ((with_reducible apply is_sg); refine sgu ?_) | ((with_reducible apply is_gg); first | refine gtg ?_ | refine gfg ?_ | refine gug ?_) | ((with_reducible apply is_eg); refine eg ?_))
            refine ldbg hB67 (by simp) rfl rfl ?_
            repeat (first | ((with_reducible apply is_sg); refine sgu ?_) | ((with_reducible apply is_gg); first | refine gtg ?_ | refine gfg ?_ | refine gug ?_) | ((with_reducible apply is_eg); refine eg ?_))
            refine ldbg hB67 (by simp) rfl rfl ?_
            repeat (first | ((with_reducible apply is_sg); refine sgu ?_) | ((with_reducible apply is_gg); first | refine gtg ?_ | refine gfg ?_ | refine gug ?_) | ((with_reducible apply is_eg); refine eg ?_))
            (try ((with_reducible apply is_gg); first | refine gtg ?_ | refine gfg ?_ | refine gug ?_)); refine cag (fun w8 hc8 => same_ch (split_any ((hi : Int) - (lo : Int)) (by omega) w8)) ?_
            rw [show (hi : Int) - (lo : Int) = ((hi - lo : Nat) : Int) by omega, splitZ_nat]
            repeat (first | ((with_reducible apply is_sg); refine sgu ?_) | ((with_reducible apply is_gg); first | refine gtg ?_ | refine gfg ?_ | refine gug ?_) | ((with_reducible apply is_eg); refine eg ?_))
            intro w8 hc8
            have htwo := pt_two (a := a) (b := b) hlh (by omega) ho hleaf
            obtain ⟨m, hm⟩ : ∃ m, lo + splitN (hi - lo) = m := ⟨_, rfl⟩
            rw [hm] at htwo
            rw [show (lo : Int) + (splitN (hi - lo) : Int) = (m : Int) by omega]
            have hc68 : Ch [] w6 w8 := hc7.then hc8
            have hB68 := hB67.ch hc8 (by simp)
            have hJ8 := hJ _ _ _ hJ6 (Mv.ch hc68 (by omega))
            have hO8 := hOy.ch hc68 (by simp)
            have h78 := h7.ch hc68 (by simp)
            have hBn8 := hBn.ch hc68 (by simp)
            have hBf8 := hBf.ch hc68 (by simp)
            have hBt8 := hBt.ch hc68 (by simp)
            have z8 := hc68.size
            repeat (first | ((with_reducible apply is_st); refine su ?_) | ((with_reducible apply is_gd); first | refine gt ?_ | refine gf ?_ | refine gu ?_) | ((with_reducible apply is_en); refine en ?_) | (with_reducible first | apply x_then | apply wp_seq | apply c_region | apply wp_block | apply wp_skip | apply wp_exit | apply wp_ret | apply wp_label | apply wp_scope_straight | apply x_ng | apply x_ng_ret | apply x_ng_exit | apply x_then_ret | apply x_then_exit | apply x_block | apply x_block_ret | apply x_block_exit | refine x_block_other (by decide) ?_))
            refine ldb hB68 rfl rfl ?_
            (try ((with_reducible apply is_gd); first | refine gt ?_ | refine gf ?_ | refine gu ?_)); refine wl_val (r_build_arr (e := 3) (m := 1) (vs := [.int .i64 (m : Int), .int .i64 (hi : Int)]) rfl rfl (by simp [Value.cells])) ?_
            repeat (first | ((with_reducible apply is_st); refine su ?_) | ((with_reducible apply is_gd); first | refine gt ?_ | refine gf ?_ | refine gu ?_) | ((with_reducible apply is_en); refine en ?_) | (with_reducible first | apply x_then | apply wp_seq | apply c_region | apply wp_block | apply wp_skip | apply wp_exit | apply wp_ret | apply wp_label | apply wp_scope_straight | apply x_ng | apply x_ng_ret | apply x_ng_exit | apply x_then_ret | apply x_then_exit | apply x_block | apply x_block_ret | apply x_block_exit | refine x_block_other (by decide) ?_))
            refine ldb hB68 rfl rfl ?_
            repeat (first | ((with_reducible apply is_st); refine su ?_) | ((with_reducible apply is_gd); first | refine gt ?_ | refine gf ?_ | refine gu ?_) | ((with_reducible apply is_en); refine en ?_) | (with_reducible first | apply x_then | apply wp_seq | apply c_region | apply wp_block | apply wp_skip | apply wp_exit | apply wp_ret | apply wp_label | apply wp_scope_straight | apply x_ng | apply x_ng_ret | apply x_ng_exit | apply x_then_ret | apply x_then_exit | apply x_block | apply x_block_ret | apply x_block_exit | refine x_block_other (by decide) ?_))
            (try ((with_reducible apply is_gd); first | refine gt ?_ | refine gf ?_ | refine gu ?_)); refine wl_val (r_build_arr (e := 3) (m := 1) (vs := [.int .i64 (lo : Int), .int .i64 (m : Int)]) rfl rfl (by simp [Value.cells])) ?_
            refine wl_buildSlice (parts := [(0, .tmp 49), (1, .tmp 53)]) (vs := [pv m hi, pv lo m]) rfl rfl (by simp [pv, Value.cells]) (by omega) (fun w9 bl hbl => ?_)
            have hbl' : Blk w9 bl ([(m, hi), (lo, m)].flatMap eP.f) 25 := hbl.blk
            have hJ9 := hJ _ _ _ hJ8 (Mv.ch hbl.ch (by omega))
            have hO9 := hO8.ch hbl.ch (by simp)
            have z9 := hbl.ch.size
            have h79 := h78.ch hbl.ch (by simp)
            refine wl_append (en := eP) (n := 2) (v := .slice (some ⟨g, 0, none⟩) ys.length c) (ys := [(m, hi), (lo, m)]) rfl rfl (by decide) rfl hO9 (by omega) rfl (hbl'.row (n := 4) (o := 0) rfl) (by simp; omega) (by simp; omega) (fun v10 w10 hO10 hc10 hat => ?_)
            have hg9 : g < w9.heap.size := (hO9.lt (k := g) rfl).2
            have hc10' : Ch [g] w9 w10 := hc10
            have hmv : Mv W.heap.size b7 23 w9 w10 := ⟨hc10'.os, hc10'.tape, hc10'.output, hc10'.size, fun k hk => hc10'.block k (by omega) (by simp; omega), fun k ⟨u, hu1, hu2, o, ho1, ho2⟩ => hc10'.block k (Array.getElem?_eq_some_iff.1 ho1).1 (by
              have : u = v7 := by
                have := hu1.symm.trans h79
                simpa using this
              subst this
              have := (h77 k hu2).2.2
              simp
              omega)⟩
            have hJ10 := hJ _ _ _ hJ9 hmv
            have z10 := hc10'.size
            have hbw : ∀ {bb : Nat} {cs : List Value} {E : TypeId}, bb < W.heap.size → Blk w8 bb cs E → Blk w10 bb cs E := fun hlt hB => (hB.ch hbl.ch (by simp)).ch hc10' (by simp; omega)
            repeat (first | ((with_reducible apply is_st); refine su ?_) | ((with_reducible apply is_gd); first | refine gt ?_ | refine gf ?_ | refine gu ?_) | ((with_reducible apply is_en); refine en ?_) | (with_reducible first | apply x_then | apply wp_seq | apply c_region | apply wp_block | apply wp_skip | apply wp_exit | apply wp_ret | apply wp_label | apply wp_scope_straight | apply x_ng | apply x_ng_ret | apply x_ng_exit | apply x_then_ret | apply x_then_exit | apply x_block | apply x_block_ret | apply x_block_exit | refine x_block_other (by decide) ?_))
            refine x_goes (msum (ys ++ [(m, hi), (lo, m)])) rfl ?_ ⟨v10, v7, ys ++ [(m, hi), (lo, m)], pre, exj rfl, rfl, ?_, ?_, ?_, hJ10, hO10, hbw l7 h78, ?_, hbw ln hBn8, hbw lf hBf8, hbw lt hBt8, by omega⟩
            · rw [show ys ++ [(m, hi), (lo, m)] = (ys ++ [(m, hi)]) ++ [(lo, m)] by simp, msum_snoc, msum_snoc]
              simp only
              omega
            · rw [show ys ++ [(m, hi), (lo, m)] = (ys ++ [(m, hi)]) ++ [(lo, m)] by simp, msum_snoc, msum_snoc]
              simp only
              omega
            · intro p hp
              simp at hp
              rcases hp with hp | rfl | rfl
              · exact hst p (by simp [hp])
              · exact ⟨by omega, by omega⟩
              · exact ⟨by omega, by omega⟩
            · rw [show ys ++ [(m, hi), (lo, m)] = (ys ++ [(m, hi)]) ++ [(lo, m)] by simp, stkL_snoc, stkL_snoc, ← hpre2, htwo]
              simp
            · intro k hk
              obtain ⟨q1, q2, q3⟩ := h77 k hk
              refine ⟨q1, by omega, fun e => ?_⟩
              rcases hat with hat | hat
              · exact q3 (Option.some.inj (hat.symm.trans e))
              · rw [hat] at e
                have := Option.some.inj e
                omega
  · repeat (first | ((with_reducible apply is_st); refine su ?_) | ((with_reducible apply is_gd); first | refine gt ?_ | refine gf ?_ | refine gu ?_) | ((with_reducible apply is_en); refine en ?_) | (with_reducible first | apply x_then | apply wp_seq | apply c_region | apply wp_block | apply wp_skip | apply wp_exit | apply wp_ret | apply wp_label | apply wp_scope_straight | apply x_ng | apply x_ng_ret | apply x_ng_exit | apply x_then_ret | apply x_then_exit | apply x_block | apply x_block_ret | apply x_block_exit | refine x_block_other (by decide) ?_))
    have : stk = [] := List.eq_nil_of_length_eq_zero (by omega)
    subst this
    refine out0 rfl ?_
    rw [← hpre]
    unfold stkL
    simpa using hJ4
end Go.Proofs.Ytfldckjkipmibaa

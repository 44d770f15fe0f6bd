/- The walk of the law on the powers of two, and what it needs of them. -/
import Derived.Test.YtbecfcnbgeeghaaNum2
set_option linter.unusedVariables false
set_option linter.unusedSimpArgs false
namespace Go.Proofs.Ytbecfcnbgeeghaa
open Go Go.RowKit Go.Proofs.E
attribute [local irreducible] Go.wpList Go.Code.wp Go.Proofs.E.exec Go.Proofs.E.wpLexG

theorem bitsDown_lt (u : Nat) : ∀ (k : Nat), ∀ x ∈ bitsDown u k, ∃ j, j < k ∧ x = (2 : Int) ^ j
  | 0, x, h => by cases h
  | k + 1, x, h => by
    rw [bitsDown] at h
    split at h
    · rcases List.mem_cons.1 h with rfl | h
      · exact ⟨k, by omega, rfl⟩
      · obtain ⟨j, hj, e⟩ := bitsDown_lt u k x h
        exact ⟨j, by omega, e⟩
    · obtain ⟨j, hj, e⟩ := bitsDown_lt u k x h
      exact ⟨j, by omega, e⟩
theorem pow_lt {i j : Nat} (h : i < j) : (2 : Int) ^ i < 2 ^ j := by
  have : 2 ^ i < 2 ^ j := Nat.pow_lt_pow_right (by omega) h
  exact_mod_cast this
theorem bitsDown_falls (u : Nat) : ∀ (k : Nat), (bitsDown u k).Pairwise (fun a b => b < a)
  | 0 => List.Pairwise.nil
  | k + 1 => by
    rw [bitsDown]
    split
    · refine List.Pairwise.cons (fun x hx => ?_) (bitsDown_falls u k)
      obtain ⟨j, hj, rfl⟩ := bitsDown_lt u k x hx
      exact pow_lt hj
    · exact bitsDown_falls u k
theorem bitsDown_sum (u : Nat) : ∀ (k : Nat), (bitsDown u k).sum = ((u % 2 ^ k : Nat) : Int)
  | 0 => by simp [bitsDown, Nat.mod_one]
  | k + 1 => by
    have ih := bitsDown_sum u k
    have hm : u % 2 ^ (k + 1) = u % 2 ^ k + 2 ^ k * (u / 2 ^ k % 2) := by rw [Nat.pow_succ, Nat.mod_mul]
    rw [bitsDown]
    split
    · rename_i h
      rw [tb] at h
      have h1 : u / 2 ^ k % 2 = 1 := by simpa using h
      rw [List.sum_cons, ih, hm, h1]
      simp
      omega
    · rename_i h
      rw [tb] at h
      have h1 : u / 2 ^ k % 2 = 0 := by
        have : u / 2 ^ k % 2 ≠ 1 := by simpa using h
        omega
      rw [ih, hm, h1]
      simp
theorem and_pow {j : Nat} (hj : j ≤ 62) : IntKind.i64.wrap (BitVec.ofInt IntKind.i64.bits ((2 : Int) ^ j) &&& BitVec.ofInt IntKind.i64.bits ((2 : Int) ^ j - 1)).toNat = 0 := by
  have hp : 0 < 2 ^ j := Nat.two_pow_pos j
  have h62 : 2 ^ j ≤ 2 ^ 62 := Nat.pow_le_pow_right (by omega) hj
  have e1 : ((2 : Int) ^ j) = ((2 ^ j : Nat) : Int) := by simp
  have e2 : ((2 : Int) ^ j) - 1 = ((2 ^ j - 1 : Nat) : Int) := by rw [e1]; omega
  have hz : 2 ^ j &&& (2 ^ j - 1) = 0 := by
    rw [Nat.and_two_pow_sub_one_eq_mod]
    exact Nat.mod_self _
  rw [e2, e1, BitVec.ofInt_natCast, BitVec.ofInt_natCast, BitVec.toNat_and]
  simp only [BitVec.toNat_ofNat, IntKind.bits]
  rw [Nat.mod_eq_of_lt (by omega), Nat.mod_eq_of_lt (by omega), hz]
  exact wrap_i64 (by omega)
theorem split_spec {n : Int} (h1 : 2 ≤ n) (h2 : n ≤ 9223372036854775807) : ∃ j : Nat, splitZ n = 2 ^ j ∧ j ≤ 62 ∧ (2 : Int) ^ j < n ∧ n ≤ 2 ^ j + 2 ^ j := by
  obtain ⟨m, rfl⟩ : ∃ m : Nat, n = m + 2 := ⟨(n - 2).toNat, by omega⟩
  have em : ((m : Int) + 2 - 1).toNat = m + 1 := by omega
  obtain ⟨k, hk, k1, k2, k3⟩ := bitLen_spec (u := m + 1) (by omega) (by omega)
  have hk62 : k ≤ 62 := by
    rcases Nat.lt_or_ge 62 k with h | h
    · have : 2 ^ 63 ≤ 2 ^ k := Nat.pow_le_pow_right (by omega) h
      omega
    · exact h
  refine ⟨k, ?_, hk62, ?_, ?_⟩
  · unfold splitZ
    rw [if_neg (by omega), em, hk, Nat.add_sub_cancel]
  · have : ((2 ^ k : Nat) : Int) < (m : Int) + 2 := by omega
    exact_mod_cast this
  · rw [Nat.pow_succ] at k2
    have : (m : Int) + 2 ≤ ((2 ^ k + 2 ^ k : Nat) : Int) := by omega
    exact_mod_cast this

set_option maxHeartbeats 4000000 in
theorem bitlaw_any (n : Int) (h0 : -9223372036854775808 ≤ n ∧ n ≤ 9223372036854775807) (w : World) :
    Calls Try.prog 4 #[.int .i64 n] w (Ret fun v w' => v = .bool true ∧ Ch [] w w') := by
  refine enter [.int .i64 n, undef, undef, undef, undef, undef, undef, undef, undef, undef, undef, undef, undef, undef, undef, undef, undef, undef, undef, undef, undef, undef, undef, undef, undef, undef, undef, undef, undef, undef, undef, undef, undef, undef, undef, undef, undef, undef, undef, undef, undef, undef, undef, undef, undef, undef, undef, undef, undef, undef, undef, undef, undef, undef, undef, undef, undef, undef, undef, undef, undef, undef, undef, undef, undef, undef, undef, undef, undef, undef, undef, undef, undef, undef, undef, undef, undef, undef, undef, undef, undef, undef, undef, undef, undef, undef, undef, undef, undef, undef, undef, undef, undef, undef, undef] Try.func4 rfl rfl ?_
  repeat (first | ((with_reducible apply is_st); refine st ?_) | ((with_reducible apply is_gd); first | refine gt ?_ | refine gf ?_ | refine gu ?_) | ((with_reducible apply is_en); refine en ?_) | (with_reducible first | apply x_then | apply wp_seq | apply c_region | apply wp_block | apply wp_skip | apply wp_exit | apply wp_ret | apply x_then_ret | apply x_then_exit | apply x_block | apply x_block_ret | apply x_block_exit | refine x_block_other (by decide) ?_))
  (try ((with_reducible apply is_gd); first | refine gt ?_ | refine gf ?_ | refine gu ?_)); refine ca (bits_any n h0 w) ?_
  rintro v w1 ⟨hc1, hO⟩
  have hlen := bitsDown_len n.toNat 63
  have hlt := bitsDown_lt n.toNat 63
  have hfall := bitsDown_falls n.toNat 63
  have hsum := bitsDown_sum n.toNat 63
  rw [Nat.mod_eq_of_lt (show n.toNat < 2 ^ 63 by omega)] at hsum
  generalize bitsDown n.toNat 63 = xs at hO hlen hlt hfall hsum
  have hR : (tInt .i64).Rd [] w1 v xs := hO.rd (by simp) (by omega)
  obtain ⟨A, c, rfl⟩ := hR.form
  repeat (first | ((with_reducible apply is_st); refine st ?_) | ((with_reducible apply is_gd); first | refine gt ?_ | refine gf ?_ | refine gu ?_) | ((with_reducible apply is_en); refine en ?_) | (with_reducible first | apply x_then | apply wp_seq | apply c_region | apply wp_block | apply wp_skip | apply wp_exit | apply wp_ret | apply x_then_ret | apply x_then_exit | apply x_block | apply x_block_ret | apply x_block_exit | refine x_block_other (by decide) ?_))
  
  refine c_loop (fun k l w' => ∃ i : Nat, (∃ jj : Nat → Value, l = [.int .i64 n, undef, .bool false, .slice A xs.length c, .int .i64 ((xs.take i).sum), jj 5, jj 6, jj 7, jj 8, jj 9, .slice A xs.length c, .int .i64 xs.length, .int .i64 (i : Int), jj 13, jj 14, jj 15, jj 16, jj 17, jj 18, jj 19, jj 20, jj 21, jj 22, jj 23, jj 24, jj 25, jj 26, jj 27, jj 28, jj 29, jj 30, jj 31, jj 32, jj 33, jj 34, jj 35, jj 36, jj 37, jj 38, jj 39, jj 40, jj 41, jj 42, jj 43, jj 44, jj 45, jj 46, jj 47, jj 48, jj 49, jj 50, jj 51, jj 52, jj 53, jj 54, jj 55, jj 56, jj 57, jj 58, jj 59, jj 60, jj 61, jj 62, jj 63, jj 64, jj 65, jj 66, jj 67, jj 68, jj 69, jj 70, jj 71, jj 72, jj 73, jj 74, jj 75, jj 76, jj 77, jj 78, jj 79, jj 80, jj 81, jj 82, jj 83, jj 84, jj 85, jj 86, jj 87, jj 88, jj 89, jj 90, jj 91, jj 92, jj 93, jj 94]) ∧ i + k = xs.length ∧ w' = w1) xs.length
    ⟨0, exj rfl, by omega, rfl⟩ ?_
  rintro k l w2 ⟨i, ⟨jj, rfl⟩, hk, rfl⟩
  have hpos : ∀ x ∈ xs, 0 ≤ x := fun x hx => by obtain ⟨j, _, rfl⟩ := hlt x hx; exact_mod_cast Nat.zero_le _
  have hsplit : (xs.take i).sum + (xs.drop i).sum = xs.sum := by rw [← List.sum_append, List.take_append_drop]
  have hnn : ∀ l : List Int, (∀ x ∈ l, 0 ≤ x) → 0 ≤ l.sum := by
    intro l
    induction l with
    | nil => intro _; simp
    | cons a l ih => intro h; rw [List.sum_cons]; have := h a (by simp); have := ih (fun x hx => h x (by simp [hx])); omega
  have hs1 := hnn (xs.take i) (fun x hx => hpos x (List.mem_of_mem_take hx))
  have hs2 := hnn (xs.drop i) (fun x hx => hpos x (List.mem_of_mem_drop hx))
  repeat (first | ((with_reducible apply is_st); refine st ?_) | ((with_reducible apply is_gd); first | refine gt ?_ | refine gf ?_ | refine gu ?_) | ((with_reducible apply is_en); refine en ?_) | (with_reducible first | apply x_then | apply wp_seq | apply c_region | apply wp_block | apply wp_skip | apply wp_exit | apply wp_ret | apply x_then_ret | apply x_then_exit | apply x_block | apply x_block_ret | apply x_block_exit | refine x_block_other (by decide) ?_))
  refine c_cond rfl (fun hi => ?_) (fun hi => ?_)
  · have hi' : i < xs.length := by omega
    repeat (first | ((with_reducible apply is_st); refine st ?_) | ((with_reducible apply is_gd); first | refine gt ?_ | refine gf ?_ | refine gu ?_) | ((with_reducible apply is_en); refine en ?_) | (with_reducible first | apply x_then | apply wp_seq | apply c_region | apply wp_block | apply wp_skip | apply wp_exit | apply wp_ret | apply x_then_ret | apply x_then_exit | apply x_block | apply x_block_ret | apply x_block_exit | refine x_block_other (by decide) ?_))
    (try ((with_reducible apply is_gd); first | refine gt ?_ | refine gf ?_ | refine gu ?_)); refine ix hR (fun b0 o0 x hx hA => ?_)
    rw [Int.toNat_natCast] at hx
    obtain ⟨j, hj, hxj⟩ := hlt x (List.mem_of_getElem? hx)
    have hp1 : (1 : Int) ≤ x := by rw [hxj]; exact_mod_cast Nat.one_le_two_pow
    have hp2 : x ≤ 4611686018427387904 := by
      have : 2 ^ j ≤ 2 ^ 62 := Nat.pow_le_pow_right (by omega) (by omega)
      have h2 : ((2 ^ j : Nat) : Int) ≤ ((2 ^ 62 : Nat) : Int) := by exact_mod_cast this
      rw [hxj]
      simpa using h2
    have hand := and_pow (j := j) (by omega)
    rw [← hxj] at hand
    have hsx : (xs.take (i + 1)).sum = (xs.take i).sum + x := by rw [List.take_add_one, hx]; simp
    have hsplit2 : (xs.take (i + 1)).sum + (xs.drop (i + 1)).sum = xs.sum := by rw [← List.sum_append, List.take_append_drop]
    have hs3 := hnn (xs.drop (i + 1)) (fun x hx => hpos x (List.mem_of_mem_drop hx))
    (try ((with_reducible apply is_gd); first | refine gt ?_ | refine gf ?_ | refine gu ?_)); refine ld hA ?_
    repeat (first | ((with_reducible apply is_st); refine st ?_) | ((with_reducible apply is_gd); first | refine gt ?_ | refine gf ?_ | refine gu ?_) | ((with_reducible apply is_en); refine en ?_) | (with_reducible first | apply x_then | apply wp_seq | apply c_region | apply wp_block | apply wp_skip | apply wp_exit | apply wp_ret | apply x_then_ret | apply x_then_exit | apply x_block | apply x_block_ret | apply x_block_exit | refine x_block_other (by decide) ?_))
    refine wl_val (r_and rfl rfl) ?_
    rw [hand]
    by_cases h0i : i = 0
    · subst h0i
      repeat (first | ((with_reducible apply is_st); refine st ?_) | ((with_reducible apply is_gd); first | refine gt ?_ | refine gf ?_ | refine gu ?_) | ((with_reducible apply is_en); refine en ?_) | (with_reducible first | apply x_then | apply wp_seq | apply c_region | apply wp_block | apply wp_skip | apply wp_exit | apply wp_ret | apply x_then_ret | apply x_then_exit | apply x_block | apply x_block_ret | apply x_block_exit | refine x_block_other (by decide) ?_))
      refine c_condb rfl (fun h => by cases h) (fun _ => ?_)
      repeat (first | ((with_reducible apply is_st); refine st ?_) | ((with_reducible apply is_gd); first | refine gt ?_ | refine gf ?_ | refine gu ?_) | ((with_reducible apply is_en); refine en ?_) | (with_reducible first | apply x_then | apply wp_seq | apply c_region | apply wp_block | apply wp_skip | apply wp_exit | apply wp_ret | apply x_then_ret | apply x_then_exit | apply x_block | apply x_block_ret | apply x_block_exit | refine x_block_other (by decide) ?_))
      rw [← hsx]
      exact x_goes (k - 1) rfl (by omega) ⟨0 + 1, exj rfl, by omega, rfl⟩
    · obtain ⟨y, hy⟩ : ∃ y, xs[i - 1]? = some y := ⟨_, List.getElem?_eq_getElem (by omega)⟩
      have hxy : x < y := by
        have h1 := List.pairwise_iff_getElem.1 hfall (i - 1) i (by omega) hi' (by omega)
        rw [List.getElem?_eq_getElem (by omega)] at hx hy
        rw [← Option.some.inj hx, ← Option.some.inj hy]
        exact h1
      repeat (first | ((with_reducible apply is_st); refine st ?_) | ((with_reducible apply is_gd); first | refine gt ?_ | refine gf ?_ | refine gu ?_) | ((with_reducible apply is_en); refine en ?_) | (with_reducible first | apply x_then | apply wp_seq | apply c_region | apply wp_block | apply wp_skip | apply wp_exit | apply wp_ret | apply x_then_ret | apply x_then_exit | apply x_block | apply x_block_ret | apply x_block_exit | refine x_block_other (by decide) ?_))
      (try ((with_reducible apply is_gd); first | refine gt ?_ | refine gf ?_ | refine gu ?_)); refine ix hR (fun b1 o1 x1 hx1 hA1 => ?_)
      rw [show ((i : Int) - 1).toNat = i - 1 by omega, hy] at hx1
      obtain rfl := Option.some.inj hx1
      (try ((with_reducible apply is_gd); first | refine gt ?_ | refine gf ?_ | refine gu ?_)); refine ld hA1 ?_
      repeat (first | ((with_reducible apply is_st); refine st ?_) | ((with_reducible apply is_gd); first | refine gt ?_ | refine gf ?_ | refine gu ?_) | ((with_reducible apply is_en); refine en ?_) | (with_reducible first | apply x_then | apply wp_seq | apply c_region | apply wp_block | apply wp_skip | apply wp_exit | apply wp_ret | apply x_then_ret | apply x_then_exit | apply x_block | apply x_block_ret | apply x_block_exit | refine x_block_other (by decide) ?_))
      refine c_condb rfl (fun h => ?_) (fun _ => ?_)
      · exfalso
        have : ¬ (y ≤ x) := by omega
        simp [this] at h
      · repeat (first | ((with_reducible apply is_st); refine st ?_) | ((with_reducible apply is_gd); first | refine gt ?_ | refine gf ?_ | refine gu ?_) | ((with_reducible apply is_en); refine en ?_) | (with_reducible first | apply x_then | apply wp_seq | apply c_region | apply wp_block | apply wp_skip | apply wp_exit | apply wp_ret | apply x_then_ret | apply x_then_exit | apply x_block | apply x_block_ret | apply x_block_exit | refine x_block_other (by decide) ?_))
        rw [← hsx]
        exact x_goes (k - 1) rfl (by omega) ⟨i + 1, exj rfl, by omega, rfl⟩
  · have hki : i = xs.length := by omega
    rw [List.take_of_length_le (show xs.length ≤ i by omega), hsum]
    by_cases hn : n < 1
    · have hx0 : xs = [] := by
        have hz : xs.sum = 0 := by rw [hsum]; omega
        match xs, hlt, hpos, hz with
        | [], _, _, _ => rfl
        | a :: tl, hlt, hpos, hz =>
          exfalso
          obtain ⟨j, hj, e⟩ := hlt a (by simp)
          have h1 : (1 : Int) ≤ a := by rw [e]; exact_mod_cast Nat.one_le_two_pow
          have h2 := hnn tl (fun x hx => hpos x (by simp [hx]))
          rw [List.sum_cons] at hz
          omega
      have hl0 : xs.length = 0 := by rw [hx0]; rfl
      repeat (first | ((with_reducible apply is_st); refine st ?_) | ((with_reducible apply is_gd); first | refine gt ?_ | refine gf ?_ | refine gu ?_) | ((with_reducible apply is_en); refine en ?_) | (with_reducible first | apply x_then | apply wp_seq | apply c_region | apply wp_block | apply wp_skip | apply wp_exit | apply wp_ret | apply x_then_ret | apply x_then_exit | apply x_block | apply x_block_ret | apply x_block_exit | refine x_block_other (by decide) ?_))
      refine c_cond rfl (fun _ => ?_) (fun h => absurd hn h)
      repeat (first | ((with_reducible apply is_st); refine st ?_) | ((with_reducible apply is_gd); first | refine gt ?_ | refine gf ?_ | refine gu ?_) | ((with_reducible apply is_en); refine en ?_) | (with_reducible first | apply x_then | apply wp_seq | apply c_region | apply wp_block | apply wp_skip | apply wp_exit | apply wp_ret | apply x_then_ret | apply x_then_exit | apply x_block | apply x_block_ret | apply x_block_exit | refine x_block_other (by decide) ?_))
      (try ((with_reducible apply is_gd); first | refine gt ?_ | refine gf ?_ | refine gu ?_)); refine ca (split_any n h0 w2) ?_
      rintro _ w3 ⟨rfl, rfl⟩
      have hs0 : splitZ n = 0 := by unfold splitZ; rw [if_pos (by omega)]
      rw [hs0]
      repeat (first | ((with_reducible apply is_st); refine st ?_) | ((with_reducible apply is_gd); first | refine gt ?_ | refine gf ?_ | refine gu ?_) | ((with_reducible apply is_en); refine en ?_) | (with_reducible first | apply x_then | apply wp_seq | apply c_region | apply wp_block | apply wp_skip | apply wp_exit | apply wp_ret | apply x_then_ret | apply x_then_exit | apply x_block | apply x_block_ret | apply x_block_exit | refine x_block_other (by decide) ?_))
      (try ((with_reducible apply is_gd); first | refine gt ?_ | refine gf ?_ | refine gu ?_)); refine ca (lives_any w3) ?_
      rintro _ w4 ⟨rfl, hc4⟩
      repeat (first | ((with_reducible apply is_st); refine st ?_) | ((with_reducible apply is_gd); first | refine gt ?_ | refine gf ?_ | refine gu ?_) | ((with_reducible apply is_en); refine en ?_) | (with_reducible first | apply x_then | apply wp_seq | apply c_region | apply wp_block | apply wp_skip | apply wp_exit | apply wp_ret | apply x_then_ret | apply x_then_exit | apply x_block | apply x_block_ret | apply x_block_exit | refine x_block_other (by decide) ?_))
      exact out1 rfl ⟨rfl, hc1.then hc4⟩
    · rw [Int.toNat_of_nonneg (show 0 ≤ n by omega)]
      repeat (first | ((with_reducible apply is_st); refine st ?_) | ((with_reducible apply is_gd); first | refine gt ?_ | refine gf ?_ | refine gu ?_) | ((with_reducible apply is_en); refine en ?_) | (with_reducible first | apply x_then | apply wp_seq | apply c_region | apply wp_block | apply wp_skip | apply wp_exit | apply wp_ret | apply x_then_ret | apply x_then_exit | apply x_block | apply x_block_ret | apply x_block_exit | refine x_block_other (by decide) ?_))
      refine c_cond rfl (fun h => absurd h hn) (fun _ => ?_)
      repeat (first | ((with_reducible apply is_st); refine st ?_) | ((with_reducible apply is_gd); first | refine gt ?_ | refine gf ?_ | refine gu ?_) | ((with_reducible apply is_en); refine en ?_) | (with_reducible first | apply x_then | apply wp_seq | apply c_region | apply wp_block | apply wp_skip | apply wp_exit | apply wp_ret | apply x_then_ret | apply x_then_exit | apply x_block | apply x_block_ret | apply x_block_exit | refine x_block_other (by decide) ?_))
      (try ((with_reducible apply is_gd); first | refine gt ?_ | refine gf ?_ | refine gu ?_)); refine ca (split_any n h0 w2) ?_
      rintro _ w3 ⟨rfl, rfl⟩
      by_cases hn1 : n = 1
      · have hs0 : splitZ n = 0 := by unfold splitZ; rw [if_pos (by omega)]
        rw [hs0]
        repeat (first | ((with_reducible apply is_st); refine st ?_) | ((with_reducible apply is_gd); first | refine gt ?_ | refine gf ?_ | refine gu ?_) | ((with_reducible apply is_en); refine en ?_) | (with_reducible first | apply x_then | apply wp_seq | apply c_region | apply wp_block | apply wp_skip | apply wp_exit | apply wp_ret | apply x_then_ret | apply x_then_exit | apply x_block | apply x_block_ret | apply x_block_exit | refine x_block_other (by decide) ?_))
        (try ((with_reducible apply is_gd); first | refine gt ?_ | refine gf ?_ | refine gu ?_)); refine ca (lives_any w3) ?_
        rintro _ w4 ⟨rfl, hc4⟩
        repeat (first | ((with_reducible apply is_st); refine st ?_) | ((with_reducible apply is_gd); first | refine gt ?_ | refine gf ?_ | refine gu ?_) | ((with_reducible apply is_en); refine en ?_) | (with_reducible first | apply x_then | apply wp_seq | apply c_region | apply wp_block | apply wp_skip | apply wp_exit | apply wp_ret | apply x_then_ret | apply x_then_exit | apply x_block | apply x_block_ret | apply x_block_exit | refine x_block_other (by decide) ?_))
        exact out1 rfl ⟨rfl, hc1.then hc4⟩
      · obtain ⟨q, hq, hq62, hq1, hq2⟩ := split_spec (n := n) (by omega) h0.2
        have hand := and_pow hq62
        rw [hq]
        have hp1 : (1 : Int) ≤ 2 ^ q := by exact_mod_cast Nat.one_le_two_pow
        generalize (2 : Int) ^ q = p at hq1 hq2 hand hp1
        repeat (first | ((with_reducible apply is_st); refine st ?_) | ((with_reducible apply is_gd); first | refine gt ?_ | refine gf ?_ | refine gu ?_) | ((with_reducible apply is_en); refine en ?_) | (with_reducible first | apply x_then | apply wp_seq | apply c_region | apply wp_block | apply wp_skip | apply wp_exit | apply wp_ret | apply x_then_ret | apply x_then_exit | apply x_block | apply x_block_ret | apply x_block_exit | refine x_block_other (by decide) ?_))
        refine wl_val (r_and rfl rfl) ?_
        rw [hand]
        repeat (first | ((with_reducible apply is_st); refine st ?_) | ((with_reducible apply is_gd); first | refine gt ?_ | refine gf ?_ | refine gu ?_) | ((with_reducible apply is_en); refine en ?_) | (with_reducible first | apply x_then | apply wp_seq | apply c_region | apply wp_block | apply wp_skip | apply wp_exit | apply wp_ret | apply x_then_ret | apply x_then_exit | apply x_block | apply x_block_ret | apply x_block_exit | refine x_block_other (by decide) ?_))
        (try ((with_reducible apply is_gd); first | refine gt ?_ | refine gf ?_ | refine gu ?_)); refine ca (lives_any w3) ?_
        rintro _ w4 ⟨rfl, hc4⟩
        repeat (first | ((with_reducible apply is_st); refine st ?_) | ((with_reducible apply is_gd); first | refine gt ?_ | refine gf ?_ | refine gu ?_) | ((with_reducible apply is_en); refine en ?_) | (with_reducible first | apply x_then | apply wp_seq | apply c_region | apply wp_block | apply wp_skip | apply wp_exit | apply wp_ret | apply x_then_ret | apply x_then_exit | apply x_block | apply x_block_ret | apply x_block_exit | refine x_block_other (by decide) ?_))
        exact out1 rfl ⟨rfl, hc1.then hc4⟩
end Go.Proofs.Ytbecfcnbgeeghaa

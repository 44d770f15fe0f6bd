/- Walks: the parts beside a range, the program's and the reference's. -/
import Derived.Test.YtfldckjkipmibaaParts
import Derived.Test.YtfldckjkipmibaaLives
set_option linter.unusedVariables false
set_option linter.unusedSimpArgs false
namespace Go.Proofs.Ytfldckjkipmibaa
open Go Go.RowKit Go.Proofs.E
attribute [local irreducible] Go.wpList Go.Code.wp Go.Proofs.E.exec Go.Proofs.E.wpLexG
def mayZ (n a b : Int) : Bool := decide (0 ≤ a) && decide (a < b) && decide (b ≤ n) && decide (n ≤ 1099511627776)
theorem mayZ_t {n a b : Int} (h1 : 0 ≤ a) (h2 : a < b) (h3 : b ≤ n) (h4 : n ≤ 1099511627776) : mayZ n a b = true := by
  unfold mayZ
  rw [decide_eq_true h1, decide_eq_true h2, decide_eq_true h3, decide_eq_true h4]
  rfl
theorem mayZ_f {n a b : Int} (h : a < 0 ∨ b ≤ a ∨ n < b ∨ 1099511627776 < n) : mayZ n a b = false := by
  cases hc : mayZ n a b with
  | false => rfl
  | true =>
    unfold mayZ at hc
    simp only [Bool.and_eq_true, decide_eq_true_eq] at hc
    omega
def outs (l : List Pt) : List (Nat × Nat) := (l.filter (·.2)).map (·.1)
def sidesN (a b lo hi : Nat) : List (Nat × Nat) := outs (ptN a b lo hi)
def sidesZ (n a b : Int) : List (Nat × Nat) := if mayZ n a b = true then sidesN a.toNat b.toNat 0 n.toNat else []
theorem outs_len (l : List Pt) : (outs l).length ≤ l.length := by
  unfold outs
  rw [List.length_map]
  exact List.length_filter_le _ _
theorem outs_snoc (l : List Pt) (x : Pt) : outs (l ++ [x]) = if x.2 = true then outs l ++ [x.1] else outs l := by
  unfold outs
  rw [List.filter_append, List.map_append]
  cases h : x.2 <;> simp [h]
theorem outs_append (l m : List Pt) : outs (l ++ m) = outs l ++ outs m := by
  unfold outs
  rw [List.filter_append, List.map_append]
theorem ptF_len (a b : Nat) : ∀ (f lo hi : Nat), lo < hi → hi ≤ 9223372036854775807 → (ptF a b f lo hi).length ≤ hi - lo
  | 0, _, _, _, _ => by simp [ptF]
  | f + 1, lo, hi, h, hb => by
    rw [ptF]
    split
    · simp
      omega
    · split
      · simp
        omega
      · rename_i h1 h2
        have := splitN_lt (n := hi - lo) (by omega) (by omega)
        have h3 := ptF_len a b f lo (lo + splitN (hi - lo)) (by omega) (by omega)
        have h4 := ptF_len a b f (lo + splitN (hi - lo)) hi (by omega) (by omega)
        rw [List.length_append]
        omega
theorem sides_len {a b lo hi : Nat} (h : lo < hi) (hb : hi ≤ 9223372036854775807) : (sidesN a b lo hi).length ≤ hi - lo := Nat.le_trans (outs_len _) (ptF_len a b _ lo hi h hb)
theorem sides_out {a b lo hi : Nat} (h : lo < hi) (ho : hi ≤ a ∨ b ≤ lo) : sidesN a b lo hi = [(lo, hi)] := by unfold sidesN; rw [pt_out h ho]; rfl
theorem sides_in {a b lo hi : Nat} (h : lo < hi) (ho : ¬ (hi ≤ a ∨ b ≤ lo)) (hl : hi - lo = 1 ∨ (a ≤ lo ∧ hi ≤ b)) : sidesN a b lo hi = [] := by unfold sidesN; rw [pt_in h ho hl]; rfl
theorem sides_two {a b lo hi : Nat} (h : lo < hi) (hb : hi ≤ 9223372036854775807) (ho : ¬ (hi ≤ a ∨ b ≤ lo)) (hl : ¬ (hi - lo = 1 ∨ (a ≤ lo ∧ hi ≤ b))) : sidesN a b lo hi = sidesN a b lo (lo + splitN (hi - lo)) ++ sidesN a b (lo + splitN (hi - lo)) hi := by
  unfold sidesN
  rw [pt_two h hb ho hl, outs_append]
theorem may_any (n a b : Int) (w : World) : Calls Try.prog 10 #[.int .i64 n, .int .i64 a, .int .i64 b] w (Ret fun u w' => u = .bool (mayZ n a b) ∧ w' = w) := by
  refine enter [.int .i64 n, .int .i64 a, .int .i64 b, undef, undef, undef, undef, undef, undef, undef, undef, undef, undef, undef, undef, undef, undef, undef, undef, undef, undef, undef, undef] Try.func10 rfl rfl ?_
  unfold mayZ
  by_cases h1 : 0 ≤ a
  · by_cases h2 : a < b
    · by_cases h3 : b ≤ n
      · rw [decide_eq_true h1, decide_eq_true h2, decide_eq_true h3]
        repeat (first | ((with_reducible apply is_st); refine su ?_) | ((with_reducible apply is_gd); first | refine gt ?_ | refine gf ?_ | refine gu ?_) | ((with_reducible apply is_en); refine en ?_) | (with_reducible first | apply x_then | apply wp_seq | apply c_region | apply wp_block | apply wp_skip | apply wp_exit | apply wp_ret | apply wp_label | apply wp_scope_straight | apply x_ng | apply x_ng_ret | apply x_ng_exit | apply x_then_ret | apply x_then_exit | apply x_block | apply x_block_ret | apply x_block_exit | refine x_block_other (by decide) ?_))
        exact out1 rfl ⟨rfl, rfl⟩
      · rw [decide_eq_true h1, decide_eq_true h2, decide_eq_false h3]
        repeat (first | ((with_reducible apply is_st); refine su ?_) | ((with_reducible apply is_gd); first | refine gt ?_ | refine gf ?_ | refine gu ?_) | ((with_reducible apply is_en); refine en ?_) | (with_reducible first | apply x_then | apply wp_seq | apply c_region | apply wp_block | apply wp_skip | apply wp_exit | apply wp_ret | apply wp_label | apply wp_scope_straight | apply x_ng | apply x_ng_ret | apply x_ng_exit | apply x_then_ret | apply x_then_exit | apply x_block | apply x_block_ret | apply x_block_exit | refine x_block_other (by decide) ?_))
        exact out1 rfl ⟨by rw [decide_eq_false h3]; rfl, rfl⟩
    · rw [decide_eq_true h1, decide_eq_false h2]
      repeat (first | ((with_reducible apply is_st); refine su ?_) | ((with_reducible apply is_gd); first | refine gt ?_ | refine gf ?_ | refine gu ?_) | ((with_reducible apply is_en); refine en ?_) | (with_reducible first | apply x_then | apply wp_seq | apply c_region | apply wp_block | apply wp_skip | apply wp_exit | apply wp_ret | apply wp_label | apply wp_scope_straight | apply x_ng | apply x_ng_ret | apply x_ng_exit | apply x_then_ret | apply x_then_exit | apply x_block | apply x_block_ret | apply x_block_exit | refine x_block_other (by decide) ?_))
      exact out1 rfl ⟨by rw [decide_eq_false h2]; rfl, rfl⟩
  · rw [decide_eq_false h1]
    repeat (first | ((with_reducible apply is_st); refine su ?_) | ((with_reducible apply is_gd); first | refine gt ?_ | refine gf ?_ | refine gu ?_) | ((with_reducible apply is_en); refine en ?_) | (with_reducible first | apply x_then | apply wp_seq | apply c_region | apply wp_block | apply wp_skip | apply wp_exit | apply wp_ret | apply wp_label | apply wp_scope_straight | apply x_ng | apply x_ng_ret | apply x_ng_exit | apply x_then_ret | apply x_then_exit | apply x_block | apply x_block_ret | apply x_block_exit | refine x_block_other (by decide) ?_))
    exact out1 rfl ⟨by rw [decide_eq_false h1]; rfl, rfl⟩
theorem rmay_any (n a b : Int) (w : World) : Calls Try.prog 12 #[.int .i64 n, .int .i64 a, .int .i64 b] w (Ret fun u w' => u = .bool (mayZ n a b) ∧ w' = w) := by
  refine enter [.int .i64 n, .int .i64 a, .int .i64 b, undef, undef, undef, undef, undef, undef, undef, undef, undef, undef, undef, undef, undef, undef, undef, undef, undef, undef, undef, undef] Try.func12 rfl rfl ?_
  unfold mayZ
  by_cases h1 : 0 ≤ a
  · by_cases h2 : a < b
    · by_cases h3 : b ≤ n
      · rw [decide_eq_true h1, decide_eq_true h2, decide_eq_true h3]
        repeat (first | ((with_reducible apply is_st); refine su ?_) | ((with_reducible apply is_gd); first | refine gt ?_ | refine gf ?_ | refine gu ?_) | ((with_reducible apply is_en); refine en ?_) | (with_reducible first | apply x_then | apply wp_seq | apply c_region | apply wp_block | apply wp_skip | apply wp_exit | apply wp_ret | apply wp_label | apply wp_scope_straight | apply x_ng | apply x_ng_ret | apply x_ng_exit | apply x_then_ret | apply x_then_exit | apply x_block | apply x_block_ret | apply x_block_exit | refine x_block_other (by decide) ?_))
        exact out1 rfl ⟨rfl, rfl⟩
      · rw [decide_eq_true h1, decide_eq_true h2, decide_eq_false h3]
        repeat (first | ((with_reducible apply is_st); refine su ?_) | ((with_reducible apply is_gd); first | refine gt ?_ | refine gf ?_ | refine gu ?_) | ((with_reducible apply is_en); refine en ?_) | (with_reducible first | apply x_then | apply wp_seq | apply c_region | apply wp_block | apply wp_skip | apply wp_exit | apply wp_ret | apply wp_label | apply wp_scope_straight | apply x_ng | apply x_ng_ret | apply x_ng_exit | apply x_then_ret | apply x_then_exit | apply x_block | apply x_block_ret | apply x_block_exit | refine x_block_other (by decide) ?_))
        exact out1 rfl ⟨by rw [decide_eq_false h3]; rfl, rfl⟩
    · rw [decide_eq_true h1, decide_eq_false h2]
      repeat (first | ((with_reducible apply is_st); refine su ?_) | ((with_reducible apply is_gd); first | refine gt ?_ | refine gf ?_ | refine gu ?_) | ((with_reducible apply is_en); refine en ?_) | (with_reducible first | apply x_then | apply wp_seq | apply c_region | apply wp_block | apply wp_skip | apply wp_exit | apply wp_ret | apply wp_label | apply wp_scope_straight | apply x_ng | apply x_ng_ret | apply x_ng_exit | apply x_then_ret | apply x_then_exit | apply x_block | apply x_block_ret | apply x_block_exit | refine x_block_other (by decide) ?_))
      exact out1 rfl ⟨by rw [decide_eq_false h2]; rfl, rfl⟩
  · rw [decide_eq_false h1]
    repeat (first | ((with_reducible apply is_st); refine su ?_) | ((with_reducible apply is_gd); first | refine gt ?_ | refine gf ?_ | refine gu ?_) | ((with_reducible apply is_en); refine en ?_) | (with_reducible first | apply x_then | apply wp_seq | apply c_region | apply wp_block | apply wp_skip | apply wp_exit | apply wp_ret | apply wp_label | apply wp_scope_straight | apply x_ng | apply x_ng_ret | apply x_ng_exit | apply x_then_ret | apply x_then_exit | apply x_block | apply x_block_ret | apply x_block_exit | refine x_block_other (by decide) ?_))
    exact out1 rfl ⟨by rw [decide_eq_false h1]; rfl, rfl⟩
theorem parts_any (n a b : Int) (w : World) : Calls Try.prog 11 #[.int .i64 n, .int .i64 a, .int .i64 b] w (Ret fun u w' => ∃ bn bf bt, u = .func (.func 14) #[] #[.pointer (some ⟨bn, 0, none⟩), .pointer (some ⟨bf, 0, none⟩), .pointer (some ⟨bt, 0, none⟩)] ∧ Ch [] w w' ∧
    Blk w' bn [.int .i64 n] 3 ∧ Blk w' bf [.int .i64 a] 3 ∧ Blk w' bt [.int .i64 b] 3 ∧ w.heap.size ≤ bn ∧ w.heap.size ≤ bf ∧ w.heap.size ≤ bt) := by
  refine enter [.int .i64 n, .int .i64 a, .int .i64 b, undef, undef, undef, undef, undef] Try.func11 rfl rfl ?_
  repeat (first | ((with_reducible apply is_st); refine su ?_) | ((with_reducible apply is_gd); first | refine gt ?_ | refine gf ?_ | refine gu ?_) | ((with_reducible apply is_en); refine en ?_) | (with_reducible first | apply x_then | apply wp_seq | apply c_region | apply wp_block | apply wp_skip | apply wp_exit | apply wp_ret | apply wp_label | apply wp_scope_straight | apply x_ng | apply x_ng_ret | apply x_ng_exit | apply x_then_ret | apply x_then_exit | apply x_block | apply x_block_ret | apply x_block_exit | refine x_block_other (by decide) ?_))
  refine wl_box rfl (fun w1 bn hbn => ?_)
  refine wl_box rfl (fun w2 bf hbf => ?_)
  refine wl_box rfl (fun w3 bt hbt => ?_)
  have hBt : Blk w3 bt [.int .i64 b] 3 := hbt.blk
  have hBf : Blk w3 bf [.int .i64 a] 3 := Blk.ch (show Blk w2 bf [.int .i64 a] 3 from hbf.blk) hbt.ch (by simp)
  have hBn : Blk w3 bn [.int .i64 n] 3 := (Blk.ch (show Blk w1 bn [.int .i64 n] 3 from hbn.blk) hbf.ch (by simp)).ch hbt.ch (by simp)
  have e1 := hbn.at_
  have e2 := hbf.at_
  have e3 := hbt.at_
  have z1 := hbn.size
  have z2 := hbf.size
  repeat (first | ((with_reducible apply is_st); refine su ?_) | ((with_reducible apply is_gd); first | refine gt ?_ | refine gf ?_ | refine gu ?_) | ((with_reducible apply is_en); refine en ?_) | (with_reducible first | apply x_then | apply wp_seq | apply c_region | apply wp_block | apply wp_skip | apply wp_exit | apply wp_ret | apply wp_label | apply wp_scope_straight | apply x_ng | apply x_ng_ret | apply x_ng_exit | apply x_then_ret | apply x_then_exit | apply x_block | apply x_block_ret | apply x_block_exit | refine x_block_other (by decide) ?_))
  (try ((with_reducible apply is_gd); first | refine gt ?_ | refine gf ?_ | refine gu ?_)); refine wl_val (r_makeFunc (cs := [.tmp 3, .tmp 4, .tmp 5])) ?_
  repeat (first | ((with_reducible apply is_st); refine su ?_) | ((with_reducible apply is_gd); first | refine gt ?_ | refine gf ?_ | refine gu ?_) | ((with_reducible apply is_en); refine en ?_) | (with_reducible first | apply x_then | apply wp_seq | apply c_region | apply wp_block | apply wp_skip | apply wp_exit | apply wp_ret | apply wp_label | apply wp_scope_straight | apply x_ng | apply x_ng_ret | apply x_ng_exit | apply x_then_ret | apply x_then_exit | apply x_block | apply x_block_ret | apply x_block_exit | refine x_block_other (by decide) ?_))
  exact out1 rfl ⟨bn, bf, bt, rfl, (hbn.ch.then hbf.ch).then hbt.ch, hBn, hBf, hBt, by omega, by omega, by omega⟩
set_option maxHeartbeats 8000000 in
theorem sides_any (n a b : Int) (w : World) : Calls Try.prog 5 #[.int .i64 n, .int .i64 a, .int .i64 b] w (Ret fun u w' => Ch [] w w' ∧ (∀ S, (∀ x ∈ S, x < w.heap.size) → (Ty.enc eP).Rd S w' u (sidesZ n a b)) ∧ (sidesZ n a b).length ≤ 1099511627776) := by
  refine enterM [.int .i64 n, .int .i64 a, .int .i64 b, undef, undef, undef, undef, undef, undef, undef, undef, undef, undef, undef, undef, undef, undef, undef, undef, undef, undef, undef, undef, undef, undef, undef, undef] Try.func5 rfl rfl ?_
  repeat (first | ((with_reducible apply is_st); refine su ?_) | ((with_reducible apply is_gd); first | refine gt ?_ | refine gf ?_ | refine gu ?_) | ((with_reducible apply is_en); refine en ?_) | (with_reducible first | apply x_then | apply wp_seq | apply c_region | apply wp_block | apply wp_skip | apply wp_exit | apply wp_ret | apply wp_label | apply wp_scope_straight | apply x_ng | apply x_ng_ret | apply x_ng_exit | apply x_then_ret | apply x_then_exit | apply x_block | apply x_block_ret | apply x_block_exit | refine x_block_other (by decide) ?_))
  (try ((with_reducible apply is_gd); first | refine gt ?_ | refine gf ?_ | refine gu ?_)); refine ca (may_any n a b w) ?_
  rintro _ w1 ⟨rfl, hw1⟩
  subst hw1
  by_cases hm : mayZ n a b = true
  case neg =>
    have hm : mayZ n a b = false := by simpa using hm
    have hz : sidesZ n a b = [] := by unfold sidesZ; rw [hm]; rfl
    rw [hm, hz]
    repeat (first | ((with_reducible apply is_st); refine su ?_) | ((with_reducible apply is_gd); first | refine gt ?_ | refine gf ?_ | refine gu ?_) | ((with_reducible apply is_en); refine en ?_) | (with_reducible first | apply x_then | apply wp_seq | apply c_region | apply wp_block | apply wp_skip | apply wp_exit | apply wp_ret | apply wp_label | apply wp_scope_straight | apply x_ng | apply x_ng_ret | apply x_ng_exit | apply x_then_ret | apply x_then_exit | apply x_block | apply x_block_ret | apply x_block_exit | refine x_block_other (by decide) ?_))
    refine c_condb rfl (fun _ => ?_) (fun h => by cases h)
    repeat (first | ((with_reducible apply is_st); refine su ?_) | ((with_reducible apply is_gd); first | refine gt ?_ | refine gf ?_ | refine gu ?_) | ((with_reducible apply is_en); refine en ?_) | (with_reducible first | apply x_then | apply wp_seq | apply c_region | apply wp_block | apply wp_skip | apply wp_exit | apply wp_ret | apply wp_label | apply wp_scope_straight | apply x_ng | apply x_ng_ret | apply x_ng_exit | apply x_then_ret | apply x_then_exit | apply x_block | apply x_block_ret | apply x_block_exit | refine x_block_other (by decide) ?_))
    exact post0 (out1 rfl ⟨Ch.refl _ _, fun S hS => Ty.Rd.nil _ _ _ _ _, by simp⟩)
  case pos =>
    have hmm := hm
    unfold mayZ at hmm
    simp only [Bool.and_eq_true, decide_eq_true_eq] at hmm
    obtain ⟨⟨⟨h1, h2⟩, h3⟩, h4⟩ := hmm
    obtain ⟨a', rfl⟩ := Int.eq_ofNat_of_zero_le h1
    obtain ⟨b', rfl⟩ := Int.eq_ofNat_of_zero_le (by omega : 0 ≤ b)
    obtain ⟨N, rfl⟩ := Int.eq_ofNat_of_zero_le (by omega : 0 ≤ n)
    have hz : sidesZ (N : Int) (a' : Int) (b' : Int) = outs (ptN a' b' 0 N) := by unfold sidesZ; rw [hm]; rfl
    have hlen : (ptN a' b' 0 N).length ≤ N := ptF_len a' b' _ 0 N (by omega) (by omega)
    have holen := outs_len (ptN a' b' 0 N)
    rw [hm, hz]
    repeat (first | ((with_reducible apply is_st); refine su ?_) | ((with_reducible apply is_gd); first | refine gt ?_ | refine gf ?_ | refine gu ?_) | ((with_reducible apply is_en); refine en ?_) | (with_reducible first | apply x_then | apply wp_seq | apply c_region | apply wp_block | apply wp_skip | apply wp_exit | apply wp_ret | apply wp_label | apply wp_scope_straight | apply x_ng | apply x_ng_ret | apply x_ng_exit | apply x_then_ret | apply x_then_exit | apply x_block | apply x_block_ret | apply x_block_exit | refine x_block_other (by decide) ?_))
    refine c_condb rfl (fun h => by cases h) (fun _ => ?_)
    repeat (first | ((with_reducible apply is_st); refine su ?_) | ((with_reducible apply is_gd); first | refine gt ?_ | refine gf ?_ | refine gu ?_) | ((with_reducible apply is_en); refine en ?_) | (with_reducible first | apply x_then | apply wp_seq | apply c_region | apply wp_block | apply wp_skip | apply wp_exit | apply wp_ret | apply wp_label | apply wp_scope_straight | apply x_ng | apply x_ng_ret | apply x_ng_exit | apply x_then_ret | apply x_then_exit | apply x_block | apply x_block_ret | apply x_block_exit | refine x_block_other (by decide) ?_))
    refine wl_alloc (fun w2 b7 hb7 => ?_)
    have e7 := hb7.at_
    have s7 := hb7.size
    have hB7 : Blk w2 b7 [.slice none 0 0] 23 := hb7.blk
    repeat (first | ((with_reducible apply is_st); refine su ?_) | ((with_reducible apply is_gd); first | refine gt ?_ | refine gf ?_ | refine gu ?_) | ((with_reducible apply is_en); refine en ?_) | (with_reducible first | apply x_then | apply wp_seq | apply c_region | apply wp_block | apply wp_skip | apply wp_exit | apply wp_ret | apply wp_label | apply wp_scope_straight | apply x_ng | apply x_ng_ret | apply x_ng_exit | apply x_then_ret | apply x_then_exit | apply x_block | apply x_block_ret | apply x_block_exit | refine x_block_other (by decide) ?_))
    (try ((with_reducible apply is_gd); first | refine gt ?_ | refine gf ?_ | refine gu ?_)); refine ca (parts_any (N : Int) (a' : Int) (b' : Int) w2) ?_
    rintro _ w3 ⟨bn, bf, bt, rfl, hc3, hBn, hBf, hBt, hln, hlf, hlt⟩
    have hB7 := hB7.ch hc3 (by simp)
    have z3 := hc3.size
    have hc3 : Ch [] w1 w3 := hb7.ch.then hc3
    repeat (first | ((with_reducible apply is_st); refine su ?_) | ((with_reducible apply is_gd); first | refine gt ?_ | refine gf ?_ | refine gu ?_) | ((with_reducible apply is_en); refine en ?_) | (with_reducible first | apply x_then | apply wp_seq | apply c_region | apply wp_block | apply wp_skip | apply wp_exit | apply wp_ret | apply wp_label | apply wp_scope_straight | apply x_ng | apply x_ng_ret | apply x_ng_exit | apply x_then_ret | apply x_then_exit | apply x_block | apply x_block_ret | apply x_block_exit | refine x_block_other (by decide) ?_))
    
    refine c_rangeX (e1 := fun x : Pt => pv x.1.1 x.1.2) (e2 := fun x : Pt => .bool x.2) rfl (enters_of Try.func14 (by kernel_rfl) rfl) (parts_seq (n := 9) (by omega) (by omega) (by omega) hB7 hBn hBf hBt ⟨by omega, by omega, by omega⟩) (by omega)
      (fun pre W => ∃ v7, Blk W b7 [v7] 23 ∧ Go.Proofs.E.Own eP W w1.heap.size 25 v7 (outs pre) ∧ Ch [] w1 W) ?_ ⟨_, hB7, Go.Proofs.E.Own.nil _ _ _ _, hc3⟩
      (fun x l W => ∃ b8, w3.heap.size ≤ b8 ∧ Blk W b8 (eP.f x.1) 25 ∧ (∃ jj : Nat → Value, l = [jj 0, jj 1, jj 2, jj 3, jj 4, jj 5, jj 6, .pointer (some ⟨b7, 0, none⟩), .pointer (some ⟨b8, 0, none⟩), .bool x.2, jj 10, jj 11, jj 12, jj 13, jj 14, jj 15, jj 16, jj 17, jj 18, jj 19, jj 20, jj 21, jj 22, jj 23, jj 24, jj 25, jj 26])) ?_ ?_ ?_ ?_
    · rintro s A A' ⟨v7, hv7, hO, hcA⟩ hmv
      refine ⟨v7, (hmv.low _ (by omega)).trans hv7, ⟨hO.1, ?_⟩, ⟨hmv.os.trans hcA.os, hmv.tape.trans hcA.tape, hmv.output.trans hcA.output, Nat.le_trans hcA.size hmv.size, fun k hk _ => (hmv.low k (by omega)).trans (hcA.block k hk (by simp))⟩⟩
      rcases hO.2 with h | ⟨g, cap, cur, rfl, hg, hh, r⟩
      · exact .inl h
      · exact .inr ⟨g, cap, cur, rfl, hg, (hmv.held g ⟨_, hv7, rfl, _, hh, rfl⟩).trans hh, r⟩
    · rintro x l A k o o' ⟨b8, h8, hB8, hl⟩ hk ho
      refine ⟨b8, h8, (World.putObj_heap_other fun e => ?_).trans hB8, hl⟩
      subst e
      have := hk.symm.trans hB8
      cases this
      cases ho
    · intro r x W K hzW hK
      refine wpIn_seq ?_
      refine ci_region (noOut_then noOut_F) rfl ?_
      refine wl_alloc (fun W1 b8 hb8 => ?_)
      refine stbw (n := 2) (vs := eP.f x.1) hb8.blk rfl rfl rfl rfl (eP.h1 x.1) (fun W2 hB8 hch2 hs2 => ?_)
      have e8 := hb8.at_
      refine wl_nil ?_
      refine x_then ?_
      refine ci_region (noOut_then noOut_F) rfl ?_
      refine st ?_
      refine en ?_
      exact hK _ W2 (hb8.ch.own hch2 (by omega)) ⟨b8, by omega, hB8, exj rfl⟩
    · rintro r pre x l W hr ⟨v7, hv7, hO, hcW⟩ ⟨b8, h8, hB8, ⟨jj, rfl⟩⟩ hlenp
      have hosn := outs_snoc pre x
      have hol := outs_len pre
      obtain ⟨⟨lo, hi⟩, out⟩ := x
      have hb7W : Blk W b7 [v7] 23 := hv7
      refine wpIn_block ?_
      refine wpIn_seq ?_
      refine ci_region (noOut_then (noOut_block noOut_X)) rfl ?_
      refine st ?_
      refine en ?_
      refine x_then ?_
      cases out with
      | false =>
        refine ci_condb rfl (fun h => by cases h) (fun _ => ?_)
        refine wpIn_skip ?_
        refine ⟨rfl, KeepsFrom.refl _ _, ⟨Nat.le_refl _, fun v hv => ⟨fun k o hk _ _ _ => hk, v, hv, .inl rfl⟩⟩, v7, hv7, ?_, hcW⟩
        rw [hosn]
        exact hO
      | true =>
        refine ci_condb rfl (fun _ => ?_) (fun h => by cases h)
        refine ci_region (noOut_block noOut_X) rfl ?_
        refine ldb hv7 rfl rfl ?_
        refine ldbr (n := 2) hB8 rfl (ds := eP.f (lo, hi)) rfl rfl ?_
        (try ((with_reducible apply is_gd); first | refine gt ?_ | refine gf ?_ | refine gu ?_)); refine pu (lo, hi) hO hcW.size (fun _ v3 W3 hO3 hch3 hat3 => ?_)
        have hown : ∀ k, v7.ownBlock = some k → w1.heap.size ≤ k ∧ k < W.heap.size := fun k hk => hO.lt hk
        have hne7 : v7.ownBlock ≠ some b7 := fun e => by
          rcases hO.2 with ⟨rfl, _⟩ | ⟨g, cap, cur, rfl, hg, hh, _⟩
          · cases e
          · have : g = b7 := Option.some.inj e
            subst this
            have := hh.symm.trans hv7
            cases this
        have hB73 : Blk W3 b7 [v7] 23 := hv7.ch hch3 (fun hm => hne7 (by simpa using hm))
        obtain ⟨A3, c3, rfl, _⟩ := hO3.form
        refine stb hB73 rfl rfl rfl rfl (by simp) (fun W4 hB74 hch4 hs4 => ?_)
        refine wl_nil ?_
        have z3 := hch3.size
        have hkeep : ∀ (k : Nat), k < W.heap.size → k ≠ b7 → v7.ownBlock ≠ some k → W4.heap[k]? = W.heap[k]? := fun k hk h1 h2 => (hch4.block k (by omega) (by simpa using h1)).trans (hch3.block k hk (fun hm => h2 (by simpa using hm)))
        refine ⟨rfl, ⟨by omega, fun k o _ hk ho => ?_⟩, ⟨by omega, fun v hv => ?_⟩, _, hB74, ?_, ?_⟩
        · refine (hkeep k (Array.getElem?_eq_some_iff.1 hk).1 (fun e => ?_) (fun e => ?_)).trans hk
          · subst e
            have := hk.symm.trans hv7
            cases this
            cases ho
          · rcases hO.2 with ⟨rfl, _⟩ | ⟨g, cap, cur, rfl, hg, hh, _⟩
            · cases e
            · have : g = k := Option.some.inj e
              subst this
              have := hk.symm.trans hh
              cases this
              cases ho
        · have hvv : v = v7 := by
            have := hv.symm.trans hv7
            simpa using this
          subst hvv
          refine ⟨fun k o hk _ h1 h2 => (hkeep k (Array.getElem?_eq_some_iff.1 hk).1 h1 h2).trans hk, _, hB74, ?_⟩
          rcases hat3 with h | ⟨q, hq, hq2⟩
          · exact .inl h
          · have := (hO3.lt hq).2
            exact .inr ⟨q, hq, hq2, by omega⟩
        · rw [hosn]
          refine hO3.ch hch4 (fun k hk hm => ?_)
          simp at hm
          subst hm
          rcases hat3 with h | ⟨q, hq, hq2⟩
          · exact hne7 (h.symm.trans hk)
          · have : q = k := Option.some.inj (hq.symm.trans hk)
            have := hv7.lt'
            omega
        · refine (hcW.trans hch3 (by simp) (fun x hx hm => ?_)).own hch4 (by omega)
          have := (hown x (by simpa using hm)).1
          omega
    · rintro D W hD ⟨v7, hv7, hO, hcW⟩ hKD
      obtain ⟨A7, c7, rfl, hc7⟩ := hO.form
      refine x_block ?_
      refine x_then ?_
      refine wp_seq ?_
      refine wp_region_lit ?_
      refine list_defers _ (fr _) _ (by kernel_rfl) (noOut_then noOut_M) ?_
      refine ldb hv7 rfl rfl ?_
      refine st ?_
      refine en ?_
      show Exit.then _ _ .normal (frd _ _) _
      refine x_then ?_
      refine wp_ret ?_
      refine post1 hKD ?_
      have hcD : Ch [] w1 (W.putObj D (.deferred none)) := hcW.own (Ch.put W D _) (by omega)
      refine out1 rfl ⟨hcD, fun S hS => ?_, by omega⟩
      have hOD := hO.ch (Ch.put W D (.deferred none)) (fun k hk hm => by
        simp at hm
        subst hm
        rcases hO.2 with ⟨h, _⟩ | ⟨g, cap, cur, h, hg, hh, _⟩
        · rw [h] at hk
          cases hk
        · rw [h] at hk
          have : g = k := Option.some.inj hk
          subst this
          have := hh.symm.trans hKD
          cases this)
      exact hOD.rd (fun k hk hm => by
        have h1 := (hO.lt hk).1
        have h2 := hS _ hm
        omega) (by omega)
set_option maxHeartbeats 8000000 in
theorem rsidesN_any (N : Nat) : ∀ (lo hi a b : Nat) (w : World), hi - lo = N → lo < hi → hi ≤ 1099511627776 → a ≤ 1099511627776 → b ≤ 1099511627776 →
    Calls Try.prog 13 #[.int .i64 (lo : Int), .int .i64 (hi : Int), .int .i64 (a : Int), .int .i64 (b : Int)] w (Ret fun u w' => Ch [] w w' ∧ Go.Proofs.E.Own eP w' w.heap.size 25 u (sidesN a b lo hi)) := by
  induction N using Nat.strongRecOn with
  | _ N ih =>
  intro lo hi a b w hN hlh hhi ha hb
  refine enter [.int .i64 (lo : Int), .int .i64 (hi : Int), .int .i64 (a : Int), .int .i64 (b : Int), undef, undef, undef, undef, undef, undef, undef, undef, undef, undef, undef, undef, undef, undef, undef, undef, undef, undef, undef, undef, undef, undef, undef, undef, undef, undef, undef, undef, undef, undef, undef, undef, undef, undef, undef, undef, undef, undef, undef, undef, undef, undef, undef] Try.func13 rfl rfl ?_
  by_cases h1 : hi ≤ a
  · repeat (first | ((with_reducible apply is_st); refine su ?_) | ((with_reducible apply is_gd); first | refine gt ?_ | refine gf ?_ | refine gu ?_) | ((with_reducible apply is_en); refine en ?_) | (with_reducible first | apply x_then | apply wp_seq | apply c_region | apply wp_block | apply wp_skip | apply wp_exit | apply wp_ret | apply wp_label | apply wp_scope_straight | apply x_ng | apply x_ng_ret | apply x_ng_exit | apply x_then_ret | apply x_then_exit | apply x_block | apply x_block_ret | apply x_block_exit | refine x_block_other (by decide) ?_))
    refine c_condb rfl (fun _ => ?_) (fun h => by cases h)
    repeat (first | ((with_reducible apply is_st); refine su ?_) | ((with_reducible apply is_gd); first | refine gt ?_ | refine gf ?_ | refine gu ?_) | ((with_reducible apply is_en); refine en ?_) | (with_reducible first | apply x_then | apply wp_seq | apply c_region | apply wp_block | apply wp_skip | apply wp_exit | apply wp_ret | apply wp_label | apply wp_scope_straight | apply x_ng | apply x_ng_ret | apply x_ng_exit | apply x_then_ret | apply x_then_exit | apply x_block | apply x_block_ret | apply x_block_exit | refine x_block_other (by decide) ?_))
    (try ((with_reducible apply is_gd); first | refine gt ?_ | refine gf ?_ | refine gu ?_)); refine wl_val (r_build_arr (e := 3) (m := 1) (vs := [.int .i64 (lo : Int), .int .i64 (hi : Int)]) rfl rfl (by simp [Value.cells])) ?_
    refine wl_buildSlice (parts := [(0, .tmp 20)]) (vs := [pv lo hi]) rfl rfl (by simp [pv, Value.cells]) (by omega) (fun w1 b1 hb1 => ?_)
    repeat (first | ((with_reducible apply is_st); refine su ?_) | ((with_reducible apply is_gd); first | refine gt ?_ | refine gf ?_ | refine gu ?_) | ((with_reducible apply is_en); refine en ?_) | (with_reducible first | apply x_then | apply wp_seq | apply c_region | apply wp_block | apply wp_skip | apply wp_exit | apply wp_ret | apply wp_label | apply wp_scope_straight | apply x_ng | apply x_ng_ret | apply x_ng_exit | apply x_then_ret | apply x_then_exit | apply x_block | apply x_block_ret | apply x_block_exit | refine x_block_other (by decide) ?_))
    refine out1 rfl ⟨hb1.ch, ?_⟩
    rw [sides_out hlh (.inl h1)]
    exact Go.Proofs.E.Own.of_new hb1 rfl (Nat.le_refl _) (by simp) rfl
  · by_cases h2 : b ≤ lo
    · repeat (first | ((with_reducible apply is_st); refine su ?_) | ((with_reducible apply is_gd); first | refine gt ?_ | refine gf ?_ | refine gu ?_) | ((with_reducible apply is_en); refine en ?_) | (with_reducible first | apply x_then | apply wp_seq | apply c_region | apply wp_block | apply wp_skip | apply wp_exit | apply wp_ret | apply wp_label | apply wp_scope_straight | apply x_ng | apply x_ng_ret | apply x_ng_exit | apply x_then_ret | apply x_then_exit | apply x_block | apply x_block_ret | apply x_block_exit | refine x_block_other (by decide) ?_))
      refine c_cond rfl (fun _ => ?_) (fun h => absurd (by omega : (b : Int) ≤ lo) h)
      repeat (first | ((with_reducible apply is_st); refine su ?_) | ((with_reducible apply is_gd); first | refine gt ?_ | refine gf ?_ | refine gu ?_) | ((with_reducible apply is_en); refine en ?_) | (with_reducible first | apply x_then | apply wp_seq | apply c_region | apply wp_block | apply wp_skip | apply wp_exit | apply wp_ret | apply wp_label | apply wp_scope_straight | apply x_ng | apply x_ng_ret | apply x_ng_exit | apply x_then_ret | apply x_then_exit | apply x_block | apply x_block_ret | apply x_block_exit | refine x_block_other (by decide) ?_))
      (try ((with_reducible apply is_gd); first | refine gt ?_ | refine gf ?_ | refine gu ?_)); refine wl_val (r_build_arr (e := 3) (m := 1) (vs := [.int .i64 (lo : Int), .int .i64 (hi : Int)]) rfl rfl (by simp [Value.cells])) ?_
      refine wl_buildSlice (parts := [(0, .tmp 20)]) (vs := [pv lo hi]) rfl rfl (by simp [pv, Value.cells]) (by omega) (fun w1 b1 hb1 => ?_)
      repeat (first | ((with_reducible apply is_st); refine su ?_) | ((with_reducible apply is_gd); first | refine gt ?_ | refine gf ?_ | refine gu ?_) | ((with_reducible apply is_en); refine en ?_) | (with_reducible first | apply x_then | apply wp_seq | apply c_region | apply wp_block | apply wp_skip | apply wp_exit | apply wp_ret | apply wp_label | apply wp_scope_straight | apply x_ng | apply x_ng_ret | apply x_ng_exit | apply x_then_ret | apply x_then_exit | apply x_block | apply x_block_ret | apply x_block_exit | refine x_block_other (by decide) ?_))
      refine out1 rfl ⟨hb1.ch, ?_⟩
      rw [sides_out hlh (.inr h2)]
      exact Go.Proofs.E.Own.of_new hb1 rfl (Nat.le_refl _) (by simp) rfl
    · have ho : ¬ (hi ≤ a ∨ b ≤ lo) := fun h => h.elim h1 h2
      repeat (first | ((with_reducible apply is_st); refine su ?_) | ((with_reducible apply is_gd); first | refine gt ?_ | refine gf ?_ | refine gu ?_) | ((with_reducible apply is_en); refine en ?_) | (with_reducible first | apply x_then | apply wp_seq | apply c_region | apply wp_block | apply wp_skip | apply wp_exit | apply wp_ret | apply wp_label | apply wp_scope_straight | apply x_ng | apply x_ng_ret | apply x_ng_exit | apply x_then_ret | apply x_then_exit | apply x_block | apply x_block_ret | apply x_block_exit | refine x_block_other (by decide) ?_))
      refine c_cond rfl (fun h => absurd h (by omega)) (fun _ => ?_)
      by_cases h3 : a ≤ lo ∧ hi ≤ b
      · obtain ⟨h31, h32⟩ := h3
        repeat (first | ((with_reducible apply is_st); refine su ?_) | ((with_reducible apply is_gd); first | refine gt ?_ | refine gf ?_ | refine gu ?_) | ((with_reducible apply is_en); refine en ?_) | (with_reducible first | apply x_then | apply wp_seq | apply c_region | apply wp_block | apply wp_skip | apply wp_exit | apply wp_ret | apply wp_label | apply wp_scope_straight | apply x_ng | apply x_ng_ret | apply x_ng_exit | apply x_then_ret | apply x_then_exit | apply x_block | apply x_block_ret | apply x_block_exit | refine x_block_other (by decide) ?_))
        refine c_cond rfl (fun _ => ?_) (fun h => absurd (by omega : (hi : Int) ≤ b) h)
        repeat (first | ((with_reducible apply is_st); refine su ?_) | ((with_reducible apply is_gd); first | refine gt ?_ | refine gf ?_ | refine gu ?_) | ((with_reducible apply is_en); refine en ?_) | (with_reducible first | apply x_then | apply wp_seq | apply c_region | apply wp_block | apply wp_skip | apply wp_exit | apply wp_ret | apply wp_label | apply wp_scope_straight | apply x_ng | apply x_ng_ret | apply x_ng_exit | apply x_then_ret | apply x_then_exit | apply x_block | apply x_block_ret | apply x_block_exit | refine x_block_other (by decide) ?_))
        refine out1 rfl ⟨Ch.refl _ _, ?_⟩
        rw [sides_in hlh ho (.inr ⟨h31, h32⟩)]
        exact Go.Proofs.E.Own.nil _ _ _ _
      · have hleaf : ¬ (hi - lo = 1 ∨ (a ≤ lo ∧ hi ≤ b)) := by omega
        have hsp := splitN_lt (n := hi - lo) (by omega) (by omega)
        have htwo := sides_two (a := a) (b := b) hlh (by omega) ho hleaf
        by_cases h31 : a ≤ lo
        · have h32 : ¬ hi ≤ b := fun h => h3 ⟨h31, h⟩
          repeat (first | ((with_reducible apply is_st); refine su ?_) | ((with_reducible apply is_gd); first | refine gt ?_ | refine gf ?_ | refine gu ?_) | ((with_reducible apply is_en); refine en ?_) | (with_reducible first | apply x_then | apply wp_seq | apply c_region | apply wp_block | apply wp_skip | apply wp_exit | apply wp_ret | apply wp_label | apply wp_scope_straight | apply x_ng | apply x_ng_ret | apply x_ng_exit | apply x_then_ret | apply x_then_exit | apply x_block | apply x_block_ret | apply x_block_exit | refine x_block_other (by decide) ?_))
          refine c_cond rfl (fun h => absurd h (by omega)) (fun _ => ?_)
          repeat (first | ((with_reducible apply is_st); refine su ?_) | ((with_reducible apply is_gd); first | refine gt ?_ | refine gf ?_ | refine gu ?_) | ((with_reducible apply is_en); refine en ?_) | (with_reducible first | apply x_then | apply wp_seq | apply c_region | apply wp_block | apply wp_skip | apply wp_exit | apply wp_ret | apply wp_label | apply wp_scope_straight | apply x_ng | apply x_ng_ret | apply x_ng_exit | apply x_then_ret | apply x_then_exit | apply x_block | apply x_block_ret | apply x_block_exit | refine x_block_other (by decide) ?_))
          (try ((with_reducible apply is_gd); first | refine gt ?_ | refine gf ?_ | refine gu ?_)); refine ca (rsplit_any ((hi : Int) - (lo : Int)) (by omega) w) ?_
          rintro _ w1 ⟨rfl, hw1⟩
          subst hw1
          rw [show (hi : Int) - (lo : Int) = ((hi - lo : Nat) : Int) by omega, splitZ_nat]
          repeat (first | ((with_reducible apply is_st); refine su ?_) | ((with_reducible apply is_gd); first | refine gt ?_ | refine gf ?_ | refine gu ?_) | ((with_reducible apply is_en); refine en ?_) | (with_reducible first | apply x_then | apply wp_seq | apply c_region | apply wp_block | apply wp_skip | apply wp_exit | apply wp_ret | apply wp_label | apply wp_scope_straight | apply x_ng | apply x_ng_ret | apply x_ng_exit | apply x_then_ret | apply x_then_exit | apply x_block | apply x_block_ret | apply x_block_exit | refine x_block_other (by decide) ?_))
          obtain ⟨m, hm⟩ : ∃ m, lo + splitN (hi - lo) = m := ⟨_, rfl⟩
          rw [hm] at htwo
          rw [show (lo : Int) + (splitN (hi - lo) : Int) = (m : Int) by omega]
          (try ((with_reducible apply is_gd); first | refine gt ?_ | refine gf ?_ | refine gu ?_)); refine ca (ih (m - lo) (by omega) lo m a b w1 rfl (by omega) (by omega) ha hb) ?_
          rintro v1 w2 ⟨hc2, hO1⟩
          repeat (first | ((with_reducible apply is_st); refine su ?_) | ((with_reducible apply is_gd); first | refine gt ?_ | refine gf ?_ | refine gu ?_) | ((with_reducible apply is_en); refine en ?_) | (with_reducible first | apply x_then | apply wp_seq | apply c_region | apply wp_block | apply wp_skip | apply wp_exit | apply wp_ret | apply wp_label | apply wp_scope_straight | apply x_ng | apply x_ng_ret | apply x_ng_exit | apply x_then_ret | apply x_then_exit | apply x_block | apply x_block_ret | apply x_block_exit | refine x_block_other (by decide) ?_))
          (try ((with_reducible apply is_gd); first | refine gt ?_ | refine gf ?_ | refine gu ?_)); refine ca (ih (hi - m) (by omega) m hi a b w2 rfl (by omega) (by omega) ha hb) ?_
          rintro v2 w3 ⟨hc3, hO2⟩
          have l1 := sides_len (a := a) (b := b) (lo := lo) (hi := m) (by omega) (by omega)
          have l2 := sides_len (a := a) (b := b) (lo := m) (hi := hi) (by omega) (by omega)
          have hO13 := hO1.ch hc3 (by simp)
          have z2 := hc2.size
          have z3 := hc3.size
          by_cases he : sidesN a b m hi = []
          · obtain ⟨A2, c2, rfl, _⟩ := hO2.form
            rw [he] at htwo ⊢
            refine wl_append0 rfl hO13 rfl ?_
            repeat (first | ((with_reducible apply is_st); refine su ?_) | ((with_reducible apply is_gd); first | refine gt ?_ | refine gf ?_ | refine gu ?_) | ((with_reducible apply is_en); refine en ?_) | (with_reducible first | apply x_then | apply wp_seq | apply c_region | apply wp_block | apply wp_skip | apply wp_exit | apply wp_ret | apply wp_label | apply wp_scope_straight | apply x_ng | apply x_ng_ret | apply x_ng_exit | apply x_then_ret | apply x_then_exit | apply x_block | apply x_block_ret | apply x_block_exit | refine x_block_other (by decide) ?_))
            refine out1 rfl ⟨hc2.then hc3, ?_⟩
            rw [htwo, List.append_nil]
            exact hO13
          · obtain ⟨g, cap, rfl, hcap, _⟩ := hO2.form2 he
            have hrow := hO2.rd (S := []) (by simp) (by omega)
            obtain ⟨b2, o2, cc, hvv, hb2, _, hr2⟩ := rowE hrow he
            injection hvv with hv1 _ hv3
            rw [hv1]
            refine wl_append (en := eP) (n := 2) (v := v1) (xs := sidesN a b lo m) (ys := sidesN a b m hi) rfl rfl (by decide) rfl hO13 (by omega) rfl hr2 (by omega) (by omega) (fun v4 w4 hO4 hc4 hat => ?_)
            repeat (first | ((with_reducible apply is_st); refine su ?_) | ((with_reducible apply is_gd); first | refine gt ?_ | refine gf ?_ | refine gu ?_) | ((with_reducible apply is_en); refine en ?_) | (with_reducible first | apply x_then | apply wp_seq | apply c_region | apply wp_block | apply wp_skip | apply wp_exit | apply wp_ret | apply wp_label | apply wp_scope_straight | apply x_ng | apply x_ng_ret | apply x_ng_exit | apply x_then_ret | apply x_then_exit | apply x_block | apply x_block_ret | apply x_block_exit | refine x_block_other (by decide) ?_))
            refine out1 rfl ⟨(hc2.then hc3).trans hc4 (by simp) (fun x hx hm => ?_), ?_⟩
            · have := (hO13.lt (k := x) (by simpa using hm)).1
              omega
            · rw [htwo]
              exact hO4
        · repeat (first | ((with_reducible apply is_st); refine su ?_) | ((with_reducible apply is_gd); first | refine gt ?_ | refine gf ?_ | refine gu ?_) | ((with_reducible apply is_en); refine en ?_) | (with_reducible first | apply x_then | apply wp_seq | apply c_region | apply wp_block | apply wp_skip | apply wp_exit | apply wp_ret | apply wp_label | apply wp_scope_straight | apply x_ng | apply x_ng_ret | apply x_ng_exit | apply x_then_ret | apply x_then_exit | apply x_block | apply x_block_ret | apply x_block_exit | refine x_block_other (by decide) ?_))
          refine c_condb rfl (fun h => by cases h) (fun _ => ?_)
          repeat (first | ((with_reducible apply is_st); refine su ?_) | ((with_reducible apply is_gd); first | refine gt ?_ | refine gf ?_ | refine gu ?_) | ((with_reducible apply is_en); refine en ?_) | (with_reducible first | apply x_then | apply wp_seq | apply c_region | apply wp_block | apply wp_skip | apply wp_exit | apply wp_ret | apply wp_label | apply wp_scope_straight | apply x_ng | apply x_ng_ret | apply x_ng_exit | apply x_then_ret | apply x_then_exit | apply x_block | apply x_block_ret | apply x_block_exit | refine x_block_other (by decide) ?_))
          (try ((with_reducible apply is_gd); first | refine gt ?_ | refine gf ?_ | refine gu ?_)); refine ca (rsplit_any ((hi : Int) - (lo : Int)) (by omega) w) ?_
          rintro _ w1 ⟨rfl, hw1⟩
          subst hw1
          rw [show (hi : Int) - (lo : Int) = ((hi - lo : Nat) : Int) by omega, splitZ_nat]
          repeat (first | ((with_reducible apply is_st); refine su ?_) | ((with_reducible apply is_gd); first | refine gt ?_ | refine gf ?_ | refine gu ?_) | ((with_reducible apply is_en); refine en ?_) | (with_reducible first | apply x_then | apply wp_seq | apply c_region | apply wp_block | apply wp_skip | apply wp_exit | apply wp_ret | apply wp_label | apply wp_scope_straight | apply x_ng | apply x_ng_ret | apply x_ng_exit | apply x_then_ret | apply x_then_exit | apply x_block | apply x_block_ret | apply x_block_exit | refine x_block_other (by decide) ?_))
          obtain ⟨m, hm⟩ : ∃ m, lo + splitN (hi - lo) = m := ⟨_, rfl⟩
          rw [hm] at htwo
          rw [show (lo : Int) + (splitN (hi - lo) : Int) = (m : Int) by omega]
          (try ((with_reducible apply is_gd); first | refine gt ?_ | refine gf ?_ | refine gu ?_)); refine ca (ih (m - lo) (by omega) lo m a b w1 rfl (by omega) (by omega) ha hb) ?_
          rintro v1 w2 ⟨hc2, hO1⟩
          repeat (first | ((with_reducible apply is_st); refine su ?_) | ((with_reducible apply is_gd); first | refine gt ?_ | refine gf ?_ | refine gu ?_) | ((with_reducible apply is_en); refine en ?_) | (with_reducible first | apply x_then | apply wp_seq | apply c_region | apply wp_block | apply wp_skip | apply wp_exit | apply wp_ret | apply wp_label | apply wp_scope_straight | apply x_ng | apply x_ng_ret | apply x_ng_exit | apply x_then_ret | apply x_then_exit | apply x_block | apply x_block_ret | apply x_block_exit | refine x_block_other (by decide) ?_))
          (try ((with_reducible apply is_gd); first | refine gt ?_ | refine gf ?_ | refine gu ?_)); refine ca (ih (hi - m) (by omega) m hi a b w2 rfl (by omega) (by omega) ha hb) ?_
          rintro v2 w3 ⟨hc3, hO2⟩
          have l1 := sides_len (a := a) (b := b) (lo := lo) (hi := m) (by omega) (by omega)
          have l2 := sides_len (a := a) (b := b) (lo := m) (hi := hi) (by omega) (by omega)
          have hO13 := hO1.ch hc3 (by simp)
          have z2 := hc2.size
          have z3 := hc3.size
          by_cases he : sidesN a b m hi = []
          · obtain ⟨A2, c2, rfl, _⟩ := hO2.form
            rw [he] at htwo ⊢
            refine wl_append0 rfl hO13 rfl ?_
            repeat (first | ((with_reducible apply is_st); refine su ?_) | ((with_reducible apply is_gd); first | refine gt ?_ | refine gf ?_ | refine gu ?_) | ((with_reducible apply is_en); refine en ?_) | (with_reducible first | apply x_then | apply wp_seq | apply c_region | apply wp_block | apply wp_skip | apply wp_exit | apply wp_ret | apply wp_label | apply wp_scope_straight | apply x_ng | apply x_ng_ret | apply x_ng_exit | apply x_then_ret | apply x_then_exit | apply x_block | apply x_block_ret | apply x_block_exit | refine x_block_other (by decide) ?_))
            refine out1 rfl ⟨hc2.then hc3, ?_⟩
            rw [htwo, List.append_nil]
            exact hO13
          · obtain ⟨g, cap, rfl, hcap, _⟩ := hO2.form2 he
            have hrow := hO2.rd (S := []) (by simp) (by omega)
            obtain ⟨b2, o2, cc, hvv, hb2, _, hr2⟩ := rowE hrow he
            injection hvv with hv1 _ hv3
            rw [hv1]
            refine wl_append (en := eP) (n := 2) (v := v1) (xs := sidesN a b lo m) (ys := sidesN a b m hi) rfl rfl (by decide) rfl hO13 (by omega) rfl hr2 (by omega) (by omega) (fun v4 w4 hO4 hc4 hat => ?_)
            repeat (first | ((with_reducible apply is_st); refine su ?_) | ((with_reducible apply is_gd); first | refine gt ?_ | refine gf ?_ | refine gu ?_) | ((with_reducible apply is_en); refine en ?_) | (with_reducible first | apply x_then | apply wp_seq | apply c_region | apply wp_block | apply wp_skip | apply wp_exit | apply wp_ret | apply wp_label | apply wp_scope_straight | apply x_ng | apply x_ng_ret | apply x_ng_exit | apply x_then_ret | apply x_then_exit | apply x_block | apply x_block_ret | apply x_block_exit | refine x_block_other (by decide) ?_))
            refine out1 rfl ⟨(hc2.then hc3).trans hc4 (by simp) (fun x hx hm => ?_), ?_⟩
            · have := (hO13.lt (k := x) (by simpa using hm)).1
              omega
            · rw [htwo]
              exact hO4
set_option maxHeartbeats 4000000 in
theorem rSides_any (n a b : Int) (w : World) : Calls Try.prog 8 #[.int .i64 n, .int .i64 a, .int .i64 b] w (Ret fun u w' => Ch [] w w' ∧ (∀ S, (∀ x ∈ S, x < w.heap.size) → (Ty.enc eP).Rd S w' u (sidesZ n a b)) ∧ (sidesZ n a b).length ≤ 1099511627776) := by
  refine enter [.int .i64 n, .int .i64 a, .int .i64 b, undef, undef, undef, undef, undef, undef, undef, undef, undef, undef, undef, undef, undef] Try.func8 rfl rfl ?_
  repeat (first | ((with_reducible apply is_st); refine su ?_) | ((with_reducible apply is_gd); first | refine gt ?_ | refine gf ?_ | refine gu ?_) | ((with_reducible apply is_en); refine en ?_) | (with_reducible first | apply x_then | apply wp_seq | apply c_region | apply wp_block | apply wp_skip | apply wp_exit | apply wp_ret | apply wp_label | apply wp_scope_straight | apply x_ng | apply x_ng_ret | apply x_ng_exit | apply x_then_ret | apply x_then_exit | apply x_block | apply x_block_ret | apply x_block_exit | refine x_block_other (by decide) ?_))
  (try ((with_reducible apply is_gd); first | refine gt ?_ | refine gf ?_ | refine gu ?_)); refine ca (rmay_any n a b w) ?_
  rintro _ w1 ⟨rfl, hw1⟩
  subst hw1
  by_cases hm : mayZ n a b = true
  case neg =>
    have hm : mayZ n a b = false := by simpa using hm
    have hz : sidesZ n a b = [] := by unfold sidesZ; rw [hm]; rfl
    rw [hm, hz]
    repeat (first | ((with_reducible apply is_st); refine su ?_) | ((with_reducible apply is_gd); first | refine gt ?_ | refine gf ?_ | refine gu ?_) | ((with_reducible apply is_en); refine en ?_) | (with_reducible first | apply x_then | apply wp_seq | apply c_region | apply wp_block | apply wp_skip | apply wp_exit | apply wp_ret | apply wp_label | apply wp_scope_straight | apply x_ng | apply x_ng_ret | apply x_ng_exit | apply x_then_ret | apply x_then_exit | apply x_block | apply x_block_ret | apply x_block_exit | refine x_block_other (by decide) ?_))
    refine c_condb rfl (fun _ => ?_) (fun h => by cases h)
    repeat (first | ((with_reducible apply is_st); refine su ?_) | ((with_reducible apply is_gd); first | refine gt ?_ | refine gf ?_ | refine gu ?_) | ((with_reducible apply is_en); refine en ?_) | (with_reducible first | apply x_then | apply wp_seq | apply c_region | apply wp_block | apply wp_skip | apply wp_exit | apply wp_ret | apply wp_label | apply wp_scope_straight | apply x_ng | apply x_ng_ret | apply x_ng_exit | apply x_then_ret | apply x_then_exit | apply x_block | apply x_block_ret | apply x_block_exit | refine x_block_other (by decide) ?_))
    exact out1 rfl ⟨Ch.refl _ _, fun S hS => Ty.Rd.nil _ _ _ _ _, by simp⟩
  case pos =>
    have hmm := hm
    unfold mayZ at hmm
    simp only [Bool.and_eq_true, decide_eq_true_eq] at hmm
    obtain ⟨⟨⟨h1, h2⟩, h3⟩, h4⟩ := hmm
    obtain ⟨a', rfl⟩ := Int.eq_ofNat_of_zero_le h1
    obtain ⟨b', rfl⟩ := Int.eq_ofNat_of_zero_le (by omega : 0 ≤ b)
    obtain ⟨N, rfl⟩ := Int.eq_ofNat_of_zero_le (by omega : 0 ≤ n)
    have hz : sidesZ (N : Int) (a' : Int) (b' : Int) = sidesN a' b' 0 N := by unfold sidesZ; rw [hm]; rfl
    have hlen := sides_len (a := a') (b := b') (lo := 0) (hi := N) (by omega) (by omega)
    rw [hm, hz]
    repeat (first | ((with_reducible apply is_st); refine su ?_) | ((with_reducible apply is_gd); first | refine gt ?_ | refine gf ?_ | refine gu ?_) | ((with_reducible apply is_en); refine en ?_) | (with_reducible first | apply x_then | apply wp_seq | apply c_region | apply wp_block | apply wp_skip | apply wp_exit | apply wp_ret | apply wp_label | apply wp_scope_straight | apply x_ng | apply x_ng_ret | apply x_ng_exit | apply x_then_ret | apply x_then_exit | apply x_block | apply x_block_ret | apply x_block_exit | refine x_block_other (by decide) ?_))
    refine c_condb rfl (fun h => by cases h) (fun _ => ?_)
    repeat (first | ((with_reducible apply is_st); refine su ?_) | ((with_reducible apply is_gd); first | refine gt ?_ | refine gf ?_ | refine gu ?_) | ((with_reducible apply is_en); refine en ?_) | (with_reducible first | apply x_then | apply wp_seq | apply c_region | apply wp_block | apply wp_skip | apply wp_exit | apply wp_ret | apply wp_label | apply wp_scope_straight | apply x_ng | apply x_ng_ret | apply x_ng_exit | apply x_then_ret | apply x_then_exit | apply x_block | apply x_block_ret | apply x_block_exit | refine x_block_other (by decide) ?_))
    (try ((with_reducible apply is_gd); first | refine gt ?_ | refine gf ?_ | refine gu ?_)); refine ca (rsidesN_any N 0 N a' b' w1 rfl (by omega) (by omega) (by omega) (by omega)) ?_
    rintro v w2 ⟨hc2, hO⟩
    repeat (first | ((with_reducible apply is_st); refine su ?_) | ((with_reducible apply is_gd); first | refine gt ?_ | refine gf ?_ | refine gu ?_) | ((with_reducible apply is_en); refine en ?_) | (with_reducible first | apply x_then | apply wp_seq | apply c_region | apply wp_block | apply wp_skip | apply wp_exit | apply wp_ret | apply wp_label | apply wp_scope_straight | apply x_ng | apply x_ng_ret | apply x_ng_exit | apply x_then_ret | apply x_then_exit | apply x_block | apply x_block_ret | apply x_block_exit | refine x_block_other (by decide) ?_))
    exact out1 rfl ⟨hc2, fun S hS => hO.rd (fun k hk hm => by
      have h1 := (hO.lt hk).1
      have h2 := hS _ hm
      omega) (by omega), by omega⟩
theorem count_any (n a b : Int) (w : World) : Calls Try.prog 9 #[.int .i64 n, .int .i64 a, .int .i64 b] w (Ret fun u w' => Ch [] w w' ∧ u = .int .i64 ((sidesZ n a b).length : Int)) := by
  refine enter [.int .i64 n, .int .i64 a, .int .i64 b, undef, undef, undef, undef, undef, undef, undef, undef, undef] Try.func9 rfl rfl ?_
  repeat (first | ((with_reducible apply is_st); refine su ?_) | ((with_reducible apply is_gd); first | refine gt ?_ | refine gf ?_ | refine gu ?_) | ((with_reducible apply is_en); refine en ?_) | (with_reducible first | apply x_then | apply wp_seq | apply c_region | apply wp_block | apply wp_skip | apply wp_exit | apply wp_ret | apply wp_label | apply wp_scope_straight | apply x_ng | apply x_ng_ret | apply x_ng_exit | apply x_then_ret | apply x_then_exit | apply x_block | apply x_block_ret | apply x_block_exit | refine x_block_other (by decide) ?_))
  (try ((with_reducible apply is_gd); first | refine gt ?_ | refine gf ?_ | refine gu ?_)); refine ca (sides_any n a b w) ?_
  rintro v w1 ⟨hc1, hR, hl⟩
  have hR := hR [] (by simp)
  obtain ⟨A, c, rfl⟩ := hR.form
  repeat (first | ((with_reducible apply is_st); refine su ?_) | ((with_reducible apply is_gd); first | refine gt ?_ | refine gf ?_ | refine gu ?_) | ((with_reducible apply is_en); refine en ?_) | (with_reducible first | apply x_then | apply wp_seq | apply c_region | apply wp_block | apply wp_skip | apply wp_exit | apply wp_ret | apply wp_label | apply wp_scope_straight | apply x_ng | apply x_ng_ret | apply x_ng_exit | apply x_then_ret | apply x_then_exit | apply x_block | apply x_block_ret | apply x_block_exit | refine x_block_other (by decide) ?_))
  exact out1 rfl ⟨hc1, rfl⟩
end Go.Proofs.Ytfldckjkipmibaa

/- Walks: what shows that leaves have grown of the first of them, the program's and the reference's. -/
import Derived.Test.YtbecfcnbgeeghaaDoorPath2
set_option linter.unusedVariables false
set_option linter.unusedSimpArgs false
namespace Go.Proofs.YtbecfcnbgeeghaaDoor
open Go Go.RowKit Go.Proofs.E
attribute [local irreducible] Go.wpList Go.Code.wp Go.Proofs.E.exec Go.Proofs.E.wpLexG
/-- The sides, from the root down, of the way to where the first m end. -/
def gdF : Nat → Nat → List Hs → Bool → List Hs
  | 0, m, l, b => if b = true then [] else [rootH l]
  | f + 1, m, l, b => if l.length ≤ m then (if b = true then [] else [rootH l]) else if m ≤ splitN l.length then rootH (l.drop (splitN l.length)) :: gdF f m (l.take (splitN l.length)) b else rootH (l.take (splitN l.length)) :: gdF f (m - splitN l.length) (l.drop (splitN l.length)) false
def gdH (m : Nat) (l : List Hs) (b : Bool) : List Hs := gdF l.length m l b
theorem gdF_any : ∀ (f g m : Nat) (l : List Hs) (b : Bool), 1 ≤ m → l.length ≤ f → l.length ≤ g → l.length ≤ 9223372036854775807 → gdF f m l b = gdF g m l b
  | 0, 0, m, l, b, _, _, _, _ => rfl
  | 0, g + 1, m, l, b, hm, h, _, _ => by rw [gdF, gdF, if_pos (by omega : l.length ≤ m)]
  | f + 1, 0, m, l, b, hm, _, h, _ => by rw [gdF, gdF, if_pos (by omega : l.length ≤ m)]
  | f + 1, g + 1, m, l, b, hm, hf, hg, hb => by
    rw [gdF, gdF]
    by_cases h : l.length ≤ m
    · rw [if_pos h, if_pos h]
    · rw [if_neg h, if_neg h]
      have := splitN_lt (n := l.length) (by omega) hb
      by_cases h2 : m ≤ splitN l.length
      · rw [if_pos h2, if_pos h2, gdF_any f g m (l.take _) b hm (by rw [List.length_take]; omega) (by rw [List.length_take]; omega) (by rw [List.length_take]; omega)]
      · rw [if_neg h2, if_neg h2, gdF_any f g (m - splitN l.length) (l.drop _) false (by omega) (by rw [List.length_drop]; omega) (by rw [List.length_drop]; omega) (by rw [List.length_drop]; omega)]
theorem gd_all {m : Nat} {l : List Hs} {b : Bool} (h : l.length ≤ m) : gdH m l b = if b = true then [] else [rootH l] := by
  have : ∀ f, gdF f m l b = if b = true then [] else [rootH l] := by
    intro f
    cases f with
    | zero => rfl
    | succ f => rw [gdF, if_pos h]
  exact this _
theorem gd_left {m : Nat} {l : List Hs} {b : Bool} (hm : 1 ≤ m) (h : m < l.length) (hb : l.length ≤ 1000000000) (h2 : m ≤ splitN l.length) : gdH m l b = rootH (l.drop (splitN l.length)) :: gdH m (l.take (splitN l.length)) b := by
  have := splitN_lt (n := l.length) (by omega) (by omega)
  unfold gdH
  obtain ⟨f, hf⟩ : ∃ f, l.length = f + 1 := ⟨l.length - 1, by omega⟩
  conv => lhs; rw [hf, gdF]
  rw [if_neg (by omega), if_pos h2, gdF_any f _ m (l.take _) b hm (by rw [List.length_take]; omega) (Nat.le_refl _) (by rw [List.length_take]; omega)]
theorem gd_right {m : Nat} {l : List Hs} {b : Bool} (hm : 1 ≤ m) (h : m < l.length) (hb : l.length ≤ 1000000000) (h2 : ¬ m ≤ splitN l.length) : gdH m l b = rootH (l.take (splitN l.length)) :: gdH (m - splitN l.length) (l.drop (splitN l.length)) false := by
  have := splitN_lt (n := l.length) (by omega) (by omega)
  unfold gdH
  obtain ⟨f, hf⟩ : ∃ f, l.length = f + 1 := ⟨l.length - 1, by omega⟩
  conv => lhs; rw [hf, gdF]
  rw [if_neg (by omega), if_neg h2, gdF_any f _ (m - splitN l.length) (l.drop _) false (by omega) (by rw [List.length_drop]; omega) (Nat.le_refl _) (by rw [List.length_drop]; omega)]
theorem gdF_len : ∀ f m l b, (gdF f m l b).length ≤ f + 1
  | 0, m, l, b => by
    rw [gdF]
    split <;> simp
  | f + 1, m, l, b => by
    rw [gdF]
    split
    · split <;> simp
    · split
      · have := gdF_len f m (l.take (splitN l.length)) b
        simp
        omega
      · have := gdF_len f (m - splitN l.length) (l.drop (splitN l.length)) false
        simp
        omega
theorem gd_len (m : Nat) (l : List Hs) (b : Bool) : (gdH m l b).length ≤ l.length + 1 := gdF_len _ m l b
def inG (m : Int) (n : Nat) : Bool := decide (1 ≤ m) && decide (m ≤ n)
def grownZ (l : List Hs) (m : Int) : List Hs := if inG m l.length = true then (gdH m.toNat l true).reverse else []
theorem inG_t {n m : Nat} (h1 : 1 ≤ m) (h : m ≤ n) : inG (m : Int) n = true := by unfold inG; rw [decide_eq_true (by omega : (1 : Int) ≤ (m : Int)), decide_eq_true (by omega : (m : Int) ≤ (n : Int))]; rfl
theorem inG_f {n : Nat} {m : Int} (h : m < 1 ∨ (n : Int) < m) : inG m n = false := by
  unfold inG
  rcases h with h | h
  · rw [decide_eq_false (by omega), Bool.false_and]
  · rw [decide_eq_false (by omega : ¬ m ≤ (n : Int)), Bool.and_false]
theorem grownZ_t {l : List Hs} {m : Nat} (h1 : 1 ≤ m) (h : m ≤ l.length) : grownZ l (m : Int) = (gdH m l true).reverse := by unfold grownZ; rw [inG_t h1 h, Int.toNat_natCast]; rfl
theorem grownZ_f {l : List Hs} {m : Int} (h : inG m l.length = false) : grownZ l m = [] := by unfold grownZ; rw [h]; rfl
set_option maxHeartbeats 8000000 in
theorem grown_any (v : Value) (lv : List Hs) (m0 : Int) (w : World) (hK : Laid w) (hR : (Ty.enc eH).Rd [] w v lv) (hlen : lv.length ≤ 1000) :
    Calls Tryd.prog 29 #[v, .int .i64 m0] w (Ret fun u w' => Ch [] w w' ∧ ∃ v', u = .tuple #[v', .bool (inG m0 lv.length)] ∧ ∀ S, (∀ x ∈ S, x < w.heap.size) → (Ty.enc eH).Rd S w' v' (grownZ lv m0)) := by
  refine enter [v, .int .i64 m0, undef, undef, undef, undef, undef, undef, undef, undef, undef, undef, undef, undef, undef, undef, undef, undef, undef, undef, undef, undef, undef, undef, undef, undef, undef, undef, undef, undef, undef, undef, undef, undef, undef, undef, undef, undef, undef, undef, undef, undef, undef, undef, undef, undef, undef, undef, undef, undef, undef, undef, undef, undef, undef, undef, undef, undef, undef, undef, undef, undef] Tryd.func29 rfl rfl ?_
  obtain ⟨A, cap, rfl⟩ := hR.form
  by_cases h0 : m0 < 1
  · repeat (first | ((with_reducible apply is_st); refine su ?_) | ((with_reducible apply is_gd); first | refine gt ?_ | refine gf ?_ | refine gu ?_) | ((with_reducible apply is_en); refine en ?_) | (with_reducible first | apply x_then | apply wp_seq | apply c_region | apply wp_block | apply wp_skip | apply wp_exit | apply wp_ret | apply wp_label | apply wp_scope_straight | apply x_ng | apply x_ng_ret | apply x_ng_exit | apply x_then_ret | apply x_then_exit | apply x_block | apply x_block_ret | apply x_block_exit | refine x_block_other (by decide) ?_))
    refine c_condb rfl (fun _ => ?_) (fun h => by cases h)
    repeat (first | ((with_reducible apply is_st); refine su ?_) | ((with_reducible apply is_gd); first | refine gt ?_ | refine gf ?_ | refine gu ?_) | ((with_reducible apply is_en); refine en ?_) | (with_reducible first | apply x_then | apply wp_seq | apply c_region | apply wp_block | apply wp_skip | apply wp_exit | apply wp_ret | apply wp_label | apply wp_scope_straight | apply x_ng | apply x_ng_ret | apply x_ng_exit | apply x_then_ret | apply x_then_exit | apply x_block | apply x_block_ret | apply x_block_exit | refine x_block_other (by decide) ?_))
    have hz : inG m0 lv.length = false := inG_f (by omega)
    refine out2 rfl ⟨Ch.refl _ _, _, by rw [hz]; rfl, fun S hS => ?_⟩
    rw [grownZ_f hz]
    exact Ty.Rd.nil _ _ _ _ _
  · by_cases h1 : (lv.length : Int) < m0
    · repeat (first | ((with_reducible apply is_st); refine su ?_) | ((with_reducible apply is_gd); first | refine gt ?_ | refine gf ?_ | refine gu ?_) | ((with_reducible apply is_en); refine en ?_) | (with_reducible first | apply x_then | apply wp_seq | apply c_region | apply wp_block | apply wp_skip | apply wp_exit | apply wp_ret | apply wp_label | apply wp_scope_straight | apply x_ng | apply x_ng_ret | apply x_ng_exit | apply x_then_ret | apply x_then_exit | apply x_block | apply x_block_ret | apply x_block_exit | refine x_block_other (by decide) ?_))
      refine c_cond rfl (fun _ => ?_) (fun h => absurd h1 h)
      repeat (first | ((with_reducible apply is_st); refine su ?_) | ((with_reducible apply is_gd); first | refine gt ?_ | refine gf ?_ | refine gu ?_) | ((with_reducible apply is_en); refine en ?_) | (with_reducible first | apply x_then | apply wp_seq | apply c_region | apply wp_block | apply wp_skip | apply wp_exit | apply wp_ret | apply wp_label | apply wp_scope_straight | apply x_ng | apply x_ng_ret | apply x_ng_exit | apply x_then_ret | apply x_then_exit | apply x_block | apply x_block_ret | apply x_block_exit | refine x_block_other (by decide) ?_))
      have hz : inG m0 lv.length = false := inG_f (by omega)
      refine out2 rfl ⟨Ch.refl _ _, _, by rw [hz]; rfl, fun S hS => ?_⟩
      rw [grownZ_f hz]
      exact Ty.Rd.nil _ _ _ _ _
    · obtain ⟨m, rfl⟩ := Int.eq_ofNat_of_zero_le (by omega : 0 ≤ m0)
      rw [grownZ_t (by omega) (by omega), inG_t (by omega) (by omega)]
      repeat (first | ((with_reducible apply is_st); refine su ?_) | ((with_reducible apply is_gd); first | refine gt ?_ | refine gf ?_ | refine gu ?_) | ((with_reducible apply is_en); refine en ?_) | (with_reducible first | apply x_then | apply wp_seq | apply c_region | apply wp_block | apply wp_skip | apply wp_exit | apply wp_ret | apply wp_label | apply wp_scope_straight | apply x_ng | apply x_ng_ret | apply x_ng_exit | apply x_then_ret | apply x_then_exit | apply x_block | apply x_block_ret | apply x_block_exit | refine x_block_other (by decide) ?_))
      refine c_cond rfl (fun h => absurd h h1) (fun _ => ?_)
      repeat (first | ((with_reducible apply is_st); refine su ?_) | ((with_reducible apply is_gd); first | refine gt ?_ | refine gf ?_ | refine gu ?_) | ((with_reducible apply is_en); refine en ?_) | (with_reducible first | apply x_then | apply wp_seq | apply c_region | apply wp_block | apply wp_skip | apply wp_exit | apply wp_ret | apply wp_label | apply wp_scope_straight | apply x_ng | apply x_ng_ret | apply x_ng_exit | apply x_then_ret | apply x_then_exit | apply x_block | apply x_block_ret | apply x_block_exit | refine x_block_other (by decide) ?_))
      have hgl := gd_len m lv true
      
      refine c_loop (fun k l w' => ∃ (m' : Nat) (vl vo : Value) (lv' out : List Hs) (b : Bool), (∃ jj : Nat → Value, l = [vl, .int .i64 (m' : Int), jj 2, jj 3, jj 4, jj 5, vo, .bool b, jj 8, jj 9, jj 10, jj 11, jj 12, jj 13, jj 14, jj 15, jj 16, jj 17, jj 18, jj 19, jj 20, jj 21, jj 22, jj 23, jj 24, jj 25, jj 26, jj 27, jj 28, jj 29, jj 30, jj 31, jj 32, jj 33, jj 34, jj 35, jj 36, jj 37, jj 38, jj 39, jj 40, jj 41, jj 42, jj 43, jj 44, jj 45, jj 46, jj 47, jj 48, jj 49, jj 50, jj 51, jj 52, jj 53, jj 54, jj 55, jj 56, jj 57, jj 58, jj 59, jj 60, jj 61]) ∧ k = lv'.length ∧ lv'.length ≤ lv.length ∧ 1 ≤ m' ∧ m' ≤ lv'.length ∧ out ++ gdH m' lv' b = gdH m lv true ∧ Ch [] w w' ∧ (Ty.enc eH).Rd [] w vl lv' ∧ Own eH w' w.heap.size 26 vo out) lv.length
        ⟨m, _, _, lv, [], true, exj rfl, rfl, Nat.le_refl _, by omega, by omega, rfl, Ch.refl _ _, hR, Own.nil _ _ _ _⟩ ?_
      rintro k l w2 ⟨m', vl, vo, lv', out, b, ⟨jj, rfl⟩, rfl, hl', hm1, hm', hout, hc2, hR', hO⟩
      have hol := congrArg List.length hout
      rw [List.length_append] at hol
      obtain ⟨A', c', rfl⟩ := hR'.form
      repeat (first | ((with_reducible apply is_st); refine su ?_) | ((with_reducible apply is_gd); first | refine gt ?_ | refine gf ?_ | refine gu ?_) | ((with_reducible apply is_en); refine en ?_) | (with_reducible first | apply x_then | apply wp_seq | apply c_region | apply wp_block | apply wp_skip | apply wp_exit | apply wp_ret | apply wp_label | apply wp_scope_straight | apply x_ng | apply x_ng_ret | apply x_ng_exit | apply x_then_ret | apply x_then_exit | apply x_block | apply x_block_ret | apply x_block_exit | refine x_block_other (by decide) ?_))
      refine c_cond rfl (fun hj => ?_) (fun hj => ?_)
      · obtain ⟨hk0, hk1⟩ := splitN_lt (n := lv'.length) (by omega) (by omega)
        repeat (first | ((with_reducible apply is_st); refine su ?_) | ((with_reducible apply is_gd); first | refine gt ?_ | refine gf ?_ | refine gu ?_) | ((with_reducible apply is_en); refine en ?_) | (with_reducible first | apply x_then | apply wp_seq | apply c_region | apply wp_block | apply wp_skip | apply wp_exit | apply wp_ret | apply wp_label | apply wp_scope_straight | apply x_ng | apply x_ng_ret | apply x_ng_exit | apply x_then_ret | apply x_then_exit | apply x_block | apply x_block_ret | apply x_block_exit | refine x_block_other (by decide) ?_))
        (try ((with_reducible apply is_gd); first | refine gt ?_ | refine gf ?_ | refine gu ?_)); refine ca (split_any (lv'.length : Int) (by omega) w2) ?_
        rintro _ w5 ⟨rfl, hw5⟩
        subst hw5
        rw [splitZ_nat]
        by_cases hm : m' ≤ splitN lv'.length
        · have hdo := gd_left (b := b) hm1 (by omega) (by omega) hm
          rw [hdo] at hout hol
          generalize splitN lv'.length = sk at *
          rw [List.length_cons] at hol
          repeat (first | ((with_reducible apply is_st); refine su ?_) | ((with_reducible apply is_gd); first | refine gt ?_ | refine gf ?_ | refine gu ?_) | ((with_reducible apply is_en); refine en ?_) | (with_reducible first | apply x_then | apply wp_seq | apply c_region | apply wp_block | apply wp_skip | apply wp_exit | apply wp_ret | apply wp_label | apply wp_scope_straight | apply x_ng | apply x_ng_ret | apply x_ng_exit | apply x_then_ret | apply x_then_exit | apply x_block | apply x_block_ret | apply x_block_exit | refine x_block_other (by decide) ?_))
          refine c_cond rfl (fun _ => ?_) (fun h => absurd (by omega : (m' : Int) ≤ sk) h)
          repeat (first | ((with_reducible apply is_st); refine su ?_) | ((with_reducible apply is_gd); first | refine gt ?_ | refine gf ?_ | refine gu ?_) | ((with_reducible apply is_en); refine en ?_) | (with_reducible first | apply x_then | apply wp_seq | apply c_region | apply wp_block | apply wp_skip | apply wp_exit | apply wp_ret | apply wp_label | apply wp_scope_straight | apply x_ng | apply x_ng_ret | apply x_ng_exit | apply x_then_ret | apply x_then_exit | apply x_block | apply x_block_ret | apply x_block_exit | refine x_block_other (by decide) ?_))
          refine wl_cut_lo0 rfl hR' rfl rfl (by omega) (by omega) (fun v1 hV1 => ?_)
          rw [Int.toNat_natCast] at hV1
          (try ((with_reducible apply is_gd); first | refine gt ?_ | refine gf ?_ | refine gu ?_)); refine ca (root_any v1 (lv'.drop sk) w5 (hK.ch hc2 (by simp)) (hV1.ch hc2) (by rw [List.length_drop]; omega)) ?_
          rintro _ w6 ⟨rfl, hc6⟩
          have hO6 := hO.ch hc6 (by simp)
          (try ((with_reducible apply is_gd); first | refine gt ?_ | refine gf ?_ | refine gu ?_)); refine pu (rootH (lv'.drop sk)) hO6 (Nat.le_trans hc2.size hc6.size) (fun _ v7 w7 hO7 hch7 hat7 => ?_)
          have hc7 : Ch [] w w7 := (hc2.then hc6).trans hch7 (by simp) (fun x hx hm => by
            have := (hO6.lt (k := x) (by simpa using hm)).1
            omega)
          repeat (first | ((with_reducible apply is_st); refine su ?_) | ((with_reducible apply is_gd); first | refine gt ?_ | refine gf ?_ | refine gu ?_) | ((with_reducible apply is_en); refine en ?_) | (with_reducible first | apply x_then | apply wp_seq | apply c_region | apply wp_block | apply wp_skip | apply wp_exit | apply wp_ret | apply wp_label | apply wp_scope_straight | apply x_ng | apply x_ng_ret | apply x_ng_exit | apply x_then_ret | apply x_then_exit | apply x_block | apply x_block_ret | apply x_block_exit | refine x_block_other (by decide) ?_))
          refine wl_cut_hm0 rfl hR' rfl rfl rfl (by omega) (by omega) (by omega) (fun v2 hV2 => ?_)
          rw [Int.toNat_natCast] at hV2
          repeat (first | ((with_reducible apply is_st); refine su ?_) | ((with_reducible apply is_gd); first | refine gt ?_ | refine gf ?_ | refine gu ?_) | ((with_reducible apply is_en); refine en ?_) | (with_reducible first | apply x_then | apply wp_seq | apply c_region | apply wp_block | apply wp_skip | apply wp_exit | apply wp_ret | apply wp_label | apply wp_scope_straight | apply x_ng | apply x_ng_ret | apply x_ng_exit | apply x_then_ret | apply x_then_exit | apply x_block | apply x_block_ret | apply x_block_exit | refine x_block_other (by decide) ?_))
          exact x_goes (lv'.length - (lv'.length - sk)) rfl (by omega) ⟨m', v2, v7, lv'.take sk, out ++ [rootH (lv'.drop sk)], b, exj rfl, by rw [List.length_take]; omega, by rw [List.length_take]; omega, by omega, by rw [List.length_take]; omega, by rw [List.append_assoc]; exact hout, hc7, hV2, hO7⟩
        · have hdo := gd_right (b := b) hm1 (by omega) (by omega) hm
          rw [hdo] at hout hol
          generalize splitN lv'.length = sk at *
          rw [List.length_cons] at hol
          repeat (first | ((with_reducible apply is_st); refine su ?_) | ((with_reducible apply is_gd); first | refine gt ?_ | refine gf ?_ | refine gu ?_) | ((with_reducible apply is_en); refine en ?_) | (with_reducible first | apply x_then | apply wp_seq | apply c_region | apply wp_block | apply wp_skip | apply wp_exit | apply wp_ret | apply wp_label | apply wp_scope_straight | apply x_ng | apply x_ng_ret | apply x_ng_exit | apply x_then_ret | apply x_then_exit | apply x_block | apply x_block_ret | apply x_block_exit | refine x_block_other (by decide) ?_))
          refine c_cond rfl (fun h => absurd h (by omega)) (fun _ => ?_)
          repeat (first | ((with_reducible apply is_st); refine su ?_) | ((with_reducible apply is_gd); first | refine gt ?_ | refine gf ?_ | refine gu ?_) | ((with_reducible apply is_en); refine en ?_) | (with_reducible first | apply x_then | apply wp_seq | apply c_region | apply wp_block | apply wp_skip | apply wp_exit | apply wp_ret | apply wp_label | apply wp_scope_straight | apply x_ng | apply x_ng_ret | apply x_ng_exit | apply x_then_ret | apply x_then_exit | apply x_block | apply x_block_ret | apply x_block_exit | refine x_block_other (by decide) ?_))
          refine wl_cut_hm0 rfl hR' rfl rfl rfl (by omega) (by omega) (by omega) (fun v1 hV1 => ?_)
          rw [Int.toNat_natCast] at hV1
          (try ((with_reducible apply is_gd); first | refine gt ?_ | refine gf ?_ | refine gu ?_)); refine ca (root_any v1 (lv'.take sk) w5 (hK.ch hc2 (by simp)) (hV1.ch hc2) (by rw [List.length_take]; omega)) ?_
          rintro _ w6 ⟨rfl, hc6⟩
          have hO6 := hO.ch hc6 (by simp)
          (try ((with_reducible apply is_gd); first | refine gt ?_ | refine gf ?_ | refine gu ?_)); refine pu (rootH (lv'.take sk)) hO6 (Nat.le_trans hc2.size hc6.size) (fun _ v7 w7 hO7 hch7 hat7 => ?_)
          have hc7 : Ch [] w w7 := (hc2.then hc6).trans hch7 (by simp) (fun x hx hm => by
            have := (hO6.lt (k := x) (by simpa using hm)).1
            omega)
          repeat (first | ((with_reducible apply is_st); refine su ?_) | ((with_reducible apply is_gd); first | refine gt ?_ | refine gf ?_ | refine gu ?_) | ((with_reducible apply is_en); refine en ?_) | (with_reducible first | apply x_then | apply wp_seq | apply c_region | apply wp_block | apply wp_skip | apply wp_exit | apply wp_ret | apply wp_label | apply wp_scope_straight | apply x_ng | apply x_ng_ret | apply x_ng_exit | apply x_then_ret | apply x_then_exit | apply x_block | apply x_block_ret | apply x_block_exit | refine x_block_other (by decide) ?_))
          refine wl_cut_lo0 rfl hR' rfl rfl (by omega) (by omega) (fun v2 hV2 => ?_)
          rw [Int.toNat_natCast] at hV2
          repeat (first | ((with_reducible apply is_st); refine su ?_) | ((with_reducible apply is_gd); first | refine gt ?_ | refine gf ?_ | refine gu ?_) | ((with_reducible apply is_en); refine en ?_) | (with_reducible first | apply x_then | apply wp_seq | apply c_region | apply wp_block | apply wp_skip | apply wp_exit | apply wp_ret | apply wp_label | apply wp_scope_straight | apply x_ng | apply x_ng_ret | apply x_ng_exit | apply x_then_ret | apply x_then_exit | apply x_block | apply x_block_ret | apply x_block_exit | refine x_block_other (by decide) ?_))
          exact x_goes (lv'.length - sk) rfl (by omega) ⟨m' - sk, v2, v7, lv'.drop sk, out ++ [rootH (lv'.take sk)], false, exj (by rw [show ((m' - sk : Nat) : Int) = (m' : Int) - (sk : Int) by omega]; rfl), by rw [List.length_drop], by rw [List.length_drop]; omega, by omega, by rw [List.length_drop]; omega, by rw [List.append_assoc]; exact hout, hc7, hV2, hO7⟩
      · rw [gd_all (by omega)] at hout
        cases b with
        | true =>
          rw [if_pos rfl, List.append_nil] at hout
          subst hout
          repeat (first | ((with_reducible apply is_st); refine su ?_) | ((with_reducible apply is_gd); first | refine gt ?_ | refine gf ?_ | refine gu ?_) | ((with_reducible apply is_en); refine en ?_) | (with_reducible first | apply x_then | apply wp_seq | apply c_region | apply wp_block | apply wp_skip | apply wp_exit | apply wp_ret | apply wp_label | apply wp_scope_straight | apply x_ng | apply x_ng_ret | apply x_ng_exit | apply x_then_ret | apply x_then_exit | apply x_block | apply x_block_ret | apply x_block_exit | refine x_block_other (by decide) ?_))
          refine c_condb rfl (fun h => by cases h) (fun _ => ?_)
          repeat (first | ((with_reducible apply is_st); refine su ?_) | ((with_reducible apply is_gd); first | refine gt ?_ | refine gf ?_ | refine gu ?_) | ((with_reducible apply is_en); refine en ?_) | (with_reducible first | apply x_then | apply wp_seq | apply c_region | apply wp_block | apply wp_skip | apply wp_exit | apply wp_ret | apply wp_label | apply wp_scope_straight | apply x_ng | apply x_ng_ret | apply x_ng_exit | apply x_then_ret | apply x_then_exit | apply x_block | apply x_block_ret | apply x_block_exit | refine x_block_other (by decide) ?_))
          (try ((with_reducible apply is_gd); first | refine gt ?_ | refine gf ?_ | refine gu ?_)); refine ca (rev_any vo (gdH m lv true) w2 w.heap.size hO (by omega)) ?_
          rintro u w8 ⟨hO8, hch8⟩
          have hc8 : Ch [] w w8 := hc2.trans hch8 (by simp) (fun x hx hm => by
            have := (hO.lt (k := x) (by simpa using hm)).1
            omega)
          repeat (first | ((with_reducible apply is_st); refine su ?_) | ((with_reducible apply is_gd); first | refine gt ?_ | refine gf ?_ | refine gu ?_) | ((with_reducible apply is_en); refine en ?_) | (with_reducible first | apply x_then | apply wp_seq | apply c_region | apply wp_block | apply wp_skip | apply wp_exit | apply wp_ret | apply wp_label | apply wp_scope_straight | apply x_ng | apply x_ng_ret | apply x_ng_exit | apply x_then_ret | apply x_then_exit | apply x_block | apply x_block_ret | apply x_block_exit | refine x_block_other (by decide) ?_))
          exact out2 rfl ⟨hc8, _, rfl, fun S hS => hO8.rd (fun q hq hm => by
            have h1 := (hO8.lt hq).1
            have h2 := hS _ hm
            omega) (by rw [List.length_reverse]; omega)⟩
        | false =>
          rw [if_neg (by simp)] at hout
          repeat (first | ((with_reducible apply is_st); refine su ?_) | ((with_reducible apply is_gd); first | refine gt ?_ | refine gf ?_ | refine gu ?_) | ((with_reducible apply is_en); refine en ?_) | (with_reducible first | apply x_then | apply wp_seq | apply c_region | apply wp_block | apply wp_skip | apply wp_exit | apply wp_ret | apply wp_label | apply wp_scope_straight | apply x_ng | apply x_ng_ret | apply x_ng_exit | apply x_then_ret | apply x_then_exit | apply x_block | apply x_block_ret | apply x_block_exit | refine x_block_other (by decide) ?_))
          refine c_condb rfl (fun _ => ?_) (fun h => by cases h)
          repeat (first | ((with_reducible apply is_st); refine su ?_) | ((with_reducible apply is_gd); first | refine gt ?_ | refine gf ?_ | refine gu ?_) | ((with_reducible apply is_en); refine en ?_) | (with_reducible first | apply x_then | apply wp_seq | apply c_region | apply wp_block | apply wp_skip | apply wp_exit | apply wp_ret | apply wp_label | apply wp_scope_straight | apply x_ng | apply x_ng_ret | apply x_ng_exit | apply x_then_ret | apply x_then_exit | apply x_block | apply x_block_ret | apply x_block_exit | refine x_block_other (by decide) ?_))
          (try ((with_reducible apply is_gd); first | refine gt ?_ | refine gf ?_ | refine gu ?_)); refine ca (root_any _ lv' w2 (hK.ch hc2 (by simp)) (hR'.ch hc2) (by omega)) ?_
          rintro _ w6 ⟨rfl, hc6⟩
          have hO6 := hO.ch hc6 (by simp)
          have hol2 := congrArg List.length hout
          rw [List.length_append] at hol2
          (try ((with_reducible apply is_gd); first | refine gt ?_ | refine gf ?_ | refine gu ?_)); refine pu (rootH lv') hO6 (Nat.le_trans hc2.size hc6.size) (fun _ v7 w7 hO7 hch7 hat7 => ?_)
          have hc7 : Ch [] w w7 := (hc2.then hc6).trans hch7 (by simp) (fun x hx hm => by
            have := (hO6.lt (k := x) (by simpa using hm)).1
            omega)
          rw [hout] at hO7
          repeat (first | ((with_reducible apply is_st); refine su ?_) | ((with_reducible apply is_gd); first | refine gt ?_ | refine gf ?_ | refine gu ?_) | ((with_reducible apply is_en); refine en ?_) | (with_reducible first | apply x_then | apply wp_seq | apply c_region | apply wp_block | apply wp_skip | apply wp_exit | apply wp_ret | apply wp_label | apply wp_scope_straight | apply x_ng | apply x_ng_ret | apply x_ng_exit | apply x_then_ret | apply x_then_exit | apply x_block | apply x_block_ret | apply x_block_exit | refine x_block_other (by decide) ?_))
          (try ((with_reducible apply is_gd); first | refine gt ?_ | refine gf ?_ | refine gu ?_)); refine ca (rev_any v7 (gdH m lv true) w7 w.heap.size hO7 (by omega)) ?_
          rintro u w8 ⟨hO8, hch8⟩
          have hc8 : Ch [] w w8 := hc7.trans hch8 (by simp) (fun x hx hm => by
            have := (hO7.lt (k := x) (by simpa using hm)).1
            omega)
          repeat (first | ((with_reducible apply is_st); refine su ?_) | ((with_reducible apply is_gd); first | refine gt ?_ | refine gf ?_ | refine gu ?_) | ((with_reducible apply is_en); refine en ?_) | (with_reducible first | apply x_then | apply wp_seq | apply c_region | apply wp_block | apply wp_skip | apply wp_exit | apply wp_ret | apply wp_label | apply wp_scope_straight | apply x_ng | apply x_ng_ret | apply x_ng_exit | apply x_then_ret | apply x_then_exit | apply x_block | apply x_block_ret | apply x_block_exit | refine x_block_other (by decide) ?_))
          exact out2 rfl ⟨hc8, _, rfl, fun S hS => hO8.rd (fun q hq hm => by
            have h1 := (hO8.lt hq).1
            have h2 := hS _ hm
            omega) (by rw [List.length_reverse]; omega)⟩
end Go.Proofs.YtbecfcnbgeeghaaDoor

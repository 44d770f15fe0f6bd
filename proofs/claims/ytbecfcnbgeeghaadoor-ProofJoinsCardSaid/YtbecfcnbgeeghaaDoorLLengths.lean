/- The law of lengths of paths. -/
import Derived.Test.YtbecfcnbgeeghaaDoorLClimbs
set_option linter.unusedVariables false
set_option linter.unusedSimpArgs false
namespace Go.Proofs.YtbecfcnbgeeghaaDoor
open Go Go.RowKit Go.Proofs.E
attribute [local irreducible] Go.wpList Go.Code.wp Go.Proofs.E.exec Go.Proofs.E.wpLexG
theorem turns_high : ∀ (h n i : Nat), n ≤ 2 ^ h → i < n → n ≤ 1000000000 → (turnsN n i).length ≤ h
  | 0, n, i, hn, _, _ => by
    rw [turns_one (by omega)]
    simp
  | h + 1, n, i, hn, hi, hb => by
    by_cases h1 : n ≤ 1
    · rw [turns_one h1]
      simp
    · obtain ⟨j, hj, hj1, hj2⟩ := splitN_spec (n := n) (by omega) (by omega)
      have hjh : j ≤ h := by
        rcases Nat.lt_or_ge h j with hlt | hge
        · have : 2 ^ (h + 1) ≤ 2 ^ j := Nat.pow_le_pow_right (by omega) hlt
          omega
        · exact hge
      have hpj : 2 ^ j ≤ 2 ^ h := Nat.pow_le_pow_right (by omega) hjh
      have hp2 : 2 ^ (j + 1) = 2 ^ j + 2 ^ j := by rw [Nat.pow_succ]; omega
      by_cases hk : i < splitN n
      · rw [turns_left (by omega) (by omega) hk, List.length_cons]
        have := turns_high h (splitN n) i (by omega) hk (by omega)
        omega
      · rw [turns_right (by omega) (by omega) hk, List.length_cons]
        have := turns_high h (n - splitN n) (i - splitN n) (by omega) (by omega) (by omega)
        omega
theorem down_turns (N : Nat) : ∀ (l : List Hs) (i : Nat), l.length = N → l.length ≤ 1000000000 → (downH l i).length = (turnsN l.length i).length := by
  induction N using Nat.strongRecOn with
  | _ N ih =>
    intro l i hN hb
    by_cases h1 : l.length ≤ 1
    · rw [down_one h1, turns_one h1]
      rfl
    · have hk := splitN_lt (n := l.length) (by omega) (by omega)
      by_cases hi : i < splitN l.length
      · have := ih (l.take (splitN l.length)).length (by rw [List.length_take]; omega) (l.take (splitN l.length)) i rfl (by rw [List.length_take]; omega)
        rw [down_left (by omega) hb hi, turns_left (by omega) (by omega) hi, List.length_cons, List.length_cons, this, List.length_take, Nat.min_eq_left (by omega)]
      · have := ih (l.drop (splitN l.length)).length (by rw [List.length_drop]; omega) (l.drop (splitN l.length)) (i - splitN l.length) rfl (by rw [List.length_drop]; omega)
        rw [down_right (by omega) hb hi, turns_right (by omega) (by omega) hi, List.length_cons, List.length_cons, this, List.length_drop]
theorem remN (a b : Nat) : ((a : Int).tmod (b : Int)) = ((a % b : Nat) : Int) := (Int.ofNat_tmod a b).symm
theorem shl1_i64 {k : Nat} (h : k ≤ 62) : IntKind.i64.wrap (1 * 2 ^ min (k : Int).toNat IntKind.i64.bits) = ((2 ^ k : Nat) : Int) := by
  have h2 : 2 ^ k ≤ 2 ^ 62 := Nat.pow_le_pow_right (by omega) h
  rw [Int.toNat_natCast, Nat.min_eq_left (show k ≤ IntKind.i64.bits by simp only [IntKind.bits]; omega), Int.one_mul, show ((2 : Int) ^ k) = ((2 ^ k : Nat) : Int) by simp]
  generalize 2 ^ k = p at h2 ⊢
  exact wrap_i64 ⟨by omega, by omega⟩
theorem r_to' {P : Program} {l : List Value} {op : Op} {T : TypeId} {w w' : World} {a b : Bool} (h : (exec (ev l) op T).run P w = .ok (.value (.bool a)) w') (e : a = b) : (exec (ev l) op T).run P w = .ok (.value (.bool b)) w' := e ▸ h
set_option maxHeartbeats 16000000 in
theorem lengths_any (v : Value) (lv : List Hs) (I : Nat) (v2 : Value) (more : List Hs) (w : World) (hK : Laid w) (hI : I < 2 ^ 64) (hR : (Ty.enc eH).Rd [] w v lv) (hM : (Ty.enc eH).Rd [] w v2 more) :
    Calls Tryd.prog 6 #[v, .int .u64 (I : Int), v2] w (Ret fun u w' => u = .bool true ∧ Ch [] w w') := by
  refine enter [v, .int .u64 (I : Int), v2, undef, undef, undef, undef, undef, undef, undef, undef, undef, undef, undef, undef, undef, undef, undef, undef, undef, undef, undef, undef, undef, undef, undef, undef, undef, undef, undef, undef, undef, undef, undef, undef, undef, undef, undef, undef, undef, undef, undef, undef, undef, undef, undef, undef, undef, undef, undef, undef, undef, undef, undef, undef, undef, undef, undef, undef, undef, undef, undef, undef, undef, undef, undef, undef, undef, undef, undef, undef, undef, undef, undef, undef, undef, undef, undef, undef, undef, undef, undef, undef, undef, undef, undef, undef] Tryd.func6 rfl rfl ?_
  have hle := hR.le
  have hle2 := hM.le
  obtain ⟨A, cap, rfl⟩ := hR.form
  obtain ⟨A2, cap2, rfl⟩ := hM.form
  repeat (first | ((with_reducible apply is_st); refine su ?_) | ((with_reducible apply is_gd); first | refine gt ?_ | refine gf ?_ | refine gu ?_) | ((with_reducible apply is_en); refine en ?_) | (with_reducible first | apply x_then | apply wp_seq | apply c_region | apply wp_block | apply wp_skip | apply wp_exit | apply wp_ret | apply wp_label | apply wp_scope_straight | apply x_ng | apply x_ng_ret | apply x_ng_exit | apply x_then_ret | apply x_then_exit | apply x_block | apply x_block_ret | apply x_block_exit | refine x_block_other (by decide) ?_))
  (try ((with_reducible apply is_gd); first | refine gt ?_ | refine gf ?_ | refine gu ?_)); refine ca (light_any _ lv w hR) ?_
  rintro _ w1 ⟨rfl, hw1⟩
  subst hw1
  by_cases hg : lv.length ≤ 60 ∧ lv.length ≠ 0 ∧ more.length ≤ 60
  · obtain ⟨h60, h0, hm60⟩ := hg
    rw [decide_eq_true h60]
    have hkl : I % lv.length < lv.length := Nat.mod_lt _ (by omega)
    repeat (first | ((with_reducible apply is_st); refine su ?_) | ((with_reducible apply is_gd); first | refine gt ?_ | refine gf ?_ | refine gu ?_) | ((with_reducible apply is_en); refine en ?_) | (with_reducible first | apply x_then | apply wp_seq | apply c_region | apply wp_block | apply wp_skip | apply wp_exit | apply wp_ret | apply wp_label | apply wp_scope_straight | apply x_ng | apply x_ng_ret | apply x_ng_exit | apply x_then_ret | apply x_then_exit | apply x_block | apply x_block_ret | apply x_block_exit | refine x_block_other (by decide) ?_))
    refine c_cond rfl (fun h => absurd h (by omega)) (fun _ => ?_)
    repeat (first | ((with_reducible apply is_st); refine su ?_) | ((with_reducible apply is_gd); first | refine gt ?_ | refine gf ?_ | refine gu ?_) | ((with_reducible apply is_en); refine en ?_) | (with_reducible first | apply x_then | apply wp_seq | apply c_region | apply wp_block | apply wp_skip | apply wp_exit | apply wp_ret | apply wp_label | apply wp_scope_straight | apply x_ng | apply x_ng_ret | apply x_ng_exit | apply x_then_ret | apply x_then_exit | apply x_block | apply x_block_ret | apply x_block_exit | refine x_block_other (by decide) ?_))
    rw [remN]
    generalize hkk : I % lv.length = k at hkl ⊢
    rw [wrap_i64 (a := (k : Int)) (by omega)]
    (try ((with_reducible apply is_gd); first | refine gt ?_ | refine gf ?_ | refine gu ?_)); refine ca (path_any _ lv (k : Int) w1 hK hR (by omega)) ?_
    rintro _ w2 ⟨hc2, v3, rfl, hP⟩
    have hP := hP [] (by simp)
    rw [pathZ_t hkl] at hP
    rw [inZ_t hkl]
    have hdl := down_turns lv.length lv k rfl (by omega)
    have hpl : (downH lv k).reverse.length = (turnsN lv.length k).length := by rw [List.length_reverse, hdl]
    have htl := turns_len lv.length k
    generalize (downH lv k).reverse = p at hP hpl
    obtain ⟨A3, cap3, rfl⟩ := hP.form
    repeat (first | ((with_reducible apply is_st); refine su ?_) | ((with_reducible apply is_gd); first | refine gt ?_ | refine gf ?_ | refine gu ?_) | ((with_reducible apply is_en); refine en ?_) | (with_reducible first | apply x_then | apply wp_seq | apply c_region | apply wp_block | apply wp_skip | apply wp_exit | apply wp_ret | apply wp_label | apply wp_scope_straight | apply x_ng | apply x_ng_ret | apply x_ng_exit | apply x_then_ret | apply x_then_exit | apply x_block | apply x_block_ret | apply x_block_exit | refine x_block_other (by decide) ?_))
    
    refine c_loop (fun q l w' => ∃ (h : Nat), (∃ jj : Nat → Value, l = [.slice A lv.length cap, jj 1, .slice A2 more.length cap2, jj 3, jj 4, jj 5, jj 6, .int .i64 (k : Int), .slice A3 p.length cap3, .bool true, .int .i64 (h : Int), jj 11, jj 12, jj 13, jj 14, jj 15, jj 16, jj 17, jj 18, jj 19, jj 20, jj 21, jj 22, jj 23, jj 24, jj 25, jj 26, jj 27, jj 28, jj 29, jj 30, jj 31, jj 32, jj 33, jj 34, jj 35, jj 36, jj 37, jj 38, jj 39, jj 40, jj 41, jj 42, jj 43, jj 44, jj 45, jj 46, jj 47, jj 48, jj 49, jj 50, jj 51, jj 52, jj 53, jj 54, jj 55, jj 56, jj 57, jj 58, jj 59, jj 60, jj 61, jj 62, jj 63, jj 64, jj 65, jj 66, jj 67, jj 68, jj 69, jj 70, jj 71, jj 72, jj 73, jj 74, jj 75, jj 76, jj 77, jj 78, jj 79, jj 80, jj 81, jj 82, jj 83, jj 84, jj 85, jj 86]) ∧ q + h = 6 ∧ w' = w2) 6 ⟨0, exj rfl, rfl, rfl⟩ ?_
    rintro q l w3 ⟨h, ⟨jj, rfl⟩, hqh, rfl⟩
    repeat (first | ((with_reducible apply is_st); refine su ?_) | ((with_reducible apply is_gd); first | refine gt ?_ | refine gf ?_ | refine gu ?_) | ((with_reducible apply is_en); refine en ?_) | (with_reducible first | apply x_then | apply wp_seq | apply c_region | apply wp_block | apply wp_skip | apply wp_exit | apply wp_ret | apply wp_label | apply wp_scope_straight | apply x_ng | apply x_ng_ret | apply x_ng_exit | apply x_then_ret | apply x_then_exit | apply x_block | apply x_block_ret | apply x_block_exit | refine x_block_other (by decide) ?_))
    rw [shl1_i64 (k := h) (by omega)]
    refine c_cond rfl (fun hlt => ?_) (fun hge => ?_)
    · have h6 : h < 6 := by
        rcases Nat.lt_or_ge h 6 with hh | hh
        · exact hh
        · have : 2 ^ 6 ≤ 2 ^ h := Nat.pow_le_pow_right (by omega) hh
          omega
      repeat (first | ((with_reducible apply is_st); refine su ?_) | ((with_reducible apply is_gd); first | refine gt ?_ | refine gf ?_ | refine gu ?_) | ((with_reducible apply is_en); refine en ?_) | (with_reducible first | apply x_then | apply wp_seq | apply c_region | apply wp_block | apply wp_skip | apply wp_exit | apply wp_ret | apply wp_label | apply wp_scope_straight | apply x_ng | apply x_ng_ret | apply x_ng_exit | apply x_then_ret | apply x_then_exit | apply x_block | apply x_block_ret | apply x_block_exit | refine x_block_other (by decide) ?_))
      exact x_goes (q - 1) rfl (by omega) ⟨h + 1, exj rfl, by omega, rfl⟩
    · have hhigh := turns_high h lv.length k (by omega) hkl (by omega)
      have hpos : 1 < lv.length → p.length ≠ 0 := fun h2 => by
        rw [hpl]
        by_cases hs : k < splitN lv.length
        · rw [turns_left (by omega) (by omega) hs]
          simp
        · rw [turns_right (by omega) (by omega) hs]
          simp
      have hcz : (climbZ (lv.length : Int) (k : Int) (lv.getD k zeroH) more).2 = decide (more.length = p.length) := by
        unfold climbZ
        rw [Int.toNat_natCast, Int.toNat_natCast]
        by_cases he : (turnsN lv.length k).length = more.length
        · rw [if_pos ⟨inC_t (by omega) hkl, he⟩, decide_eq_true (by omega)]
        · rw [if_neg (fun h => he h.2), decide_eq_false (by omega)]
      have hgk : lv[k]? = some (lv.getD k zeroH) := by rw [List.getD_eq_getElem?_getD, List.getElem?_eq_getElem hkl]; rfl
      by_cases h1 : 1 < lv.length
      · have hp0 := hpos h1
        repeat (first | ((with_reducible apply is_st); refine su ?_) | ((with_reducible apply is_gd); first | refine gt ?_ | refine gf ?_ | refine gu ?_) | ((with_reducible apply is_en); refine en ?_) | (with_reducible first | apply x_then | apply wp_seq | apply c_region | apply wp_block | apply wp_skip | apply wp_exit | apply wp_ret | apply wp_label | apply wp_scope_straight | apply x_ng | apply x_ng_ret | apply x_ng_exit | apply x_then_ret | apply x_then_exit | apply x_block | apply x_block_ret | apply x_block_exit | refine x_block_other (by decide) ?_))
        refine c_cond rfl (fun h => by omega) (fun _ => ?_)
        repeat (first | ((with_reducible apply is_st); refine su ?_) | ((with_reducible apply is_gd); first | refine gt ?_ | refine gf ?_ | refine gu ?_) | ((with_reducible apply is_en); refine en ?_) | (with_reducible first | apply x_then | apply wp_seq | apply c_region | apply wp_block | apply wp_skip | apply wp_exit | apply wp_ret | apply wp_label | apply wp_scope_straight | apply x_ng | apply x_ng_ret | apply x_ng_exit | apply x_then_ret | apply x_then_exit | apply x_block | apply x_block_ret | apply x_block_exit | refine x_block_other (by decide) ?_))
        (try ((with_reducible apply is_gd); first | refine gt ?_ | refine gf ?_ | refine gu ?_)); refine ix (hR.ch hc2) (fun b5 o5 x5 hx5 hA5 => ?_)
        rw [Int.toNat_natCast, hgk] at hx5
        obtain rfl := Option.some.inj hx5
        (try ((with_reducible apply is_gd); first | refine gt ?_ | refine gf ?_ | refine gu ?_)); refine ldr hA5 ?_
        repeat (first | ((with_reducible apply is_st); refine su ?_) | ((with_reducible apply is_gd); first | refine gt ?_ | refine gf ?_ | refine gu ?_) | ((with_reducible apply is_en); refine en ?_) | (with_reducible first | apply x_then | apply wp_seq | apply c_region | apply wp_block | apply wp_skip | apply wp_exit | apply wp_ret | apply wp_label | apply wp_scope_straight | apply x_ng | apply x_ng_ret | apply x_ng_exit | apply x_then_ret | apply x_then_exit | apply x_block | apply x_block_ret | apply x_block_exit | refine x_block_other (by decide) ?_))
        (try ((with_reducible apply is_gd); first | refine gt ?_ | refine gf ?_ | refine gu ?_)); refine ca (climb_any (lv.length : Int) (k : Int) (lv.getD k zeroH) (.slice A2 more.length cap2) more w3 (hK.ch hc2 (by simp)) (hM.ch hc2)) ?_
        rintro _ w4 ⟨rfl, hc4⟩
        rw [hcz]
        generalize (climbZ (lv.length : Int) (k : Int) (lv.getD k zeroH) more).1 = ch
        repeat (first | ((with_reducible apply is_st); refine su ?_) | ((with_reducible apply is_gd); first | refine gt ?_ | refine gf ?_ | refine gu ?_) | ((with_reducible apply is_en); refine en ?_) | (with_reducible first | apply x_then | apply wp_seq | apply c_region | apply wp_block | apply wp_skip | apply wp_exit | apply wp_ret | apply wp_label | apply wp_scope_straight | apply x_ng | apply x_ng_ret | apply x_ng_exit | apply x_then_ret | apply x_then_exit | apply x_block | apply x_block_ret | apply x_block_exit | refine x_block_other (by decide) ?_))
        refine wl_alloc (fun w5 b11 hb11 => ?_)
        have e11 := hb11.at_
        refine stbw (n := 32) (cs := (List.replicate 32 (0 : UInt8)).map u8v) hb11.blk rfl rfl (hv_len ch.2) (by simp) one_u8 (fun w6 hB11 hch6 hs6 => ?_)
        have hc6 : Ch [] w1 w6 := (hc2.then hc4).then (hb11.ch.own hch6 (by omega))
        repeat (first | ((with_reducible apply is_st); refine su ?_) | ((with_reducible apply is_gd); first | refine gt ?_ | refine gf ?_ | refine gu ?_) | ((with_reducible apply is_en); refine en ?_) | (with_reducible first | apply x_then | apply wp_seq | apply c_region | apply wp_block | apply wp_skip | apply wp_exit | apply wp_ret | apply wp_label | apply wp_scope_straight | apply x_ng | apply x_ng_ret | apply x_ng_exit | apply x_then_ret | apply x_then_exit | apply x_block | apply x_block_ret | apply x_block_exit | refine x_block_other (by decide) ?_))
        refine wl_val (r_to' (r_eqb (a := decide (more.length = p.length)) (b := decide ((more.length : Int) = (p.length : Int))) rfl rfl) (show _ = true from by
          rw [beq_iff_eq, decide_eq_decide]
          omega)) ?_
        repeat (first | ((with_reducible apply is_st); refine su ?_) | ((with_reducible apply is_gd); first | refine gt ?_ | refine gf ?_ | refine gu ?_) | ((with_reducible apply is_en); refine en ?_) | (with_reducible first | apply x_then | apply wp_seq | apply c_region | apply wp_block | apply wp_skip | apply wp_exit | apply wp_ret | apply wp_label | apply wp_scope_straight | apply x_ng | apply x_ng_ret | apply x_ng_exit | apply x_then_ret | apply x_then_exit | apply x_block | apply x_block_ret | apply x_block_exit | refine x_block_other (by decide) ?_))
        (try ((with_reducible apply is_gd); first | refine gt ?_ | refine gf ?_ | refine gu ?_)); refine ca (lives10_any w6 (hK.ch hc6 (by simp))) ?_
        rintro _ w7 ⟨rfl, hc7⟩
        repeat (first | ((with_reducible apply is_st); refine su ?_) | ((with_reducible apply is_gd); first | refine gt ?_ | refine gf ?_ | refine gu ?_) | ((with_reducible apply is_en); refine en ?_) | (with_reducible first | apply x_then | apply wp_seq | apply c_region | apply wp_block | apply wp_skip | apply wp_exit | apply wp_ret | apply wp_label | apply wp_scope_straight | apply x_ng | apply x_ng_ret | apply x_ng_exit | apply x_then_ret | apply x_then_exit | apply x_block | apply x_block_ret | apply x_block_exit | refine x_block_other (by decide) ?_))
        exact out1 rfl ⟨rfl, hc6.then hc7⟩
      · repeat (first | ((with_reducible apply is_st); refine su ?_) | ((with_reducible apply is_gd); first | refine gt ?_ | refine gf ?_ | refine gu ?_) | ((with_reducible apply is_en); refine en ?_) | (with_reducible first | apply x_then | apply wp_seq | apply c_region | apply wp_block | apply wp_skip | apply wp_exit | apply wp_ret | apply wp_label | apply wp_scope_straight | apply x_ng | apply x_ng_ret | apply x_ng_exit | apply x_then_ret | apply x_then_exit | apply x_block | apply x_block_ret | apply x_block_exit | refine x_block_other (by decide) ?_))
        refine c_condb rfl (fun h => by cases h) (fun _ => ?_)
        repeat (first | ((with_reducible apply is_st); refine su ?_) | ((with_reducible apply is_gd); first | refine gt ?_ | refine gf ?_ | refine gu ?_) | ((with_reducible apply is_en); refine en ?_) | (with_reducible first | apply x_then | apply wp_seq | apply c_region | apply wp_block | apply wp_skip | apply wp_exit | apply wp_ret | apply wp_label | apply wp_scope_straight | apply x_ng | apply x_ng_ret | apply x_ng_exit | apply x_then_ret | apply x_then_exit | apply x_block | apply x_block_ret | apply x_block_exit | refine x_block_other (by decide) ?_))
        (try ((with_reducible apply is_gd); first | refine gt ?_ | refine gf ?_ | refine gu ?_)); refine ix (hR.ch hc2) (fun b5 o5 x5 hx5 hA5 => ?_)
        rw [Int.toNat_natCast, hgk] at hx5
        obtain rfl := Option.some.inj hx5
        (try ((with_reducible apply is_gd); first | refine gt ?_ | refine gf ?_ | refine gu ?_)); refine ldr hA5 ?_
        repeat (first | ((with_reducible apply is_st); refine su ?_) | ((with_reducible apply is_gd); first | refine gt ?_ | refine gf ?_ | refine gu ?_) | ((with_reducible apply is_en); refine en ?_) | (with_reducible first | apply x_then | apply wp_seq | apply c_region | apply wp_block | apply wp_skip | apply wp_exit | apply wp_ret | apply wp_label | apply wp_scope_straight | apply x_ng | apply x_ng_ret | apply x_ng_exit | apply x_then_ret | apply x_then_exit | apply x_block | apply x_block_ret | apply x_block_exit | refine x_block_other (by decide) ?_))
        (try ((with_reducible apply is_gd); first | refine gt ?_ | refine gf ?_ | refine gu ?_)); refine ca (climb_any (lv.length : Int) (k : Int) (lv.getD k zeroH) (.slice A2 more.length cap2) more w3 (hK.ch hc2 (by simp)) (hM.ch hc2)) ?_
        rintro _ w4 ⟨rfl, hc4⟩
        rw [hcz]
        generalize (climbZ (lv.length : Int) (k : Int) (lv.getD k zeroH) more).1 = ch
        repeat (first | ((with_reducible apply is_st); refine su ?_) | ((with_reducible apply is_gd); first | refine gt ?_ | refine gf ?_ | refine gu ?_) | ((with_reducible apply is_en); refine en ?_) | (with_reducible first | apply x_then | apply wp_seq | apply c_region | apply wp_block | apply wp_skip | apply wp_exit | apply wp_ret | apply wp_label | apply wp_scope_straight | apply x_ng | apply x_ng_ret | apply x_ng_exit | apply x_then_ret | apply x_then_exit | apply x_block | apply x_block_ret | apply x_block_exit | refine x_block_other (by decide) ?_))
        refine wl_alloc (fun w5 b11 hb11 => ?_)
        have e11 := hb11.at_
        refine stbw (n := 32) (cs := (List.replicate 32 (0 : UInt8)).map u8v) hb11.blk rfl rfl (hv_len ch.2) (by simp) one_u8 (fun w6 hB11 hch6 hs6 => ?_)
        have hc6 : Ch [] w1 w6 := (hc2.then hc4).then (hb11.ch.own hch6 (by omega))
        repeat (first | ((with_reducible apply is_st); refine su ?_) | ((with_reducible apply is_gd); first | refine gt ?_ | refine gf ?_ | refine gu ?_) | ((with_reducible apply is_en); refine en ?_) | (with_reducible first | apply x_then | apply wp_seq | apply c_region | apply wp_block | apply wp_skip | apply wp_exit | apply wp_ret | apply wp_label | apply wp_scope_straight | apply x_ng | apply x_ng_ret | apply x_ng_exit | apply x_then_ret | apply x_then_exit | apply x_block | apply x_block_ret | apply x_block_exit | refine x_block_other (by decide) ?_))
        refine wl_val (r_to' (r_eqb (a := decide (more.length = p.length)) (b := decide ((more.length : Int) = (p.length : Int))) rfl rfl) (show _ = true from by
          rw [beq_iff_eq, decide_eq_decide]
          omega)) ?_
        repeat (first | ((with_reducible apply is_st); refine su ?_) | ((with_reducible apply is_gd); first | refine gt ?_ | refine gf ?_ | refine gu ?_) | ((with_reducible apply is_en); refine en ?_) | (with_reducible first | apply x_then | apply wp_seq | apply c_region | apply wp_block | apply wp_skip | apply wp_exit | apply wp_ret | apply wp_label | apply wp_scope_straight | apply x_ng | apply x_ng_ret | apply x_ng_exit | apply x_then_ret | apply x_then_exit | apply x_block | apply x_block_ret | apply x_block_exit | refine x_block_other (by decide) ?_))
        (try ((with_reducible apply is_gd); first | refine gt ?_ | refine gf ?_ | refine gu ?_)); refine ca (lives10_any w6 (hK.ch hc6 (by simp))) ?_
        rintro _ w7 ⟨rfl, hc7⟩
        repeat (first | ((with_reducible apply is_st); refine su ?_) | ((with_reducible apply is_gd); first | refine gt ?_ | refine gf ?_ | refine gu ?_) | ((with_reducible apply is_en); refine en ?_) | (with_reducible first | apply x_then | apply wp_seq | apply c_region | apply wp_block | apply wp_skip | apply wp_exit | apply wp_ret | apply wp_label | apply wp_scope_straight | apply x_ng | apply x_ng_ret | apply x_ng_exit | apply x_then_ret | apply x_then_exit | apply x_block | apply x_block_ret | apply x_block_exit | refine x_block_other (by decide) ?_))
        exact out1 rfl ⟨rfl, hc6.then hc7⟩
  · by_cases h60 : lv.length ≤ 60
    · rw [decide_eq_true h60]
      by_cases h0 : lv.length = 0
      · repeat (first | ((with_reducible apply is_st); refine su ?_) | ((with_reducible apply is_gd); first | refine gt ?_ | refine gf ?_ | refine gu ?_) | ((with_reducible apply is_en); refine en ?_) | (with_reducible first | apply x_then | apply wp_seq | apply c_region | apply wp_block | apply wp_skip | apply wp_exit | apply wp_ret | apply wp_label | apply wp_scope_straight | apply x_ng | apply x_ng_ret | apply x_ng_exit | apply x_then_ret | apply x_then_exit | apply x_block | apply x_block_ret | apply x_block_exit | refine x_block_other (by decide) ?_))
        refine c_condb rfl (fun _ => ?_) (fun h => by cases h)
        repeat (first | ((with_reducible apply is_st); refine su ?_) | ((with_reducible apply is_gd); first | refine gt ?_ | refine gf ?_ | refine gu ?_) | ((with_reducible apply is_en); refine en ?_) | (with_reducible first | apply x_then | apply wp_seq | apply c_region | apply wp_block | apply wp_skip | apply wp_exit | apply wp_ret | apply wp_label | apply wp_scope_straight | apply x_ng | apply x_ng_ret | apply x_ng_exit | apply x_then_ret | apply x_then_exit | apply x_block | apply x_block_ret | apply x_block_exit | refine x_block_other (by decide) ?_))
        (try ((with_reducible apply is_gd); first | refine gt ?_ | refine gf ?_ | refine gu ?_)); refine ca (lives10_any w1 hK) ?_
        rintro _ w2 ⟨rfl, hc2⟩
        repeat (first | ((with_reducible apply is_st); refine su ?_) | ((with_reducible apply is_gd); first | refine gt ?_ | refine gf ?_ | refine gu ?_) | ((with_reducible apply is_en); refine en ?_) | (with_reducible first | apply x_then | apply wp_seq | apply c_region | apply wp_block | apply wp_skip | apply wp_exit | apply wp_ret | apply wp_label | apply wp_scope_straight | apply x_ng | apply x_ng_ret | apply x_ng_exit | apply x_then_ret | apply x_then_exit | apply x_block | apply x_block_ret | apply x_block_exit | refine x_block_other (by decide) ?_))
        exact out1 rfl ⟨rfl, hc2⟩
      · repeat (first | ((with_reducible apply is_st); refine su ?_) | ((with_reducible apply is_gd); first | refine gt ?_ | refine gf ?_ | refine gu ?_) | ((with_reducible apply is_en); refine en ?_) | (with_reducible first | apply x_then | apply wp_seq | apply c_region | apply wp_block | apply wp_skip | apply wp_exit | apply wp_ret | apply wp_label | apply wp_scope_straight | apply x_ng | apply x_ng_ret | apply x_ng_exit | apply x_then_ret | apply x_then_exit | apply x_block | apply x_block_ret | apply x_block_exit | refine x_block_other (by decide) ?_))
        refine c_cond rfl (fun _ => ?_) (fun h => absurd (by omega : (60 : Int) < more.length) h)
        repeat (first | ((with_reducible apply is_st); refine su ?_) | ((with_reducible apply is_gd); first | refine gt ?_ | refine gf ?_ | refine gu ?_) | ((with_reducible apply is_en); refine en ?_) | (with_reducible first | apply x_then | apply wp_seq | apply c_region | apply wp_block | apply wp_skip | apply wp_exit | apply wp_ret | apply wp_label | apply wp_scope_straight | apply x_ng | apply x_ng_ret | apply x_ng_exit | apply x_then_ret | apply x_then_exit | apply x_block | apply x_block_ret | apply x_block_exit | refine x_block_other (by decide) ?_))
        (try ((with_reducible apply is_gd); first | refine gt ?_ | refine gf ?_ | refine gu ?_)); refine ca (lives10_any w1 hK) ?_
        rintro _ w2 ⟨rfl, hc2⟩
        repeat (first | ((with_reducible apply is_st); refine su ?_) | ((with_reducible apply is_gd); first | refine gt ?_ | refine gf ?_ | refine gu ?_) | ((with_reducible apply is_en); refine en ?_) | (with_reducible first | apply x_then | apply wp_seq | apply c_region | apply wp_block | apply wp_skip | apply wp_exit | apply wp_ret | apply wp_label | apply wp_scope_straight | apply x_ng | apply x_ng_ret | apply x_ng_exit | apply x_then_ret | apply x_then_exit | apply x_block | apply x_block_ret | apply x_block_exit | refine x_block_other (by decide) ?_))
        exact out1 rfl ⟨rfl, hc2⟩
    · rw [decide_eq_false h60]
      repeat (first | ((with_reducible apply is_st); refine su ?_) | ((with_reducible apply is_gd); first | refine gt ?_ | refine gf ?_ | refine gu ?_) | ((with_reducible apply is_en); refine en ?_) | (with_reducible first | apply x_then | apply wp_seq | apply c_region | apply wp_block | apply wp_skip | apply wp_exit | apply wp_ret | apply wp_label | apply wp_scope_straight | apply x_ng | apply x_ng_ret | apply x_ng_exit | apply x_then_ret | apply x_then_exit | apply x_block | apply x_block_ret | apply x_block_exit | refine x_block_other (by decide) ?_))
      refine c_condb rfl (fun _ => ?_) (fun h => by cases h)
      repeat (first | ((with_reducible apply is_st); refine su ?_) | ((with_reducible apply is_gd); first | refine gt ?_ | refine gf ?_ | refine gu ?_) | ((with_reducible apply is_en); refine en ?_) | (with_reducible first | apply x_then | apply wp_seq | apply c_region | apply wp_block | apply wp_skip | apply wp_exit | apply wp_ret | apply wp_label | apply wp_scope_straight | apply x_ng | apply x_ng_ret | apply x_ng_exit | apply x_then_ret | apply x_then_exit | apply x_block | apply x_block_ret | apply x_block_exit | refine x_block_other (by decide) ?_))
      (try ((with_reducible apply is_gd); first | refine gt ?_ | refine gf ?_ | refine gu ?_)); refine ca (lives10_any w1 hK) ?_
      rintro _ w2 ⟨rfl, hc2⟩
      repeat (first | ((with_reducible apply is_st); refine su ?_) | ((with_reducible apply is_gd); first | refine gt ?_ | refine gf ?_ | refine gu ?_) | ((with_reducible apply is_en); refine en ?_) | (with_reducible first | apply x_then | apply wp_seq | apply c_region | apply wp_block | apply wp_skip | apply wp_exit | apply wp_ret | apply wp_label | apply wp_scope_straight | apply x_ng | apply x_ng_ret | apply x_ng_exit | apply x_then_ret | apply x_then_exit | apply x_block | apply x_block_ret | apply x_block_exit | refine x_block_other (by decide) ?_))
      exact out1 rfl ⟨rfl, hc2⟩
end Go.Proofs.YtbecfcnbgeeghaaDoor

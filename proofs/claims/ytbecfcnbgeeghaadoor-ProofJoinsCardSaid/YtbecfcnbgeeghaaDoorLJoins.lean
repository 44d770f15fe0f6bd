/- The law of joins: growth of growth. -/
import Derived.Test.YtbecfcnbgeeghaaDoorPlain10
set_option linter.unusedVariables false
set_option linter.unusedSimpArgs false
namespace Go.Proofs.E
open Go Go.RowKit
section
variable {P : Program} {ops : Array Oper} {N : Nat} {S : List Nat} {Q : Exit → Act → World → Prop} {z : List Nat × List Nat} {fuel : Nat} {listed : Array Bool} {a : Act} {l l' : List Value} {w : World}
  {T : TypeId} {pos : String} {after : Array Edge}
theorem yn3 {o o' o'' : Oper} (k k' k'' : Nat) (hr : Region.ready .any ops listed = [k, k', k'']) (ho : ops[k]? = some o) (ho' : ops[k']? = some o') (ho'' : ops[k'']? = some o'')
    (h : ∀ w1, Ch [] w w1 → wpList P ops (Exit.then (fun a' w' => (Bw N S w1 w' ∨ (k ∈ z.1 ∧ N ≤ w'.heap.size)) ∧ WY P ops N S Q z fuel (listed.setIfInBounds k true) a' w') (NoP Q)) [o] (fr l) w1)
    (h' : ∀ w1, Ch [] w w1 → wpList P ops (Exit.then (fun a' w' => (Bw N S w1 w' ∨ (k' ∈ z.1 ∧ N ≤ w'.heap.size)) ∧ WY P ops N S Q z fuel (listed.setIfInBounds k' true) a' w') (NoP Q)) [o'] (fr l) w1)
    (h'' : ∀ w1, Ch [] w w1 → wpList P ops (Exit.then (fun a' w' => (Bw N S w1 w' ∨ (k'' ∈ z.1 ∧ N ≤ w'.heap.size)) ∧ WY P ops N S Q z fuel (listed.setIfInBounds k'' true) a' w') (NoP Q)) [o''] (fr l) w1) : WY P ops N S Q z (fuel + 1) listed (fr l) w := fun h0 h1 h2 h3 =>
  wpAnyY_all hr (by simp) fun i hi w1 hG => by
    have : i = k ∨ i = k' ∨ i = k'' := by simpa using hi
    rcases this with rfl | rfl | rfl
    · exact wy_op ho (h w1 hG) (Nat.le_trans h0 hG.size) h1 h2 h3 (by rw [hr]; simp)
    · exact wy_op ho' (h' w1 hG) (Nat.le_trans h0 hG.size) h1 h2 h3 (by rw [hr]; simp)
    · exact wy_op ho'' (h'' w1 hG) (Nat.le_trans h0 hG.size) h1 h2 h3 (by rw [hr]; simp)
/-- Three blocks, whichever comes up first. -/
theorem yal3 {d d' d'' : Nat} {E : TypeId} {zv : Value} {n by_ : Nat} {T' T'' : TypeId} {pos' pos'' : String} {after' after'' : Array Edge} [hi : Inf P E zv n by_] (k k' k'' : Nat) (hr : Region.ready .any ops listed = [k, k', k''])
    (ho : ops[k]? = some { dst := some d, op := .alloc E, type := T, pos := pos, after := after, guard := none }) (ho' : ops[k']? = some { dst := some d', op := .alloc E, type := T', pos := pos', after := after', guard := none }) (ho'' : ops[k'']? = some { dst := some d'', op := .alloc E, type := T'', pos := pos'', after := after'', guard := none })
    (hd : d ≠ d' ∧ d ≠ d'' ∧ d' ≠ d'') (hk : k ≠ k' ∧ k ≠ k'' ∧ k' ≠ k'') (hr1 : Region.ready .any ops (listed.setIfInBounds k true) = [k', k'']) (hr2 : Region.ready .any ops (listed.setIfInBounds k' true) = [k, k'']) (hr3 : Region.ready .any ops (listed.setIfInBounds k'' true) = [k, k'])
    (hr12 : Region.ready .any ops ((listed.setIfInBounds k true).setIfInBounds k' true) = [k'']) (hr13 : Region.ready .any ops ((listed.setIfInBounds k true).setIfInBounds k'' true) = [k']) (hr23 : Region.ready .any ops ((listed.setIfInBounds k' true).setIfInBounds k'' true) = [k])
    (h : ∀ w2 b b' b'', Ch [] w w2 → Blk w2 b zv.cells.toList E → Blk w2 b' zv.cells.toList E → Blk w2 b'' zv.cells.toList E → b ≠ b' → b ≠ b'' → b' ≠ b'' → w.heap.size ≤ b → w.heap.size ≤ b' → w.heap.size ≤ b'' →
      WY P ops N S Q z fuel (((listed.setIfInBounds k true).setIfInBounds k' true).setIfInBounds k'' true) (fr (((l.set d (.pointer (some ⟨b, 0, none⟩))).set d' (.pointer (some ⟨b', 0, none⟩))).set d'' (.pointer (some ⟨b'', 0, none⟩)))) w2) : WY P ops N S Q z (fuel + 3) listed (fr l) w := fun h0 => by
  refine yn3 k k' k'' hr ho ho' ho'' (fun w1 hc1 => wl_alloc (fun w2 b hb => x_wy (.inl (hb.ch.gy (Nat.le_trans h0 hc1.size))) rfl ?_)) (fun w1 hc1 => wl_alloc (fun w2 b hb => x_wy (.inl (hb.ch.gy (Nat.le_trans h0 hc1.size))) rfl ?_)) (fun w1 hc1 => wl_alloc (fun w2 b hb => x_wy (.inl (hb.ch.gy (Nat.le_trans h0 hc1.size))) rfl ?_)) h0
  all_goals (have e1 := hb.at_; have s1 := hb.size; have z1 := hc1.size)
  · refine yal2 k' k'' hr1 ho' ho'' hd.2.2 hk.2.2 hr12 hr13 (fun w3 b' b'' hc3 hB' hB'' hne hl' hl'' => ?_)
    exact h w3 b b' b'' ((hc1.then hb.ch).then hc3) (hb.blk.ch hc3 (by simp)) hB' hB'' (by omega) (by omega) hne (by omega) (by omega) (by omega)
  · refine yal2 k k'' hr2 ho ho'' hd.2.1 hk.2.1 (by rw [Array.setIfInBounds_comm _ _ (Ne.symm hk.1)]; exact hr12) hr23 (fun w3 b' b'' hc3 hB' hB'' hne hl' hl'' => ?_)
    have := h w3 b' b b'' ((hc1.then hb.ch).then hc3) hB' (hb.blk.ch hc3 (by simp)) hB'' (by omega) hne (by omega) (by omega) (by omega) (by omega)
    rw [Array.setIfInBounds_comm _ _ hk.1, List.set_comm _ _ hd.1] at this
    exact this
  · refine yal2 k k' hr3 ho ho' hd.1 hk.1 (by rw [Array.setIfInBounds_comm _ _ (Ne.symm hk.2.1)]; exact hr13) (by rw [Array.setIfInBounds_comm _ _ (Ne.symm hk.2.2)]; exact hr23) (fun w3 b' b'' hc3 hB' hB'' hne hl' hl'' => ?_)
    have := h w3 b' b'' b ((hc1.then hb.ch).then hc3) hB' hB'' (hb.blk.ch hc3 (by simp)) hne (by omega) (by omega) (by omega) (by omega) (by omega)
    rw [Array.setIfInBounds_comm _ _ hk.2.2, Array.setIfInBounds_comm _ _ hk.2.1, List.set_comm _ _ hd.2.2, List.set_comm _ _ hd.2.1] at this
    exact this
end
end Go.Proofs.E
namespace Go.Proofs.YtbecfcnbgeeghaaDoor
open Go Go.RowKit Go.Proofs.E
attribute [local irreducible] Go.wpList Go.Code.wp Go.Proofs.E.exec Go.Proofs.E.wpLexG
theorem rem_to {a : Nat} {i : Int} {b : Nat} (h : i = (b : Int)) : ((a : Int).tmod i) = ((a % b : Nat) : Int) := by subst h; exact remN a b
set_option maxHeartbeats 16000000 in
theorem joins_any (v : Value) (lv : List Hs) (A0 B0 : Nat) (w : World) (hK : Laid w) (hA0 : A0 < 2 ^ 64) (hB0 : B0 < 2 ^ 64) (hR : (Ty.enc eH).Rd [] w v lv) :
    Calls Tryd.prog 16 #[v, .int .u64 (A0 : Int), .int .u64 (B0 : Int)] w (Ret fun u w' => u = .bool true ∧ Ch [] w w') := by
  refine enter [v, .int .u64 (A0 : Int), .int .u64 (B0 : Int), undef, undef, undef, undef, undef, undef, undef, undef, undef, undef, undef, undef, undef, undef, undef, undef, undef, undef, undef, undef, undef, undef, undef, undef, undef, undef, undef, undef, undef, undef, undef, undef, undef, undef, undef, undef, undef, undef, undef, undef, undef, undef, undef, undef, undef, undef, undef, undef, undef, undef, undef, undef, undef, undef, undef, undef, undef, undef, undef, undef, undef, undef, undef, undef, undef, undef, undef, undef, undef, undef, undef, undef, undef, undef, undef, undef, undef, undef, undef, undef, undef, undef, undef, undef, undef, undef, undef, undef, undef, undef, undef, undef, undef, undef, undef, undef, undef, undef, undef, undef, undef, undef, undef, undef, undef, undef, undef, undef] Tryd.func16 rfl rfl ?_
  have hle := hR.le
  obtain ⟨A, cap, rfl⟩ := hR.form
  repeat (first | ((with_reducible apply is_st); refine su ?_) | ((with_reducible apply is_gd); first | refine gt ?_ | refine gf ?_ | refine gu ?_) | ((with_reducible apply is_en); refine en ?_) | (with_reducible first | apply x_then | apply wp_seq | apply c_region | apply wp_block | apply wp_skip | apply wp_exit | apply wp_ret | apply wp_label | apply wp_scope_straight | apply x_ng | apply x_ng_ret | apply x_ng_exit | apply x_then_ret | apply x_then_exit | apply x_block | apply x_block_ret | apply x_block_exit | refine x_block_other (by decide) ?_))
  (try ((with_reducible apply is_gd); first | refine gt ?_ | refine gf ?_ | refine gu ?_)); refine ca (light_any _ lv w hR) ?_
  rintro _ w1 ⟨rfl, hw1⟩
  subst hw1
  by_cases hg : lv.length ≤ 60 ∧ 2 ≤ lv.length
  · obtain ⟨h60, h2⟩ := hg
    rw [decide_eq_true h60]
    repeat (first | ((with_reducible apply is_st); refine su ?_) | ((with_reducible apply is_gd); first | refine gt ?_ | refine gf ?_ | refine gu ?_) | ((with_reducible apply is_en); refine en ?_) | (with_reducible first | apply x_then | apply wp_seq | apply c_region | apply wp_block | apply wp_skip | apply wp_exit | apply wp_ret | apply wp_label | apply wp_scope_straight | apply x_ng | apply x_ng_ret | apply x_ng_exit | apply x_then_ret | apply x_then_exit | apply x_block | apply x_block_ret | apply x_block_exit | refine x_block_other (by decide) ?_))
    refine c_cond rfl (fun h => absurd h (by omega)) (fun _ => ?_)
    repeat (first | ((with_reducible apply is_st); refine su ?_) | ((with_reducible apply is_gd); first | refine gt ?_ | refine gf ?_ | refine gu ?_) | ((with_reducible apply is_en); refine en ?_) | (with_reducible first | apply x_then | apply wp_seq | apply wp_block | apply wp_skip | apply wp_exit | apply wp_ret | apply wp_label | apply wp_scope_straight | apply x_ng | apply x_ng_ret | apply x_ng_exit | apply x_then_ret | apply x_then_exit | apply x_block | apply x_block_ret | apply x_block_exit | refine x_block_other (by decide) ?_))
    refine c_region ?_
    refine st ?_
    refine st ?_
    refine su ?_
    refine su ?_
    refine wl_val (r_to (r_rem rfl rfl (by omega)) (rem_to rfl)) ?_
    have hxl := Nat.mod_lt A0 (by omega : 0 < lv.length)
    generalize A0 % lv.length = X0 at hxl ⊢
    repeat (first | ((with_reducible apply is_st); refine su ?_) | ((with_reducible apply is_gd); first | refine gt ?_ | refine gf ?_ | refine gu ?_) | ((with_reducible apply is_en); refine en ?_) | (with_reducible first | apply x_then | apply wp_seq | apply wp_block | apply wp_skip | apply wp_exit | apply wp_ret | apply wp_label | apply wp_scope_straight | apply x_ng | apply x_ng_ret | apply x_ng_exit | apply x_then_ret | apply x_then_exit | apply x_block | apply x_block_ret | apply x_block_exit | refine x_block_other (by decide) ?_))
    rw [show (1 : Int) + (X0 : Int) = ((X0 + 1 : Nat) : Int) by omega]
    obtain ⟨X, hX⟩ : ∃ X, X0 + 1 = X := ⟨_, rfl⟩
    rw [hX]
    refine c_region ?_
    refine st ?_
    refine st ?_
    refine st ?_
    refine su ?_
    refine st ?_
    refine su ?_
    refine su ?_
    refine su ?_
    refine wl_val (r_to (r_rem rfl rfl (by omega)) (rem_to (b := lv.length - X + 1) (by omega))) ?_
    have hyl := Nat.mod_lt B0 (by omega : 0 < lv.length - X + 1)
    generalize B0 % (lv.length - X + 1) = Y0 at hyl ⊢
    repeat (first | ((with_reducible apply is_st); refine su ?_) | ((with_reducible apply is_gd); first | refine gt ?_ | refine gf ?_ | refine gu ?_) | ((with_reducible apply is_en); refine en ?_) | (with_reducible first | apply x_then | apply wp_seq | apply wp_block | apply wp_skip | apply wp_exit | apply wp_ret | apply wp_label | apply wp_scope_straight | apply x_ng | apply x_ng_ret | apply x_ng_exit | apply x_then_ret | apply x_then_exit | apply x_block | apply x_block_ret | apply x_block_exit | refine x_block_other (by decide) ?_))
    rw [show (X : Int) + (Y0 : Int) = ((X + Y0 : Nat) : Int) by omega]
    obtain ⟨Y, hY⟩ : ∃ Y, X + Y0 = Y := ⟨_, rfl⟩
    rw [hY]
    repeat (first | ((with_reducible apply is_st); refine su ?_) | ((with_reducible apply is_gd); first | refine gt ?_ | refine gf ?_ | refine gu ?_) | ((with_reducible apply is_en); refine en ?_) | (with_reducible first | apply x_then | apply wp_seq | apply c_region | apply wp_block | apply wp_skip | apply wp_exit | apply wp_ret | apply wp_label | apply wp_scope_straight | apply x_ng | apply x_ng_ret | apply x_ng_exit | apply x_then_ret | apply x_then_exit | apply x_block | apply x_block_ret | apply x_block_exit | refine x_block_other (by decide) ?_))
    refine wl_cut_hi rfl hR rfl rfl (by omega) (by omega) (fun v1 hV1 => ?_)
    rw [Int.toNat_natCast] at hV1
    repeat (first | ((with_reducible apply is_st); refine su ?_) | ((with_reducible apply is_gd); first | refine gt ?_ | refine gf ?_ | refine gu ?_) | ((with_reducible apply is_en); refine en ?_) | (with_reducible first | apply x_then | apply wp_seq | apply c_region | apply wp_block | apply wp_skip | apply wp_exit | apply wp_ret | apply wp_label | apply wp_scope_straight | apply x_ng | apply x_ng_ret | apply x_ng_exit | apply x_then_ret | apply x_then_exit | apply x_block | apply x_block_ret | apply x_block_exit | refine x_block_other (by decide) ?_))
    (try ((with_reducible apply is_gd); first | refine gt ?_ | refine gf ?_ | refine gu ?_)); refine ca (grown_any v1 (lv.take Y) (X : Int) w1 hK hV1 (by rw [List.length_take]; omega)) ?_
    rintro _ w2 ⟨hc2, v2, rfl, hG2⟩
    have hG2 := hG2 [] (by simp)
    rw [grownZ_t (by omega) (by rw [List.length_take]; omega)] at hG2
    rw [inG_t (by omega) (by rw [List.length_take]; omega)]
    have hR2 := hR.ch hc2
    have hK2 := hK.ch hc2 (by simp)
    repeat (first | ((with_reducible apply is_st); refine su ?_) | ((with_reducible apply is_gd); first | refine gt ?_ | refine gf ?_ | refine gu ?_) | ((with_reducible apply is_en); refine en ?_) | (with_reducible first | apply x_then | apply wp_seq | apply c_region | apply wp_block | apply wp_skip | apply wp_exit | apply wp_ret | apply wp_label | apply wp_scope_straight | apply x_ng | apply x_ng_ret | apply x_ng_exit | apply x_then_ret | apply x_then_exit | apply x_block | apply x_block_ret | apply x_block_exit | refine x_block_other (by decide) ?_))
    (try ((with_reducible apply is_gd); first | refine gt ?_ | refine gf ?_ | refine gu ?_)); refine ca (grown_any _ lv (Y : Int) w2 hK2 hR2 (by omega)) ?_
    rintro _ w3 ⟨hc3, v3, rfl, hG3⟩
    have hG3 := hG3 [] (by simp)
    rw [grownZ_t (by omega) (by omega)] at hG3
    rw [inG_t (by omega) (by omega)]
    have hR3 := hR2.ch hc3
    have hK3 := hK2.ch hc3 (by simp)
    repeat (first | ((with_reducible apply is_st); refine su ?_) | ((with_reducible apply is_gd); first | refine gt ?_ | refine gf ?_ | refine gu ?_) | ((with_reducible apply is_en); refine en ?_) | (with_reducible first | apply x_then | apply wp_seq | apply c_region | apply wp_block | apply wp_skip | apply wp_exit | apply wp_ret | apply wp_label | apply wp_scope_straight | apply x_ng | apply x_ng_ret | apply x_ng_exit | apply x_then_ret | apply x_then_exit | apply x_block | apply x_block_ret | apply x_block_exit | refine x_block_other (by decide) ?_))
    (try ((with_reducible apply is_gd); first | refine gt ?_ | refine gf ?_ | refine gu ?_)); refine ca (grown_any _ lv (X : Int) w3 hK3 hR3 (by omega)) ?_
    rintro _ w4 ⟨hc4, v4, rfl, hG4⟩
    have hG4 := hG4 [] (by simp)
    rw [grownZ_t (by omega) (by omega)] at hG4
    rw [inG_t (by omega) (by omega)]
    have hR4 := hR3.ch hc4
    have hK4 := hK3.ch hc4 (by simp)
    have hG2 := hG2.ch (hc3.then hc4)
    have hG3 := hG3.ch hc4
    have hc4 : Ch [] w1 w4 := (hc2.then hc3).then hc4
    repeat (first | ((with_reducible apply is_st); refine su ?_) | ((with_reducible apply is_gd); first | refine gt ?_ | refine gf ?_ | refine gu ?_) | ((with_reducible apply is_en); refine en ?_) | (with_reducible first | apply x_then | apply wp_seq | apply c_region | apply wp_block | apply wp_skip | apply wp_exit | apply wp_ret | apply wp_label | apply wp_scope_straight | apply x_ng | apply x_ng_ret | apply x_ng_exit | apply x_then_ret | apply x_then_exit | apply x_block | apply x_block_ret | apply x_block_exit | refine x_block_other (by decide) ?_))
    refine c_ordY ([], []) [] (by kernel_rfl) (by kernel_rfl) (by kernel_rfl) (fun w5 hc5 hs5 => ?_)
    have hR5 := hR4.ch hc5
    (first | refine yn 0 rfl ?_ | refine ynt 0 rfl ?_ | refine ynff 0 rfl ?_); (first | refine yn 1 rfl ?_ | refine ynt 1 rfl ?_ | refine ynff 1 rfl ?_)
    refine yn_cut_hi 2 rfl hR5 rfl rfl rfl (by omega) (by omega) (fun u1 hU1 => ?_)
    rw [Int.toNat_natCast] at hU1
    refine ync 3 rfl (by kernel_rfl) (by kernel_rfl) rfl (fun w6 hb6 => rroot_any (lv.take X).length u1 (lv.take X) w6 rfl (hU1.ch (hb6.ch' hs5)) (by rw [List.length_take]; omega)) rfl ?_
    (first | refine yn 4 rfl ?_ | refine ynt 4 rfl ?_ | refine ynff 4 rfl ?_); (first | refine yn 5 rfl ?_ | refine ynt 5 rfl ?_ | refine ynff 5 rfl ?_)
    refine yn_cut_hi 6 rfl hR5 rfl rfl rfl (by omega) (by omega) (fun u2 hU2 => ?_)
    rw [Int.toNat_natCast] at hU2
    refine ync 7 rfl (by kernel_rfl) (by kernel_rfl) rfl (fun w6 hb6 => rroot_any (lv.take Y).length u2 (lv.take Y) w6 rfl (hU2.ch (hb6.ch' hs5)) (by rw [List.length_take]; omega)) rfl ?_
    (first | refine yn 8 rfl ?_ | refine ynt 8 rfl ?_ | refine ynff 8 rfl ?_)
    refine ync 9 rfl (by kernel_rfl) (by kernel_rfl) rfl (fun w6 hb6 => rroot_any lv.length _ lv w6 rfl (hR5.ch (hb6.ch' hs5)) (by omega)) rfl ?_
    refine yal3 10 11 12 (by kernel_rfl) rfl rfl rfl (by decide) (by decide) (by kernel_rfl) (by kernel_rfl) (by kernel_rfl) (by kernel_rfl) (by kernel_rfl) (by kernel_rfl) (fun w6 bx by_ bz hc6 hBx hBy hBz hxy hxz hyz hxl' hyl' hzl' => ?_)
    have hx0 : Blk w6 bx ((List.replicate 32 (0 : UInt8)).map u8v) 26 := hBx
    have hy0 : Blk w6 by_ ((List.replicate 32 (0 : UInt8)).map u8v) 26 := hBy
    have hz0 : Blk w6 bz ((List.replicate 32 (0 : UInt8)).map u8v) 26 := hBz
    refine yst (n := 32) 13 (by kernel_rfl) rfl hx0 (.inl (by omega)) rfl rfl (hv_len (rootH (lv.take X)).2) (by simp) one_u8 (fun w7 hBx hc7 => ?_)
    refine yst (n := 32) 14 (by kernel_rfl) rfl (hy0.ch hc7 (by simp; omega)) (.inl (by omega)) rfl rfl (hv_len (rootH (lv.take Y)).2) (by simp) one_u8 (fun w8 hBy hc8 => ?_)
    refine yst (n := 32) 15 (by kernel_rfl) rfl ((hz0.ch hc7 (by simp; omega)).ch hc8 (by simp; omega)) (.inl (by omega)) rfl rfl (hv_len (rootH lv).2) (by simp) one_u8 (fun w9 hBz hc9 => ?_)
    refine wy_nf ?_
    refine wy_done (by kernel_rfl) (fun w10 hc10 => ?_)
    have hBx := ((hBx.ch hc8 (by simp; omega)).ch hc9 (by simp; omega)).ch hc10 (by simp)
    have hBy := (hBy.ch hc9 (by simp; omega)).ch hc10 (by simp)
    have hBz := hBz.ch hc10 (by simp)
    have hcs : Ch [] w4 w10 := ((((hc5.then hc6).own hc7 (by omega)).own hc8 (by omega)).own hc9 (by omega)).then hc10
    have hG2 := hG2.ch hcs
    have hG3 := hG3.ch hcs
    have hG4 := hG4.ch hcs
    have hK10 := hK4.ch hcs (by simp)
    have hc10 : Ch [] w1 w10 := hc4.then hcs
    have k1 := checks_grown (l := lv.take Y) (m := X) (by rw [List.length_take]; omega) (by omega) (by rw [List.length_take]; omega)
    rw [List.take_take, Nat.min_eq_left (by omega), List.length_take, Nat.min_eq_left (by omega)] at k1
    have k2 := checks_grown (l := lv) (m := Y) (by omega) (by omega) (by omega)
    have k3 := checks_grown (l := lv) (m := X) (by omega) (by omega) (by omega)
    generalize rootH (lv.take X) = rx at hBx k1 k3
    generalize rootH (lv.take Y) = ry at hBy k1 k2
    generalize rootH lv = rz at hBz k2 k3
    have hX32 : ((rx.1.map u8v).drop 0).take 32 = rx.1.map u8v := by simp [List.take_of_length_le, rx.2]
    have hY32 : ((ry.1.map u8v).drop 0).take 32 = ry.1.map u8v := by simp [List.take_of_length_le, ry.2]
    have hZ32 : ((rz.1.map u8v).drop 0).take 32 = rz.1.map u8v := by simp [List.take_of_length_le, rz.2]
    repeat (first | ((with_reducible apply is_st); refine su ?_) | ((with_reducible apply is_gd); first | refine gt ?_ | refine gf ?_ | refine gu ?_) | ((with_reducible apply is_en); refine en ?_) | (with_reducible first | apply x_then | apply wp_seq | apply c_region | apply wp_block | apply wp_skip | apply wp_exit | apply wp_ret | apply wp_label | apply wp_scope_straight | apply x_ng | apply x_ng_ret | apply x_ng_exit | apply x_then_ret | apply x_then_exit | apply x_block | apply x_block_ret | apply x_block_exit | refine x_block_other (by decide) ?_))
    have hq0 := Ch.refl [] w10
    (try ((with_reducible apply is_gd); refine gt ?_))
    refine ldbr (n := 32) hBx rfl (ds := rx.1.map u8v) hX32 (by simp [rx.2]) ?_
    (try ((with_reducible apply is_gd); refine gt ?_))
    refine ldbr (n := 32) hBy rfl (ds := ry.1.map u8v) hY32 (by simp [ry.2]) ?_
    repeat (first | ((with_reducible apply is_st); refine su ?_) | ((with_reducible apply is_gd); first | refine gt ?_ | refine gf ?_ | refine gu ?_) | ((with_reducible apply is_en); refine en ?_) | (with_reducible first | apply x_then | apply wp_seq | apply c_region | apply wp_block | apply wp_skip | apply wp_exit | apply wp_ret | apply wp_label | apply wp_scope_straight | apply x_ng | apply x_ng_ret | apply x_ng_exit | apply x_then_ret | apply x_then_exit | apply x_block | apply x_block_ret | apply x_block_exit | refine x_block_other (by decide) ?_))
    (try ((with_reducible apply is_gd); first | refine gt ?_ | refine gf ?_ | refine gu ?_)); refine ca (checks_any rx ry (X : Int) (Y : Int) v2 (gdH X (lv.take Y) true).reverse w10 (hK10.ch hq0 (by simp)) (hG2.ch hq0)) ?_
    rintro _ w11 ⟨rfl, hq⟩
    rw [k1]
    have hq1 := hq0.then hq
    have hBx := hBx.ch hq (by simp)
    have hBy := hBy.ch hq (by simp)
    have hBz := hBz.ch hq (by simp)
    repeat (first | ((with_reducible apply is_st); refine su ?_) | ((with_reducible apply is_gd); first | refine gt ?_ | refine gf ?_ | refine gu ?_) | ((with_reducible apply is_en); refine en ?_) | (with_reducible first | apply x_then | apply wp_seq | apply c_region | apply wp_block | apply wp_skip | apply wp_exit | apply wp_ret | apply wp_label | apply wp_scope_straight | apply x_ng | apply x_ng_ret | apply x_ng_exit | apply x_then_ret | apply x_then_exit | apply x_block | apply x_block_ret | apply x_block_exit | refine x_block_other (by decide) ?_))
    (try ((with_reducible apply is_gd); refine gt ?_))
    refine ldbr (n := 32) hBy rfl (ds := ry.1.map u8v) hY32 (by simp [ry.2]) ?_
    (try ((with_reducible apply is_gd); refine gt ?_))
    refine ldbr (n := 32) hBz rfl (ds := rz.1.map u8v) hZ32 (by simp [rz.2]) ?_
    repeat (first | ((with_reducible apply is_st); refine su ?_) | ((with_reducible apply is_gd); first | refine gt ?_ | refine gf ?_ | refine gu ?_) | ((with_reducible apply is_en); refine en ?_) | (with_reducible first | apply x_then | apply wp_seq | apply c_region | apply wp_block | apply wp_skip | apply wp_exit | apply wp_ret | apply wp_label | apply wp_scope_straight | apply x_ng | apply x_ng_ret | apply x_ng_exit | apply x_then_ret | apply x_then_exit | apply x_block | apply x_block_ret | apply x_block_exit | refine x_block_other (by decide) ?_))
    (try ((with_reducible apply is_gd); first | refine gt ?_ | refine gf ?_ | refine gu ?_)); refine ca (checks_any ry rz (Y : Int) (lv.length : Int) v3 (gdH Y lv true).reverse w11 (hK10.ch hq1 (by simp)) (hG3.ch hq1)) ?_
    rintro _ w12 ⟨rfl, hq⟩
    rw [k2]
    have hq2 := hq1.then hq
    have hBx := hBx.ch hq (by simp)
    have hBz := hBz.ch hq (by simp)
    repeat (first | ((with_reducible apply is_st); refine su ?_) | ((with_reducible apply is_gd); first | refine gt ?_ | refine gf ?_ | refine gu ?_) | ((with_reducible apply is_en); refine en ?_) | (with_reducible first | apply x_then | apply wp_seq | apply c_region | apply wp_block | apply wp_skip | apply wp_exit | apply wp_ret | apply wp_label | apply wp_scope_straight | apply x_ng | apply x_ng_ret | apply x_ng_exit | apply x_then_ret | apply x_then_exit | apply x_block | apply x_block_ret | apply x_block_exit | refine x_block_other (by decide) ?_))
    (try ((with_reducible apply is_gd); refine gt ?_))
    refine ldbr (n := 32) hBx rfl (ds := rx.1.map u8v) hX32 (by simp [rx.2]) ?_
    (try ((with_reducible apply is_gd); refine gt ?_))
    refine ldbr (n := 32) hBz rfl (ds := rz.1.map u8v) hZ32 (by simp [rz.2]) ?_
    repeat (first | ((with_reducible apply is_st); refine su ?_) | ((with_reducible apply is_gd); first | refine gt ?_ | refine gf ?_ | refine gu ?_) | ((with_reducible apply is_en); refine en ?_) | (with_reducible first | apply x_then | apply wp_seq | apply c_region | apply wp_block | apply wp_skip | apply wp_exit | apply wp_ret | apply wp_label | apply wp_scope_straight | apply x_ng | apply x_ng_ret | apply x_ng_exit | apply x_then_ret | apply x_then_exit | apply x_block | apply x_block_ret | apply x_block_exit | refine x_block_other (by decide) ?_))
    (try ((with_reducible apply is_gd); first | refine gt ?_ | refine gf ?_ | refine gu ?_)); refine ca (checks_any rx rz (X : Int) (lv.length : Int) v4 (gdH X lv true).reverse w12 (hK10.ch hq2 (by simp)) (hG4.ch hq2)) ?_
    rintro _ w13 ⟨rfl, hq⟩
    rw [k3]
    have hq3 := hq2.then hq
    repeat (first | ((with_reducible apply is_st); refine su ?_) | ((with_reducible apply is_gd); first | refine gt ?_ | refine gf ?_ | refine gu ?_) | ((with_reducible apply is_en); refine en ?_) | (with_reducible first | apply x_then | apply wp_seq | apply c_region | apply wp_block | apply wp_skip | apply wp_exit | apply wp_ret | apply wp_label | apply wp_scope_straight | apply x_ng | apply x_ng_ret | apply x_ng_exit | apply x_then_ret | apply x_then_exit | apply x_block | apply x_block_ret | apply x_block_exit | refine x_block_other (by decide) ?_))
    (try ((with_reducible apply is_gd); first | refine gt ?_ | refine gf ?_ | refine gu ?_)); refine ca (lives10_any w13 (hK10.ch hq3 (by simp))) ?_
    rintro _ w14 ⟨rfl, hq⟩
    repeat (first | ((with_reducible apply is_st); refine su ?_) | ((with_reducible apply is_gd); first | refine gt ?_ | refine gf ?_ | refine gu ?_) | ((with_reducible apply is_en); refine en ?_) | (with_reducible first | apply x_then | apply wp_seq | apply c_region | apply wp_block | apply wp_skip | apply wp_exit | apply wp_ret | apply wp_label | apply wp_scope_straight | apply x_ng | apply x_ng_ret | apply x_ng_exit | apply x_then_ret | apply x_then_exit | apply x_block | apply x_block_ret | apply x_block_exit | refine x_block_other (by decide) ?_))
    exact out1 rfl ⟨rfl, (hc10.then hq3).then hq⟩
  · by_cases h60 : lv.length ≤ 60
    · rw [decide_eq_true h60]
      repeat (first | ((with_reducible apply is_st); refine su ?_) | ((with_reducible apply is_gd); first | refine gt ?_ | refine gf ?_ | refine gu ?_) | ((with_reducible apply is_en); refine en ?_) | (with_reducible first | apply x_then | apply wp_seq | apply c_region | apply wp_block | apply wp_skip | apply wp_exit | apply wp_ret | apply wp_label | apply wp_scope_straight | apply x_ng | apply x_ng_ret | apply x_ng_exit | apply x_then_ret | apply x_then_exit | apply x_block | apply x_block_ret | apply x_block_exit | refine x_block_other (by decide) ?_))
      refine c_cond rfl (fun _ => ?_) (fun h => absurd (by omega : (lv.length : Int) < 2) h)
      repeat (first | ((with_reducible apply is_st); refine su ?_) | ((with_reducible apply is_gd); first | refine gt ?_ | refine gf ?_ | refine gu ?_) | ((with_reducible apply is_en); refine en ?_) | (with_reducible first | apply x_then | apply wp_seq | apply c_region | apply wp_block | apply wp_skip | apply wp_exit | apply wp_ret | apply wp_label | apply wp_scope_straight | apply x_ng | apply x_ng_ret | apply x_ng_exit | apply x_then_ret | apply x_then_exit | apply x_block | apply x_block_ret | apply x_block_exit | refine x_block_other (by decide) ?_))
      (try ((with_reducible apply is_gd); first | refine gt ?_ | refine gf ?_ | refine gu ?_)); refine ca (lives10_any w1 hK) ?_
      rintro _ w2 ⟨rfl, hc2⟩
      repeat (first | ((with_reducible apply is_st); refine su ?_) | ((with_reducible apply is_gd); first | refine gt ?_ | refine gf ?_ | refine gu ?_) | ((with_reducible apply is_en); refine en ?_) | (with_reducible first | apply x_then | apply wp_seq | apply c_region | apply wp_block | apply wp_skip | apply wp_exit | apply wp_ret | apply wp_label | apply wp_scope_straight | apply x_ng | apply x_ng_ret | apply x_ng_exit | apply x_then_ret | apply x_then_exit | apply x_block | apply x_block_ret | apply x_block_exit | refine x_block_other (by decide) ?_))
      exact out1 rfl ⟨rfl, hc2⟩
    · rw [decide_eq_false h60]
      repeat (first | ((with_reducible apply is_st); refine su ?_) | ((with_reducible apply is_gd); first | refine gt ?_ | refine gf ?_ | refine gu ?_) | ((with_reducible apply is_en); refine en ?_) | (with_reducible first | apply x_then | apply wp_seq | apply c_region | apply wp_block | apply wp_skip | apply wp_exit | apply wp_ret | apply wp_label | apply wp_scope_straight | apply x_ng | apply x_ng_ret | apply x_ng_exit | apply x_then_ret | apply x_then_exit | apply x_block | apply x_block_ret | apply x_block_exit | refine x_block_other (by decide) ?_))
      refine c_condb rfl (fun _ => ?_) (fun h => by cases h)
      repeat (first | ((with_reducible apply is_st); refine su ?_) | ((with_reducible apply is_gd); first | refine gt ?_ | refine gf ?_ | refine gu ?_) | ((with_reducible apply is_en); refine en ?_) | (with_reducible first | apply x_then | apply wp_seq | apply c_region | apply wp_block | apply wp_skip | apply wp_exit | apply wp_ret | apply wp_label | apply wp_scope_straight | apply x_ng | apply x_ng_ret | apply x_ng_exit | apply x_then_ret | apply x_then_exit | apply x_block | apply x_block_ret | apply x_block_exit | refine x_block_other (by decide) ?_))
      (try ((with_reducible apply is_gd); first | refine gt ?_ | refine gf ?_ | refine gu ?_)); refine ca (lives10_any w1 hK) ?_
      rintro _ w2 ⟨rfl, hc2⟩
      repeat (first | ((with_reducible apply is_st); refine su ?_) | ((with_reducible apply is_gd); first | refine gt ?_ | refine gf ?_ | refine gu ?_) | ((with_reducible apply is_en); refine en ?_) | (with_reducible first | apply x_then | apply wp_seq | apply c_region | apply wp_block | apply wp_skip | apply wp_exit | apply wp_ret | apply wp_label | apply wp_scope_straight | apply x_ng | apply x_ng_ret | apply x_ng_exit | apply x_then_ret | apply x_then_exit | apply x_block | apply x_block_ret | apply x_block_exit | refine x_block_other (by decide) ?_))
      exact out1 rfl ⟨rfl, hc2⟩
end Go.Proofs.YtbecfcnbgeeghaaDoor

/- The law of what is told of leaves: it is accepted under their root. -/
import Derived.Test.YtbecfcnbgeeghaaDoorPlain10
set_option linter.unusedVariables false
set_option linter.unusedSimpArgs false
namespace Go.Proofs.E
open Go Go.RowKit
theorem ev_set_ne {l : List Value} {d t : Nat} (u : Value) (h : t ≠ d) : ev (l.set d u) (.tmp t) = ev l (.tmp t) := by
  rw [← ev_tmp, ← ev_tmp]
  simp [Array.getD_eq_getD_getElem?, List.getElem?_set_ne (Ne.symm h)]
theorem ev_set_eq {l : List Value} {d : Nat} (u : Value) (h : d < l.length) : ev (l.set d u) (.tmp d) = u := by
  rw [← ev_tmp]
  simp [h]
section
variable {P : Program} {ops : Array Oper} {N : Nat} {S : List Nat} {Q : Exit → Act → World → Prop} {z : List Nat × List Nat} {fuel : Nat} {listed : Array Bool} {a : Act} {l l' : List Value} {w : World}
theorem Ch.bwl {L : List Nat} {w w' : World} (h : Ch L w w') (hn : N ≤ w.heap.size) (hl : ∀ x ∈ L, N ≤ x) : Bw N S w w' :=
  ⟨h.os, h.tape, h.output, h.size, fun k hk _ => h.block k (Nat.lt_of_lt_of_le hk hn) fun hm => by have := hl k hm; omega⟩
/-- append([]T{}, y...) and the literal []T{x}, in any order. -/
theorem yapp {α : Type} {en : En α} {n by_ : Nat} {d1 d2 d3 ty tx : Nat} {t e : TypeId} {zv : Value} {T1 T2 T3 : TypeId} {pos1 pos2 pos3 : String} {after1 after2 after3 : Array Edge} {yv v3 : Value} {ys : List α} [hu : Und P t (.slice e)] [hi : Inf P e zv n by_] (k1 k2 k3 : Nat)
    (hr : Region.ready .any ops listed = [k1, k3]) (ho1 : ops[k1]? = some { dst := some d1, op := .buildSlice t 0 #[], type := T1, pos := pos1, after := after1, guard := none })
    (ho2 : ops[k2]? = some { dst := some d2, op := .call { callee := .builtin .append, args := #[.tmp d1, .tmp ty], argTypes := #[t, t] }, type := T2, pos := pos2, after := after2, guard := none })
    (ho3 : ops[k3]? = some { dst := some d3, op := .buildSlice t 1 #[(0, .tmp tx)], type := T3, pos := pos3, after := after3, guard := none })
    (hd : d1 ≠ d2 ∧ d1 ≠ d3 ∧ d2 ≠ d3) (hlt : d1 < l.length) (hty : ty ≠ d1 ∧ ty ≠ d3) (htx : tx ≠ d1 ∧ tx ≠ d2) (hm : en.n = n) (hz : zv.cells.size = n) (hy : ev l (.tmp ty) = yv) (hR : (Ty.enc en).Rd [] w yv ys) (hx3 : ev l (.tmp tx) = v3) (hv3 : v3.cells.size = n) (hsm : n ≤ 16777216)
    (hb : ys.length * by_ ≤ 140737488355328) (h63 : ys.length ≤ 281474976710656) (hk : k1 ≠ k2 ∧ k1 ≠ k3 ∧ k2 ≠ k3)
    (hr1 : Region.ready .any ops (listed.setIfInBounds k1 true) = [k2, k3]) (hr3 : Region.ready .any ops (listed.setIfInBounds k3 true) = [k1]) (hr12 : Region.ready .any ops ((listed.setIfInBounds k1 true).setIfInBounds k2 true) = [k3]) (hr13 : Region.ready .any ops ((listed.setIfInBounds k1 true).setIfInBounds k3 true) = [k2])
    (h : ∀ w' v1 v2 bs, Ch [] w w' → Own en w' w.heap.size e v2 ys → Blk w' bs v3.cells.toList e → w.heap.size ≤ bs →
      WY P ops N S Q z fuel (((listed.setIfInBounds k1 true).setIfInBounds k2 true).setIfInBounds k3 true) (fr (((l.set d1 v1).set d2 v2).set d3 (.slice (some ⟨bs, 0, none⟩) 1 1))) w') : WY P ops N S Q z (fuel + 3) listed (fr l) w := fun h0 => by
  have hfl : [v3].flatMap (fun v => v.cells.toList) = v3.cells.toList := by simp
  have hev2 : ∀ u u', ev ((l.set d1 u).set d3 u') (.tmp d1) = u := fun u u' => by rw [ev_set_ne _ hd.2.1]; exact ev_set_eq u hlt
  have hevy : ∀ u u', ev ((l.set d1 u).set d3 u') (.tmp ty) = yv := fun u u' => by rw [ev_set_ne _ hty.2, ev_set_ne _ hty.1]; exact hy
  refine yn2 k1 k3 hr ho1 ho3 (fun w1 hc1 => wl_buildSlice (parts := []) (vs := []) rfl rfl (by simp) (by omega) (fun w2 ba hba => x_wy (.inl (hba.ch.gy (Nat.le_trans h0 hc1.size))) rfl ?_))
    (fun w1 hc1 => wl_buildSlice (parts := [(0, .tmp tx)]) (vs := [v3]) (by simp [hx3]) rfl (by simpa using hv3) (by omega) (fun w2 bs hbs => x_wy (.inl (hbs.ch.gy (Nat.le_trans h0 hc1.size))) rfl ?_)) h0
  · intro h0'
    have ea := hba.at_
    have z1 := hc1.size
    refine yn2 k2 k3 hr1 ho2 ho3 (fun w3 hc3 => ?_) (fun w3 hc3 => ?_) h0'
    · refine wl_append_e (en := en) (base := w.heap.size) hm hz (ev_set_eq _ hlt) ((show Blk w2 ba [] e from hba.blk).ch hc3 (by simp)) (by omega) (by rw [ev_set_ne _ hty.1]; exact hy) (hR.ch ((hc1.then hba.ch).then hc3)) hb h63 (fun v2 w4 hO4 hc4 => ?_)
      refine x_wy (.inl (hc4.gy (Nat.le_trans h0' hc3.size))) rfl (fun h0'' => ?_)
      refine yn1 k3 hr12 ho3 (fun w5 hc5 => wl_buildSlice (parts := [(0, .tmp tx)]) (vs := [v3]) (by simp [ev_set_ne _ htx.1, ev_set_ne _ htx.2, hx3]) rfl (by simpa using hv3) (by omega) (fun w6 bs hbs => x_wy (.inl (hbs.ch.gy (Nat.le_trans h0'' hc5.size))) rfl ?_)) h0''
      have eb := hbs.at_
      have z3 := hc3.size
      have z4 := hc4.size
      have z5 := hc5.size
      have z2 := hba.ch.size
      exact h w6 _ v2 bs (((((hc1.then hba.ch).then hc3).then hc4).then hc5).then hbs.ch) ((hO4.ch hc5 (by simp)).ch hbs.ch (by simp)) (hfl ▸ hbs.blk) (by omega)
    · refine wl_buildSlice (parts := [(0, .tmp tx)]) (vs := [v3]) (by simp [ev_set_ne _ htx.1, hx3]) rfl (by simpa using hv3) (by omega) (fun w4 bs hbs => x_wy (.inl (hbs.ch.gy (Nat.le_trans h0' hc3.size))) rfl (fun h0'' => ?_))
      refine yn1 k2 hr13 ho2 (fun w5 hc5 => ?_) h0''
      refine wl_append_e (en := en) (base := w.heap.size) hm hz (hev2 _ _) ((((show Blk w2 ba [] e from hba.blk).ch hc3 (by simp)).ch hbs.ch (by simp)).ch hc5 (by simp)) (by omega) (hevy _ _) (hR.ch ((((hc1.then hba.ch).then hc3).then hbs.ch).then hc5)) hb h63 (fun v2 w6 hO6 hc6 => ?_)
      refine x_wy (.inl (hc6.gy (Nat.le_trans h0'' hc5.size))) rfl ?_
      have eb := hbs.at_
      have z3 := hc3.size
      have z2 := hba.ch.size
      rw [Array.setIfInBounds_comm _ _ (Ne.symm hk.2.2), List.set_comm _ _ (Ne.symm hd.2.2)]
      exact h w6 _ v2 bs (((((hc1.then hba.ch).then hc3).then hbs.ch).then hc5).then hc6) hO6 (((show Blk w4 bs v3.cells.toList e from hfl ▸ hbs.blk).ch hc5 (by simp)).ch hc6 (by simp)) (by omega)
  · intro h0'
    have eb := hbs.at_
    have z1 := hc1.size
    refine yn1 k1 hr3 ho1 (fun w3 hc3 => wl_buildSlice (parts := []) (vs := []) rfl rfl (by simp) (by omega) (fun w4 ba hba => x_wy (.inl (hba.ch.gy (Nat.le_trans h0' hc3.size))) rfl (fun h0'' => ?_))) h0'
    refine yn1 k2 (by rw [Array.setIfInBounds_comm _ _ (Ne.symm hk.2.1)]; exact hr13) ho2 (fun w5 hc5 => ?_) h0''
    have ea := hba.at_
    have z3 := hc3.size
    have zb := hbs.ch.size
    refine wl_append_e (en := en) (base := w.heap.size) hm hz (ev_set_eq _ (by simpa using hlt)) ((show Blk w4 ba [] e from hba.blk).ch hc5 (by simp)) (by omega) (by rw [ev_set_ne _ hty.1, ev_set_ne _ hty.2]; exact hy) (hR.ch ((((hc1.then hbs.ch).then hc3).then hba.ch).then hc5)) hb h63 (fun v2 w6 hO6 hc6 => ?_)
    refine x_wy (.inl (hc6.gy (Nat.le_trans h0'' hc5.size))) rfl ?_
    rw [Array.setIfInBounds_comm _ _ (Ne.symm hk.2.1), Array.setIfInBounds_comm _ _ (Ne.symm hk.2.2), List.set_comm _ _ (Ne.symm hd.2.1), List.set_comm _ _ (Ne.symm hd.2.2)]
    exact h w6 _ v2 bs (((((hc1.then hbs.ch).then hc3).then hba.ch).then hc5).then hc6) hO6 ((((show Blk w2 bs v3.cells.toList e from hfl ▸ hbs.blk).ch hc3 (by simp)).ch hba.ch (by simp)).ch (hc5.then hc6) (by simp)) (by omega)
end
end Go.Proofs.E
namespace Go.Proofs.YtbecfcnbgeeghaaDoor
open Go Go.RowKit Go.Proofs.E
attribute [local irreducible] Go.wpList Go.Code.wp Go.Proofs.E.exec Go.Proofs.E.wpLexG
set_option maxHeartbeats 16000000 in
theorem holds_any (v : Value) (lv : List Hs) (I : Nat) (M : Nat) (w : World) (hK : Laid w) (hI : I < 2 ^ 64) (hM : M < 2 ^ 64) (hR : (Ty.enc eH).Rd [] w v lv) :
    Calls Tryd.prog 18 #[v, .int .u64 (I : Int), .int .u64 (M : Int)] w (Ret fun u w' => u = .bool true ∧ Ch [] w w') := by
  refine enter [v, .int .u64 (I : Int), .int .u64 (M : Int), undef, undef, undef, undef, undef, undef, undef, undef, undef, undef, undef, undef, undef, undef, undef, undef, undef, undef, undef, undef, undef, undef, undef, undef, undef, undef, undef, undef, undef, undef, undef, undef, undef, undef, undef, undef, undef, undef, undef, undef, undef, undef, undef, undef, undef, undef, undef, undef, undef, undef, undef, undef, undef, undef, undef, undef, undef, undef, undef, undef, undef, undef, undef, undef, undef, undef, undef, undef, undef, undef, undef, undef, undef, undef, undef, undef, undef, undef, undef, undef, undef, undef, undef, undef, undef, undef, undef, undef, undef, undef, undef, undef, undef, undef, undef, undef] Tryd.func18 rfl rfl ?_
  have hle := hR.le
  obtain ⟨A, cap, rfl⟩ := hR.form
  repeat (first | ((with_reducible apply is_st); refine su ?_) | ((with_reducible apply is_gd); first | refine gt ?_ | refine gf ?_ | refine gu ?_) | ((with_reducible apply is_en); refine en ?_) | (with_reducible first | apply x_then | apply wp_seq | apply c_region | apply wp_block | apply wp_skip | apply wp_exit | apply wp_ret | apply wp_label | apply wp_scope_straight | apply x_ng | apply x_ng_ret | apply x_ng_exit | apply x_then_ret | apply x_then_exit | apply x_block | apply x_block_ret | apply x_block_exit | refine x_block_other (by decide) ?_))
  (try ((with_reducible apply is_gd); first | refine gt ?_ | refine gf ?_ | refine gu ?_)); refine ca (light_any _ lv w hR) ?_
  rintro _ w1 ⟨rfl, hw1⟩
  subst hw1
  by_cases hg : lv.length ≤ 60 ∧ lv.length ≠ 0
  · obtain ⟨h60, h0⟩ := hg
    rw [decide_eq_true h60]
    have hkl : I % lv.length < lv.length := Nat.mod_lt _ (by omega)
    repeat (first | ((with_reducible apply is_st); refine su ?_) | ((with_reducible apply is_gd); first | refine gt ?_ | refine gf ?_ | refine gu ?_) | ((with_reducible apply is_en); refine en ?_) | (with_reducible first | apply x_then | apply wp_seq | apply c_region | apply wp_block | apply wp_skip | apply wp_exit | apply wp_ret | apply wp_label | apply wp_scope_straight | apply x_ng | apply x_ng_ret | apply x_ng_exit | apply x_then_ret | apply x_then_exit | apply x_block | apply x_block_ret | apply x_block_exit | refine x_block_other (by decide) ?_))
    refine c_cond rfl (fun h => absurd h (by omega)) (fun _ => ?_)
    repeat (first | ((with_reducible apply is_st); refine su ?_) | ((with_reducible apply is_gd); first | refine gt ?_ | refine gf ?_ | refine gu ?_) | ((with_reducible apply is_en); refine en ?_) | (with_reducible first | apply x_then | apply wp_seq | apply wp_block | apply wp_skip | apply wp_exit | apply wp_ret | apply wp_label | apply wp_scope_straight | apply x_ng | apply x_ng_ret | apply x_ng_exit | apply x_then_ret | apply x_then_exit | apply x_block | apply x_block_ret | apply x_block_exit | refine x_block_other (by decide) ?_))
    refine c_region ?_
    refine st ?_
    refine st ?_
    refine su ?_
    refine su ?_
    refine wl_val (r_to (r_rem rfl rfl (by omega)) (rem_to rfl)) ?_
    generalize I % lv.length = k at hkl ⊢
    repeat (first | ((with_reducible apply is_st); refine su ?_) | ((with_reducible apply is_gd); first | refine gt ?_ | refine gf ?_ | refine gu ?_) | ((with_reducible apply is_en); refine en ?_) | (with_reducible first | apply x_then | apply wp_seq | apply c_region | apply wp_block | apply wp_skip | apply wp_exit | apply wp_ret | apply wp_label | apply wp_scope_straight | apply x_ng | apply x_ng_ret | apply x_ng_exit | apply x_then_ret | apply x_then_exit | apply x_block | apply x_block_ret | apply x_block_exit | refine x_block_other (by decide) ?_))
    (try ((with_reducible apply is_gd); first | refine gt ?_ | refine gf ?_ | refine gu ?_)); refine ca (rroot_any lv.length _ lv w1 rfl hR (by omega)) ?_
    rintro _ w2 ⟨rfl, hc2⟩
    repeat (first | ((with_reducible apply is_st); refine su ?_) | ((with_reducible apply is_gd); first | refine gt ?_ | refine gf ?_ | refine gu ?_) | ((with_reducible apply is_en); refine en ?_) | (with_reducible first | apply x_then | apply wp_seq | apply c_region | apply wp_block | apply wp_skip | apply wp_exit | apply wp_ret | apply wp_label | apply wp_scope_straight | apply x_ng | apply x_ng_ret | apply x_ng_exit | apply x_then_ret | apply x_then_exit | apply x_block | apply x_block_ret | apply x_block_exit | refine x_block_other (by decide) ?_))
    refine wl_alloc (fun w3 b8 hb8 => ?_)
    have e8 := hb8.at_
    have z2 := hc2.size
    refine stbw (n := 32) (cs := (List.replicate 32 (0 : UInt8)).map u8v) hb8.blk rfl rfl (hv_len (rootH lv).2) (by simp) one_u8 (fun w4 hB8 hch4 hs4 => ?_)
    have hc4 : Ch [] w1 w4 := (hc2.then hb8.ch).own hch4 (by omega)
    have hR4 := hR.ch hc4
    have hK4 := hK.ch hc4 (by simp)
    repeat (first | ((with_reducible apply is_st); refine su ?_) | ((with_reducible apply is_gd); first | refine gt ?_ | refine gf ?_ | refine gu ?_) | ((with_reducible apply is_en); refine en ?_) | (with_reducible first | apply x_then | apply wp_seq | apply c_region | apply wp_block | apply wp_skip | apply wp_exit | apply wp_ret | apply wp_label | apply wp_scope_straight | apply x_ng | apply x_ng_ret | apply x_ng_exit | apply x_then_ret | apply x_then_exit | apply x_block | apply x_block_ret | apply x_block_exit | refine x_block_other (by decide) ?_))
    (try ((with_reducible apply is_gd); first | refine gt ?_ | refine gf ?_ | refine gu ?_)); refine ca (path_any _ lv (k : Int) w4 hK4 hR4 (by omega)) ?_
    rintro _ w5 ⟨hc5, v9, rfl, hP⟩
    have hP := hP [] (by simp)
    rw [pathZ_t hkl] at hP
    rw [inZ_t hkl]
    have hB8 := hB8.ch hc5 (by simp)
    have hR5 := hR4.ch hc5
    have hK5 := hK4.ch hc5 (by simp)
    have hc5 : Ch [] w1 w5 := hc4.then hc5
    obtain ⟨x, hx⟩ : ∃ x, lv[k]? = some x := ⟨_, List.getElem?_eq_getElem hkl⟩
    have hcp := climb_path (l := lv) (i := k) (x := x) (by omega) hx
    have hcm := climb_more (l := lv) (i := k) (x := x) (y := rootH lv) (by omega) hkl
    have hpl : (downH lv k).reverse.length ≤ lv.length := by rw [List.length_reverse]; exact down_len lv k
    have hgn : ∀ n, 1 ≤ n → n ≤ lv.length → checksZ (rootH (lv.take n)) (rootH lv) (n : Int) (lv.length : Int) (gdH n lv true).reverse = true := fun n h1 h2 => checks_grown (by omega) h1 h2
    generalize (downH lv k).reverse = p at hP hcp hcm hpl
    generalize rootH lv = root at hB8 hcp hcm hgn
    have hk1 : checkZ root (lv.length : Int) (k : Int) x p = true := by
      unfold checkZ
      rw [hcp]
      simp
    have hk2 : checkZ root (lv.length : Int) (k : Int) x (p ++ [root]) = false := by
      unfold checkZ
      rw [hcm]
      rfl
    have hT32 : ((root.1.map u8v).drop 0).take 32 = root.1.map u8v := by simp [List.take_of_length_le, root.2]
    obtain ⟨Ap, cp, rfl⟩ := hP.form
    repeat (first | ((with_reducible apply is_st); refine su ?_) | ((with_reducible apply is_gd); first | refine gt ?_ | refine gf ?_ | refine gu ?_) | ((with_reducible apply is_en); refine en ?_) | (with_reducible first | apply x_then | apply wp_seq | apply c_region | apply wp_block | apply wp_skip | apply wp_exit | apply wp_ret | apply wp_label | apply wp_scope_straight | apply x_ng | apply x_ng_ret | apply x_ng_exit | apply x_then_ret | apply x_then_exit | apply x_block | apply x_block_ret | apply x_block_exit | refine x_block_other (by decide) ?_))
    refine c_draw [] (by kernel_rfl) (by kernel_rfl) (fun w6 hc6 hs6 => ?_)
    repeat (first | ((with_reducible apply is_sg); refine sgu ?_) | ((with_reducible apply is_gg); first | refine gtg ?_ | refine gfg ?_ | refine gug ?_) | ((with_reducible apply is_eg); refine eg ?_))
    (try ((with_reducible apply is_gg); refine gtg ?_))
    refine ldbrg (n := 32) (hB8.ch hc6 (by simp)) (by simp) rfl (ds := root.1.map u8v) hT32 (by simp [root.2]) ?_
    repeat (first | ((with_reducible apply is_sg); refine sgu ?_) | ((with_reducible apply is_gg); first | refine gtg ?_ | refine gfg ?_ | refine gug ?_) | ((with_reducible apply is_eg); refine eg ?_))
    (try ((with_reducible apply is_gg); first | refine gtg ?_ | refine gfg ?_ | refine gug ?_)); refine ixg (hR5.ch hc6) (fun b5 o5 x5 hx5 hA5 => ?_)
    rw [Int.toNat_natCast, hx] at hx5
    obtain rfl := Option.some.inj hx5
    (try ((with_reducible apply is_gg); first | refine gtg ?_ | refine gfg ?_ | refine gug ?_)); refine ldrg hA5 ?_
    repeat (first | ((with_reducible apply is_sg); refine sgu ?_) | ((with_reducible apply is_gg); first | refine gtg ?_ | refine gfg ?_ | refine gug ?_) | ((with_reducible apply is_eg); refine eg ?_))
    (try ((with_reducible apply is_gg); first | refine gtg ?_ | refine gfg ?_ | refine gug ?_)); refine cag (fun w7 hc7 => check_any root (lv.length : Int) (k : Int) x (.slice Ap p.length cp) p w7 ((hK5.ch hc6 (by simp)).ch hc7 (by simp)) ((hP.ch hc6).ch hc7)) ?_
    rw [hk1]
    repeat (first | ((with_reducible apply is_sg); refine sgu ?_) | ((with_reducible apply is_gg); first | refine gtg ?_ | refine gfg ?_ | refine gug ?_) | ((with_reducible apply is_eg); refine eg ?_))
    intro w7 hc7
    have hc67 := hc6.then hc7
    have hB8 := hB8.ch hc67 (by simp)
    have hR7 := hR5.ch hc67
    have hK7 := hK5.ch hc67 (by simp)
    have hP := hP.ch hc67
    have hc7 : Ch [] w1 w7 := hc5.then hc67
    repeat (first | ((with_reducible apply is_st); refine su ?_) | ((with_reducible apply is_gd); first | refine gt ?_ | refine gf ?_ | refine gu ?_) | ((with_reducible apply is_en); refine en ?_) | (with_reducible first | apply x_then | apply wp_seq | apply wp_block | apply wp_skip | apply wp_exit | apply wp_ret | apply wp_label | apply wp_scope_straight | apply x_ng | apply x_ng_ret | apply x_ng_exit | apply x_then_ret | apply x_then_exit | apply x_block | apply x_block_ret | apply x_block_exit | refine x_block_other (by decide) ?_))
    refine c_condb rfl (fun h => by cases h) (fun _ => ?_)
    repeat (first | ((with_reducible apply is_st); refine su ?_) | ((with_reducible apply is_gd); first | refine gt ?_ | refine gf ?_ | refine gu ?_) | ((with_reducible apply is_en); refine en ?_) | (with_reducible first | apply x_then | apply wp_seq | apply wp_block | apply wp_skip | apply wp_exit | apply wp_ret | apply wp_label | apply wp_scope_straight | apply x_ng | apply x_ng_ret | apply x_ng_exit | apply x_then_ret | apply x_then_exit | apply x_block | apply x_block_ret | apply x_block_exit | refine x_block_other (by decide) ?_))
    refine c_region ?_
    refine st ?_
    refine st ?_
    refine su ?_
    refine su ?_
    refine wl_val (r_to (r_rem rfl rfl (by omega)) (rem_to rfl)) ?_
    have hml := Nat.mod_lt M (by omega : 0 < lv.length)
    generalize M % lv.length = n0 at hml ⊢
    repeat (first | ((with_reducible apply is_st); refine su ?_) | ((with_reducible apply is_gd); first | refine gt ?_ | refine gf ?_ | refine gu ?_) | ((with_reducible apply is_en); refine en ?_) | (with_reducible first | apply x_then | apply wp_seq | apply wp_block | apply wp_skip | apply wp_exit | apply wp_ret | apply wp_label | apply wp_scope_straight | apply x_ng | apply x_ng_ret | apply x_ng_exit | apply x_then_ret | apply x_then_exit | apply x_block | apply x_block_ret | apply x_block_exit | refine x_block_other (by decide) ?_))
    rw [show (1 : Int) + (n0 : Int) = ((n0 + 1 : Nat) : Int) by omega]
    obtain ⟨n, hn⟩ : ∃ n, n0 + 1 = n := ⟨_, rfl⟩
    rw [hn]
    repeat (first | ((with_reducible apply is_st); refine su ?_) | ((with_reducible apply is_gd); first | refine gt ?_ | refine gf ?_ | refine gu ?_) | ((with_reducible apply is_en); refine en ?_) | (with_reducible first | apply x_then | apply wp_seq | apply c_region | apply wp_block | apply wp_skip | apply wp_exit | apply wp_ret | apply wp_label | apply wp_scope_straight | apply x_ng | apply x_ng_ret | apply x_ng_exit | apply x_then_ret | apply x_then_exit | apply x_block | apply x_block_ret | apply x_block_exit | refine x_block_other (by decide) ?_))
    (try ((with_reducible apply is_gd); first | refine gt ?_ | refine gf ?_ | refine gu ?_)); refine ca (grown_any _ lv (n : Int) w7 hK7 hR7 (by omega)) ?_
    rintro _ w8 ⟨hc8, v12, rfl, hG⟩
    have hG := hG [] (by simp)
    rw [grownZ_t (by omega) (by omega)] at hG
    rw [inG_t (by omega) (by omega)]
    have k3 := hgn n (by omega) (by omega)
    have hB8 := hB8.ch hc8 (by simp)
    have hR8 := hR7.ch hc8
    have hK8 := hK7.ch hc8 (by simp)
    have hP := hP.ch hc8
    have hc8 : Ch [] w1 w8 := hc7.then hc8
    generalize (gdH n lv true).reverse = g at hG k3
    obtain ⟨Ag, cg, rfl⟩ := hG.form
    repeat (first | ((with_reducible apply is_st); refine su ?_) | ((with_reducible apply is_gd); first | refine gt ?_ | refine gf ?_ | refine gu ?_) | ((with_reducible apply is_en); refine en ?_) | (with_reducible first | apply x_then | apply wp_seq | apply c_region | apply wp_block | apply wp_skip | apply wp_exit | apply wp_ret | apply wp_label | apply wp_scope_straight | apply x_ng | apply x_ng_ret | apply x_ng_exit | apply x_then_ret | apply x_then_exit | apply x_block | apply x_block_ret | apply x_block_exit | refine x_block_other (by decide) ?_))
    refine c_draw [] (by kernel_rfl) (by kernel_rfl) (fun w9 hc9 hs9 => ?_)
    repeat (first | ((with_reducible apply is_sg); refine sgu ?_) | ((with_reducible apply is_gg); first | refine gtg ?_ | refine gfg ?_ | refine gug ?_) | ((with_reducible apply is_eg); refine eg ?_))
    (try ((with_reducible apply is_gg); refine gtg ?_))
    refine wg_cut_hi rfl (hR8.ch hc9) rfl rfl (by omega) (by omega) (fun u1 hU1 => ?_)
    rw [Int.toNat_natCast] at hU1
    (try ((with_reducible apply is_gg); first | refine gtg ?_ | refine gfg ?_ | refine gug ?_)); refine cag (fun w10 hc10 => rroot_any (lv.take n).length u1 (lv.take n) w10 rfl (hU1.ch hc10) (by rw [List.length_take]; omega)) ?_
    generalize rootH (lv.take n) = rn at k3
    (try ((with_reducible apply is_gg); refine gtg ?_))
    refine ldbrg (n := 32) (hB8.ch hc9 (by simp)) (by simp) rfl (ds := root.1.map u8v) hT32 (by simp [root.2]) ?_
    repeat (first | ((with_reducible apply is_sg); refine sgu ?_) | ((with_reducible apply is_gg); first | refine gtg ?_ | refine gfg ?_ | refine gug ?_) | ((with_reducible apply is_eg); refine eg ?_))
    (try ((with_reducible apply is_gg); first | refine gtg ?_ | refine gfg ?_ | refine gug ?_)); refine cag (fun w10 hc10 => checks_any rn root (n : Int) (lv.length : Int) (.slice Ag g.length cg) g w10 ((hK8.ch hc9 (by simp)).ch hc10 (by simp)) ((hG.ch hc9).ch hc10)) ?_
    rw [k3]
    repeat (first | ((with_reducible apply is_sg); refine sgu ?_) | ((with_reducible apply is_gg); first | refine gtg ?_ | refine gfg ?_ | refine gug ?_) | ((with_reducible apply is_eg); refine eg ?_))
    intro w10 hc10
    have hc910 := hc9.then hc10
    have hB8 := hB8.ch hc910 (by simp)
    have hR10 := hR8.ch hc910
    have hK10 := hK8.ch hc910 (by simp)
    have hP := hP.ch hc910
    have hc10 : Ch [] w1 w10 := hc8.then hc910
    repeat (first | ((with_reducible apply is_st); refine su ?_) | ((with_reducible apply is_gd); first | refine gt ?_ | refine gf ?_ | refine gu ?_) | ((with_reducible apply is_en); refine en ?_) | (with_reducible first | apply x_then | apply wp_seq | apply wp_block | apply wp_skip | apply wp_exit | apply wp_ret | apply wp_label | apply wp_scope_straight | apply x_ng | apply x_ng_ret | apply x_ng_exit | apply x_then_ret | apply x_then_exit | apply x_block | apply x_block_ret | apply x_block_exit | refine x_block_other (by decide) ?_))
    refine c_condb rfl (fun h => by cases h) (fun _ => ?_)
    repeat (first | ((with_reducible apply is_st); refine su ?_) | ((with_reducible apply is_gd); first | refine gt ?_ | refine gf ?_ | refine gu ?_) | ((with_reducible apply is_en); refine en ?_) | (with_reducible first | apply x_then | apply wp_seq | apply c_region | apply wp_block | apply wp_skip | apply wp_exit | apply wp_ret | apply wp_label | apply wp_scope_straight | apply x_ng | apply x_ng_ret | apply x_ng_exit | apply x_then_ret | apply x_then_exit | apply x_block | apply x_block_ret | apply x_block_exit | refine x_block_other (by decide) ?_))
    have hb8l := hB8.lt
    refine c_ordY ([], []) [] (by kernel_rfl) (by kernel_rfl) (by kernel_rfl) (fun w11 hc11 hs11 => ?_)
    have hB8' := hB8.ch hc11 (by simp)
    have hR11 := hR10.ch hc11
    refine ynlr 0 rfl (n := 32) hB8' (by omega) (by simp) rfl hT32 (by simp [root.2]) ?_
    (first | refine yn 1 rfl ?_ | refine ynt 1 rfl ?_ | refine ynff 1 rfl ?_); (first | refine yn 2 rfl ?_ | refine ynt 2 rfl ?_ | refine ynff 2 rfl ?_); (first | refine yn 3 rfl ?_ | refine ynt 3 rfl ?_ | refine ynff 3 rfl ?_); (first | refine yn 4 rfl ?_ | refine ynt 4 rfl ?_ | refine ynff 4 rfl ?_); (first | refine yn 5 rfl ?_ | refine ynt 5 rfl ?_ | refine ynff 5 rfl ?_)
    refine ynx 6 rfl hR11 rfl rfl rfl (by omega) (by omega) (fun b6 o6 x6 hx6 hA6 => ?_)
    rw [Int.toNat_natCast, hx] at hx6
    obtain rfl := Option.some.inj hx6
    have hA6b := hA6.1
    refine ynxl 7 rfl hA6 (by omega) rfl rfl ?_
    (first | refine yn 9 rfl ?_ | refine ynt 9 rfl ?_ | refine ynff 9 rfl ?_)
    refine ynlr 11 rfl (n := 32) hB8' (by omega) (by simp) rfl hT32 (by simp [root.2]) ?_
    refine wy_nf ?_
    refine yapp (en := eH) (n := 32) (ys := p) (v3 := hv root.1) 8 10 12 (by kernel_rfl) rfl rfl rfl (by decide) (Nat.le_of_ble_eq_true rfl) (by decide) (by decide) rfl rfl rfl (hP.ch hc11) rfl (by simp [hv, Value.cells, root.2]) (by decide) (by omega) (by omega) (by decide) (by kernel_rfl) (by kernel_rfl) (by kernel_rfl) (by kernel_rfl) (fun w12 v1 v2 bs hc12 hO12 hBs hbs => ?_)
    have z11 := hc11.size
    have hcl : (hv root.1).cells.toList = root.1.map u8v := by simp [hv, Value.cells]
    rw [hcl] at hBs
    refine yn1 13 (by kernel_rfl) rfl (fun w13 hc13 => ?_)
    have hO13 := hO12.ch hc13 (by simp)
    refine wl_append (en := eH) (n := 32) (v := v2) (ys := [root]) rfl rfl (by decide) rfl hO13 (Nat.le_trans hc12.size hc13.size) rfl ((hBs.ch hc13 (by simp)).row (n := 32) (o := 0) (ds := [root].flatMap eH.f) (by simp [List.take_of_length_le, root.2])) (by simp; omega) (by simp; omega) (fun v14 w14 hO14 hc14 hat => ?_)
    have z12 := hc12.size
    have z13 := hc13.size
    refine x_wy (.inl (hc14.bwl (by omega) (fun x hxm => by
      have := (hO13.lt (k := x) (by simpa using hxm)).1
      omega))) rfl ?_
    have hc1114 : Ch [] w11 w14 := ((hc12.then hc13).trans hc14 (by simp) (fun x hx hm => by
      have := (hO13.lt (k := x) (by simpa using hm)).1
      omega))
    have hV14 := hO14.rd (S := []) (by simp) (by simp; omega)
    refine yn1 14 (by kernel_rfl) rfl (fun w15 hc15 => ?_)
    have hc1115 := hc1114.then hc15
    (try ((with_reducible apply is_gd); first | refine gt ?_ | refine gf ?_ | refine gu ?_)); refine ca (check_any root (lv.length : Int) (k : Int) x v14 (p ++ [root]) w15 ((hK10.ch hc11 (by simp)).ch hc1115 (by simp)) (hV14.ch hc15)) ?_
    rw [hk2]
    rintro _ w16 ⟨rfl, hc16⟩
    refine x_wy (.inl (hc16.gy (by have := hc1115.size; omega))) rfl ?_
    (first | refine yn 15 rfl ?_ | refine ynt 15 rfl ?_ | refine ynff 15 rfl ?_); (first | refine yn 16 rfl ?_ | refine ynt 16 rfl ?_ | refine ynff 16 rfl ?_)
    refine yn1 17 (by kernel_rfl) rfl (fun w17 hc17 => ?_)
    have hc1117 := (hc1115.then hc16).then hc17
    refine gt ?_
    (try ((with_reducible apply is_gd); first | refine gt ?_ | refine gf ?_ | refine gu ?_)); refine ca (lives10_any w17 ((hK10.ch hc11 (by simp)).ch hc1117 (by simp))) ?_
    rintro _ w18 ⟨rfl, hc18⟩
    refine x_wy (.inl (hc18.gy (by have := hc1117.size; omega))) rfl ?_
    (first | refine yn 18 rfl ?_ | refine ynt 18 rfl ?_ | refine ynff 18 rfl ?_); (first | refine yn 19 rfl ?_ | refine ynt 19 rfl ?_ | refine ynff 19 rfl ?_)
    refine wy_done (by kernel_rfl) (fun w19 hc19 => ?_)
    repeat (first | ((with_reducible apply is_st); refine su ?_) | ((with_reducible apply is_gd); first | refine gt ?_ | refine gf ?_ | refine gu ?_) | ((with_reducible apply is_en); refine en ?_) | (with_reducible first | apply x_then | apply wp_seq | apply c_region | apply wp_block | apply wp_skip | apply wp_exit | apply wp_ret | apply wp_label | apply wp_scope_straight | apply x_ng | apply x_ng_ret | apply x_ng_exit | apply x_then_ret | apply x_then_exit | apply x_block | apply x_block_ret | apply x_block_exit | refine x_block_other (by decide) ?_))
    exact out1 rfl ⟨rfl, ((((hc10.then hc11).then hc1117).then hc18).then hc19)⟩
  · by_cases h60 : lv.length ≤ 60
    · rw [decide_eq_true h60]
      repeat (first | ((with_reducible apply is_st); refine su ?_) | ((with_reducible apply is_gd); first | refine gt ?_ | refine gf ?_ | refine gu ?_) | ((with_reducible apply is_en); refine en ?_) | (with_reducible first | apply x_then | apply wp_seq | apply c_region | apply wp_block | apply wp_skip | apply wp_exit | apply wp_ret | apply wp_label | apply wp_scope_straight | apply x_ng | apply x_ng_ret | apply x_ng_exit | apply x_then_ret | apply x_then_exit | apply x_block | apply x_block_ret | apply x_block_exit | refine x_block_other (by decide) ?_))
      refine c_cond rfl (fun _ => ?_) (fun h => absurd (by omega : (lv.length : Int) = 0) h)
      repeat (first | ((with_reducible apply is_st); refine su ?_) | ((with_reducible apply is_gd); first | refine gt ?_ | refine gf ?_ | refine gu ?_) | ((with_reducible apply is_en); refine en ?_) | (with_reducible first | apply x_then | apply wp_seq | apply c_region | apply wp_block | apply wp_skip | apply wp_exit | apply wp_ret | apply wp_label | apply wp_scope_straight | apply x_ng | apply x_ng_ret | apply x_ng_exit | apply x_then_ret | apply x_then_exit | apply x_block | apply x_block_ret | apply x_block_exit | refine x_block_other (by decide) ?_))
      (try ((with_reducible apply is_gd); first | refine gt ?_ | refine gf ?_ | refine gu ?_)); refine ca (lives10_any w1 hK) ?_
      rintro _ w2 ⟨rfl, hc2⟩
      repeat (first | ((with_reducible apply is_st); refine su ?_) | ((with_reducible apply is_gd); first | refine gt ?_ | refine gf ?_ | refine gu ?_) | ((with_reducible apply is_en); refine en ?_) | (with_reducible first | apply x_then | apply wp_seq | apply c_region | apply wp_block | apply wp_skip | apply wp_exit | apply wp_ret | apply wp_label | apply wp_scope_straight | apply x_ng | apply x_ng_ret | apply x_ng_exit | apply x_then_ret | apply x_then_exit | apply x_block | apply x_block_ret | apply x_block_exit | refine x_block_other (by decide) ?_))
      exact out1 rfl ⟨rfl, hc2⟩
    · rw [decide_eq_false h60]
      repeat (first | ((with_reducible apply is_st); refine su ?_) | ((with_reducible apply is_gd); first | refine gt ?_ | refine gf ?_ | refine gu ?_) | ((with_reducible apply is_en); refine en ?_) | (with_reducible first | apply x_then | apply wp_seq | apply c_region | apply wp_block | apply wp_skip | apply wp_exit | apply wp_ret | apply wp_label | apply wp_scope_straight | apply x_ng | apply x_ng_ret | apply x_ng_exit | apply x_then_ret | apply x_then_exit | apply x_block | apply x_block_ret | apply x_block_exit | refine x_block_other (by decide) ?_))
      refine c_condb rfl (fun _ => ?_) (fun h => by cases h)
      repeat (first | ((with_reducible apply is_st); refine su ?_) | ((with_reducible apply is_gd); first | refine gt ?_ | refine gf ?_ | refine gu ?_) | ((with_reducible apply is_en); refine en ?_) | (with_reducible first | apply x_then | apply wp_seq | apply c_region | apply wp_block | apply wp_skip | apply wp_exit | apply wp_ret | apply wp_label | apply wp_scope_straight | apply x_ng | apply x_ng_ret | apply x_ng_exit | apply x_then_ret | apply x_then_exit | apply x_block | apply x_block_ret | apply x_block_exit | refine x_block_other (by decide) ?_))
      (try ((with_reducible apply is_gd); first | refine gt ?_ | refine gf ?_ | refine gu ?_)); refine ca (lives10_any w1 hK) ?_
      rintro _ w2 ⟨rfl, hc2⟩
      repeat (first | ((with_reducible apply is_st); refine su ?_) | ((with_reducible apply is_gd); first | refine gt ?_ | refine gf ?_ | refine gu ?_) | ((with_reducible apply is_en); refine en ?_) | (with_reducible first | apply x_then | apply wp_seq | apply c_region | apply wp_block | apply wp_skip | apply wp_exit | apply wp_ret | apply wp_label | apply wp_scope_straight | apply x_ng | apply x_ng_ret | apply x_ng_exit | apply x_then_ret | apply x_then_exit | apply x_block | apply x_block_ret | apply x_block_exit | refine x_block_other (by decide) ?_))
      exact out1 rfl ⟨rfl, hc2⟩
end Go.Proofs.YtbecfcnbgeeghaaDoor

/- Walks: one leaf more, the reference's. -/
import Derived.Test.YtbecfcnbgeeghaaDoorPeak3
import Derived.Test.YtbecfcnbgeeghaaDoorRef2
set_option linter.unusedVariables false
set_option linter.unusedSimpArgs false
namespace Go.Proofs.E
open Go Go.RowKit
section
variable {P : Program} {ops : Array Oper} {Q : Exit → Act → World → Prop} {rest : List Oper} {l : List Value} {w : World} {op : Op} {T : TypeId} {pos : String} {after : Array Edge}
/-- append([]T{}, ys...). -/
theorem wl_append_e {α : Type} {en : En α} {n by_ : Nat} {d : Nat} {x y : Operand} {t e : TypeId} {z yv : Value} {S : List Nat} [hu : Und P t (.slice e)] [hi : Inf P e z n by_] (hm : en.n = n) (hz : z.cells.size = n)
    {base g : Nat} {ys : List α} (hx : ev l x = .slice (some ⟨g, 0, none⟩) 0 0) (hB : Blk w g [] e) (hbase : base ≤ g) (hy : ev l y = yv) (hR : (Ty.enc en).Rd S w yv ys) (hb : ys.length * by_ ≤ 140737488355328) (h63 : ys.length ≤ 281474976710656)
    (h : ∀ v' w', Own en w' base e v' ys → Ch [] w w' → wpList P ops Q rest (fr (l.set d v')) w') :
    wpList P ops Q ({ dst := some d, op := .call { callee := .builtin .append, args := #[x, y], argTypes := #[t, t] }, type := T, pos := pos, after := after, guard := none } :: rest) (fr l) w := by
  have hO : Own en w base e (.slice (some ⟨g, 0, none⟩) 0 0) ([] : List α) := ⟨by simp, .inr ⟨g, 0, #[], rfl, hbase, hB, Nat.le_refl _, by simp [maxLen], by simp, by simp⟩⟩
  by_cases hne : ys = []
  · subst hne
    obtain ⟨A, c, rfl⟩ := hR.form
    exact wl_append0 hx hO hy (h _ w hO (Ch.refl _ _))
  · obtain ⟨b, o, cap, rfl, hb1, hS, hrow⟩ := rowE hR hne
    exact wl_append_full (en := en) (xs := []) (S := []) hm hz hx (hO.rd (by simp) (by simp)) (fun _ => ⟨g, rfl⟩) (Nat.le_trans hbase (Nat.le_of_lt hB.lt)) hne hy hrow (by simpa using hb) (by simpa using h63) (fun v' w' k1 k2 _ => h v' w' (by simpa using k1) k2)
/-- x[:j:q] of a slice whose block is known. -/
theorem r_cut_own_hm {x y q : Operand} {t e : TypeId} {z : Value} {m by_ n c b o : Nat} {k k' : IntKind} {j i : Int} [hu : Und P t (.slice e)] [hi : Inf P e z m by_] (hx : ev l x = .slice (some ⟨b, o, none⟩) n c) (hy : ev l y = .int k j) (hq : ev l q = .int k' i) (h0 : 0 ≤ j) (h2 : j ≤ i) (h1 : i ≤ c) :
    (exec (ev l) (.slice t x none (some y) (some q)) T).run P w = .ok (.value (.slice (some ⟨b, o, none⟩) j.toNat i.toNat)) w := by
  have := run_cut (P := P) (w := w) (t := t) (e := e) (hu := hu) (hi := hi) (A := some ⟨b, o, none⟩) (bnd_hm (b := true) (n := n) (c := c) (k := k) (k' := k') h0 h2 h1)
  simp [exec, execOp, hx, hy, hq, this, Addr.add]
end
theorem rem2 {q : Nat} : (q : Int).tmod 2 = ((q % 2 : Nat) : Int) := by
  rw [Int.tmod_eq_emod_of_nonneg (by omega)]
  omega
theorem quo2 {q : Nat} (h : q < 2 ^ 62) : IntKind.i64.wrap ((q : Int).tdiv 2) = ((q / 2 : Nat) : Int) := by
  rw [Int.tdiv_eq_ediv_of_nonneg (by omega)]
  exact (wrap_i64 (by omega)).trans (by omega)
theorem Own.some_ {α : Type} {en : En α} {w : World} {base : Nat} {E : TypeId} {v : Value} {xs : List α} (h : Own en w base E v xs) (hne : xs ≠ []) : ∃ g cap cs, v = .slice (some ⟨g, 0, none⟩) xs.length cap ∧ base ≤ g ∧ xs.length ≤ cap ∧ Blk w g cs E ∧ cs.take (xs.length * en.n) = xs.flatMap en.f := by
  rcases h.2 with ⟨rfl, h0⟩ | ⟨g, cap, cur, rfl, hg, hh, hc1, hc2, hc3, hc4⟩
  · exact absurd (List.eq_nil_of_length_eq_zero h0) hne
  · exact ⟨g, cap, cur.toList, rfl, hg, hc1, by unfold Blk; rw [Array.toArray_toList]; exact hh, hc4⟩
end Go.Proofs.E
namespace Go.Proofs.YtbecfcnbgeeghaaDoor
open Go Go.RowKit Go.Proofs.E
attribute [local irreducible] Go.wpList Go.Code.wp Go.Proofs.E.exec Go.Proofs.E.wpLexG
theorem addH_step {ts : List Hs} {h a b : Hs} {i : Nat} (hi : i < ts.length) (ha : (addH i ts h)[ts.length - i - 1]? = some a) (hb : (addH i ts h)[ts.length - i]? = some b) : (addH i ts h).take (ts.length - i - 1) ++ [nodeH a b] = addH (i + 1) ts h := by
  unfold addH addG at *
  have hl : (ts.take (ts.length - i)).length = ts.length - i := by rw [List.length_take]; omega
  rw [List.getElem?_append_left (by omega), List.getElem?_take, if_pos (by omega)] at ha
  rw [List.getElem?_append_right (by omega), hl, Nat.sub_self, List.getElem?_cons_zero] at hb
  rw [← Option.some.inj hb, List.take_append_of_le_length (by omega), List.take_take, Nat.min_eq_left (by omega), show ts.length - (i + 1) = ts.length - i - 1 by omega]
  have hlt : ts.length - i - 1 < ts.length := by omega
  rw [List.getElem?_eq_getElem hlt] at ha
  conv => rhs; rw [List.drop_eq_getElem_cons hlt]
  rw [List.foldr_cons, Option.some.inj ha, show ts.length - i - 1 + 1 = ts.length - i by omega]
set_option maxHeartbeats 8000000 in
theorem radd_any (n : Int) (v : Value) (ts : List Hs) (h : Hs) (w : World) (hR : (Ty.enc eH).Rd [] w v ts) (hlen : ts.length ≤ 1000) :
    Calls Tryd.prog 42 #[pkV n v, hv h.1] w (Ret fun u w' => Ch [] w w' ∧
      ((okZ n ts.length = true ∧ ∃ v', u = .tuple #[pkV (n + 1) v', .bool true] ∧ ∀ S, (∀ x ∈ S, x < w.heap.size) → (Ty.enc eH).Rd S w' v' (addH (tones n.toNat) ts h)) ∨ (okZ n ts.length = false ∧ u = .tuple #[pkV n v, .bool false]))) := by
  refine enter [pkV n v, hv h.1, undef, undef, undef, undef, undef, undef, undef, undef, undef, undef, undef, undef, undef, undef, undef, undef, undef, undef, undef, undef, undef, undef, undef, undef, undef, undef, undef, undef, undef, undef, undef, undef, undef, undef, undef, undef, undef, undef, undef, undef, undef, undef, undef, undef, undef, undef, undef, undef, undef, undef, undef, undef, undef, undef] Tryd.func42 rfl rfl ?_
  obtain ⟨A, cap, rfl⟩ := hR.form
  repeat (first | ((with_reducible apply is_st); refine su ?_) | ((with_reducible apply is_gd); first | refine gt ?_ | refine gf ?_ | refine gu ?_) | ((with_reducible apply is_en); refine en ?_) | (with_reducible first | apply x_then | apply wp_seq | apply c_region | apply wp_block | apply wp_skip | apply wp_exit | apply wp_ret | apply wp_label | apply wp_scope_straight | apply x_ng | apply x_ng_ret | apply x_ng_exit | apply x_then_ret | apply x_then_exit | apply x_block | apply x_block_ret | apply x_block_exit | refine x_block_other (by decide) ?_))
  refine wl_box rfl (fun w1 b2 hb2 => ?_)
  repeat (first | ((with_reducible apply is_st); refine su ?_) | ((with_reducible apply is_gd); first | refine gt ?_ | refine gf ?_ | refine gu ?_) | ((with_reducible apply is_en); refine en ?_) | (with_reducible first | apply x_then | apply wp_seq | apply c_region | apply wp_block | apply wp_skip | apply wp_exit | apply wp_ret | apply wp_label | apply wp_scope_straight | apply x_ng | apply x_ng_ret | apply x_ng_exit | apply x_then_ret | apply x_then_exit | apply x_block | apply x_block_ret | apply x_block_exit | refine x_block_other (by decide) ?_))
  refine wl_box rfl (fun w2 b3 hb3 => ?_)
  repeat (first | ((with_reducible apply is_st); refine su ?_) | ((with_reducible apply is_gd); first | refine gt ?_ | refine gf ?_ | refine gu ?_) | ((with_reducible apply is_en); refine en ?_) | (with_reducible first | apply x_then | apply wp_seq | apply c_region | apply wp_block | apply wp_skip | apply wp_exit | apply wp_ret | apply wp_label | apply wp_scope_straight | apply x_ng | apply x_ng_ret | apply x_ng_exit | apply x_then_ret | apply x_then_exit | apply x_block | apply x_block_ret | apply x_block_exit | refine x_block_other (by decide) ?_))
  refine wl_alloc (fun w3 b4 hb4 => ?_)
  have hB4 : Blk w3 b4 [.int .i64 0, .slice none 0 0] 52 := hb4.blk
  have hB3 : Blk w3 b3 (h.1.map u8v) 26 := Blk.ch (show Blk w2 b3 (h.1.map u8v) 26 from hb3.blk) hb4.ch (by simp)
  have hB2 : Blk w3 b2 [.int .i64 n, .slice A ts.length cap] 52 := (Blk.ch (show Blk w1 b2 [.int .i64 n, .slice A ts.length cap] 52 from hb2.blk) hb3.ch (by simp)).ch hb4.ch (by simp)
  have e2 := hb2.at_
  have e3 := hb3.at_
  have e4 := hb4.at_
  have s2 := hb2.size
  have s3 := hb3.size
  have s4 := hb4.size
  have hc3 : Ch [] w w3 := (hb2.ch.then hb3.ch).then hb4.ch
  repeat (first | ((with_reducible apply is_st); refine su ?_) | ((with_reducible apply is_gd); first | refine gt ?_ | refine gf ?_ | refine gu ?_) | ((with_reducible apply is_en); refine en ?_) | (with_reducible first | apply x_then | apply wp_seq | apply c_region | apply wp_block | apply wp_skip | apply wp_exit | apply wp_ret | apply wp_label | apply wp_scope_straight | apply x_ng | apply x_ng_ret | apply x_ng_exit | apply x_then_ret | apply x_then_exit | apply x_block | apply x_block_ret | apply x_block_exit | refine x_block_other (by decide) ?_))
  refine ldbr (n := 2) hB2 rfl rfl rfl ?_
  repeat (first | ((with_reducible apply is_st); refine su ?_) | ((with_reducible apply is_gd); first | refine gt ?_ | refine gf ?_ | refine gu ?_) | ((with_reducible apply is_en); refine en ?_) | (with_reducible first | apply x_then | apply wp_seq | apply c_region | apply wp_block | apply wp_skip | apply wp_exit | apply wp_ret | apply wp_label | apply wp_scope_straight | apply x_ng | apply x_ng_ret | apply x_ng_exit | apply x_then_ret | apply x_then_exit | apply x_block | apply x_block_ret | apply x_block_exit | refine x_block_other (by decide) ?_))
  (try ((with_reducible apply is_gd); first | refine gt ?_ | refine gf ?_ | refine gu ?_)); refine ca (rgood_any n (.slice A ts.length cap) ts w3 (hR.ch hc3)) ?_
  rintro _ w4 ⟨rfl, hc4⟩
  have hB2 := hB2.ch hc4 (by simp)
  have hB3 := hB3.ch hc4 (by simp)
  have hB4 := hB4.ch hc4 (by simp)
  have hz34 := hc4.size
  have hc4 : Ch [] w w4 := hc3.then hc4
  have hz4 := hc4.size
  cases hg : goodZ n ts.length
  · repeat (first | ((with_reducible apply is_st); refine su ?_) | ((with_reducible apply is_gd); first | refine gt ?_ | refine gf ?_ | refine gu ?_) | ((with_reducible apply is_en); refine en ?_) | (with_reducible first | apply x_then | apply wp_seq | apply c_region | apply wp_block | apply wp_skip | apply wp_exit | apply wp_ret | apply wp_label | apply wp_scope_straight | apply x_ng | apply x_ng_ret | apply x_ng_exit | apply x_then_ret | apply x_then_exit | apply x_block | apply x_block_ret | apply x_block_exit | refine x_block_other (by decide) ?_))
    refine c_condb rfl (fun _ => ?_) (fun h => by cases h)
    repeat (first | ((with_reducible apply is_st); refine su ?_) | ((with_reducible apply is_gd); first | refine gt ?_ | refine gf ?_ | refine gu ?_) | ((with_reducible apply is_en); refine en ?_) | (with_reducible first | apply x_then | apply wp_seq | apply c_region | apply wp_block | apply wp_skip | apply wp_exit | apply wp_ret | apply wp_label | apply wp_scope_straight | apply x_ng | apply x_ng_ret | apply x_ng_exit | apply x_then_ret | apply x_then_exit | apply x_block | apply x_block_ret | apply x_block_exit | refine x_block_other (by decide) ?_))
    refine ldbr (n := 2) hB2 rfl rfl rfl ?_
    repeat (first | ((with_reducible apply is_st); refine su ?_) | ((with_reducible apply is_gd); first | refine gt ?_ | refine gf ?_ | refine gu ?_) | ((with_reducible apply is_en); refine en ?_) | (with_reducible first | apply x_then | apply wp_seq | apply c_region | apply wp_block | apply wp_skip | apply wp_exit | apply wp_ret | apply wp_label | apply wp_scope_straight | apply x_ng | apply x_ng_ret | apply x_ng_exit | apply x_then_ret | apply x_then_exit | apply x_block | apply x_block_ret | apply x_block_exit | refine x_block_other (by decide) ?_))
    refine stbw (n := 2) hB4 rfl rfl rfl rfl one_pk (fun w5 hB5 hch5 hs5 => ?_)
    repeat (first | ((with_reducible apply is_st); refine su ?_) | ((with_reducible apply is_gd); first | refine gt ?_ | refine gf ?_ | refine gu ?_) | ((with_reducible apply is_en); refine en ?_) | (with_reducible first | apply x_then | apply wp_seq | apply c_region | apply wp_block | apply wp_skip | apply wp_exit | apply wp_ret | apply wp_label | apply wp_scope_straight | apply x_ng | apply x_ng_ret | apply x_ng_exit | apply x_then_ret | apply x_then_exit | apply x_block | apply x_block_ret | apply x_block_exit | refine x_block_other (by decide) ?_))
    exact outc2 rfl rfl (hB5.row (n := 2) (o := 0) rfl) rfl ⟨hc4.own hch5 (by omega), .inr ⟨by simp [okZ, hg], rfl⟩⟩
  · obtain ⟨g1, g2, g3⟩ := goodZ_of hg
    obtain ⟨m, rfl⟩ := Int.eq_ofNat_of_zero_le g1
    rw [Int.toNat_natCast] at g3 ⊢
    repeat (first | ((with_reducible apply is_st); refine su ?_) | ((with_reducible apply is_gd); first | refine gt ?_ | refine gf ?_ | refine gu ?_) | ((with_reducible apply is_en); refine en ?_) | (with_reducible first | apply x_then | apply wp_seq | apply c_region | apply wp_block | apply wp_skip | apply wp_exit | apply wp_ret | apply wp_label | apply wp_scope_straight | apply x_ng | apply x_ng_ret | apply x_ng_exit | apply x_then_ret | apply x_then_exit | apply x_block | apply x_block_ret | apply x_block_exit | refine x_block_other (by decide) ?_))
    refine ldb hB2 rfl rfl ?_
    by_cases hmax : (m : Int) = 1099511627776
    · repeat (first | ((with_reducible apply is_st); refine su ?_) | ((with_reducible apply is_gd); first | refine gt ?_ | refine gf ?_ | refine gu ?_) | ((with_reducible apply is_en); refine en ?_) | (with_reducible first | apply x_then | apply wp_seq | apply c_region | apply wp_block | apply wp_skip | apply wp_exit | apply wp_ret | apply wp_label | apply wp_scope_straight | apply x_ng | apply x_ng_ret | apply x_ng_exit | apply x_then_ret | apply x_then_exit | apply x_block | apply x_block_ret | apply x_block_exit | refine x_block_other (by decide) ?_))
      refine c_condb rfl (fun _ => ?_) (fun h => absurd hmax (of_decide_eq_false h))
      repeat (first | ((with_reducible apply is_st); refine su ?_) | ((with_reducible apply is_gd); first | refine gt ?_ | refine gf ?_ | refine gu ?_) | ((with_reducible apply is_en); refine en ?_) | (with_reducible first | apply x_then | apply wp_seq | apply c_region | apply wp_block | apply wp_skip | apply wp_exit | apply wp_ret | apply wp_label | apply wp_scope_straight | apply x_ng | apply x_ng_ret | apply x_ng_exit | apply x_then_ret | apply x_then_exit | apply x_block | apply x_block_ret | apply x_block_exit | refine x_block_other (by decide) ?_))
      refine ldbr (n := 2) hB2 rfl rfl rfl ?_
      repeat (first | ((with_reducible apply is_st); refine su ?_) | ((with_reducible apply is_gd); first | refine gt ?_ | refine gf ?_ | refine gu ?_) | ((with_reducible apply is_en); refine en ?_) | (with_reducible first | apply x_then | apply wp_seq | apply c_region | apply wp_block | apply wp_skip | apply wp_exit | apply wp_ret | apply wp_label | apply wp_scope_straight | apply x_ng | apply x_ng_ret | apply x_ng_exit | apply x_then_ret | apply x_then_exit | apply x_block | apply x_block_ret | apply x_block_exit | refine x_block_other (by decide) ?_))
      refine stbw (n := 2) hB4 rfl rfl rfl rfl one_pk (fun w5 hB5 hch5 hs5 => ?_)
      repeat (first | ((with_reducible apply is_st); refine su ?_) | ((with_reducible apply is_gd); first | refine gt ?_ | refine gf ?_ | refine gu ?_) | ((with_reducible apply is_en); refine en ?_) | (with_reducible first | apply x_then | apply wp_seq | apply c_region | apply wp_block | apply wp_skip | apply wp_exit | apply wp_ret | apply wp_label | apply wp_scope_straight | apply x_ng | apply x_ng_ret | apply x_ng_exit | apply x_then_ret | apply x_then_exit | apply x_block | apply x_block_ret | apply x_block_exit | refine x_block_other (by decide) ?_))
      exact outc2 rfl rfl (hB5.row (n := 2) (o := 0) rfl) rfl ⟨hc4.own hch5 (by omega), .inr ⟨by simp [okZ, hmax], rfl⟩⟩
    · have hok : okZ (m : Int) ts.length = true := by unfold okZ; rw [hg, decide_eq_false hmax]; rfl
      have htl := (tones_le (n := m) (by omega)).1
      repeat (first | ((with_reducible apply is_st); refine su ?_) | ((with_reducible apply is_gd); first | refine gt ?_ | refine gf ?_ | refine gu ?_) | ((with_reducible apply is_en); refine en ?_) | (with_reducible first | apply x_then | apply wp_seq | apply c_region | apply wp_block | apply wp_skip | apply wp_exit | apply wp_ret | apply wp_label | apply wp_scope_straight | apply x_ng | apply x_ng_ret | apply x_ng_exit | apply x_then_ret | apply x_then_exit | apply x_block | apply x_block_ret | apply x_block_exit | refine x_block_other (by decide) ?_))
      refine c_condb rfl (fun h => absurd (of_decide_eq_true h) hmax) (fun _ => ?_)
      repeat (first | ((with_reducible apply is_st); refine su ?_) | ((with_reducible apply is_gd); first | refine gt ?_ | refine gf ?_ | refine gu ?_) | ((with_reducible apply is_en); refine en ?_) | (with_reducible first | apply x_then | apply wp_seq | apply c_region | apply wp_block | apply wp_skip | apply wp_exit | apply wp_ret | apply wp_label | apply wp_scope_straight | apply x_ng | apply x_ng_ret | apply x_ng_exit | apply x_then_ret | apply x_then_exit | apply x_block | apply x_block_ret | apply x_block_exit | refine x_block_other (by decide) ?_))
      
      refine Code.wp_mono (Q := fun e a w' => e = .normal ∧ ∃ (l : List Value) (v2 : Value), a = fr l ∧ (∃ jj : Nat → Value, l = [jj 0, jj 1, .pointer (some ⟨b2, 0, none⟩), .pointer (some ⟨b3, 0, none⟩), .pointer (some ⟨b4, 0, none⟩), jj 5, v2, jj 7, jj 8, jj 9, jj 10, jj 11, jj 12, jj 13, jj 14, jj 15, jj 16, jj 17, jj 18, jj 19, jj 20, jj 21, jj 22, jj 23, jj 24, jj 25, jj 26, jj 27, jj 28, jj 29, jj 30, jj 31, jj 32, jj 33, jj 34, jj 35, jj 36, jj 37, jj 38, jj 39, jj 40, jj 41, jj 42, jj 43, jj 44, jj 45, jj 46, jj 47, jj 48, jj 49, jj 50, jj 51, jj 52, jj 53, jj 54, jj 55]) ∧ Ch [] w4 w' ∧ Own eH w' w4.heap.size 26 v2 (ts ++ [h])) ?_ ?_
      rotate_left
      · refine c_ordl 6 [] Tru (by kernel_rfl) (by kernel_rfl) (by kernel_rfl) (fun w5 hc5 hs5 => ?_)
        have hB2' := hB2.ch hc5 (by simp)
        have hB3' := hB3.ch hc5 (by simp)
        have hc05 : Ch [] w4 w5 := hc5
        (first | refine on 1 rfl ?_ | refine ont 1 rfl ?_ | refine onff 1 rfl ?_)
        refine onl 2 rfl hB2' (by simp) rfl rfl ?_
        refine onlr 4 rfl (n := 32) hB3' (by simp) rfl (ds := h.1.map u8v) (by simp [List.take_of_length_le, h.2]) (by simp [h.2]) ?_
        refine on2 0 5 (by kernel_rfl) rfl rfl (fun w6 hG6 => ?_) (fun w6 hG6 => ?_)
        · refine wl_buildSlice (parts := []) (vs := []) rfl rfl (by simp) (by omega) (fun w7 ba hba0 => ?_)
          refine x_wa (.inl (Gr.new stab_tru hba0.ch)) rfl ?_
          have hc7 : Ch [] w4 w7 := (hc05.then hG6.ch).then hba0.ch
          have hle : w4.heap.size ≤ ba := by rw [hba0.at_]; exact (hc05.then hG6.ch).size
          refine on2 3 5 (by kernel_rfl) rfl rfl (fun w8 hG8 => ?_) (fun w8 hG8 => ?_)
          · refine wl_append_e (en := eH) (n := 32) (base := w4.heap.size) rfl rfl rfl (Blk.ch (show Blk w7 ba [] 26 from hba0.blk) hG8.ch (by simp)) hle rfl ((hR.ch hc4).ch (hc7.then hG8.ch)) (by omega) (by omega) (fun vv w9 hO0 hch0 => ?_)
            refine x_wa (.inl (Gr.new stab_tru hch0)) rfl ?_
            have hc9 : Ch [] w4 w9 := (hc7.then hG8.ch).then hch0
            refine on1 5 (by kernel_rfl) rfl (fun w10 hG10 => ?_)
            refine wl_buildSlice (parts := [(0, .tmp 22)]) (vs := [hv h.1]) rfl rfl (by simp [hv, Value.cells, h.2]) (by omega) (fun w11 bs hbs0 => ?_)
            refine x_wa (.inl (Gr.new stab_tru hbs0.ch)) rfl ?_
            have hcX : Ch [] w4 w11 := (hc9.then hG10.ch).then hbs0.ch
            have hO := hO0.ch (hG10.ch.then hbs0.ch) (by simp)
            have hbs := hbs0.blk
            refine on1 6 (by kernel_rfl) rfl (fun wa hGa => ?_)
            have hOa := hO.ch hGa.ch (by simp)
            have hBa := hbs.ch hGa.ch (by simp)
            have hlo : ∀ x, x ∈ vv.ownBlock.toList → w4.heap.size ≤ x := fun x hx => (hOa.lt (by simpa using hx)).1
            refine wl_append (en := eH) (n := 32) (ys := [h]) rfl rfl (by decide) rfl hOa (Nat.le_trans hcX.size hGa.ch.size) rfl (hBa.row (n := 32) (o := 0) (ds := [h].flatMap eH.f) (by simp [hv, Value.cells, List.take_of_length_le, h.2])) (by simp; omega) (by simp; omega) (fun v2 wb hOb hchb hatb => ?_)
            have hcb : Ch [] w4 wb := (hcX.then hGa.ch).trans hchb (by simp) (fun x hx hm => by have := hlo x hm; omega)
            refine x_wa (.inr rfl) rfl ?_
            (first | refine on 7 rfl ?_ | refine ont 7 rfl ?_ | refine onff 7 rfl ?_)
            exact wa_done (by kernel_rfl) (fun wc hGc => ⟨rfl, _, v2, rfl, exj rfl, hcb.then hGc.ch, hOb.ch hGc.ch (by simp)⟩)
          · refine wl_buildSlice (parts := [(0, .tmp 22)]) (vs := [hv h.1]) rfl rfl (by simp [hv, Value.cells, h.2]) (by omega) (fun w9 bs hbs0 => ?_)
            refine x_wa (.inl (Gr.new stab_tru hbs0.ch)) rfl ?_
            have hc9 : Ch [] w4 w9 := (hc7.then hG8.ch).then hbs0.ch
            refine on1 3 (by kernel_rfl) rfl (fun w10 hG10 => ?_)
            refine wl_append_e (en := eH) (n := 32) (base := w4.heap.size) rfl rfl rfl (((Blk.ch (show Blk w7 ba [] 26 from hba0.blk) hG8.ch (by simp)).ch hbs0.ch (by simp)).ch hG10.ch (by simp)) hle rfl ((hR.ch hc4).ch (hc9.then hG10.ch)) (by omega) (by omega) (fun vv w11 hO0 hch0 => ?_)
            refine x_wa (.inl (Gr.new stab_tru hch0)) rfl ?_
            have hcX : Ch [] w4 w11 := (hc9.then hG10.ch).then hch0
            have hO := hO0
            have hbs := hbs0.blk.ch (hG10.ch.then hch0) (by simp)
            refine on1 6 (by kernel_rfl) rfl (fun wa hGa => ?_)
            have hOa := hO.ch hGa.ch (by simp)
            have hBa := hbs.ch hGa.ch (by simp)
            have hlo : ∀ x, x ∈ vv.ownBlock.toList → w4.heap.size ≤ x := fun x hx => (hOa.lt (by simpa using hx)).1
            refine wl_append (en := eH) (n := 32) (ys := [h]) rfl rfl (by decide) rfl hOa (Nat.le_trans hcX.size hGa.ch.size) rfl (hBa.row (n := 32) (o := 0) (ds := [h].flatMap eH.f) (by simp [hv, Value.cells, List.take_of_length_le, h.2])) (by simp; omega) (by simp; omega) (fun v2 wb hOb hchb hatb => ?_)
            have hcb : Ch [] w4 wb := (hcX.then hGa.ch).trans hchb (by simp) (fun x hx hm => by have := hlo x hm; omega)
            refine x_wa (.inr rfl) rfl ?_
            (first | refine on 7 rfl ?_ | refine ont 7 rfl ?_ | refine onff 7 rfl ?_)
            exact wa_done (by kernel_rfl) (fun wc hGc => ⟨rfl, _, v2, rfl, exj rfl, hcb.then hGc.ch, hOb.ch hGc.ch (by simp)⟩)
        · refine wl_buildSlice (parts := [(0, .tmp 22)]) (vs := [hv h.1]) rfl rfl (by simp [hv, Value.cells, h.2]) (by omega) (fun w7 bs hbs0 => ?_)
          refine x_wa (.inl (Gr.new stab_tru hbs0.ch)) rfl ?_
          have hc7 : Ch [] w4 w7 := (hc05.then hG6.ch).then hbs0.ch
          refine on1 0 (by kernel_rfl) rfl (fun w8 hG8 => ?_)
          refine wl_buildSlice (parts := []) (vs := []) rfl rfl (by simp) (by omega) (fun w9 ba hba0 => ?_)
          refine x_wa (.inl (Gr.new stab_tru hba0.ch)) rfl ?_
          have hc9 : Ch [] w4 w9 := (hc7.then hG8.ch).then hba0.ch
          have hle : w4.heap.size ≤ ba := by rw [hba0.at_]; exact (hc7.then hG8.ch).size
          refine on1 3 (by kernel_rfl) rfl (fun w10 hG10 => ?_)
          refine wl_append_e (en := eH) (n := 32) (base := w4.heap.size) rfl rfl rfl (Blk.ch (show Blk w9 ba [] 26 from hba0.blk) hG10.ch (by simp)) hle rfl ((hR.ch hc4).ch (hc9.then hG10.ch)) (by omega) (by omega) (fun vv w11 hO0 hch0 => ?_)
          refine x_wa (.inl (Gr.new stab_tru hch0)) rfl ?_
          have hcX : Ch [] w4 w11 := (hc9.then hG10.ch).then hch0
          have hO := hO0
          have hbs := hbs0.blk.ch (((hG8.ch.then hba0.ch).then hG10.ch).then hch0) (by simp)
          refine on1 6 (by kernel_rfl) rfl (fun wa hGa => ?_)
          have hOa := hO.ch hGa.ch (by simp)
          have hBa := hbs.ch hGa.ch (by simp)
          have hlo : ∀ x, x ∈ vv.ownBlock.toList → w4.heap.size ≤ x := fun x hx => (hOa.lt (by simpa using hx)).1
          refine wl_append (en := eH) (n := 32) (ys := [h]) rfl rfl (by decide) rfl hOa (Nat.le_trans hcX.size hGa.ch.size) rfl (hBa.row (n := 32) (o := 0) (ds := [h].flatMap eH.f) (by simp [hv, Value.cells, List.take_of_length_le, h.2])) (by simp; omega) (by simp; omega) (fun v2 wb hOb hchb hatb => ?_)
          have hcb : Ch [] w4 wb := (hcX.then hGa.ch).trans hchb (by simp) (fun x hx hm => by have := hlo x hm; omega)
          refine x_wa (.inr rfl) rfl ?_
          (first | refine on 7 rfl ?_ | refine ont 7 rfl ?_ | refine onff 7 rfl ?_)
          exact wa_done (by kernel_rfl) (fun wc hGc => ⟨rfl, _, v2, rfl, exj rfl, hcb.then hGc.ch, hOb.ch hGc.ch (by simp)⟩)
      have hB20 := hB2
      have hB40 := hB4
      rintro e a w5 ⟨rfl, l, v2, rfl, ⟨jj, rfl⟩, hc5, hO⟩
      have hB2 := hB2.ch hc5 (by simp)
      have hB4 := hB4.ch hc5 (by simp)
      repeat (first | ((with_reducible apply is_st); refine su ?_) | ((with_reducible apply is_gd); first | refine gt ?_ | refine gf ?_ | refine gu ?_) | ((with_reducible apply is_en); refine en ?_) | (with_reducible first | apply x_then | apply wp_seq | apply c_region | apply wp_block | apply wp_skip | apply wp_exit | apply wp_ret | apply wp_label | apply wp_scope_straight | apply x_ng | apply x_ng_ret | apply x_ng_exit | apply x_then_ret | apply x_then_exit | apply x_block | apply x_block_ret | apply x_block_exit | refine x_block_other (by decide) ?_))
      refine ldb hB2 rfl rfl ?_
      repeat (first | ((with_reducible apply is_st); refine su ?_) | ((with_reducible apply is_gd); first | refine gt ?_ | refine gf ?_ | refine gu ?_) | ((with_reducible apply is_en); refine en ?_) | (with_reducible first | apply x_then | apply wp_seq | apply c_region | apply wp_block | apply wp_skip | apply wp_exit | apply wp_ret | apply wp_label | apply wp_scope_straight | apply x_ng | apply x_ng_ret | apply x_ng_exit | apply x_then_ret | apply x_then_exit | apply x_block | apply x_block_ret | apply x_block_exit | refine x_block_other (by decide) ?_))
      
      refine c_loop (fun k l w' => ∃ (i q : Nat) (vl : Value), (∃ jj : Nat → Value, l = [jj 0, jj 1, .pointer (some ⟨b2, 0, none⟩), .pointer (some ⟨b3, 0, none⟩), .pointer (some ⟨b4, 0, none⟩), jj 5, vl, .int .i64 (q : Int), jj 8, jj 9, jj 10, jj 11, jj 12, jj 13, jj 14, jj 15, jj 16, jj 17, jj 18, jj 19, jj 20, jj 21, jj 22, jj 23, jj 24, jj 25, jj 26, jj 27, jj 28, jj 29, jj 30, jj 31, jj 32, jj 33, jj 34, jj 35, jj 36, jj 37, jj 38, jj 39, jj 40, jj 41, jj 42, jj 43, jj 44, jj 45, jj 46, jj 47, jj 48, jj 49, jj 50, jj 51, jj 52, jj 53, jj 54, jj 55]) ∧ k = tones q ∧ tones m = i + tones q ∧ q < 2 ^ 62 ∧ Ch [] w4 w' ∧ Own eH w' w4.heap.size 26 vl (addH i ts h)) (tones m)
        ⟨0, m, _, exj rfl, rfl, by omega, by omega, hc5, by unfold addH addG; rw [Nat.sub_zero, List.take_length, List.drop_length]; exact hO⟩ ?_
      rintro k l w6 ⟨i, q, vl, ⟨jj, rfl⟩, rfl, hmi, hq, hc6, hO⟩
      have hal : (addH i ts h).length = ts.length - i + 1 := addG_len
      obtain ⟨g, cp, cells, rfl, hgb, hcp, hBg, hgt⟩ := hO.some_ (fun e => by rw [e] at hal; simp at hal)
      repeat (first | ((with_reducible apply is_st); refine su ?_) | ((with_reducible apply is_gd); first | refine gt ?_ | refine gf ?_ | refine gu ?_) | ((with_reducible apply is_en); refine en ?_) | (with_reducible first | apply x_then | apply wp_seq | apply c_region | apply wp_block | apply wp_skip | apply wp_exit | apply wp_ret | apply wp_label | apply wp_scope_straight | apply x_ng | apply x_ng_ret | apply x_ng_exit | apply x_then_ret | apply x_then_exit | apply x_block | apply x_block_ret | apply x_block_exit | refine x_block_other (by decide) ?_))
      rw [rem2]
      refine c_cond rfl (fun ho => ?_) (fun ho => ?_)
      · have hto := tones_odd hq (by omega)
        repeat (first | ((with_reducible apply is_st); refine su ?_) | ((with_reducible apply is_gd); first | refine gt ?_ | refine gf ?_ | refine gu ?_) | ((with_reducible apply is_en); refine en ?_) | (with_reducible first | apply x_then | apply wp_seq | apply c_region | apply wp_block | apply wp_skip | apply wp_exit | apply wp_ret | apply wp_label | apply wp_scope_straight | apply x_ng | apply x_ng_ret | apply x_ng_exit | apply x_then_ret | apply x_then_exit | apply x_block | apply x_block_ret | apply x_block_exit | refine x_block_other (by decide) ?_))
        refine c_drawl 15 [] (by kernel_rfl) (by kernel_rfl) (by kernel_rfl) (fun w8 hc8 hs8 => ?_)
        have hRd : (Ty.enc eH).Rd [] w8 (.slice (some ⟨g, 0, none⟩) (addH i ts h).length cp) (addH i ts h) := (hO.rd (S := []) (by simp) (by omega)).ch hc8
        repeat (first | ((with_reducible apply is_sg); refine sgu ?_) | ((with_reducible apply is_gg); first | refine gtg ?_ | refine gfg ?_ | refine gug ?_) | ((with_reducible apply is_eg); refine eg ?_))
        refine wg_val (fun _ _ => r_cut_own_hm rfl rfl rfl (by omega) (by omega) (by omega)) ?_
        repeat (first | ((with_reducible apply is_sg); refine sgu ?_) | ((with_reducible apply is_gg); first | refine gtg ?_ | refine gfg ?_ | refine gug ?_) | ((with_reducible apply is_eg); refine eg ?_))
        (try ((with_reducible apply is_gg); first | refine gtg ?_ | refine gfg ?_ | refine gug ?_)); refine ixg hRd (fun b1 o1 x1 hx1 hA1 => ?_)
        (try ((with_reducible apply is_gg); first | refine gtg ?_ | refine gfg ?_ | refine gug ?_)); refine ldrg hA1 ?_
        repeat (first | ((with_reducible apply is_sg); refine sgu ?_) | ((with_reducible apply is_gg); first | refine gtg ?_ | refine gfg ?_ | refine gug ?_) | ((with_reducible apply is_eg); refine eg ?_))
        (try ((with_reducible apply is_gg); first | refine gtg ?_ | refine gfg ?_ | refine gug ?_)); refine ixg hRd (fun b2' o2 x2 hx2 hA2 => ?_)
        (try ((with_reducible apply is_gg); first | refine gtg ?_ | refine gfg ?_ | refine gug ?_)); refine ldrg hA2 ?_
        (try ((with_reducible apply is_gg); first | refine gtg ?_ | refine gfg ?_ | refine gug ?_)); refine cag (fun w9 hc9 => rnode_any x1.1 x2.1 x1.2 x2.2 w9) ?_
        refine lastg rfl (by kernel_rfl) (fun w9 hc9 => ?_)
        refine wl_buildSlice (parts := [(0, .tmp 48)]) (vs := [hv (nodeH x1 x2).1]) rfl rfl (by simp [hv, Value.cells, (nodeH x1 x2).2]) (by omega) (fun w10 bs hbs => ?_)
        refine x_mid rfl hbs.ch ?_
        refine lastg rfl (by kernel_rfl) (fun w11 hc11 => ?_)
        have hi1 : i + 1 ≤ ts.length := by omega
        rw [show (((addH i ts h).length : Int) - 2).toNat = ts.length - i - 1 by omega] at hx1
        rw [show (((addH i ts h).length : Int) - 2 + 1).toNat = ts.length - i by omega] at hx2
        have hstep := addH_step (by omega) hx1 hx2
        have hc811 : Ch [] w6 w11 := ((hc8.then hc9).then hbs.ch).then hc11
        have hcl : ((addH i ts h).take (ts.length - i - 1)).length = ts.length - i - 1 := by rw [List.length_take]; omega
        have hcut : (Ty.enc eH).Rd [] w11 (.slice (some ⟨g, 0, none⟩) (ts.length - i - 1) (ts.length - i - 1)) ((addH i ts h).take (ts.length - i - 1)) := by
          refine (hBg.ch hc811 (by simp)).rdP (by simp) ?_ hcl (Nat.le_refl _) (by omega)
          have h1 : cells.take ((addH i ts h).length * 32) = (addH i ts h).flatMap eH.f := hgt
          rw [← flatMap_take eH.hl, ← h1, List.take_take, Nat.min_eq_left (Nat.mul_le_mul_right 32 (by omega))]
        rw [show (((addH i ts h).length : Int) - 2).toNat = ts.length - i - 1 by omega]
        refine wl_append_full (en := eH) (n := 32) (S := []) (xs := (addH i ts h).take (ts.length - i - 1)) (ys := [nodeH x1 x2]) rfl rfl (by rw [hcl]; rfl) (by rw [hcl]; exact hcut) (fun _ => ⟨g, rfl⟩) (Nat.le_trans hc6.size hc811.size) (by simp) rfl ((hbs.blk.ch hc11 (by simp)).row (n := 32) (o := 0) (ds := [nodeH x1 x2].flatMap eH.f) (by simp [hv, Value.cells, List.take_of_length_le, (nodeH x1 x2).2])) (by rw [hcl]; simp; omega) (by rw [hcl]; simp; omega) (fun v3 w12 hO3 hch12 _ => ?_)
        refine x_late rfl rfl ?_
        repeat (first | ((with_reducible apply is_sg); refine sgu ?_) | ((with_reducible apply is_gg); first | refine gtg ?_ | refine gfg ?_ | refine gug ?_) | ((with_reducible apply is_eg); refine eg ?_))
        intro w13 hc13
        repeat (first | ((with_reducible apply is_st); refine su ?_) | ((with_reducible apply is_gd); first | refine gt ?_ | refine gf ?_ | refine gu ?_) | ((with_reducible apply is_en); refine en ?_) | (with_reducible first | apply x_then | apply wp_seq | apply c_region | apply wp_block | apply wp_skip | apply wp_exit | apply wp_ret | apply wp_label | apply wp_scope_straight | apply x_ng | apply x_ng_ret | apply x_ng_exit | apply x_then_ret | apply x_then_exit | apply x_block | apply x_block_ret | apply x_block_exit | refine x_block_other (by decide) ?_))
        rw [quo2 hq]
        refine x_goes (tones (q / 2)) rfl (by omega) ⟨i + 1, q / 2, v3, exj rfl, rfl, by omega, by omega, ((hc6.then hc811).then hch12).then hc13, ?_⟩
        rw [← hstep]
        exact hO3.ch hc13 (by simp)
      · have hte := tones_even (n := q) (by omega)
        have hit : i = tones m := by omega
        have hB2 := hB20.ch hc6 (by simp)
        have hB4 := hB40.ch hc6 (by simp)
        repeat (first | ((with_reducible apply is_st); refine su ?_) | ((with_reducible apply is_gd); first | refine gt ?_ | refine gf ?_ | refine gu ?_) | ((with_reducible apply is_en); refine en ?_) | (with_reducible first | apply x_then | apply wp_seq | apply c_region | apply wp_block | apply wp_skip | apply wp_exit | apply wp_ret | apply wp_label | apply wp_scope_straight | apply x_ng | apply x_ng_ret | apply x_ng_exit | apply x_then_ret | apply x_then_exit | apply x_block | apply x_block_ret | apply x_block_exit | refine x_block_other (by decide) ?_))
        refine ldb hB2 rfl rfl ?_
        repeat (first | ((with_reducible apply is_st); refine su ?_) | ((with_reducible apply is_gd); first | refine gt ?_ | refine gf ?_ | refine gu ?_) | ((with_reducible apply is_en); refine en ?_) | (with_reducible first | apply x_then | apply wp_seq | apply c_region | apply wp_block | apply wp_skip | apply wp_exit | apply wp_ret | apply wp_label | apply wp_scope_straight | apply x_ng | apply x_ng_ret | apply x_ng_exit | apply x_then_ret | apply x_then_exit | apply x_block | apply x_block_ret | apply x_block_exit | refine x_block_other (by decide) ?_))
        (try ((with_reducible apply is_gd); first | refine gt ?_ | refine gf ?_ | refine gu ?_)); refine wl_val (r_build2 Tryd.underlying52 rfl rfl rfl rfl rfl rfl rfl rfl rfl rfl) ?_
        refine stbw (n := 2) (vs := [.int .i64 ((m : Int) + 1), .slice (some ⟨g, 0, none⟩) (addH i ts h).length cp]) hB4 rfl rfl rfl rfl one_pk (fun w7 hB7 hch7 hs7 => ?_)
        repeat (first | ((with_reducible apply is_st); refine su ?_) | ((with_reducible apply is_gd); first | refine gt ?_ | refine gf ?_ | refine gu ?_) | ((with_reducible apply is_en); refine en ?_) | (with_reducible first | apply x_then | apply wp_seq | apply c_region | apply wp_block | apply wp_skip | apply wp_exit | apply wp_ret | apply wp_label | apply wp_scope_straight | apply x_ng | apply x_ng_ret | apply x_ng_exit | apply x_then_ret | apply x_then_exit | apply x_block | apply x_block_ret | apply x_block_exit | refine x_block_other (by decide) ?_))
        refine outc2 rfl rfl (hB7.row (n := 2) (o := 0) rfl) rfl ⟨(hc4.then hc6).own hch7 (by omega), .inl ⟨hok, _, rfl, fun S hS => ?_⟩⟩
        rw [← hit]
        have hr := hO.rd (S := b4 :: S) (fun k hk => by
          simp only [Value.ownBlock, Option.some.injEq] at hk
          intro hm
          rcases List.mem_cons.1 hm with hm | hm
          · omega
          · have := hS _ hm
            omega) (by omega)
        exact (hr.ch (hch7.mono (fun x _ hm => by simp at hm; simp [hm]))).mv (Ch.refl S w7) (fun k _ h => List.mem_cons_of_mem _ h)
end Go.Proofs.YtbecfcnbgeeghaaDoor

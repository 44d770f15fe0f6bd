/- Walks: the root of leaves, row by row. -/
import Derived.Test.YtfldckjkipmibaaDoorTree
import Derived.Test.YtfldckjkipmibaaDoorU
set_option linter.unusedVariables false
set_option linter.unusedSimpArgs false
namespace Go.Proofs.YtfldckjkipmibaaDoor
open Go Go.RowKit Go.Proofs.E
attribute [local irreducible] Go.wpList Go.Code.wp Go.Proofs.E.exec Go.Proofs.E.wpLexG

section
variable {α : Type} {nd : α → α → α}
theorem halve_get : ∀ (n : Nat) (l : List α) (a b : α), l[2 * n]? = some a → l[2 * n + 1]? = some b → (halve nd l)[n]? = some (nd a b)
  | n, [], a, b, h, _ => by simp at h
  | n, [x], a, b, _, h => by simp at h
  | 0, x :: y :: r, a, b, h1, h2 => by
    simp at h1 h2
    subst h1 h2
    simp [halve]
  | n + 1, x :: y :: r, a, b, h1, h2 => by
    rw [halve, List.getElem?_cons_succ]
    exact halve_get n r a b (by simpa [Nat.mul_succ] using h1) (by simpa [Nat.mul_succ] using h2)
theorem halve_last : ∀ (n : Nat) (l : List α) (a : α), l.length = 2 * n + 1 → l[2 * n]? = some a → (halve nd l)[n]? = some a
  | n, [], a, h, _ => by simp at h
  | 0, [x], a, _, h => by simpa [halve] using h
  | n + 1, [x], a, h, _ => by simp at h
  | 0, x :: y :: r, a, h, _ => by simp at h
  | n + 1, x :: y :: r, a, h1, h2 => by
    rw [halve, List.getElem?_cons_succ]
    exact halve_last n r a (by simpa [Nat.mul_succ] using h1) (by simpa [Nat.mul_succ] using h2)
theorem ys_step {ys hr : List α} {n : Nat} {x : α} (h1 : ys.take n = hr.take n) (hn : n < ys.length) (hx : hr[n]? = some x) : (ys.set n x).take (n + 1) = hr.take (n + 1) := by
  rw [List.take_add_one, List.take_add_one, hx, List.getElem?_set_self hn, List.take_set, List.set_eq_of_length_le (by rw [List.length_take]; omega), h1]
end

set_option maxHeartbeats 8000000 in
theorem root_any (v : Value) (lv : List Hs) (w : World) (hK : Laid w) (hR : (Ty.enc eH).Rd [] w v lv) (hb : lv.length ≤ 1000000000) :
    Calls Tryd.prog 50 #[v] w (Ret fun u w' => u = hv (rootH lv).1 ∧ Ch [] w w') := by
  refine enter [v, undef, undef, undef, undef, undef, undef, undef, undef, undef, undef, undef, undef, undef, undef, undef, undef, undef, undef, undef, undef, undef, undef, undef, undef, undef, undef, undef, undef, undef, undef, undef, undef, undef, undef, undef, undef, undef, undef, undef, undef, undef, undef, undef, undef, undef, undef, undef, undef, undef, undef, undef, undef, undef, undef, undef, undef, undef, undef, undef] Tryd.func50 rfl rfl ?_
  obtain ⟨A, cap, rfl⟩ := hR.form
  repeat (first | ((with_reducible apply is_st); refine su ?_) | ((with_reducible apply is_gd); first | refine gt ?_ | refine gf ?_ | refine gu ?_) | ((with_reducible apply is_en); refine en ?_) | (with_reducible first | apply x_then | apply wp_seq | apply c_region | apply wp_block | apply wp_skip | apply wp_exit | apply wp_ret | apply wp_label | apply wp_scope_straight | apply x_ng | apply x_ng_ret | apply x_ng_exit | apply x_then_ret | apply x_then_exit | apply x_block | apply x_block_ret | apply x_block_exit | refine x_block_other (by decide) ?_))
  refine wl_alloc (fun w1 c hc => ?_)
  have hC1 : Blk w1 c ((List.replicate 32 (0 : UInt8)).map u8v) 29 := hc.blk
  have hcw : c = w.heap.size := hc.at_
  repeat (first | ((with_reducible apply is_st); refine su ?_) | ((with_reducible apply is_gd); first | refine gt ?_ | refine gf ?_ | refine gu ?_) | ((with_reducible apply is_en); refine en ?_) | (with_reducible first | apply x_then | apply wp_seq | apply c_region | apply wp_block | apply wp_skip | apply wp_exit | apply wp_ret | apply wp_label | apply wp_scope_straight | apply x_ng | apply x_ng_ret | apply x_ng_exit | apply x_then_ret | apply x_then_exit | apply x_block | apply x_block_ret | apply x_block_exit | refine x_block_other (by decide) ?_))
  refine c_cond rfl (fun h => ?_) (fun h => ?_)
  · have : lv = [] := List.eq_nil_of_length_eq_zero (by omega)
    subst this
    repeat (first | ((with_reducible apply is_st); refine su ?_) | ((with_reducible apply is_gd); first | refine gt ?_ | refine gf ?_ | refine gu ?_) | ((with_reducible apply is_en); refine en ?_) | (with_reducible first | apply x_then | apply wp_seq | apply c_region | apply wp_block | apply wp_skip | apply wp_exit | apply wp_ret | apply wp_label | apply wp_scope_straight | apply x_ng | apply x_ng_ret | apply x_ng_exit | apply x_then_ret | apply x_then_exit | apply x_block | apply x_block_ret | apply x_block_exit | refine x_block_other (by decide) ?_))
    (try ((with_reducible apply is_gd); first | refine gt ?_ | refine gf ?_ | refine gu ?_)); refine ca (empty_any w1 (hK.ch hc.ch (by simp))) ?_
    rintro _ w2 ⟨rfl, hc2⟩
    have hls := shaOf_len []
    repeat (first | ((with_reducible apply is_st); refine su ?_) | ((with_reducible apply is_gd); first | refine gt ?_ | refine gf ?_ | refine gu ?_) | ((with_reducible apply is_en); refine en ?_) | (with_reducible first | apply x_then | apply wp_seq | apply c_region | apply wp_block | apply wp_skip | apply wp_exit | apply wp_ret | apply wp_label | apply wp_scope_straight | apply x_ng | apply x_ng_ret | apply x_ng_exit | apply x_then_ret | apply x_then_exit | apply x_block | apply x_block_ret | apply x_block_exit | refine x_block_other (by decide) ?_))
    refine stbw (n := 32) (hC1.ch hc2 (by simp)) rfl rfl (hv_len hls) (by simp) one_u8 (fun w3 hC3 hch3 hs3 => ?_)
    repeat (first | ((with_reducible apply is_st); refine su ?_) | ((with_reducible apply is_gd); first | refine gt ?_ | refine gf ?_ | refine gu ?_) | ((with_reducible apply is_en); refine en ?_) | (with_reducible first | apply x_then | apply wp_seq | apply c_region | apply wp_block | apply wp_skip | apply wp_exit | apply wp_ret | apply wp_label | apply wp_scope_straight | apply x_ng | apply x_ng_ret | apply x_ng_exit | apply x_then_ret | apply x_then_exit | apply x_block | apply x_block_ret | apply x_block_exit | refine x_block_other (by decide) ?_))
    exact outc rfl rfl (hC3.row (n := 32) (o := 0) (ds := emptyOf.map u8v) (by simp [emptyOf, List.take_of_length_le, hls])) (by simp [emptyOf, hls]) ⟨rfl, (hc.ch.then hc2).own hch3 (by omega)⟩
  · repeat (first | ((with_reducible apply is_st); refine su ?_) | ((with_reducible apply is_gd); first | refine gt ?_ | refine gf ?_ | refine gu ?_) | ((with_reducible apply is_en); refine en ?_) | (with_reducible first | apply x_then | apply wp_seq | apply c_region | apply wp_block | apply wp_skip | apply wp_exit | apply wp_ret | apply wp_label | apply wp_scope_straight | apply x_ng | apply x_ng_ret | apply x_ng_exit | apply x_then_ret | apply x_then_exit | apply x_block | apply x_block_ret | apply x_block_exit | refine x_block_other (by decide) ?_))
    refine wl_make (n := lv.length) (c := lv.length) rfl rfl (Nat.le_refl _) (by omega) (by omega) (fun w2 bd cs hbd hcs => ?_)
    have hbc : c < bd := by rw [hbd.at_]; exact hC1.lt
    repeat (first | ((with_reducible apply is_st); refine su ?_) | ((with_reducible apply is_gd); first | refine gt ?_ | refine gf ?_ | refine gu ?_) | ((with_reducible apply is_en); refine en ?_) | (with_reducible first | apply x_then | apply wp_seq | apply c_region | apply wp_block | apply wp_skip | apply wp_exit | apply wp_ret | apply wp_label | apply wp_scope_straight | apply x_ng | apply x_ng_ret | apply x_ng_exit | apply x_then_ret | apply x_then_exit | apply x_block | apply x_block_ret | apply x_block_exit | refine x_block_other (by decide) ?_))
    refine cpE (en := eH) (m := 32) (xs := lv) rfl rfl rfl hbd.blk (hR.ch (hc.ch.then hbd.ch)) (by omega) (fun _ w3 hB3 hch3 hs3 => ?_)
    rw [List.drop_of_length_le (by omega), List.append_nil] at hB3
    have hc3 : Ch [] w w3 := (hc.ch.then hbd.ch).own hch3 (by omega)
    have hC3 := (hC1.ch hbd.ch (by simp)).ch hch3 (by simp; omega)
    repeat (first | ((with_reducible apply is_st); refine su ?_) | ((with_reducible apply is_gd); first | refine gt ?_ | refine gf ?_ | refine gu ?_) | ((with_reducible apply is_en); refine en ?_) | (with_reducible first | apply x_then | apply wp_seq | apply c_region | apply wp_block | apply wp_skip | apply wp_exit | apply wp_ret | apply wp_label | apply wp_scope_straight | apply x_ng | apply x_ng_ret | apply x_ng_exit | apply x_then_ret | apply x_then_exit | apply x_block | apply x_block_ret | apply x_block_exit | refine x_block_other (by decide) ?_))
    
    refine c_loop (fun k l w' => ∃ (row junk : List Hs), (∃ jj : Nat → Value, l = [jj 0, jj 1, .pointer (some ⟨c, 0, none⟩), .slice (some ⟨bd, 0, none⟩) row.length lv.length, jj 4, jj 5, jj 6, jj 7, jj 8, jj 9, jj 10, jj 11, jj 12, jj 13, jj 14, jj 15, jj 16, jj 17, jj 18, jj 19, jj 20, jj 21, jj 22, jj 23, jj 24, jj 25, jj 26, jj 27, jj 28, jj 29, jj 30, jj 31, jj 32, jj 33, jj 34, jj 35, jj 36, jj 37, jj 38, jj 39, jj 40, jj 41, jj 42, jj 43, jj 44, jj 45, jj 46, jj 47, jj 48, jj 49, jj 50, jj 51, jj 52, jj 53, jj 54, jj 55, jj 56, jj 57, jj 58, jj 59]) ∧ row.length = k ∧ row ≠ [] ∧ rootH row = rootH lv ∧ (row ++ junk).length = lv.length ∧ Ch [] w w' ∧ Blk w' c ((List.replicate 32 (0 : UInt8)).map u8v) 29 ∧ Blk w' bd ((row ++ junk).flatMap eH.f) 29) lv.length
      ⟨lv, [], exj rfl, rfl, by intro e; subst e; simp at h, rfl, by simp, hc3, hC3, by simpa using hB3⟩ ?_
    rintro k l w4 ⟨row, junk, ⟨jj, rfl⟩, rfl, hne, hroot, hlen, hc4, hC4, hB4⟩
    rw [List.length_append] at hlen
    repeat (first | ((with_reducible apply is_st); refine su ?_) | ((with_reducible apply is_gd); first | refine gt ?_ | refine gf ?_ | refine gu ?_) | ((with_reducible apply is_en); refine en ?_) | (with_reducible first | apply x_then | apply wp_seq | apply c_region | apply wp_block | apply wp_skip | apply wp_exit | apply wp_ret | apply wp_label | apply wp_scope_straight | apply x_ng | apply x_ng_ret | apply x_ng_exit | apply x_then_ret | apply x_then_exit | apply x_block | apply x_block_ret | apply x_block_exit | refine x_block_other (by decide) ?_))
    refine c_cond rfl (fun h1 => ?_) (fun h1 => ?_)
    · repeat (first | ((with_reducible apply is_st); refine su ?_) | ((with_reducible apply is_gd); first | refine gt ?_ | refine gf ?_ | refine gu ?_) | ((with_reducible apply is_en); refine en ?_) | (with_reducible first | apply x_then | apply wp_seq | apply c_region | apply wp_block | apply wp_skip | apply wp_exit | apply wp_ret | apply wp_label | apply wp_scope_straight | apply x_ng | apply x_ng_ret | apply x_ng_exit | apply x_then_ret | apply x_then_exit | apply x_block | apply x_block_ret | apply x_block_exit | refine x_block_other (by decide) ?_))
      
      refine c_loop (fun k l w' => ∃ (n : Nat) (ys : List Hs), (∃ jj : Nat → Value, l = [jj 0, jj 1, .pointer (some ⟨c, 0, none⟩), .slice (some ⟨bd, 0, none⟩) row.length lv.length, .int .i64 (n : Int), .int .i64 (2 * (n : Int)), jj 6, jj 7, jj 8, jj 9, jj 10, jj 11, jj 12, jj 13, jj 14, jj 15, jj 16, jj 17, jj 18, jj 19, jj 20, jj 21, jj 22, jj 23, jj 24, jj 25, jj 26, jj 27, jj 28, jj 29, jj 30, jj 31, jj 32, jj 33, jj 34, jj 35, jj 36, jj 37, jj 38, jj 39, jj 40, jj 41, jj 42, jj 43, jj 44, jj 45, jj 46, jj 47, jj 48, jj 49, jj 50, jj 51, jj 52, jj 53, jj 54, jj 55, jj 56, jj 57, jj 58, jj 59]) ∧ k + n = (row.length + 1) / 2 + 1 ∧ 2 * n ≤ row.length + 1 ∧ ys.length = lv.length ∧ ys.take n = (halve nodeH row).take n ∧ (∀ j, n ≤ j → j < row.length → ys[j]? = row[j]?) ∧ Ch [] w w' ∧ Blk w' c ((List.replicate 32 (0 : UInt8)).map u8v) 29 ∧ Blk w' bd (ys.flatMap eH.f) 29) ((row.length + 1) / 2 + 1)
        ⟨0, row ++ junk, exj rfl, rfl, by omega, by simp; omega, by simp, fun j _ hj => by rw [List.getElem?_append_left hj], hc4, hC4, hB4⟩ ?_
      rintro k l w5 ⟨n, ys, ⟨jj, rfl⟩, hkn, hn2, hyl, hyt, hyj, hc5, hC5, hB5⟩
      repeat (first | ((with_reducible apply is_st); refine su ?_) | ((with_reducible apply is_gd); first | refine gt ?_ | refine gf ?_ | refine gu ?_) | ((with_reducible apply is_en); refine en ?_) | (with_reducible first | apply x_then | apply wp_seq | apply c_region | apply wp_block | apply wp_skip | apply wp_exit | apply wp_ret | apply wp_label | apply wp_scope_straight | apply x_ng | apply x_ng_ret | apply x_ng_exit | apply x_then_ret | apply x_then_exit | apply x_block | apply x_block_ret | apply x_block_exit | refine x_block_other (by decide) ?_))
      refine c_cond rfl (fun h2 => ?_) (fun h2 => ?_)
      · repeat (first | ((with_reducible apply is_st); refine su ?_) | ((with_reducible apply is_gd); first | refine gt ?_ | refine gf ?_ | refine gu ?_) | ((with_reducible apply is_en); refine en ?_) | (with_reducible first | apply x_then | apply wp_seq | apply c_region | apply wp_block | apply wp_skip | apply wp_exit | apply wp_ret | apply wp_label | apply wp_scope_straight | apply x_ng | apply x_ng_ret | apply x_ng_exit | apply x_then_ret | apply x_then_exit | apply x_block | apply x_block_ret | apply x_block_exit | refine x_block_other (by decide) ?_))
        obtain ⟨a, ha⟩ : ∃ a, row[2 * n]? = some a := ⟨_, List.getElem?_eq_getElem (by omega)⟩
        obtain ⟨b, hb'⟩ : ∃ b, row[2 * n + 1]? = some b := ⟨_, List.getElem?_eq_getElem (by omega)⟩
        refine c_drawl 13 [] (by kernel_rfl) (by kernel_rfl) (by kernel_rfl) (fun w6 hc6 hs6 => ?_)
        have hB6 := hB5.ch hc6 (by simp)
        have hRd : (Ty.enc eH).Rd [] w6 (.slice (some ⟨bd, 0, none⟩) row.length lv.length) (ys.take row.length) := by
          have := hB6.rdE (S := []) (o := 0) (m := row.length) (cap := lv.length) (by simp) (by omega) (by omega) (by omega)
          simpa using this
        have hlt : (ys.take row.length).length = row.length := by rw [List.length_take]; omega
        have hg : ∀ {j : Nat} {x : Hs} {q : Int}, (ys.take row.length)[q.toNat]? = some x → q = (j : Int) → n ≤ j → j < row.length → row[j]? = some x := by
          intro j x q hx hq h1 h2
          subst hq
          rw [Int.toNat_natCast, List.getElem?_take, if_pos h2, hyj j h1 h2] at hx
          exact hx
        repeat (first | ((with_reducible apply is_sg); refine sgu ?_) | ((with_reducible apply is_gg); first | refine gtg ?_ | refine gfg ?_ | refine gug ?_) | ((with_reducible apply is_eg); refine eg ?_))
        (try ((with_reducible apply is_gg); first | refine gtg ?_ | refine gfg ?_ | refine gug ?_)); refine ixg hRd (fun b1 o1 x1 hx1 hA1 => ?_)
        rw [hg (j := 2 * n) hx1 (by omega) (by omega) (by omega)] at ha
        obtain rfl := Option.some.inj ha
        (try ((with_reducible apply is_gg); first | refine gtg ?_ | refine gfg ?_ | refine gug ?_)); refine ldrg hA1 ?_
        repeat (first | ((with_reducible apply is_sg); refine sgu ?_) | ((with_reducible apply is_gg); first | refine gtg ?_ | refine gfg ?_ | refine gug ?_) | ((with_reducible apply is_eg); refine eg ?_))
        (try ((with_reducible apply is_gg); first | refine gtg ?_ | refine gfg ?_ | refine gug ?_)); refine ixg hRd (fun b2 o2 x2 hx2 hA2 => ?_)
        rw [hg (j := 2 * n + 1) hx2 (by omega) (by omega) (by omega)] at hb'
        obtain rfl := Option.some.inj hb'
        (try ((with_reducible apply is_gg); first | refine gtg ?_ | refine gfg ?_ | refine gug ?_)); refine ldrg hA2 ?_
        repeat (first | ((with_reducible apply is_sg); refine sgu ?_) | ((with_reducible apply is_gg); first | refine gtg ?_ | refine gfg ?_ | refine gug ?_) | ((with_reducible apply is_eg); refine eg ?_))
        (try ((with_reducible apply is_gg); first | refine gtg ?_ | refine gfg ?_ | refine gug ?_)); refine cag (fun w7 hc7 => node_any x1.1 x2.1 x1.2 x2.2 w7 (((hK.ch hc5 (by simp)).ch hc6 (by simp)).ch hc7 (by simp))) ?_
        refine wg_val (fun _ _ => r_indexAddr rfl rfl (by omega) (by omega)) ?_
        refine lastg rfl (by kernel_rfl) (fun w7 hc7 => ?_)
        refine stE (en := eH) (n := 32) (i := n) (a := nodeH x1 x2) rfl (hB6.ch hc7 (by simp)) rfl rfl (by omega) (by omega) (fun w8 hB8 hch8 hs8 => ?_)
        refine x_last rfl rfl (fun w9 hc9 => ?_)
        have hc59 : Ch [bd] w5 w9 := (((Ch.some hc6).add hc7).then hch8).add hc9
        repeat (first | ((with_reducible apply is_st); refine su ?_) | ((with_reducible apply is_gd); first | refine gt ?_ | refine gf ?_ | refine gu ?_) | ((with_reducible apply is_en); refine en ?_) | (with_reducible first | apply x_then | apply wp_seq | apply c_region | apply wp_block | apply wp_skip | apply wp_exit | apply wp_ret | apply wp_label | apply wp_scope_straight | apply x_ng | apply x_ng_ret | apply x_ng_exit | apply x_then_ret | apply x_then_exit | apply x_block | apply x_block_ret | apply x_block_exit | refine x_block_other (by decide) ?_))
        refine x_goes (k - 1) rfl (by omega) ⟨n + 1, ys.set n (nodeH x1 x2), exj (by rw [show 2 * ((n + 1 : Nat) : Int) = 2 * (n : Int) + 2 by omega]; rfl), by omega, by omega, by simp; omega, ?_, ?_, hc5.own hc59 (by omega), hC5.ch hc59 (by simp; omega), hB8.ch hc9 (by simp)⟩
        · exact ys_step hyt (by omega) (halve_get n row x1 x2 (hg hx1 (by omega) (by omega) (by omega)) (hg hx2 (by omega) (by omega) (by omega)))
        · intro j h1 h2
          rw [List.getElem?_set_ne (by omega)]
          exact hyj j (by omega) h2
      · repeat (first | ((with_reducible apply is_st); refine su ?_) | ((with_reducible apply is_gd); first | refine gt ?_ | refine gf ?_ | refine gu ?_) | ((with_reducible apply is_en); refine en ?_) | (with_reducible first | apply x_then | apply wp_seq | apply c_region | apply wp_block | apply wp_skip | apply wp_exit | apply wp_ret | apply wp_label | apply wp_scope_straight | apply x_ng | apply x_ng_ret | apply x_ng_exit | apply x_then_ret | apply x_then_exit | apply x_block | apply x_block_ret | apply x_block_exit | refine x_block_other (by decide) ?_))
        refine c_cond rfl (fun h3 => ?_) (fun h3 => ?_)
        · repeat (first | ((with_reducible apply is_st); refine su ?_) | ((with_reducible apply is_gd); first | refine gt ?_ | refine gf ?_ | refine gu ?_) | ((with_reducible apply is_en); refine en ?_) | (with_reducible first | apply x_then | apply wp_seq | apply c_region | apply wp_block | apply wp_skip | apply wp_exit | apply wp_ret | apply wp_label | apply wp_scope_straight | apply x_ng | apply x_ng_ret | apply x_ng_exit | apply x_then_ret | apply x_then_exit | apply x_block | apply x_block_ret | apply x_block_exit | refine x_block_other (by decide) ?_))
          obtain ⟨a, ha⟩ : ∃ a, row[2 * n]? = some a := ⟨_, List.getElem?_eq_getElem (by omega)⟩
          have hRd : (Ty.enc eH).Rd [] w5 (.slice (some ⟨bd, 0, none⟩) row.length lv.length) (ys.take row.length) := by
            have := hB5.rdE (S := []) (o := 0) (m := row.length) (cap := lv.length) (by simp) (by omega) (by omega) (by omega)
            simpa using this
          have hlt : (ys.take row.length).length = row.length := by rw [List.length_take]; omega
          (try ((with_reducible apply is_gd); first | refine gt ?_ | refine gf ?_ | refine gu ?_)); refine ix hRd (fun b1 o1 x1 hx1 hA1 => ?_)
          rw [show (2 * (n : Int)).toNat = 2 * n by omega, List.getElem?_take, if_pos (by omega), hyj _ (by omega) (by omega), ha] at hx1
          obtain rfl := Option.some.inj hx1
          (try ((with_reducible apply is_gd); first | refine gt ?_ | refine gf ?_ | refine gu ?_)); refine ldr hA1 ?_
          repeat (first | ((with_reducible apply is_st); refine su ?_) | ((with_reducible apply is_gd); first | refine gt ?_ | refine gf ?_ | refine gu ?_) | ((with_reducible apply is_en); refine en ?_) | (with_reducible first | apply x_then | apply wp_seq | apply c_region | apply wp_block | apply wp_skip | apply wp_exit | apply wp_ret | apply wp_label | apply wp_scope_straight | apply x_ng | apply x_ng_ret | apply x_ng_exit | apply x_then_ret | apply x_then_exit | apply x_block | apply x_block_ret | apply x_block_exit | refine x_block_other (by decide) ?_))
          refine wl_val (r_indexAddr rfl rfl (by omega) (by omega)) ?_
          refine stE (en := eH) (n := 32) (i := n) (a := a) rfl hB5 rfl rfl (by omega) (by omega) (fun w8 hB8 hch8 hs8 => ?_)
          repeat (first | ((with_reducible apply is_st); refine su ?_) | ((with_reducible apply is_gd); first | refine gt ?_ | refine gf ?_ | refine gu ?_) | ((with_reducible apply is_en); refine en ?_) | (with_reducible first | apply x_then | apply wp_seq | apply c_region | apply wp_block | apply wp_skip | apply wp_exit | apply wp_ret | apply wp_label | apply wp_scope_straight | apply x_ng | apply x_ng_ret | apply x_ng_exit | apply x_then_ret | apply x_then_exit | apply x_block | apply x_block_ret | apply x_block_exit | refine x_block_other (by decide) ?_))
          refine x_goes (k - 1) rfl (by omega) ⟨n + 1, ys.set n a, exj (by rw [show 2 * ((n + 1 : Nat) : Int) = 2 * (n : Int) + 2 by omega]; rfl), by omega, by omega, by simp; omega, ?_, ?_, hc5.own hch8 (by omega), hC5.ch hch8 (by simp; omega), hB8⟩
          · exact ys_step hyt (by omega) (halve_last n row a (by omega) ha)
          · intro j h1 h2
            rw [List.getElem?_set_ne (by omega)]
            exact hyj j (by omega) h2
        · repeat (first | ((with_reducible apply is_st); refine su ?_) | ((with_reducible apply is_gd); first | refine gt ?_ | refine gf ?_ | refine gu ?_) | ((with_reducible apply is_en); refine en ?_) | (with_reducible first | apply x_then | apply wp_seq | apply c_region | apply wp_block | apply wp_skip | apply wp_exit | apply wp_ret | apply wp_label | apply wp_scope_straight | apply x_ng | apply x_ng_ret | apply x_ng_exit | apply x_then_ret | apply x_then_exit | apply x_block | apply x_block_ret | apply x_block_exit | refine x_block_other (by decide) ?_))
          refine wl_val (r_cut_own rfl rfl (by omega) (by omega)) ?_
          rw [Int.toNat_natCast]
          repeat (first | ((with_reducible apply is_st); refine su ?_) | ((with_reducible apply is_gd); first | refine gt ?_ | refine gf ?_ | refine gu ?_) | ((with_reducible apply is_en); refine en ?_) | (with_reducible first | apply x_then | apply wp_seq | apply c_region | apply wp_block | apply wp_skip | apply wp_exit | apply wp_ret | apply wp_label | apply wp_scope_straight | apply x_ng | apply x_ng_ret | apply x_ng_exit | apply x_then_ret | apply x_then_exit | apply x_block | apply x_block_ret | apply x_block_exit | refine x_block_other (by decide) ?_))
          have hhl := halve_len (nd := nodeH) row
          have hn3 : n = (halve nodeH row).length := by omega
          have hys : ys = halve nodeH row ++ ys.drop n := by
            conv => lhs; rw [← List.take_append_drop n ys]
            rw [hyt, hn3, List.take_length]
          refine x_goes n rfl (by omega) ⟨halve nodeH row, ys.drop n, exj (by rw [← hn3]; rfl), hn3.symm, ?_, ?_, ?_, hc5, hC5, ?_⟩
          · intro e
            rw [e] at hn3
            simp at hn3
            omega
          · rw [← hroot]
            exact root_halve row.length row rfl (by omega)
          · rw [← hys]
            exact hyl
          · rw [← hys]
            exact hB5
    · repeat (first | ((with_reducible apply is_st); refine su ?_) | ((with_reducible apply is_gd); first | refine gt ?_ | refine gf ?_ | refine gu ?_) | ((with_reducible apply is_en); refine en ?_) | (with_reducible first | apply x_then | apply wp_seq | apply c_region | apply wp_block | apply wp_skip | apply wp_exit | apply wp_ret | apply wp_label | apply wp_scope_straight | apply x_ng | apply x_ng_ret | apply x_ng_exit | apply x_then_ret | apply x_then_exit | apply x_block | apply x_block_ret | apply x_block_exit | refine x_block_other (by decide) ?_))
      have hl1 : row.length = 1 := by
        have := List.length_pos_iff.2 hne
        omega
      match row, hl1 with
      | [a], _ =>
        have hRd : (Ty.enc eH).Rd [] w4 (.slice (some ⟨bd, 0, none⟩) 1 lv.length) [a] := by
          have := hB4.rdE (S := []) (o := 0) (m := 1) (cap := lv.length) (by simp) (by simp) (by simp at hlen; omega) (by omega)
          simpa using this
        (try ((with_reducible apply is_gd); first | refine gt ?_ | refine gf ?_ | refine gu ?_)); refine ix hRd (fun b1 o1 x1 hx1 hA1 => ?_)
        obtain rfl := Option.some.inj hx1
        (try ((with_reducible apply is_gd); first | refine gt ?_ | refine gf ?_ | refine gu ?_)); refine ldr hA1 ?_
        repeat (first | ((with_reducible apply is_st); refine su ?_) | ((with_reducible apply is_gd); first | refine gt ?_ | refine gf ?_ | refine gu ?_) | ((with_reducible apply is_en); refine en ?_) | (with_reducible first | apply x_then | apply wp_seq | apply c_region | apply wp_block | apply wp_skip | apply wp_exit | apply wp_ret | apply wp_label | apply wp_scope_straight | apply x_ng | apply x_ng_ret | apply x_ng_exit | apply x_then_ret | apply x_then_exit | apply x_block | apply x_block_ret | apply x_block_exit | refine x_block_other (by decide) ?_))
        refine stbw (n := 32) hC4 rfl rfl (by simp [a.2]) (by simp) one_u8 (fun w5 hC5 hch5 hs5 => ?_)
        repeat (first | ((with_reducible apply is_st); refine su ?_) | ((with_reducible apply is_gd); first | refine gt ?_ | refine gf ?_ | refine gu ?_) | ((with_reducible apply is_en); refine en ?_) | (with_reducible first | apply x_then | apply wp_seq | apply c_region | apply wp_block | apply wp_skip | apply wp_exit | apply wp_ret | apply wp_label | apply wp_scope_straight | apply x_ng | apply x_ng_ret | apply x_ng_exit | apply x_then_ret | apply x_then_exit | apply x_block | apply x_block_ret | apply x_block_exit | refine x_block_other (by decide) ?_))
        refine outc rfl rfl (hC5.row (n := 32) (o := 0) (ds := a.1.map u8v) (by simp [List.take_of_length_le, a.2])) (by simp [a.2]) ⟨?_, hc4.own hch5 (by omega)⟩
        rw [← hroot]
        rfl
end Go.Proofs.YtfldckjkipmibaaDoor

/- Walks: the peaks of leaves, the program's and the reference's; the very same hashes? -/
import Derived.Test.YtbecfcnbgeeghaaDoorPeak4
set_option linter.unusedVariables false
set_option linter.unusedSimpArgs false
namespace Go.Proofs.YtbecfcnbgeeghaaDoor
open Go Go.RowKit Go.Proofs.E
attribute [local irreducible] Go.wpList Go.Code.wp Go.Proofs.E.exec Go.Proofs.E.wpLexG
theorem popN_small {n : Nat} (h : n ≤ 60) : okZ (n : Int) (popN n) = true := by
  unfold okZ goodZ
  rw [Int.toNat_natCast, decide_eq_true (by omega : (0 : Int) ≤ (n : Int)), decide_eq_true (by omega : (n : Int) ≤ 1099511627776), decide_eq_false (by omega : ¬ (n : Int) = 1099511627776), decide_eq_true rfl]
  rfl
theorem pkH_step {lv : List Hs} {i : Nat} {x : Hs} (hx : lv[i]? = some x) (h : lv.length ≤ 60) : addH (tones i) (pkH (lv.take i)) x = pkH (lv.take (i + 1)) := by
  have hi := (List.getElem?_eq_some_iff.1 hx).1
  have hl : (lv.take i).length = i := by rw [List.length_take]; omega
  have := add_pk (nd := nodeH) (em := emptyH) i (lv.take i) x hl (by omega)
  rw [hl] at this
  unfold addH pkH
  rw [this, List.take_add_one, hx]
  rfl
theorem pkH_len (l : List Hs) : (pkH l).length = popN l.length := pkG_len l
set_option maxHeartbeats 8000000 in
theorem pof_any (v : Value) (lv : List Hs) (w : World) (hK : Laid w) (hL : LaidB w) (hR : (Ty.enc eH).Rd [] w v lv) (hlen : lv.length ≤ 60) :
    Calls Tryd.prog 49 #[v] w (Ret fun u w' => Ch [] w w' ∧ ∃ v', u = pkV (lv.length : Int) v' ∧ ∀ S, (∀ x ∈ S, x < w.heap.size) → (Ty.enc eH).Rd S w' v' (pkH lv)) := by
  refine enter [v, undef, undef, undef, undef, undef, undef, undef, undef, undef, undef, undef, undef, undef, undef, undef, undef, undef, undef, undef] Tryd.func49 rfl rfl ?_
  obtain ⟨A, cap, rfl⟩ := hR.form
  repeat (first | ((with_reducible apply is_st); refine su ?_) | ((with_reducible apply is_gd); first | refine gt ?_ | refine gf ?_ | refine gu ?_) | ((with_reducible apply is_en); refine en ?_) | (with_reducible first | apply x_then | apply wp_seq | apply c_region | apply wp_block | apply wp_skip | apply wp_exit | apply wp_ret | apply wp_label | apply wp_scope_straight | apply x_ng | apply x_ng_ret | apply x_ng_exit | apply x_then_ret | apply x_then_exit | apply x_block | apply x_block_ret | apply x_block_exit | refine x_block_other (by decide) ?_))
  refine wl_alloc (fun w1 b1 hb1 => ?_)
  repeat (first | ((with_reducible apply is_st); refine su ?_) | ((with_reducible apply is_gd); first | refine gt ?_ | refine gf ?_ | refine gu ?_) | ((with_reducible apply is_en); refine en ?_) | (with_reducible first | apply x_then | apply wp_seq | apply c_region | apply wp_block | apply wp_skip | apply wp_exit | apply wp_ret | apply wp_label | apply wp_scope_straight | apply x_ng | apply x_ng_ret | apply x_ng_exit | apply x_then_ret | apply x_then_exit | apply x_block | apply x_block_ret | apply x_block_exit | refine x_block_other (by decide) ?_))
  refine wl_alloc (fun w2 b2 hb2 => ?_)
  have hB2 : Blk w2 b2 [.int .i64 0, .slice none 0 0] 51 := hb2.blk
  have hB1 : Blk w2 b1 [.int .i64 0, .slice none 0 0] 51 := Blk.ch (show Blk w1 b1 [.int .i64 0, .slice none 0 0] 51 from hb1.blk) hb2.ch (by simp)
  have e1 := hb1.at_
  have e2 := hb2.at_
  have s1 := hb1.size
  have s2 := hb2.size
  have hc2 : Ch [] w w2 := hb1.ch.then hb2.ch
  repeat (first | ((with_reducible apply is_st); refine su ?_) | ((with_reducible apply is_gd); first | refine gt ?_ | refine gf ?_ | refine gu ?_) | ((with_reducible apply is_en); refine en ?_) | (with_reducible first | apply x_then | apply wp_seq | apply c_region | apply wp_block | apply wp_skip | apply wp_exit | apply wp_ret | apply wp_label | apply wp_scope_straight | apply x_ng | apply x_ng_ret | apply x_ng_exit | apply x_then_ret | apply x_then_exit | apply x_block | apply x_block_ret | apply x_block_exit | refine x_block_other (by decide) ?_))
  
  refine c_loop (fun k l w' => ∃ (i : Nat) (vp : Value), (∃ jj : Nat → Value, l = [jj 0, jj 1, .pointer (some ⟨b1, 0, none⟩), .pointer (some ⟨b2, 0, none⟩), jj 4, jj 5, .slice A lv.length cap, .int .i64 (lv.length : Int), .int .i64 (i : Int), jj 9, jj 10, jj 11, jj 12, jj 13, jj 14, jj 15, jj 16, jj 17, jj 18, jj 19]) ∧ k + i = lv.length ∧ Ch [] w w' ∧ w2.heap.size ≤ w'.heap.size ∧ Blk w' b1 [.int .i64 0, .slice none 0 0] 51 ∧ Blk w' b2 [.int .i64 (i : Int), vp] 51 ∧ ∀ S, (∀ x ∈ S, x < w2.heap.size) → (Ty.enc eH).Rd S w' vp (pkH (lv.take i))) lv.length
    ⟨0, _, exj rfl, rfl, hc2, Nat.le_refl _, hB1, hB2, fun S hS => by rw [List.take_zero, show pkH [] = [] from pkG_nil]; exact Ty.Rd.nil _ _ _ _ _⟩ ?_
  rintro k l w3 ⟨i, vp, ⟨jj, rfl⟩, hki, hc3, hz3, hB1, hB2, hP⟩
  have hpl := pkH_len (lv.take i)
  obtain ⟨Ap, cp, rfl⟩ := (hP [] (by simp)).form
  repeat (first | ((with_reducible apply is_st); refine su ?_) | ((with_reducible apply is_gd); first | refine gt ?_ | refine gf ?_ | refine gu ?_) | ((with_reducible apply is_en); refine en ?_) | (with_reducible first | apply x_then | apply wp_seq | apply c_region | apply wp_block | apply wp_skip | apply wp_exit | apply wp_ret | apply wp_label | apply wp_scope_straight | apply x_ng | apply x_ng_ret | apply x_ng_exit | apply x_then_ret | apply x_then_exit | apply x_block | apply x_block_ret | apply x_block_exit | refine x_block_other (by decide) ?_))
  refine c_cond rfl (fun hi => ?_) (fun hi => ?_)
  · have hil : (lv.take i).length = i := by rw [List.length_take]; omega
    rw [hil] at hpl
    have hbl := bitsDown_len i 63
    have hpop : popN i ≤ 63 := hbl
    repeat (first | ((with_reducible apply is_st); refine su ?_) | ((with_reducible apply is_gd); first | refine gt ?_ | refine gf ?_ | refine gu ?_) | ((with_reducible apply is_en); refine en ?_) | (with_reducible first | apply x_then | apply wp_seq | apply c_region | apply wp_block | apply wp_skip | apply wp_exit | apply wp_ret | apply wp_label | apply wp_scope_straight | apply x_ng | apply x_ng_ret | apply x_ng_exit | apply x_then_ret | apply x_then_exit | apply x_block | apply x_block_ret | apply x_block_exit | refine x_block_other (by decide) ?_))
    (try ((with_reducible apply is_gd); first | refine gt ?_ | refine gf ?_ | refine gu ?_)); refine ix (hR.ch hc3) (fun b5 o5 x5 hx5 hA5 => ?_)
    rw [Int.toNat_natCast] at hx5
    (try ((with_reducible apply is_gd); first | refine gt ?_ | refine gf ?_ | refine gu ?_)); refine ldr hA5 ?_
    repeat (first | ((with_reducible apply is_st); refine su ?_) | ((with_reducible apply is_gd); first | refine gt ?_ | refine gf ?_ | refine gu ?_) | ((with_reducible apply is_en); refine en ?_) | (with_reducible first | apply x_then | apply wp_seq | apply c_region | apply wp_block | apply wp_skip | apply wp_exit | apply wp_ret | apply wp_label | apply wp_scope_straight | apply x_ng | apply x_ng_ret | apply x_ng_exit | apply x_then_ret | apply x_then_exit | apply x_block | apply x_block_ret | apply x_block_exit | refine x_block_other (by decide) ?_))
    refine wl_alloc (fun w4 b3 hb3 => ?_)
    have e3 := hb3.at_
    refine stbw (n := 32) (cs := (List.replicate 32 (0 : UInt8)).map u8v) hb3.blk rfl rfl (hv_len x5.2) (by simp) one_u8 (fun w5 hB5 hch5 hs5 => ?_)
    have hz4 := hb3.ch.size
    have hc35 : Ch [] w3 w5 := hb3.ch.own hch5 (by omega)
    have hB1 := hB1.ch hc35 (by simp)
    have hB2 := hB2.ch hc35 (by simp)
    repeat (first | ((with_reducible apply is_st); refine su ?_) | ((with_reducible apply is_gd); first | refine gt ?_ | refine gf ?_ | refine gu ?_) | ((with_reducible apply is_en); refine en ?_) | (with_reducible first | apply x_then | apply wp_seq | apply c_region | apply wp_block | apply wp_skip | apply wp_exit | apply wp_ret | apply wp_label | apply wp_scope_straight | apply x_ng | apply x_ng_ret | apply x_ng_exit | apply x_then_ret | apply x_then_exit | apply x_block | apply x_block_ret | apply x_block_exit | refine x_block_other (by decide) ?_))
    refine ldbr (n := 2) hB2 rfl rfl rfl ?_
    refine ldbr (n := 32) hB5 rfl (ds := x5.1.map u8v) (by simp [List.take_of_length_le, x5.2]) (by simp [x5.2]) ?_
    (try ((with_reducible apply is_gd); first | refine gt ?_ | refine gf ?_ | refine gu ?_)); refine ca (padd_any (i : Int) (.slice Ap (pkH (lv.take i)).length cp) (pkH (lv.take i)) x5 w5 ((hK.ch hc3 (by simp)).ch hc35 (by simp)) ((hL.ch hc3 (by simp)).ch hc35 (by simp)) ((hP [] (by simp)).ch hc35) (by omega)) ?_
    rintro u w6 ⟨hc6, hu⟩
    rw [hpl, popN_small (by omega), Int.toNat_natCast, pkH_step hx5 hlen] at hu
    rcases hu with ⟨_, v6, rfl, hP6⟩ | ⟨hu, _⟩
    · have hpl6 := pkH_len (lv.take (i + 1))
      have hz5 := hc35.size
      have hz6 := hc6.size
      obtain ⟨A6, c6, rfl⟩ := (hP6 [] (by simp)).form
      repeat (first | ((with_reducible apply is_st); refine su ?_) | ((with_reducible apply is_gd); first | refine gt ?_ | refine gf ?_ | refine gu ?_) | ((with_reducible apply is_en); refine en ?_) | (with_reducible first | apply x_then | apply wp_seq | apply c_region | apply wp_block | apply wp_skip | apply wp_exit | apply wp_ret | apply wp_label | apply wp_scope_straight | apply x_ng | apply x_ng_ret | apply x_ng_exit | apply x_then_ret | apply x_then_exit | apply x_block | apply x_block_ret | apply x_block_exit | refine x_block_other (by decide) ?_))
      refine stbw (n := 2) (vs := [.int .i64 ((i + 1 : Nat) : Int), .slice A6 (pkH (lv.take (i + 1))).length c6]) (hB2.ch hc6 (by simp)) rfl rfl rfl rfl one_pk (fun w7 hB7 hch7 hs7 => ?_)
      repeat (first | ((with_reducible apply is_st); refine su ?_) | ((with_reducible apply is_gd); first | refine gt ?_ | refine gf ?_ | refine gu ?_) | ((with_reducible apply is_en); refine en ?_) | (with_reducible first | apply x_then | apply wp_seq | apply c_region | apply wp_block | apply wp_skip | apply wp_exit | apply wp_ret | apply wp_label | apply wp_scope_straight | apply x_ng | apply x_ng_ret | apply x_ng_exit | apply x_then_ret | apply x_then_exit | apply x_block | apply x_block_ret | apply x_block_exit | refine x_block_other (by decide) ?_))
      have hc37 : Ch [b2] w3 w7 := (((Ch.some hc35).add hc6).then hch7)
      refine x_goes (k - 1) rfl (by omega) ⟨i + 1, _, exj rfl, by omega, hc3.own hc37 (by omega), by omega, (hB1.ch hc6 (by simp)).ch hch7 (by simp; omega), hB7, fun S hS => ?_⟩
      have hr := hP6 (b2 :: S) (fun x hx => by
        rcases List.mem_cons.1 hx with hx | hx
        · omega
        · have := hS x hx
          omega)
      exact (hr.ch (hch7.mono (fun x _ hm => by simp at hm; simp [hm]))).mv (Ch.refl S w7) (fun k _ h => List.mem_cons_of_mem _ h)
    · cases hu
  · have hil : i = lv.length := by omega
    subst hil
    rw [List.take_length] at hP hB2
    repeat (first | ((with_reducible apply is_st); refine su ?_) | ((with_reducible apply is_gd); first | refine gt ?_ | refine gf ?_ | refine gu ?_) | ((with_reducible apply is_en); refine en ?_) | (with_reducible first | apply x_then | apply wp_seq | apply c_region | apply wp_block | apply wp_skip | apply wp_exit | apply wp_ret | apply wp_label | apply wp_scope_straight | apply x_ng | apply x_ng_ret | apply x_ng_exit | apply x_then_ret | apply x_then_exit | apply x_block | apply x_block_ret | apply x_block_exit | refine x_block_other (by decide) ?_))
    refine ldbr (n := 2) hB2 rfl rfl rfl ?_
    refine stbw (n := 2) (vs := [.int .i64 (lv.length : Int), .slice Ap (pkH lv).length cp]) hB1 rfl rfl rfl rfl one_pk (fun w7 hB7 hch7 hs7 => ?_)
    repeat (first | ((with_reducible apply is_st); refine su ?_) | ((with_reducible apply is_gd); first | refine gt ?_ | refine gf ?_ | refine gu ?_) | ((with_reducible apply is_en); refine en ?_) | (with_reducible first | apply x_then | apply wp_seq | apply c_region | apply wp_block | apply wp_skip | apply wp_exit | apply wp_ret | apply wp_label | apply wp_scope_straight | apply x_ng | apply x_ng_ret | apply x_ng_exit | apply x_then_ret | apply x_then_exit | apply x_block | apply x_block_ret | apply x_block_exit | refine x_block_other (by decide) ?_))
    refine outc rfl rfl (hB7.row (n := 2) (o := 0) rfl) rfl ⟨hc3.own hch7 (by omega), _, rfl, fun S hS => ?_⟩
    have hr := hP (b1 :: S) (fun x hx => by
      rcases List.mem_cons.1 hx with hx | hx
      · omega
      · have := hS x hx
        omega)
    exact (hr.ch (hch7.mono (fun x _ hm => by simp at hm; simp [hm]))).mv (Ch.refl S w7) (fun k _ h => List.mem_cons_of_mem _ h)
set_option maxHeartbeats 8000000 in
theorem rof9_any (v : Value) (lv : List Hs) (w : World) (hR : (Ty.enc eH).Rd [] w v lv) (hlen : lv.length ≤ 60) :
    Calls Tryd.prog 50 #[v] w (Ret fun u w' => Ch [] w w' ∧ ∃ v', u = pkV (lv.length : Int) v' ∧ ∀ S, (∀ x ∈ S, x < w.heap.size) → (Ty.enc eH).Rd S w' v' (pkH lv)) := by
  refine enter [v, undef, undef, undef, undef, undef, undef, undef, undef, undef, undef, undef, undef, undef, undef, undef, undef, undef, undef, undef, undef] Tryd.func50 rfl rfl ?_
  obtain ⟨A, cap, rfl⟩ := hR.form
  repeat (first | ((with_reducible apply is_st); refine su ?_) | ((with_reducible apply is_gd); first | refine gt ?_ | refine gf ?_ | refine gu ?_) | ((with_reducible apply is_en); refine en ?_) | (with_reducible first | apply x_then | apply wp_seq | apply c_region | apply wp_block | apply wp_skip | apply wp_exit | apply wp_ret | apply wp_label | apply wp_scope_straight | apply x_ng | apply x_ng_ret | apply x_ng_exit | apply x_then_ret | apply x_then_exit | apply x_block | apply x_block_ret | apply x_block_exit | refine x_block_other (by decide) ?_))
  refine wl_alloc (fun w1 b1 hb1 => ?_)
  repeat (first | ((with_reducible apply is_st); refine su ?_) | ((with_reducible apply is_gd); first | refine gt ?_ | refine gf ?_ | refine gu ?_) | ((with_reducible apply is_en); refine en ?_) | (with_reducible first | apply x_then | apply wp_seq | apply c_region | apply wp_block | apply wp_skip | apply wp_exit | apply wp_ret | apply wp_label | apply wp_scope_straight | apply x_ng | apply x_ng_ret | apply x_ng_exit | apply x_then_ret | apply x_then_exit | apply x_block | apply x_block_ret | apply x_block_exit | refine x_block_other (by decide) ?_))
  (try ((with_reducible apply is_gd); first | refine gt ?_ | refine gf ?_ | refine gu ?_)); refine wl_val (r_build0 Tryd.underlying52 rfl rfl) ?_
  refine wl_alloc (fun w2 b2 hb2 => ?_)
  refine stbw (n := 2) (vs := [.int .i64 0, .slice none 0 0]) hb2.blk rfl rfl rfl rfl one_pk (fun w2' hB2 hch2 hs2 => ?_)
  have hB1 : Blk w2' b1 [.int .i64 0, .slice none 0 0] 52 := (Blk.ch (show Blk w1 b1 [.int .i64 0, .slice none 0 0] 52 from hb1.blk) hb2.ch (by simp)).ch hch2 (by simp; have := hb2.at_; have := hb1.size; omega)
  have e1 := hb1.at_
  have e2 := hb2.at_
  have s1 := hb1.size
  have s2 := hb2.size
  have hc2 : Ch [] w w2' := (hb1.ch.then hb2.ch).own hch2 (by omega)
  repeat (first | ((with_reducible apply is_st); refine su ?_) | ((with_reducible apply is_gd); first | refine gt ?_ | refine gf ?_ | refine gu ?_) | ((with_reducible apply is_en); refine en ?_) | (with_reducible first | apply x_then | apply wp_seq | apply c_region | apply wp_block | apply wp_skip | apply wp_exit | apply wp_ret | apply wp_label | apply wp_scope_straight | apply x_ng | apply x_ng_ret | apply x_ng_exit | apply x_then_ret | apply x_then_exit | apply x_block | apply x_block_ret | apply x_block_exit | refine x_block_other (by decide) ?_))
  
  refine c_loop (fun k l w' => ∃ (i : Nat) (vp : Value), (∃ jj : Nat → Value, l = [jj 0, jj 1, .pointer (some ⟨b1, 0, none⟩), .pointer (some ⟨b2, 0, none⟩), jj 4, jj 5, jj 6, .slice A lv.length cap, .int .i64 (lv.length : Int), .int .i64 (i : Int), jj 10, jj 11, jj 12, jj 13, jj 14, jj 15, jj 16, jj 17, jj 18, jj 19, jj 20]) ∧ k + i = lv.length ∧ Ch [] w w' ∧ w2'.heap.size ≤ w'.heap.size ∧ Blk w' b1 [.int .i64 0, .slice none 0 0] 52 ∧ Blk w' b2 [.int .i64 (i : Int), vp] 52 ∧ ∀ S, (∀ x ∈ S, x < w2'.heap.size) → (Ty.enc eH).Rd S w' vp (pkH (lv.take i))) lv.length
    ⟨0, _, exj rfl, rfl, hc2, Nat.le_refl _, hB1, hB2, fun S hS => by rw [List.take_zero, show pkH [] = [] from pkG_nil]; exact Ty.Rd.nil _ _ _ _ _⟩ ?_
  rintro k l w3 ⟨i, vp, ⟨jj, rfl⟩, hki, hc3, hz3, hB1, hB2, hP⟩
  have hpl := pkH_len (lv.take i)
  obtain ⟨Ap, cp, rfl⟩ := (hP [] (by simp)).form
  repeat (first | ((with_reducible apply is_st); refine su ?_) | ((with_reducible apply is_gd); first | refine gt ?_ | refine gf ?_ | refine gu ?_) | ((with_reducible apply is_en); refine en ?_) | (with_reducible first | apply x_then | apply wp_seq | apply c_region | apply wp_block | apply wp_skip | apply wp_exit | apply wp_ret | apply wp_label | apply wp_scope_straight | apply x_ng | apply x_ng_ret | apply x_ng_exit | apply x_then_ret | apply x_then_exit | apply x_block | apply x_block_ret | apply x_block_exit | refine x_block_other (by decide) ?_))
  refine c_cond rfl (fun hi => ?_) (fun hi => ?_)
  · have hil : (lv.take i).length = i := by rw [List.length_take]; omega
    rw [hil] at hpl
    have hbl := bitsDown_len i 63
    have hpop : popN i ≤ 63 := hbl
    repeat (first | ((with_reducible apply is_st); refine su ?_) | ((with_reducible apply is_gd); first | refine gt ?_ | refine gf ?_ | refine gu ?_) | ((with_reducible apply is_en); refine en ?_) | (with_reducible first | apply x_then | apply wp_seq | apply c_region | apply wp_block | apply wp_skip | apply wp_exit | apply wp_ret | apply wp_label | apply wp_scope_straight | apply x_ng | apply x_ng_ret | apply x_ng_exit | apply x_then_ret | apply x_then_exit | apply x_block | apply x_block_ret | apply x_block_exit | refine x_block_other (by decide) ?_))
    (try ((with_reducible apply is_gd); first | refine gt ?_ | refine gf ?_ | refine gu ?_)); refine ix (hR.ch hc3) (fun b5 o5 x5 hx5 hA5 => ?_)
    rw [Int.toNat_natCast] at hx5
    (try ((with_reducible apply is_gd); first | refine gt ?_ | refine gf ?_ | refine gu ?_)); refine ldr hA5 ?_
    repeat (first | ((with_reducible apply is_st); refine su ?_) | ((with_reducible apply is_gd); first | refine gt ?_ | refine gf ?_ | refine gu ?_) | ((with_reducible apply is_en); refine en ?_) | (with_reducible first | apply x_then | apply wp_seq | apply c_region | apply wp_block | apply wp_skip | apply wp_exit | apply wp_ret | apply wp_label | apply wp_scope_straight | apply x_ng | apply x_ng_ret | apply x_ng_exit | apply x_then_ret | apply x_then_exit | apply x_block | apply x_block_ret | apply x_block_exit | refine x_block_other (by decide) ?_))
    refine wl_alloc (fun w4 b3 hb3 => ?_)
    have e3 := hb3.at_
    refine stbw (n := 32) (cs := (List.replicate 32 (0 : UInt8)).map u8v) hb3.blk rfl rfl (hv_len x5.2) (by simp) one_u8 (fun w5 hB5 hch5 hs5 => ?_)
    have hz4 := hb3.ch.size
    have hc35 : Ch [] w3 w5 := hb3.ch.own hch5 (by omega)
    have hB1 := hB1.ch hc35 (by simp)
    have hB2 := hB2.ch hc35 (by simp)
    repeat (first | ((with_reducible apply is_st); refine su ?_) | ((with_reducible apply is_gd); first | refine gt ?_ | refine gf ?_ | refine gu ?_) | ((with_reducible apply is_en); refine en ?_) | (with_reducible first | apply x_then | apply wp_seq | apply c_region | apply wp_block | apply wp_skip | apply wp_exit | apply wp_ret | apply wp_label | apply wp_scope_straight | apply x_ng | apply x_ng_ret | apply x_ng_exit | apply x_then_ret | apply x_then_exit | apply x_block | apply x_block_ret | apply x_block_exit | refine x_block_other (by decide) ?_))
    refine ldbr (n := 2) hB2 rfl rfl rfl ?_
    refine ldbr (n := 32) hB5 rfl (ds := x5.1.map u8v) (by simp [List.take_of_length_le, x5.2]) (by simp [x5.2]) ?_
    (try ((with_reducible apply is_gd); first | refine gt ?_ | refine gf ?_ | refine gu ?_)); refine ca (radd_any (i : Int) (.slice Ap (pkH (lv.take i)).length cp) (pkH (lv.take i)) x5 w5 ((hP [] (by simp)).ch hc35) (by omega)) ?_
    rintro u w6 ⟨hc6, hu⟩
    rw [hpl, popN_small (by omega), Int.toNat_natCast, pkH_step hx5 hlen] at hu
    rcases hu with ⟨_, v6, rfl, hP6⟩ | ⟨hu, _⟩
    · have hpl6 := pkH_len (lv.take (i + 1))
      have hz5 := hc35.size
      have hz6 := hc6.size
      obtain ⟨A6, c6, rfl⟩ := (hP6 [] (by simp)).form
      repeat (first | ((with_reducible apply is_st); refine su ?_) | ((with_reducible apply is_gd); first | refine gt ?_ | refine gf ?_ | refine gu ?_) | ((with_reducible apply is_en); refine en ?_) | (with_reducible first | apply x_then | apply wp_seq | apply c_region | apply wp_block | apply wp_skip | apply wp_exit | apply wp_ret | apply wp_label | apply wp_scope_straight | apply x_ng | apply x_ng_ret | apply x_ng_exit | apply x_then_ret | apply x_then_exit | apply x_block | apply x_block_ret | apply x_block_exit | refine x_block_other (by decide) ?_))
      refine stbw (n := 2) (vs := [.int .i64 ((i + 1 : Nat) : Int), .slice A6 (pkH (lv.take (i + 1))).length c6]) (hB2.ch hc6 (by simp)) rfl rfl rfl rfl one_pk (fun w7 hB7 hch7 hs7 => ?_)
      repeat (first | ((with_reducible apply is_st); refine su ?_) | ((with_reducible apply is_gd); first | refine gt ?_ | refine gf ?_ | refine gu ?_) | ((with_reducible apply is_en); refine en ?_) | (with_reducible first | apply x_then | apply wp_seq | apply c_region | apply wp_block | apply wp_skip | apply wp_exit | apply wp_ret | apply wp_label | apply wp_scope_straight | apply x_ng | apply x_ng_ret | apply x_ng_exit | apply x_then_ret | apply x_then_exit | apply x_block | apply x_block_ret | apply x_block_exit | refine x_block_other (by decide) ?_))
      have hc37 : Ch [b2] w3 w7 := (((Ch.some hc35).add hc6).then hch7)
      refine x_goes (k - 1) rfl (by omega) ⟨i + 1, _, exj rfl, by omega, hc3.own hc37 (by omega), by omega, (hB1.ch hc6 (by simp)).ch hch7 (by simp; omega), hB7, fun S hS => ?_⟩
      have hr := hP6 (b2 :: S) (fun x hx => by
        rcases List.mem_cons.1 hx with hx | hx
        · omega
        · have := hS x hx
          omega)
      exact (hr.ch (hch7.mono (fun x _ hm => by simp at hm; simp [hm]))).mv (Ch.refl S w7) (fun k _ h => List.mem_cons_of_mem _ h)
    · cases hu
  · have hil : i = lv.length := by omega
    subst hil
    rw [List.take_length] at hP hB2
    repeat (first | ((with_reducible apply is_st); refine su ?_) | ((with_reducible apply is_gd); first | refine gt ?_ | refine gf ?_ | refine gu ?_) | ((with_reducible apply is_en); refine en ?_) | (with_reducible first | apply x_then | apply wp_seq | apply c_region | apply wp_block | apply wp_skip | apply wp_exit | apply wp_ret | apply wp_label | apply wp_scope_straight | apply x_ng | apply x_ng_ret | apply x_ng_exit | apply x_then_ret | apply x_then_exit | apply x_block | apply x_block_ret | apply x_block_exit | refine x_block_other (by decide) ?_))
    refine ldbr (n := 2) hB2 rfl rfl rfl ?_
    refine stbw (n := 2) (vs := [.int .i64 (lv.length : Int), .slice Ap (pkH lv).length cp]) hB1 rfl rfl rfl rfl one_pk (fun w7 hB7 hch7 hs7 => ?_)
    repeat (first | ((with_reducible apply is_st); refine su ?_) | ((with_reducible apply is_gd); first | refine gt ?_ | refine gf ?_ | refine gu ?_) | ((with_reducible apply is_en); refine en ?_) | (with_reducible first | apply x_then | apply wp_seq | apply c_region | apply wp_block | apply wp_skip | apply wp_exit | apply wp_ret | apply wp_label | apply wp_scope_straight | apply x_ng | apply x_ng_ret | apply x_ng_exit | apply x_then_ret | apply x_then_exit | apply x_block | apply x_block_ret | apply x_block_exit | refine x_block_other (by decide) ?_))
    refine outc rfl rfl (hB7.row (n := 2) (o := 0) rfl) rfl ⟨hc3.own hch7 (by omega), _, rfl, fun S hS => ?_⟩
    have hr := hP (b1 :: S) (fun x hx => by
      rcases List.mem_cons.1 hx with hx | hx
      · omega
      · have := hS x hx
        omega)
    exact (hr.ch (hch7.mono (fun x _ hm => by simp at hm; simp [hm]))).mv (Ch.refl S w7) (fun k _ h => List.mem_cons_of_mem _ h)
/-! ### The very same hashes? -/
set_option maxHeartbeats 8000000 in
theorem same_any (v1 v2 : Value) (xs ys : List Hs) (w : World) (hR1 : (Ty.enc eH).Rd [] w v1 xs) (hR2 : (Ty.enc eH).Rd [] w v2 ys) :
    Calls Tryd.prog 31 #[v1, v2] w (Ret fun u w' => u = .bool (decide (xs = ys)) ∧ Ch [] w w') := by
  refine enter [v1, v2, undef, undef, undef, undef, undef, undef, undef, undef, undef, undef, undef, undef, undef, undef, undef, undef, undef, undef, undef, undef, undef, undef, undef, undef] Tryd.func31 rfl rfl ?_
  have hle1 := hR1.le
  have hle2 := hR2.le
  obtain ⟨A1, c1, rfl⟩ := hR1.form
  obtain ⟨A2, c2, rfl⟩ := hR2.form
  repeat (first | ((with_reducible apply is_st); refine su ?_) | ((with_reducible apply is_gd); first | refine gt ?_ | refine gf ?_ | refine gu ?_) | ((with_reducible apply is_en); refine en ?_) | (with_reducible first | apply x_then | apply wp_seq | apply c_region | apply wp_block | apply wp_skip | apply wp_exit | apply wp_ret | apply wp_label | apply wp_scope_straight | apply x_ng | apply x_ng_ret | apply x_ng_exit | apply x_then_ret | apply x_then_exit | apply x_block | apply x_block_ret | apply x_block_exit | refine x_block_other (by decide) ?_))
  refine c_cond rfl (fun hne => ?_) (fun heq => ?_)
  · repeat (first | ((with_reducible apply is_st); refine su ?_) | ((with_reducible apply is_gd); first | refine gt ?_ | refine gf ?_ | refine gu ?_) | ((with_reducible apply is_en); refine en ?_) | (with_reducible first | apply x_then | apply wp_seq | apply c_region | apply wp_block | apply wp_skip | apply wp_exit | apply wp_ret | apply wp_label | apply wp_scope_straight | apply x_ng | apply x_ng_ret | apply x_ng_exit | apply x_then_ret | apply x_then_exit | apply x_block | apply x_block_ret | apply x_block_exit | refine x_block_other (by decide) ?_))
    have hf : ¬ xs = ys := fun e => hne (by rw [e])
    refine out1 rfl ⟨?_, Ch.refl _ _⟩
    rw [decide_eq_false hf]
    rfl
  · have hll : xs.length = ys.length := by omega
    repeat (first | ((with_reducible apply is_st); refine su ?_) | ((with_reducible apply is_gd); first | refine gt ?_ | refine gf ?_ | refine gu ?_) | ((with_reducible apply is_en); refine en ?_) | (with_reducible first | apply x_then | apply wp_seq | apply c_region | apply wp_block | apply wp_skip | apply wp_exit | apply wp_ret | apply wp_label | apply wp_scope_straight | apply x_ng | apply x_ng_ret | apply x_ng_exit | apply x_then_ret | apply x_then_exit | apply x_block | apply x_block_ret | apply x_block_exit | refine x_block_other (by decide) ?_))
    
    refine c_loop (fun k l w' => ∃ (i : Nat), (∃ jj : Nat → Value, l = [.slice A1 xs.length c1, .slice A2 ys.length c2, jj 2, jj 3, jj 4, jj 5, jj 6, jj 7, jj 8, jj 9, jj 10, jj 11, .int .i64 (xs.length : Int), .int .i64 (i : Int), jj 14, jj 15, jj 16, jj 17, jj 18, jj 19, jj 20, jj 21, jj 22, jj 23, jj 24, jj 25]) ∧ k + i = xs.length ∧ Ch [] w w' ∧ xs.take i = ys.take i) xs.length
      ⟨0, exj rfl, rfl, Ch.refl _ _, rfl⟩ ?_
    rintro k l w1 ⟨i, ⟨jj, rfl⟩, hki, hc1, htk⟩
    repeat (first | ((with_reducible apply is_st); refine su ?_) | ((with_reducible apply is_gd); first | refine gt ?_ | refine gf ?_ | refine gu ?_) | ((with_reducible apply is_en); refine en ?_) | (with_reducible first | apply x_then | apply wp_seq | apply c_region | apply wp_block | apply wp_skip | apply wp_exit | apply wp_ret | apply wp_label | apply wp_scope_straight | apply x_ng | apply x_ng_ret | apply x_ng_exit | apply x_then_ret | apply x_then_exit | apply x_block | apply x_block_ret | apply x_block_exit | refine x_block_other (by decide) ?_))
    refine c_cond rfl (fun hi => ?_) (fun hi => ?_)
    · repeat (first | ((with_reducible apply is_st); refine su ?_) | ((with_reducible apply is_gd); first | refine gt ?_ | refine gf ?_ | refine gu ?_) | ((with_reducible apply is_en); refine en ?_) | (with_reducible first | apply x_then | apply wp_seq | apply c_region | apply wp_block | apply wp_skip | apply wp_exit | apply wp_ret | apply wp_label | apply wp_scope_straight | apply x_ng | apply x_ng_ret | apply x_ng_exit | apply x_then_ret | apply x_then_exit | apply x_block | apply x_block_ret | apply x_block_exit | refine x_block_other (by decide) ?_))
      refine c_draw [] (by kernel_rfl) (by kernel_rfl) (fun w4 hc4 hs4 => ?_)
      repeat (first | ((with_reducible apply is_sg); refine sgu ?_) | ((with_reducible apply is_gg); first | refine gtg ?_ | refine gfg ?_ | refine gug ?_) | ((with_reducible apply is_eg); refine eg ?_))
      (try ((with_reducible apply is_gg); first | refine gtg ?_ | refine gfg ?_ | refine gug ?_)); refine ixg ((hR1.ch hc1).ch hc4) (fun b5 o5 x5 hx5 hA5 => ?_)
      rw [Int.toNat_natCast] at hx5
      (try ((with_reducible apply is_gg); first | refine gtg ?_ | refine gfg ?_ | refine gug ?_)); refine ldrg hA5 ?_
      repeat (first | ((with_reducible apply is_sg); refine sgu ?_) | ((with_reducible apply is_gg); first | refine gtg ?_ | refine gfg ?_ | refine gug ?_) | ((with_reducible apply is_eg); refine eg ?_))
      (try ((with_reducible apply is_gg); first | refine gtg ?_ | refine gfg ?_ | refine gug ?_)); refine ixg ((hR2.ch hc1).ch hc4) (fun b6 o6 x6 hx6 hA6 => ?_)
      rw [Int.toNat_natCast] at hx6
      (try ((with_reducible apply is_gg); first | refine gtg ?_ | refine gfg ?_ | refine gug ?_)); refine ldrg hA6 ?_
      refine wg_val (fun _ _ => r_neq8 (n := 32) (a := x5.1) (b := x6.1) Tryd.eqGuardType26 rfl rfl x5.2 x6.2) ?_
      repeat (first | ((with_reducible apply is_sg); refine sgu ?_) | ((with_reducible apply is_gg); first | refine gtg ?_ | refine gfg ?_ | refine gug ?_) | ((with_reducible apply is_eg); refine eg ?_))
      intro w5 hc5
      repeat (first | ((with_reducible apply is_st); refine su ?_) | ((with_reducible apply is_gd); first | refine gt ?_ | refine gf ?_ | refine gu ?_) | ((with_reducible apply is_en); refine en ?_) | (with_reducible first | apply x_then | apply wp_seq | apply c_region | apply wp_block | apply wp_skip | apply wp_exit | apply wp_ret | apply wp_label | apply wp_scope_straight | apply x_ng | apply x_ng_ret | apply x_ng_exit | apply x_then_ret | apply x_then_exit | apply x_block | apply x_block_ret | apply x_block_exit | refine x_block_other (by decide) ?_))
      refine c_condb rfl (fun hb => ?_) (fun hb => ?_)
      · repeat (first | ((with_reducible apply is_st); refine su ?_) | ((with_reducible apply is_gd); first | refine gt ?_ | refine gf ?_ | refine gu ?_) | ((with_reducible apply is_en); refine en ?_) | (with_reducible first | apply x_then | apply wp_seq | apply c_region | apply wp_block | apply wp_skip | apply wp_exit | apply wp_ret | apply wp_label | apply wp_scope_straight | apply x_ng | apply x_ng_ret | apply x_ng_exit | apply x_then_ret | apply x_then_exit | apply x_block | apply x_block_ret | apply x_block_exit | refine x_block_other (by decide) ?_))
        refine out1 rfl ⟨?_, (hc1.then hc4).then hc5⟩
        have hne : x5 ≠ x6 := fun e => by
          rw [e] at hb
          simp at hb
        have hf : ¬ xs = ys := fun e => hne (by
          rw [e, hx6] at hx5
          exact (Option.some.inj hx5).symm)
        rw [decide_eq_false hf]
        rfl
      · have hx56 : x5 = x6 := by
          have : x5.1 = x6.1 := by simpa using hb
          exact Subtype.ext this
        repeat (first | ((with_reducible apply is_st); refine su ?_) | ((with_reducible apply is_gd); first | refine gt ?_ | refine gf ?_ | refine gu ?_) | ((with_reducible apply is_en); refine en ?_) | (with_reducible first | apply x_then | apply wp_seq | apply c_region | apply wp_block | apply wp_skip | apply wp_exit | apply wp_ret | apply wp_label | apply wp_scope_straight | apply x_ng | apply x_ng_ret | apply x_ng_exit | apply x_then_ret | apply x_then_exit | apply x_block | apply x_block_ret | apply x_block_exit | refine x_block_other (by decide) ?_))
        refine x_goes (k - 1) rfl (by omega) ⟨i + 1, exj rfl, by omega, (hc1.then hc4).then hc5, ?_⟩
        rw [List.take_add_one, List.take_add_one, htk, hx5, hx6, hx56]
    · repeat (first | ((with_reducible apply is_st); refine su ?_) | ((with_reducible apply is_gd); first | refine gt ?_ | refine gf ?_ | refine gu ?_) | ((with_reducible apply is_en); refine en ?_) | (with_reducible first | apply x_then | apply wp_seq | apply c_region | apply wp_block | apply wp_skip | apply wp_exit | apply wp_ret | apply wp_label | apply wp_scope_straight | apply x_ng | apply x_ng_ret | apply x_ng_exit | apply x_then_ret | apply x_then_exit | apply x_block | apply x_block_ret | apply x_block_exit | refine x_block_other (by decide) ?_))
      refine out1 rfl ⟨?_, hc1⟩
      have hxy : xs = ys := by
        rw [List.take_of_length_le (by omega), List.take_of_length_le (by omega)] at htk
        exact htk
      rw [decide_eq_true hxy]
      rfl
end Go.Proofs.YtbecfcnbgeeghaaDoor

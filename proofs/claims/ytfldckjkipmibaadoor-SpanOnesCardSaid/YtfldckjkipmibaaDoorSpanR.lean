/- Walks: the root that leaves and sides have, the program's. -/
import Derived.Test.YtfldckjkipmibaaDoorSpan
import Derived.Test.YtfldckjkipmibaaDoorY
set_option linter.unusedVariables false
set_option linter.unusedSimpArgs false
namespace Go.Proofs.YtfldckjkipmibaaDoor
open Go Go.RowKit Go.Proofs.E
attribute [local irreducible] Go.wpList Go.Code.wp Go.Proofs.E.exec Go.Proofs.E.wpLexG
theorem two_0 (a b : Hs) : (([a, b].flatMap eH.f).drop (0 + Int.toNat 0 * 32)).take 32 = a.1.map u8v := by
  simp [List.take_append_of_le_length, List.take_of_length_le, a.2]
theorem two_1 (a b : Hs) : (([a, b].flatMap eH.f).drop (0 + Int.toNat 1 * 32)).take 32 = b.1.map u8v := by
  simp [List.drop_append, List.drop_of_length_le, List.take_of_length_le, a.2, b.2]
theorem two_len (a b : Hs) : ([a, b].flatMap eH.f).length = 64 := by simp [a.2, b.2]
theorem two_one (a b : Hs) : ∀ u ∈ [a, b].flatMap eH.f, u.oneCell' = true := fun u hu => by obtain ⟨x, _, hx⟩ := List.mem_flatMap.1 hu; exact eH.h1 x u hx
def rootZ (n a : Int) (lv sd : List Hs) : Hs × Bool :=
  if 0 ≤ a ∧ n ≤ 1099511627776 ∧ a ≤ n ∧ lv.length ≠ 0 ∧ (lv.length : Int) ≤ n - a ∧ sd.length = (sidesZ n a (a + lv.length)).length then (valN a.toNat (a + lv.length).toNat lv 0 n.toNat sd, true) else (zeroH, false)
theorem spanTake_any (b7 : Nat) (v : Value) (s : List Hs) (wB w0 : World) (hcB : Ch [b7] wB w0) (hB : Blk w0 b7 [v] 22) (hR : (Ty.enc eH).Rd [b7] wB v s) (hne : 0 < s.length) :
    Calls Tryd.prog 55 #[.pointer (some ⟨b7, 0, none⟩)] w0 (Ret fun u w' => u = hv (s.headD zeroH).1 ∧ Ch [b7] w0 w' ∧ ∃ v', Blk w' b7 [v'] 22 ∧ (Ty.enc eH).Rd [b7] wB v' (s.drop 1)) := by
  have hM := Mem.take hB
  obtain ⟨A, cap, rfl⟩ := hR.form
  refine enter [.pointer (some ⟨b7, 0, none⟩), undef, undef, undef, undef, undef, undef, undef, undef] Tryd.func55 rfl rfl ?_
  repeat (first | ((with_reducible apply is_ld); first | refine kld hM ?_ | refine kldw hM ?_ | refine kle hM ?_ | refine klew hM ?_) | ((with_reducible apply is_sto); first | (refine kst hM ?_; intro w hM) | (refine kstw hM ?_; intro w hM)) | ((with_reducible apply is_st); refine su ?_) | ((with_reducible apply is_gd); first | refine gt ?_ | refine gf ?_ | refine gu ?_) | ((with_reducible apply is_en); refine en ?_) | (with_reducible first | apply x_then | apply wp_seq | apply c_region | apply wp_block | apply wp_skip | apply wp_exit | apply wp_ret | apply wp_label | apply wp_scope_straight | apply x_ng | apply x_ng_ret | apply x_ng_exit | apply x_then_ret | apply x_then_exit | apply x_block | apply x_block_ret | apply x_block_exit | refine x_block_other (by decide) ?_))
  refine kal hM (fun w b1 hM => ?_)
  repeat (first | ((with_reducible apply is_ld); first | refine kld hM ?_ | refine kldw hM ?_ | refine kle hM ?_ | refine klew hM ?_) | ((with_reducible apply is_sto); first | (refine kst hM ?_; intro w hM) | (refine kstw hM ?_; intro w hM)) | ((with_reducible apply is_st); refine su ?_) | ((with_reducible apply is_gd); first | refine gt ?_ | refine gf ?_ | refine gu ?_) | ((with_reducible apply is_en); refine en ?_) | (with_reducible first | apply x_then | apply wp_seq | apply c_region | apply wp_block | apply wp_skip | apply wp_exit | apply wp_ret | apply wp_label | apply wp_scope_straight | apply x_ng | apply x_ng_ret | apply x_ng_exit | apply x_then_ret | apply x_then_exit | apply x_block | apply x_block_ret | apply x_block_exit | refine x_block_other (by decide) ?_))
  refine kix (hR.ch hcB) (fun b5 o5 x hx hA => ?_)
  obtain ⟨y, ys, rfl⟩ : ∃ y ys, s = y :: ys := by cases s with | nil => simp at hne | cons y ys => exact ⟨y, ys, rfl⟩
  obtain rfl := Option.some.inj hx
  refine katr hM hA ?_
  refine kal hM (fun w b2 hM => ?_)
  repeat (first | ((with_reducible apply is_ld); first | refine kld hM ?_ | refine kldw hM ?_ | refine kle hM ?_ | refine klew hM ?_) | ((with_reducible apply is_sto); first | (refine kst hM ?_; intro w hM) | (refine kstw hM ?_; intro w hM)) | ((with_reducible apply is_st); refine su ?_) | ((with_reducible apply is_gd); first | refine gt ?_ | refine gf ?_ | refine gu ?_) | ((with_reducible apply is_en); refine en ?_) | (with_reducible first | apply x_then | apply wp_seq | apply c_region | apply wp_block | apply wp_skip | apply wp_exit | apply wp_ret | apply wp_label | apply wp_scope_straight | apply x_ng | apply x_ng_ret | apply x_ng_exit | apply x_then_ret | apply x_then_exit | apply x_block | apply x_block_ret | apply x_block_exit | refine x_block_other (by decide) ?_))
  refine kcutl hR (fun v' hV => ?_)
  obtain ⟨A', c', rfl⟩ := hV.form
  repeat (first | ((with_reducible apply is_ld); first | refine kld hM ?_ | refine kldw hM ?_ | refine kle hM ?_ | refine klew hM ?_) | ((with_reducible apply is_sto); first | (refine kst hM ?_; intro w hM) | (refine kstw hM ?_; intro w hM)) | ((with_reducible apply is_st); refine su ?_) | ((with_reducible apply is_gd); first | refine gt ?_ | refine gf ?_ | refine gu ?_) | ((with_reducible apply is_en); refine en ?_) | (with_reducible first | apply x_then | apply wp_seq | apply c_region | apply wp_block | apply wp_skip | apply wp_exit | apply wp_ret | apply wp_label | apply wp_scope_straight | apply x_ng | apply x_ng_ret | apply x_ng_exit | apply x_then_ret | apply x_then_exit | apply x_block | apply x_block_ret | apply x_block_exit | refine x_block_other (by decide) ?_))
  exact koc hM rfl ⟨rfl, hM.ch, _, hM.blk (by (repeat (first | exact Go.Proofs.E.Pick.here | apply Go.Proofs.E.Pick.there))), hV⟩
/-- What the closure reads by. -/
structure TopEnv (a b : Nat) (lv : List Hs) (b7 bf bt bk bl bp : Nat) (vl : Value) (w : World) : Prop where
  hf : Blk w bf [.int .i64 (a : Int)] 3
  ht : Blk w bt [.int .i64 (b : Int)] 3
  hk : Blk w bk [.func (.func 55) #[] #[.pointer (some ⟨b7, 0, none⟩)]] 81
  hl : Blk w bl [vl] 22
  hp : Blk w bp [.func (.func 56) #[] #[.pointer (some ⟨bf, 0, none⟩), .pointer (some ⟨bt, 0, none⟩), .pointer (some ⟨bk, 0, none⟩), .pointer (some ⟨bl, 0, none⟩), .pointer (some ⟨bp, 0, none⟩)]] 97
  nf : bf ∉ [b7]
  nt : bt ∉ [b7]
  nk : bk ∉ [b7]
  nl : bl ∉ [b7]
  np : bp ∉ [b7]
  hR : (Ty.enc eH).Rd [b7] w vl lv
  hK : Laid w
  nK : 0 ∉ [b7]
theorem TopEnv.ch {a b : Nat} {lv : List Hs} {b7 bf bt bk bl bp : Nat} {vl : Value} {w w' : World} (h : TopEnv a b lv b7 bf bt bk bl bp vl w) (hc : Ch [b7] w w') : TopEnv a b lv b7 bf bt bk bl bp vl w' :=
  ⟨h.hf.ch hc h.nf, h.ht.ch hc h.nt, h.hk.ch hc h.nk, h.hl.ch hc h.nl, h.hp.ch hc h.np, h.nf, h.nt, h.nk, h.nl, h.np, h.hR.ch hc, h.hK.ch hc h.nK, h.nK⟩
set_option maxHeartbeats 1000000 in
theorem top_any (a b : Nat) (lv : List Hs) (hab : a < b) (hbl : b = a + lv.length) (hlv : lv.length ≤ 1000000) (b7 bf bt bk bl bp : Nat) (vl : Value) (wB : World) (N : Nat) : ∀ (lo hi : Nat) (s : List Hs) (v : Value) (w0 : World), hi - lo = N → lo < hi → hi ≤ 1099511627776 → b ≤ 1099511627776 → cntN a b lo hi ≤ s.length →
    TopEnv a b lv b7 bf bt bk bl bp vl w0 → Ch [b7] wB w0 → Blk w0 b7 [v] 22 → (Ty.enc eH).Rd [b7] wB v s →
    Calls Tryd.prog 56 #[.int .i64 (lo : Int), .int .i64 (hi : Int), .pointer (some ⟨bf, 0, none⟩), .pointer (some ⟨bt, 0, none⟩), .pointer (some ⟨bk, 0, none⟩), .pointer (some ⟨bl, 0, none⟩), .pointer (some ⟨bp, 0, none⟩)] w0
      (Ret fun u w' => u = hv (valN a b lv lo hi s).1 ∧ Ch [b7] w0 w' ∧ ∃ v', Blk w' b7 [v'] 22 ∧ (Ty.enc eH).Rd [b7] wB v' (s.drop (cntN a b lo hi))) := by
  induction N using Nat.strongRecOn with
  | _ N ih =>
  intro lo hi s v w0 hN hlh hhi hb hcnt hE hcB hB hR
  have hM := Mem.take hB
  have hBf := hE.hf
  have hBt := hE.ht
  have hBk := hE.hk
  have hBl := hE.hl
  have hBp := hE.hp
  have nf := hE.nf
  have nt := hE.nt
  have nk := hE.nk
  have nl := hE.nl
  have np := hE.np
  refine enter [.int .i64 (lo : Int), .int .i64 (hi : Int), .pointer (some ⟨bf, 0, none⟩), .pointer (some ⟨bt, 0, none⟩), .pointer (some ⟨bk, 0, none⟩), .pointer (some ⟨bl, 0, none⟩), .pointer (some ⟨bp, 0, none⟩), undef, undef, undef, undef, undef, undef, undef, undef, undef, undef, undef, undef, undef, undef, undef, undef, undef, undef, undef, undef, undef, undef, undef, undef, undef, undef, undef, undef, undef, undef, undef, undef, undef, undef, undef, undef, undef, undef, undef, undef, undef, undef, undef, undef, undef, undef, undef, undef, undef, undef, undef, undef, undef, undef] Tryd.func56 rfl rfl ?_
  repeat (first | ((with_reducible apply is_ld); first | refine kld hM ?_ | refine kldw hM ?_ | refine kle hM ?_ | refine klew hM ?_) | ((with_reducible apply is_sto); first | (refine kst hM ?_; intro w hM) | (refine kstw hM ?_; intro w hM)) | ((with_reducible apply is_st); refine su ?_) | ((with_reducible apply is_gd); first | refine gt ?_ | refine gf ?_ | refine gu ?_) | ((with_reducible apply is_en); refine en ?_) | (with_reducible first | apply x_then | apply wp_seq | apply c_region | apply wp_block | apply wp_skip | apply wp_exit | apply wp_ret | apply wp_label | apply wp_scope_straight | apply x_ng | apply x_ng_ret | apply x_ng_exit | apply x_then_ret | apply x_then_exit | apply x_block | apply x_block_ret | apply x_block_exit | refine x_block_other (by decide) ?_))
  refine kal hM (fun w b9 hM => ?_)
  by_cases ho : hi ≤ a ∨ b ≤ lo
  · have hz : valN a b lv lo hi s = s.headD zeroH := val_out hlh ho
    have hcn : cntN a b lo hi = 1 := by unfold cntN; rw [sides_out hlh ho]; rfl
    rw [hz, hcn]
    rw [hcn] at hcnt
    rcases ho with ho | ho
    all_goals
      repeat (first | ((with_reducible apply is_ld); first | refine kld hM ?_ | refine kldw hM ?_ | refine kle hM ?_ | refine klew hM ?_) | ((with_reducible apply is_sto); first | (refine kst hM ?_; intro w hM) | (refine kstw hM ?_; intro w hM)) | ((with_reducible apply is_co); first | (refine c_condb rfl (fun _ => ?_) ?hf; (case hf => intro h; cases h; done)) | (refine c_condb rfl ?ht (fun _ => ?_); (case ht => intro h; cases h; done)) | (refine c_cond rfl (fun _ => ?_) ?hf; (case hf => intro h; exfalso; apply h; omega)) | (refine c_cond rfl ?ht (fun _ => ?_); (case ht => intro h; exfalso; omega))) | ((with_reducible apply is_st); refine su ?_) | ((with_reducible apply is_gd); first | refine gt ?_ | refine gf ?_ | refine gu ?_) | ((with_reducible apply is_en); refine en ?_) | (with_reducible first | apply x_then | apply wp_seq | apply c_region | apply wp_block | apply wp_skip | apply wp_exit | apply wp_ret | apply wp_label | apply wp_scope_straight | apply x_ng | apply x_ng_ret | apply x_ng_exit | apply x_then_ret | apply x_then_exit | apply x_block | apply x_block_ret | apply x_block_exit | refine x_block_other (by decide) ?_))
      refine kcd (lb := #[.pointer (some ⟨b7, 0, none⟩)]) (vs := []) (spanTake_any b7 v s wB w (hcB.then hM.ch) (hM.blk (by (repeat (first | exact Go.Proofs.E.Pick.here | apply Go.Proofs.E.Pick.there)))) hR (by omega)) ?_
      rintro _ w ⟨rfl, hc, v', hB', hR'⟩
      have hM := hM.cellSet hB' hc
      refine kstw (vs := (s.headD zeroH).1.map u8v) hM (fun w hM => ?_)
      repeat (first | ((with_reducible apply is_ld); first | refine kld hM ?_ | refine kldw hM ?_ | refine kle hM ?_ | refine klew hM ?_) | ((with_reducible apply is_sto); first | (refine kst hM ?_; intro w hM) | (refine kstw hM ?_; intro w hM)) | ((with_reducible apply is_st); refine su ?_) | ((with_reducible apply is_gd); first | refine gt ?_ | refine gf ?_ | refine gu ?_) | ((with_reducible apply is_en); refine en ?_) | (with_reducible first | apply x_then | apply wp_seq | apply c_region | apply wp_block | apply wp_skip | apply wp_exit | apply wp_ret | apply wp_label | apply wp_scope_straight | apply x_ng | apply x_ng_ret | apply x_ng_exit | apply x_then_ret | apply x_then_exit | apply x_block | apply x_block_ret | apply x_block_exit | refine x_block_other (by decide) ?_))
      exact koc hM rfl ⟨rfl, hM.ch, v', hM.blk (by (repeat (first | exact Go.Proofs.E.Pick.here | apply Go.Proofs.E.Pick.there))), hR'⟩
  · by_cases hin : a ≤ lo ∧ hi ≤ b
    · have hz : valN a b lv lo hi s = rootH ((lv.take (hi - a)).drop (lo - a)) := val_in hlh ho hin
      have hcn : cntN a b lo hi = 0 := by unfold cntN; rw [sides_in hlh ho (.inr hin)]; rfl
      rw [hz, hcn]
      obtain ⟨h1, h2⟩ := hin
      repeat (first | ((with_reducible apply is_ld); first | refine kld hM ?_ | refine kldw hM ?_ | refine kle hM ?_ | refine klew hM ?_) | ((with_reducible apply is_sto); first | (refine kst hM ?_; intro w hM) | (refine kstw hM ?_; intro w hM)) | ((with_reducible apply is_co); first | (refine c_condb rfl (fun _ => ?_) ?hf; (case hf => intro h; cases h; done)) | (refine c_condb rfl ?ht (fun _ => ?_); (case ht => intro h; cases h; done)) | (refine c_cond rfl (fun _ => ?_) ?hf; (case hf => intro h; exfalso; apply h; omega)) | (refine c_cond rfl ?ht (fun _ => ?_); (case ht => intro h; exfalso; omega))) | ((with_reducible apply is_st); refine su ?_) | ((with_reducible apply is_gd); first | refine gt ?_ | refine gf ?_ | refine gu ?_) | ((with_reducible apply is_en); refine en ?_) | (with_reducible first | apply x_then | apply wp_seq | apply c_region | apply wp_block | apply wp_skip | apply wp_exit | apply wp_ret | apply wp_label | apply wp_scope_straight | apply x_ng | apply x_ng_ret | apply x_ng_exit | apply x_then_ret | apply x_then_exit | apply x_block | apply x_block_ret | apply x_block_exit | refine x_block_other (by decide) ?_))
      refine kcut (hE.hR) (fun v' hV => ?_)
      rw [show ((hi : Int) - (a : Int)).toNat = hi - a by omega, show ((lo : Int) - (a : Int)).toNat = lo - a by omega] at hV
      refine kca hM (root_any v' _ w (hE.hK.ch hM.ch hE.nK) (hV.ch hM.ch).off (by simp; omega)) (fun w hM => ?_)
      refine kstw (vs := (rootH ((lv.take (hi - a)).drop (lo - a))).1.map u8v) hM (fun w hM => ?_)
      repeat (first | ((with_reducible apply is_ld); first | refine kld hM ?_ | refine kldw hM ?_ | refine kle hM ?_ | refine klew hM ?_) | ((with_reducible apply is_sto); first | (refine kst hM ?_; intro w hM) | (refine kstw hM ?_; intro w hM)) | ((with_reducible apply is_st); refine su ?_) | ((with_reducible apply is_gd); first | refine gt ?_ | refine gf ?_ | refine gu ?_) | ((with_reducible apply is_en); refine en ?_) | (with_reducible first | apply x_then | apply wp_seq | apply c_region | apply wp_block | apply wp_skip | apply wp_exit | apply wp_ret | apply wp_label | apply wp_scope_straight | apply x_ng | apply x_ng_ret | apply x_ng_exit | apply x_then_ret | apply x_then_exit | apply x_block | apply x_block_ret | apply x_block_exit | refine x_block_other (by decide) ?_))
      exact koc hM rfl ⟨rfl, hM.ch, v, hM.blk (by (repeat (first | exact Go.Proofs.E.Pick.here | apply Go.Proofs.E.Pick.there))), hR⟩
    · have hsp := splitN_lt (n := hi - lo) (by omega) (by omega)
      have hz := val_two (lv := lv) (s := s) hlh (by omega) ho hin
      have hcn := cnt_two hlh (by omega) ho hin
      rw [hz]
      have hin' : ¬ a ≤ lo ∨ ¬ hi ≤ b := by omega
      have h2 : 2 ≤ hi - lo := by omega
      obtain ⟨m, hm⟩ : ∃ m, lo + splitN (hi - lo) = m := ⟨_, rfl⟩
      rw [hm] at hcn ⊢
      have hq : ∀ q, q + 0 = q := fun q => rfl
      by_cases h31 : a ≤ lo
      all_goals
        repeat (first | ((with_reducible apply is_ld); first | refine kld hM ?_ | refine kldw hM ?_ | refine kle hM ?_ | refine klew hM ?_) | ((with_reducible apply is_sto); first | (refine kst hM ?_; intro w hM) | (refine kstw hM ?_; intro w hM)) | ((with_reducible apply is_co); first | (refine c_condb rfl (fun _ => ?_) ?hf; (case hf => intro h; cases h; done)) | (refine c_condb rfl ?ht (fun _ => ?_); (case ht => intro h; cases h; done)) | (refine c_cond rfl (fun _ => ?_) ?hf; (case hf => intro h; exfalso; apply h; omega)) | (refine c_cond rfl ?ht (fun _ => ?_); (case ht => intro h; exfalso; omega))) | ((with_reducible apply is_st); refine su ?_) | ((with_reducible apply is_gd); first | refine gt ?_ | refine gf ?_ | refine gu ?_) | ((with_reducible apply is_en); refine en ?_) | (with_reducible first | apply x_then | apply wp_seq | apply c_region | apply wp_block | apply wp_skip | apply wp_exit | apply wp_ret | apply wp_label | apply wp_scope_straight | apply x_ng | apply x_ng_ret | apply x_ng_exit | apply x_then_ret | apply x_then_exit | apply x_block | apply x_block_ret | apply x_block_exit | refine x_block_other (by decide) ?_))
        refine kcs (split_any ((hi : Int) - (lo : Int)) (by omega) w) ?_
        rw [show (hi : Int) - (lo : Int) = ((hi - lo : Nat) : Int) by omega, splitZ_nat]
        repeat (first | ((with_reducible apply is_ld); first | refine kld hM ?_ | refine kldw hM ?_ | refine kle hM ?_ | refine klew hM ?_) | ((with_reducible apply is_sto); first | (refine kst hM ?_; intro w hM) | (refine kstw hM ?_; intro w hM)) | ((with_reducible apply is_st); refine su ?_) | ((with_reducible apply is_gd); first | refine gt ?_ | refine gf ?_ | refine gu ?_) | ((with_reducible apply is_en); refine en ?_) | (with_reducible first | apply x_then | apply wp_seq | apply c_region | apply wp_block | apply wp_skip | apply wp_exit | apply wp_ret | apply wp_label | apply wp_scope_straight | apply x_ng | apply x_ng_ret | apply x_ng_exit | apply x_then_ret | apply x_then_exit | apply x_block | apply x_block_ret | apply x_block_exit | refine x_block_other (by decide) ?_))
        rw [show (lo : Int) + (splitN (hi - lo) : Int) = (m : Int) by omega]
        have hlp : bp < w.heap.size := Nat.lt_of_lt_of_le hBp.lt' hM.ch.size
        refine c_ordY ([], []) [b7] (by kernel_rfl) (by kernel_rfl) (by kernel_rfl) (fun w hc hs => ?_)
        have z1 := hc.size
        have hM := hM.call hc
        refine ynl 0 rfl (hBp.ch hM.ch np) hlp np rfl rfl ?_
        (first | refine yn 1 rfl ?_ | refine ynt 1 rfl ?_ | refine ynff 1 rfl ?_); (first | refine yn 2 rfl ?_ | refine ynt 2 rfl ?_ | refine ynff 2 rfl ?_)
        refine ynl 4 rfl (hBp.ch hM.ch np) hlp np rfl rfl ?_
        (first | refine yn 5 rfl ?_ | refine ynt 5 rfl ?_ | refine ynff 5 rfl ?_); (first | refine yn 6 rfl ?_ | refine ynt 6 rfl ?_ | refine ynff 6 rfl ?_)
        generalize hX : valN a b lv lo m s = X
        generalize hY : valN a b lv m hi (s.drop (cntN a b lo m)) = Y
        refine yn2 3 9 (by kernel_rfl) rfl rfl (fun w hc => ?_) (fun w hc => ?_)
        · have z := hc.size
          have hM := hM.call hc
          refine kcd (lb := #[.pointer (some ⟨bf, 0, none⟩), .pointer (some ⟨bt, 0, none⟩), .pointer (some ⟨bk, 0, none⟩), .pointer (some ⟨bl, 0, none⟩), .pointer (some ⟨bp, 0, none⟩)]) (vs := [.int .i64 (lo : Int), .int .i64 (m : Int)]) (ih (m - lo) (by omega) lo m s v w rfl (by omega) (by omega) hb (by omega) (hE.ch hM.ch) (hcB.then hM.ch) (hM.blk (by (repeat (first | exact Go.Proofs.E.Pick.here | apply Go.Proofs.E.Pick.there)))) hR) ?_
          rintro _ w ⟨rfl, hc, v1, hB1, hR1⟩
          have z3 := hc.size
          have hM := hM.cellSet hB1 hc
          rw [hX]
          refine x_wy (.inl (hc.bw (by omega))) rfl (wy_nf ?_)
          refine yn2 7 9 (by kernel_rfl) rfl rfl (fun w hc => ?_) (fun w hc => ?_)
          rotate_left
          · have z := hc.size
            have hM := hM.call hc
            refine wl_alloc (fun w b11 hb11 => ?_)
            have z4 := hb11.ch.size
            have e11 := hb11.at_
            have hM := hM.alloc hb11
            refine x_wy (.inl (hb11.ch.gy (by omega))) rfl (wy_nf ?_)
            refine yn1 7 (by kernel_rfl) rfl (fun w hc => ?_)
            have z := hc.size
            have hM := hM.call hc
            refine kcd (lb := #[.pointer (some ⟨bf, 0, none⟩), .pointer (some ⟨bt, 0, none⟩), .pointer (some ⟨bk, 0, none⟩), .pointer (some ⟨bl, 0, none⟩), .pointer (some ⟨bp, 0, none⟩)]) (vs := [.int .i64 (m : Int), .int .i64 (hi : Int)]) (ih (hi - m) (by omega) m hi (s.drop (cntN a b lo m)) v1 w rfl (by omega) (by omega) hb (by rw [List.length_drop]; omega) (hE.ch hM.ch) (hcB.then hM.ch) (hM.blk (by (repeat (first | exact Go.Proofs.E.Pick.here | apply Go.Proofs.E.Pick.there)))) hR1) ?_
            rintro _ w ⟨rfl, hc, v2, hB2, hR2⟩
            have z5 := hc.size
            have hM := hM.cellSet hB2 hc
            rw [hY]
            refine x_wy (.inl (hc.bw (by omega))) rfl (wy_nf ?_)
            refine ynp 8 rfl (by kernel_rfl) (by kernel_rfl) (fun _ => r_build_arr (e := 29) (m := 32) (vs := [hv X.1, hv Y.1]) (by first | (dsimp only [List.map, List.zipIdx, List.set, Go.Proofs.E.set1, Go.Proofs.E.ev, Go.Proofs.E.nth]; done) | exact rfl) (by simp [Value.cells]) (by simp [hv, Value.cells, X.2, Y.2])) rfl ?_
            refine yst (n := 64) (vs := [X, Y].flatMap eH.f) 10 (by kernel_rfl) rfl (hM.blk (by (repeat (first | exact Go.Proofs.E.Pick.here | apply Go.Proofs.E.Pick.there)))) (.inl (by omega)) rfl rfl (two_len X Y) (by simp [Value.cells]) (two_one X Y) (fun w hB11 hc => ?_)
            have hM := hM.cellSet hB11 hc
            refine wy_done (by kernel_rfl) (fun w hc => ?_)
            have hM := hM.call hc
            repeat (first | ((with_reducible apply is_ld); first | refine kld hM ?_ | refine kldw hM ?_ | refine kle hM ?_ | refine klew hM ?_) | ((with_reducible apply is_sto); first | (refine kst hM ?_; intro w hM) | (refine kstw hM ?_; intro w hM)) | ((with_reducible apply is_st); refine su ?_) | ((with_reducible apply is_gd); first | refine gt ?_ | refine gf ?_ | refine gu ?_) | ((with_reducible apply is_en); refine en ?_) | (with_reducible first | apply x_then | apply wp_seq | apply c_region | apply wp_block | apply wp_skip | apply wp_exit | apply wp_ret | apply wp_label | apply wp_scope_straight | apply x_ng | apply x_ng_ret | apply x_ng_exit | apply x_then_ret | apply x_then_exit | apply x_block | apply x_block_ret | apply x_block_exit | refine x_block_other (by decide) ?_))
            refine kldp (X.1.map u8v) hM (two_0 X Y) ?_
            repeat (first | ((with_reducible apply is_ld); first | refine kld hM ?_ | refine kldw hM ?_ | refine kle hM ?_ | refine klew hM ?_) | ((with_reducible apply is_sto); first | (refine kst hM ?_; intro w hM) | (refine kstw hM ?_; intro w hM)) | ((with_reducible apply is_st); refine su ?_) | ((with_reducible apply is_gd); first | refine gt ?_ | refine gf ?_ | refine gu ?_) | ((with_reducible apply is_en); refine en ?_) | (with_reducible first | apply x_then | apply wp_seq | apply c_region | apply wp_block | apply wp_skip | apply wp_exit | apply wp_ret | apply wp_label | apply wp_scope_straight | apply x_ng | apply x_ng_ret | apply x_ng_exit | apply x_then_ret | apply x_then_exit | apply x_block | apply x_block_ret | apply x_block_exit | refine x_block_other (by decide) ?_))
            refine kldp (Y.1.map u8v) hM (two_1 X Y) ?_
            repeat (first | ((with_reducible apply is_ld); first | refine kld hM ?_ | refine kldw hM ?_ | refine kle hM ?_ | refine klew hM ?_) | ((with_reducible apply is_sto); first | (refine kst hM ?_; intro w hM) | (refine kstw hM ?_; intro w hM)) | ((with_reducible apply is_st); refine su ?_) | ((with_reducible apply is_gd); first | refine gt ?_ | refine gf ?_ | refine gu ?_) | ((with_reducible apply is_en); refine en ?_) | (with_reducible first | apply x_then | apply wp_seq | apply c_region | apply wp_block | apply wp_skip | apply wp_exit | apply wp_ret | apply wp_label | apply wp_scope_straight | apply x_ng | apply x_ng_ret | apply x_ng_exit | apply x_then_ret | apply x_then_exit | apply x_block | apply x_block_ret | apply x_block_exit | refine x_block_other (by decide) ?_))
            refine kca hM (node_any X.1 Y.1 X.2 Y.2 w (hE.hK.ch hM.ch hE.nK)) (fun w hM => ?_)
            refine kstw (vs := (nodeH X Y).1.map u8v) hM (fun w hM => ?_)
            repeat (first | ((with_reducible apply is_ld); first | refine kld hM ?_ | refine kldw hM ?_ | refine kle hM ?_ | refine klew hM ?_) | ((with_reducible apply is_sto); first | (refine kst hM ?_; intro w hM) | (refine kstw hM ?_; intro w hM)) | ((with_reducible apply is_st); refine su ?_) | ((with_reducible apply is_gd); first | refine gt ?_ | refine gf ?_ | refine gu ?_) | ((with_reducible apply is_en); refine en ?_) | (with_reducible first | apply x_then | apply wp_seq | apply c_region | apply wp_block | apply wp_skip | apply wp_exit | apply wp_ret | apply wp_label | apply wp_scope_straight | apply x_ng | apply x_ng_ret | apply x_ng_exit | apply x_then_ret | apply x_then_exit | apply x_block | apply x_block_ret | apply x_block_exit | refine x_block_other (by decide) ?_))
            refine koc hM rfl ⟨rfl, hM.ch, v2, hM.blk (by (repeat (first | exact Go.Proofs.E.Pick.here | apply Go.Proofs.E.Pick.there))), ?_⟩
            rw [hcn, ← List.drop_drop]
            exact hR2
          · have z := hc.size
            have hM := hM.call hc
            refine kcd (lb := #[.pointer (some ⟨bf, 0, none⟩), .pointer (some ⟨bt, 0, none⟩), .pointer (some ⟨bk, 0, none⟩), .pointer (some ⟨bl, 0, none⟩), .pointer (some ⟨bp, 0, none⟩)]) (vs := [.int .i64 (m : Int), .int .i64 (hi : Int)]) (ih (hi - m) (by omega) m hi (s.drop (cntN a b lo m)) v1 w rfl (by omega) (by omega) hb (by rw [List.length_drop]; omega) (hE.ch hM.ch) (hcB.then hM.ch) (hM.blk (by (repeat (first | exact Go.Proofs.E.Pick.here | apply Go.Proofs.E.Pick.there)))) hR1) ?_
            rintro _ w ⟨rfl, hc, v2, hB2, hR2⟩
            have z5 := hc.size
            have hM := hM.cellSet hB2 hc
            rw [hY]
            refine x_wy (.inl (hc.bw (by omega))) rfl (wy_nf ?_)
            refine ynp 8 rfl (by kernel_rfl) (by kernel_rfl) (fun _ => r_build_arr (e := 29) (m := 32) (vs := [hv X.1, hv Y.1]) (by first | (dsimp only [List.map, List.zipIdx, List.set, Go.Proofs.E.set1, Go.Proofs.E.ev, Go.Proofs.E.nth]; done) | exact rfl) (by simp [Value.cells]) (by simp [hv, Value.cells, X.2, Y.2])) rfl ?_
            refine yn1 9 (by kernel_rfl) rfl (fun w hc => ?_)
            have z := hc.size
            have hM := hM.call hc
            refine wl_alloc (fun w b11 hb11 => ?_)
            have z4 := hb11.ch.size
            have e11 := hb11.at_
            have hM := hM.alloc hb11
            refine x_wy (.inl (hb11.ch.gy (by omega))) rfl (wy_nf ?_)
            refine yst (n := 64) (vs := [X, Y].flatMap eH.f) 10 (by kernel_rfl) rfl (hM.blk (by (repeat (first | exact Go.Proofs.E.Pick.here | apply Go.Proofs.E.Pick.there)))) (.inl (by omega)) rfl rfl (two_len X Y) (by simp [Value.cells]) (two_one X Y) (fun w hB11 hc => ?_)
            have hM := hM.cellSet hB11 hc
            refine wy_done (by kernel_rfl) (fun w hc => ?_)
            have hM := hM.call hc
            repeat (first | ((with_reducible apply is_ld); first | refine kld hM ?_ | refine kldw hM ?_ | refine kle hM ?_ | refine klew hM ?_) | ((with_reducible apply is_sto); first | (refine kst hM ?_; intro w hM) | (refine kstw hM ?_; intro w hM)) | ((with_reducible apply is_st); refine su ?_) | ((with_reducible apply is_gd); first | refine gt ?_ | refine gf ?_ | refine gu ?_) | ((with_reducible apply is_en); refine en ?_) | (with_reducible first | apply x_then | apply wp_seq | apply c_region | apply wp_block | apply wp_skip | apply wp_exit | apply wp_ret | apply wp_label | apply wp_scope_straight | apply x_ng | apply x_ng_ret | apply x_ng_exit | apply x_then_ret | apply x_then_exit | apply x_block | apply x_block_ret | apply x_block_exit | refine x_block_other (by decide) ?_))
            refine kldp (X.1.map u8v) hM (two_0 X Y) ?_
            repeat (first | ((with_reducible apply is_ld); first | refine kld hM ?_ | refine kldw hM ?_ | refine kle hM ?_ | refine klew hM ?_) | ((with_reducible apply is_sto); first | (refine kst hM ?_; intro w hM) | (refine kstw hM ?_; intro w hM)) | ((with_reducible apply is_st); refine su ?_) | ((with_reducible apply is_gd); first | refine gt ?_ | refine gf ?_ | refine gu ?_) | ((with_reducible apply is_en); refine en ?_) | (with_reducible first | apply x_then | apply wp_seq | apply c_region | apply wp_block | apply wp_skip | apply wp_exit | apply wp_ret | apply wp_label | apply wp_scope_straight | apply x_ng | apply x_ng_ret | apply x_ng_exit | apply x_then_ret | apply x_then_exit | apply x_block | apply x_block_ret | apply x_block_exit | refine x_block_other (by decide) ?_))
            refine kldp (Y.1.map u8v) hM (two_1 X Y) ?_
            repeat (first | ((with_reducible apply is_ld); first | refine kld hM ?_ | refine kldw hM ?_ | refine kle hM ?_ | refine klew hM ?_) | ((with_reducible apply is_sto); first | (refine kst hM ?_; intro w hM) | (refine kstw hM ?_; intro w hM)) | ((with_reducible apply is_st); refine su ?_) | ((with_reducible apply is_gd); first | refine gt ?_ | refine gf ?_ | refine gu ?_) | ((with_reducible apply is_en); refine en ?_) | (with_reducible first | apply x_then | apply wp_seq | apply c_region | apply wp_block | apply wp_skip | apply wp_exit | apply wp_ret | apply wp_label | apply wp_scope_straight | apply x_ng | apply x_ng_ret | apply x_ng_exit | apply x_then_ret | apply x_then_exit | apply x_block | apply x_block_ret | apply x_block_exit | refine x_block_other (by decide) ?_))
            refine kca hM (node_any X.1 Y.1 X.2 Y.2 w (hE.hK.ch hM.ch hE.nK)) (fun w hM => ?_)
            refine kstw (vs := (nodeH X Y).1.map u8v) hM (fun w hM => ?_)
            repeat (first | ((with_reducible apply is_ld); first | refine kld hM ?_ | refine kldw hM ?_ | refine kle hM ?_ | refine klew hM ?_) | ((with_reducible apply is_sto); first | (refine kst hM ?_; intro w hM) | (refine kstw hM ?_; intro w hM)) | ((with_reducible apply is_st); refine su ?_) | ((with_reducible apply is_gd); first | refine gt ?_ | refine gf ?_ | refine gu ?_) | ((with_reducible apply is_en); refine en ?_) | (with_reducible first | apply x_then | apply wp_seq | apply c_region | apply wp_block | apply wp_skip | apply wp_exit | apply wp_ret | apply wp_label | apply wp_scope_straight | apply x_ng | apply x_ng_ret | apply x_ng_exit | apply x_then_ret | apply x_then_exit | apply x_block | apply x_block_ret | apply x_block_exit | refine x_block_other (by decide) ?_))
            refine koc hM rfl ⟨rfl, hM.ch, v2, hM.blk (by (repeat (first | exact Go.Proofs.E.Pick.here | apply Go.Proofs.E.Pick.there))), ?_⟩
            rw [hcn, ← List.drop_drop]
            exact hR2
        · have z := hc.size
          have hM := hM.call hc
          refine wl_alloc (fun w b11 hb11 => ?_)
          have z4 := hb11.ch.size
          have e11 := hb11.at_
          have hM := hM.alloc hb11
          refine x_wy (.inl (hb11.ch.gy (by omega))) rfl (wy_nf ?_)
          refine yn1 3 (by kernel_rfl) rfl (fun w hc => ?_)
          have z := hc.size
          have hM := hM.call hc
          refine kcd (lb := #[.pointer (some ⟨bf, 0, none⟩), .pointer (some ⟨bt, 0, none⟩), .pointer (some ⟨bk, 0, none⟩), .pointer (some ⟨bl, 0, none⟩), .pointer (some ⟨bp, 0, none⟩)]) (vs := [.int .i64 (lo : Int), .int .i64 (m : Int)]) (ih (m - lo) (by omega) lo m s v w rfl (by omega) (by omega) hb (by omega) (hE.ch hM.ch) (hcB.then hM.ch) (hM.blk (by (repeat (first | exact Go.Proofs.E.Pick.here | apply Go.Proofs.E.Pick.there)))) hR) ?_
          rintro _ w ⟨rfl, hc, v1, hB1, hR1⟩
          have z3 := hc.size
          have hM := hM.cellSet hB1 hc
          rw [hX]
          refine x_wy (.inl (hc.bw (by omega))) rfl (wy_nf ?_)
          refine yn1 7 (by kernel_rfl) rfl (fun w hc => ?_)
          have z := hc.size
          have hM := hM.call hc
          refine kcd (lb := #[.pointer (some ⟨bf, 0, none⟩), .pointer (some ⟨bt, 0, none⟩), .pointer (some ⟨bk, 0, none⟩), .pointer (some ⟨bl, 0, none⟩), .pointer (some ⟨bp, 0, none⟩)]) (vs := [.int .i64 (m : Int), .int .i64 (hi : Int)]) (ih (hi - m) (by omega) m hi (s.drop (cntN a b lo m)) v1 w rfl (by omega) (by omega) hb (by rw [List.length_drop]; omega) (hE.ch hM.ch) (hcB.then hM.ch) (hM.blk (by (repeat (first | exact Go.Proofs.E.Pick.here | apply Go.Proofs.E.Pick.there)))) hR1) ?_
          rintro _ w ⟨rfl, hc, v2, hB2, hR2⟩
          have z5 := hc.size
          have hM := hM.cellSet hB2 hc
          rw [hY]
          refine x_wy (.inl (hc.bw (by omega))) rfl (wy_nf ?_)
          refine ynp 8 rfl (by kernel_rfl) (by kernel_rfl) (fun _ => r_build_arr (e := 29) (m := 32) (vs := [hv X.1, hv Y.1]) (by first | (dsimp only [List.map, List.zipIdx, List.set, Go.Proofs.E.set1, Go.Proofs.E.ev, Go.Proofs.E.nth]; done) | exact rfl) (by simp [Value.cells]) (by simp [hv, Value.cells, X.2, Y.2])) rfl ?_
          refine yst (n := 64) (vs := [X, Y].flatMap eH.f) 10 (by kernel_rfl) rfl (hM.blk (by (repeat (first | exact Go.Proofs.E.Pick.here | apply Go.Proofs.E.Pick.there)))) (.inl (by omega)) rfl rfl (two_len X Y) (by simp [Value.cells]) (two_one X Y) (fun w hB11 hc => ?_)
          have hM := hM.cellSet hB11 hc
          refine wy_done (by kernel_rfl) (fun w hc => ?_)
          have hM := hM.call hc
          repeat (first | ((with_reducible apply is_ld); first | refine kld hM ?_ | refine kldw hM ?_ | refine kle hM ?_ | refine klew hM ?_) | ((with_reducible apply is_sto); first | (refine kst hM ?_; intro w hM) | (refine kstw hM ?_; intro w hM)) | ((with_reducible apply is_st); refine su ?_) | ((with_reducible apply is_gd); first | refine gt ?_ | refine gf ?_ | refine gu ?_) | ((with_reducible apply is_en); refine en ?_) | (with_reducible first | apply x_then | apply wp_seq | apply c_region | apply wp_block | apply wp_skip | apply wp_exit | apply wp_ret | apply wp_label | apply wp_scope_straight | apply x_ng | apply x_ng_ret | apply x_ng_exit | apply x_then_ret | apply x_then_exit | apply x_block | apply x_block_ret | apply x_block_exit | refine x_block_other (by decide) ?_))
          refine kldp (X.1.map u8v) hM (two_0 X Y) ?_
          repeat (first | ((with_reducible apply is_ld); first | refine kld hM ?_ | refine kldw hM ?_ | refine kle hM ?_ | refine klew hM ?_) | ((with_reducible apply is_sto); first | (refine kst hM ?_; intro w hM) | (refine kstw hM ?_; intro w hM)) | ((with_reducible apply is_st); refine su ?_) | ((with_reducible apply is_gd); first | refine gt ?_ | refine gf ?_ | refine gu ?_) | ((with_reducible apply is_en); refine en ?_) | (with_reducible first | apply x_then | apply wp_seq | apply c_region | apply wp_block | apply wp_skip | apply wp_exit | apply wp_ret | apply wp_label | apply wp_scope_straight | apply x_ng | apply x_ng_ret | apply x_ng_exit | apply x_then_ret | apply x_then_exit | apply x_block | apply x_block_ret | apply x_block_exit | refine x_block_other (by decide) ?_))
          refine kldp (Y.1.map u8v) hM (two_1 X Y) ?_
          repeat (first | ((with_reducible apply is_ld); first | refine kld hM ?_ | refine kldw hM ?_ | refine kle hM ?_ | refine klew hM ?_) | ((with_reducible apply is_sto); first | (refine kst hM ?_; intro w hM) | (refine kstw hM ?_; intro w hM)) | ((with_reducible apply is_st); refine su ?_) | ((with_reducible apply is_gd); first | refine gt ?_ | refine gf ?_ | refine gu ?_) | ((with_reducible apply is_en); refine en ?_) | (with_reducible first | apply x_then | apply wp_seq | apply c_region | apply wp_block | apply wp_skip | apply wp_exit | apply wp_ret | apply wp_label | apply wp_scope_straight | apply x_ng | apply x_ng_ret | apply x_ng_exit | apply x_then_ret | apply x_then_exit | apply x_block | apply x_block_ret | apply x_block_exit | refine x_block_other (by decide) ?_))
          refine kca hM (node_any X.1 Y.1 X.2 Y.2 w (hE.hK.ch hM.ch hE.nK)) (fun w hM => ?_)
          refine kstw (vs := (nodeH X Y).1.map u8v) hM (fun w hM => ?_)
          repeat (first | ((with_reducible apply is_ld); first | refine kld hM ?_ | refine kldw hM ?_ | refine kle hM ?_ | refine klew hM ?_) | ((with_reducible apply is_sto); first | (refine kst hM ?_; intro w hM) | (refine kstw hM ?_; intro w hM)) | ((with_reducible apply is_st); refine su ?_) | ((with_reducible apply is_gd); first | refine gt ?_ | refine gf ?_ | refine gu ?_) | ((with_reducible apply is_en); refine en ?_) | (with_reducible first | apply x_then | apply wp_seq | apply c_region | apply wp_block | apply wp_skip | apply wp_exit | apply wp_ret | apply wp_label | apply wp_scope_straight | apply x_ng | apply x_ng_ret | apply x_ng_exit | apply x_then_ret | apply x_then_exit | apply x_block | apply x_block_ret | apply x_block_exit | refine x_block_other (by decide) ?_))
          refine koc hM rfl ⟨rfl, hM.ch, v2, hM.blk (by (repeat (first | exact Go.Proofs.E.Pick.here | apply Go.Proofs.E.Pick.there))), ?_⟩
          rw [hcn, ← List.drop_drop]
          exact hR2
theorem rootZ_f {n a : Int} {lv sd : List Hs} (h : ¬ (0 ≤ a ∧ n ≤ 1099511627776 ∧ a ≤ n ∧ lv.length ≠ 0 ∧ (lv.length : Int) ≤ n - a ∧ sd.length = (sidesZ n a (a + lv.length)).length)) : rootZ n a lv sd = (zeroH, false) := by unfold rootZ; rw [if_neg h]
set_option maxHeartbeats 8000000 in
theorem sroot_any (n a : Int) (v1 v2 : Value) (lv sd : List Hs) (w0 : World) (hK : Laid w0) (hR1 : (Ty.enc eH).Rd [] w0 v1 lv) (hR2 : (Ty.enc eH).Rd [] w0 v2 sd) (hlv : lv.length ≤ 1000000) :
    Calls Tryd.prog 18 #[.int .i64 n, .int .i64 a, v1, v2] w0 (Ret fun u w' => u = .tuple #[hv (rootZ n a lv sd).1.1, .bool (rootZ n a lv sd).2] ∧ Ch [] w0 w') := by
  have hM := Mem.start w0
  obtain ⟨A1, c1, rfl⟩ := hR1.form
  obtain ⟨A2, c2, rfl⟩ := hR2.form
  have hl2 := hR2.le
  refine enter [.int .i64 n, .int .i64 a, .slice A1 lv.length c1, .slice A2 sd.length c2, undef, undef, undef, undef, undef, undef, undef, undef, undef, undef, undef, undef, undef, undef, undef, undef, undef, undef, undef, undef, undef, undef, undef, undef, undef, undef, undef, undef, undef, undef, undef, undef, undef, undef, undef, undef, undef, undef, undef, undef, undef, undef, undef, undef, undef, undef, undef, undef, undef, undef, undef] Tryd.func18 rfl rfl ?_
  repeat (first | ((with_reducible apply is_ld); first | refine kld hM ?_ | refine kldw hM ?_ | refine kle hM ?_ | refine klew hM ?_) | ((with_reducible apply is_sto); first | (refine kst hM ?_; intro w hM) | (refine kstw hM ?_; intro w hM)) | ((with_reducible apply is_st); refine su ?_) | ((with_reducible apply is_gd); first | refine gt ?_ | refine gf ?_ | refine gu ?_) | ((with_reducible apply is_en); refine en ?_) | (with_reducible first | apply x_then | apply wp_seq | apply c_region | apply wp_block | apply wp_skip | apply wp_exit | apply wp_ret | apply wp_label | apply wp_scope_straight | apply x_ng | apply x_ng_ret | apply x_ng_exit | apply x_then_ret | apply x_then_exit | apply x_block | apply x_block_ret | apply x_block_exit | refine x_block_other (by decide) ?_))
  refine kbx hM (fun w b5 hM => ?_)
  refine kbx hM (fun w b6 hM => ?_)
  refine kbx hM (fun w b7 hM => ?_)
  refine kal hM (fun w b8 hM => ?_)
  by_cases g : 0 ≤ a ∧ n ≤ 1099511627776 ∧ a ≤ n ∧ lv.length ≠ 0 ∧ (lv.length : Int) ≤ n - a
  · obtain ⟨g1, g2, g3, g4, g5⟩ := g
    obtain ⟨a', rfl⟩ := Int.eq_ofNat_of_zero_le g1
    obtain ⟨N, rfl⟩ := Int.eq_ofNat_of_zero_le (by omega : 0 ≤ n)
    repeat (first | ((with_reducible apply is_ld); first | refine kld hM ?_ | refine kldw hM ?_ | refine kle hM ?_ | refine klew hM ?_) | ((with_reducible apply is_sto); first | (refine kst hM ?_; intro w hM) | (refine kstw hM ?_; intro w hM)) | ((with_reducible apply is_co); first | (refine c_condb rfl (fun _ => ?_) ?hf; (case hf => intro h; cases h; done)) | (refine c_condb rfl ?ht (fun _ => ?_); (case ht => intro h; cases h; done)) | (refine c_cond rfl (fun _ => ?_) ?hf; (case hf => intro h; exfalso; apply h; omega)) | (refine c_cond rfl ?ht (fun _ => ?_); (case ht => intro h; exfalso; omega))) | ((with_reducible apply is_st); refine su ?_) | ((with_reducible apply is_gd); first | refine gt ?_ | refine gf ?_ | refine gu ?_) | ((with_reducible apply is_en); refine en ?_) | (with_reducible first | apply x_then | apply wp_seq | apply c_region | apply wp_block | apply wp_skip | apply wp_exit | apply wp_ret | apply wp_label | apply wp_scope_straight | apply x_ng | apply x_ng_ret | apply x_ng_exit | apply x_then_ret | apply x_then_exit | apply x_block | apply x_block_ret | apply x_block_exit | refine x_block_other (by decide) ?_))
    refine kal hM (fun w b10 hM => ?_)
    repeat (first | ((with_reducible apply is_ld); first | refine kld hM ?_ | refine kldw hM ?_ | refine kle hM ?_ | refine klew hM ?_) | ((with_reducible apply is_sto); first | (refine kst hM ?_; intro w hM) | (refine kstw hM ?_; intro w hM)) | ((with_reducible apply is_st); refine su ?_) | ((with_reducible apply is_gd); first | refine gt ?_ | refine gf ?_ | refine gu ?_) | ((with_reducible apply is_en); refine en ?_) | (with_reducible first | apply x_then | apply wp_seq | apply c_region | apply wp_block | apply wp_skip | apply wp_exit | apply wp_ret | apply wp_label | apply wp_scope_straight | apply x_ng | apply x_ng_ret | apply x_ng_exit | apply x_then_ret | apply x_then_exit | apply x_block | apply x_block_ret | apply x_block_exit | refine x_block_other (by decide) ?_))
    refine kdr hM (by kernel_rfl) (by kernel_rfl) (fun w hM => ?_)
    repeat (first | ((with_reducible apply is_ldg); first | refine kldg hM ?_ | refine kldwg hM ?_) | ((with_reducible apply is_sg); refine sgu ?_) | ((with_reducible apply is_gg); first | refine gtg ?_ | refine gfg ?_ | refine gug ?_) | ((with_reducible apply is_eg); refine eg ?_))
    refine kcag hM (fun w1 _ => (count_any (N : Int) (a' : Int) ((a' : Int) + (lv.length : Int)) w1).mono fun e w2 ⟨u, h1, h2, h3⟩ => ⟨u, h1, h3, h2⟩) ?_
    repeat (first | ((with_reducible apply is_ldg); first | refine kldg hM ?_ | refine kldwg hM ?_) | ((with_reducible apply is_sg); refine sgu ?_) | ((with_reducible apply is_gg); first | refine gtg ?_ | refine gfg ?_ | refine gug ?_) | ((with_reducible apply is_eg); refine eg ?_))
    (intro w hc; have hM := hM.call hc)
    have e : (a' : Int) + (lv.length : Int) = ((a' + lv.length : Nat) : Int) := by omega
    have hm : mayZ (N : Int) (a' : Int) ((a' : Int) + (lv.length : Int)) = true := mayZ_t g1 (by omega) (by omega) g2
    have hs : sidesZ (N : Int) (a' : Int) ((a' : Int) + (lv.length : Int)) = sidesN a' (a' + lv.length) 0 N := by unfold sidesZ; rw [hm, e]; rfl
    by_cases hc : sd.length = (sidesZ (N : Int) (a' : Int) ((a' : Int) + (lv.length : Int))).length
    · have hz : rootZ (N : Int) (a' : Int) lv sd = (valN a' (a' + lv.length) lv 0 N sd, true) := by
        unfold rootZ
        rw [if_pos ⟨g1, g2, g3, g4, g5, hc⟩, e]
        rfl
      rw [hz]
      repeat (first | ((with_reducible apply is_ld); first | refine kld hM ?_ | refine kldw hM ?_ | refine kle hM ?_ | refine klew hM ?_) | ((with_reducible apply is_sto); first | (refine kst hM ?_; intro w hM) | (refine kstw hM ?_; intro w hM)) | ((with_reducible apply is_co); first | (refine c_condb rfl (fun _ => ?_) ?hf; (case hf => intro h; cases h; done)) | (refine c_condb rfl ?ht (fun _ => ?_); (case ht => intro h; cases h; done)) | (refine c_cond rfl (fun _ => ?_) ?hf; (case hf => intro h; exfalso; apply h; omega)) | (refine c_cond rfl ?ht (fun _ => ?_); (case ht => intro h; exfalso; omega))) | ((with_reducible apply is_st); refine su ?_) | ((with_reducible apply is_gd); first | refine gt ?_ | refine gf ?_ | refine gu ?_) | ((with_reducible apply is_en); refine en ?_) | (with_reducible first | apply x_then | apply wp_seq | apply c_region | apply wp_block | apply wp_skip | apply wp_exit | apply wp_ret | apply wp_label | apply wp_scope_straight | apply x_ng | apply x_ng_ret | apply x_ng_exit | apply x_then_ret | apply x_then_exit | apply x_block | apply x_block_ret | apply x_block_exit | refine x_block_other (by decide) ?_))
      (try ((with_reducible apply is_gd); first | refine gt ?_ | refine gf ?_ | refine gu ?_)); refine wl_val (r_makeFunc (cs := [.tmp 7])) ?_
      refine kal hM (fun w b11 hM => ?_)
      repeat (first | ((with_reducible apply is_ld); first | refine kld hM ?_ | refine kldw hM ?_ | refine kle hM ?_ | refine klew hM ?_) | ((with_reducible apply is_sto); first | (refine kst hM ?_; intro w hM) | (refine kstw hM ?_; intro w hM)) | ((with_reducible apply is_st); refine su ?_) | ((with_reducible apply is_gd); first | refine gt ?_ | refine gf ?_ | refine gu ?_) | ((with_reducible apply is_en); refine en ?_) | (with_reducible first | apply x_then | apply wp_seq | apply c_region | apply wp_block | apply wp_skip | apply wp_exit | apply wp_ret | apply wp_label | apply wp_scope_straight | apply x_ng | apply x_ng_ret | apply x_ng_exit | apply x_then_ret | apply x_then_exit | apply x_block | apply x_block_ret | apply x_block_exit | refine x_block_other (by decide) ?_))
      refine kal hM (fun w b12 hM => ?_)
      repeat (first | ((with_reducible apply is_ld); first | refine kld hM ?_ | refine kldw hM ?_ | refine kle hM ?_ | refine klew hM ?_) | ((with_reducible apply is_sto); first | (refine kst hM ?_; intro w hM) | (refine kstw hM ?_; intro w hM)) | ((with_reducible apply is_st); refine su ?_) | ((with_reducible apply is_gd); first | refine gt ?_ | refine gf ?_ | refine gu ?_) | ((with_reducible apply is_en); refine en ?_) | (with_reducible first | apply x_then | apply wp_seq | apply c_region | apply wp_block | apply wp_skip | apply wp_exit | apply wp_ret | apply wp_label | apply wp_scope_straight | apply x_ng | apply x_ng_ret | apply x_ng_exit | apply x_then_ret | apply x_then_exit | apply x_block | apply x_block_ret | apply x_block_exit | refine x_block_other (by decide) ?_))
      (try ((with_reducible apply is_gd); first | refine gt ?_ | refine gf ?_ | refine gu ?_)); refine wl_val (r_makeFunc (cs := [.tmp 5, .tmp 10, .tmp 11, .tmp 6, .tmp 12])) ?_
      repeat (first | ((with_reducible apply is_ld); first | refine kld hM ?_ | refine kldw hM ?_ | refine kle hM ?_ | refine klew hM ?_) | ((with_reducible apply is_sto); first | (refine kst hM ?_; intro w hM) | (refine kstw hM ?_; intro w hM)) | ((with_reducible apply is_st); refine su ?_) | ((with_reducible apply is_gd); first | refine gt ?_ | refine gf ?_ | refine gu ?_) | ((with_reducible apply is_en); refine en ?_) | (with_reducible first | apply x_then | apply wp_seq | apply c_region | apply wp_block | apply wp_skip | apply wp_exit | apply wp_ret | apply wp_label | apply wp_scope_straight | apply x_ng | apply x_ng_ret | apply x_ng_exit | apply x_then_ret | apply x_then_exit | apply x_block | apply x_block_ret | apply x_block_exit | refine x_block_other (by decide) ?_))
      have hg := hM.ge (b := b7) (by (repeat (first | exact Go.Proofs.E.Pick.here | apply Go.Proofs.E.Pick.there)))
      have hk1 := hK.1
      rw [e] at hM
      refine kcd (lb := #[.pointer (some ⟨b5, 0, none⟩), .pointer (some ⟨b10, 0, none⟩), .pointer (some ⟨b11, 0, none⟩), .pointer (some ⟨b6, 0, none⟩), .pointer (some ⟨b12, 0, none⟩)]) (vs := [.int .i64 0, .int .i64 (N : Int)])
        (top_any a' (a' + lv.length) lv (by omega) rfl hlv b7 b5 b10 b11 b6 b12 _ w N 0 N sd _ w rfl (by omega) (by omega) (by omega) (by rw [hs] at hc; unfold cntN; omega)
          ⟨hM.blk (by (repeat (first | exact Go.Proofs.E.Pick.here | apply Go.Proofs.E.Pick.there))), hM.blk (by (repeat (first | exact Go.Proofs.E.Pick.here | apply Go.Proofs.E.Pick.there))), hM.blk (by (repeat (first | exact Go.Proofs.E.Pick.here | apply Go.Proofs.E.Pick.there))), hM.blk (by (repeat (first | exact Go.Proofs.E.Pick.here | apply Go.Proofs.E.Pick.there))), hM.blk (by (repeat (first | exact Go.Proofs.E.Pick.here | apply Go.Proofs.E.Pick.there))), hM.nin (b := b7) (by (repeat (first | exact Go.Proofs.E.Pick.here | apply Go.Proofs.E.Pick.there))) (by (repeat (first | exact Go.Proofs.E.Pick.here | apply Go.Proofs.E.Pick.there))), hM.nin (b := b7) (by (repeat (first | exact Go.Proofs.E.Pick.here | apply Go.Proofs.E.Pick.there))) (by (repeat (first | exact Go.Proofs.E.Pick.here | apply Go.Proofs.E.Pick.there))), hM.nin (b := b7) (by (repeat (first | exact Go.Proofs.E.Pick.here | apply Go.Proofs.E.Pick.there))) (by (repeat (first | exact Go.Proofs.E.Pick.here | apply Go.Proofs.E.Pick.there))), hM.nin (b := b7) (by (repeat (first | exact Go.Proofs.E.Pick.here | apply Go.Proofs.E.Pick.there))) (by (repeat (first | exact Go.Proofs.E.Pick.here | apply Go.Proofs.E.Pick.there))), hM.nin (b := b7) (by (repeat (first | exact Go.Proofs.E.Pick.here | apply Go.Proofs.E.Pick.there))) (by (repeat (first | exact Go.Proofs.E.Pick.here | apply Go.Proofs.E.Pick.there))), hM.rdNew (by (repeat (first | exact Go.Proofs.E.Pick.here | apply Go.Proofs.E.Pick.there))) hR1, hK.ch hM.ch (by simp), by simp; omega⟩
          (Ch.refl _ _) (hM.blk (by (repeat (first | exact Go.Proofs.E.Pick.here | apply Go.Proofs.E.Pick.there)))) (hM.rdNew (by (repeat (first | exact Go.Proofs.E.Pick.here | apply Go.Proofs.E.Pick.there))) hR2)) ?_
      rintro _ w ⟨rfl, hc, v', hB', hR'⟩
      have hM := hM.cellSet hB' hc
      refine kstw (vs := (valN a' (a' + lv.length) lv 0 N sd).1.map u8v) hM (fun w hM => ?_)
      repeat (first | ((with_reducible apply is_ld); first | refine kld hM ?_ | refine kldw hM ?_ | refine kle hM ?_ | refine klew hM ?_) | ((with_reducible apply is_sto); first | (refine kst hM ?_; intro w hM) | (refine kstw hM ?_; intro w hM)) | ((with_reducible apply is_st); refine su ?_) | ((with_reducible apply is_gd); first | refine gt ?_ | refine gf ?_ | refine gu ?_) | ((with_reducible apply is_en); refine en ?_) | (with_reducible first | apply x_then | apply wp_seq | apply c_region | apply wp_block | apply wp_skip | apply wp_exit | apply wp_ret | apply wp_label | apply wp_scope_straight | apply x_ng | apply x_ng_ret | apply x_ng_exit | apply x_then_ret | apply x_then_exit | apply x_block | apply x_block_ret | apply x_block_exit | refine x_block_other (by decide) ?_))
      exact koc2 hM rfl ⟨rfl, hM.ch⟩
    · rw [rootZ_f (fun h => hc h.2.2.2.2.2)]
      repeat (first | ((with_reducible apply is_ld); first | refine kld hM ?_ | refine kldw hM ?_ | refine kle hM ?_ | refine klew hM ?_) | ((with_reducible apply is_sto); first | (refine kst hM ?_; intro w hM) | (refine kstw hM ?_; intro w hM)) | ((with_reducible apply is_co); first | (refine c_condb rfl (fun _ => ?_) ?hf; (case hf => intro h; cases h; done)) | (refine c_condb rfl ?ht (fun _ => ?_); (case ht => intro h; cases h; done)) | (refine c_cond rfl (fun _ => ?_) ?hf; (case hf => intro h; exfalso; apply h; omega)) | (refine c_cond rfl ?ht (fun _ => ?_); (case ht => intro h; exfalso; omega))) | ((with_reducible apply is_st); refine su ?_) | ((with_reducible apply is_gd); first | refine gt ?_ | refine gf ?_ | refine gu ?_) | ((with_reducible apply is_en); refine en ?_) | (with_reducible first | apply x_then | apply wp_seq | apply c_region | apply wp_block | apply wp_skip | apply wp_exit | apply wp_ret | apply wp_label | apply wp_scope_straight | apply x_ng | apply x_ng_ret | apply x_ng_exit | apply x_then_ret | apply x_then_exit | apply x_block | apply x_block_ret | apply x_block_exit | refine x_block_other (by decide) ?_))
      (try ((with_reducible apply is_gd); first | refine gt ?_ | refine gf ?_ | refine gu ?_)); refine wl_val (r_build_arr0 (e := 5)) ?_
      refine kstw (vs := zeroH.1.map u8v) hM (fun w hM => ?_)
      repeat (first | ((with_reducible apply is_ld); first | refine kld hM ?_ | refine kldw hM ?_ | refine kle hM ?_ | refine klew hM ?_) | ((with_reducible apply is_sto); first | (refine kst hM ?_; intro w hM) | (refine kstw hM ?_; intro w hM)) | ((with_reducible apply is_st); refine su ?_) | ((with_reducible apply is_gd); first | refine gt ?_ | refine gf ?_ | refine gu ?_) | ((with_reducible apply is_en); refine en ?_) | (with_reducible first | apply x_then | apply wp_seq | apply c_region | apply wp_block | apply wp_skip | apply wp_exit | apply wp_ret | apply wp_label | apply wp_scope_straight | apply x_ng | apply x_ng_ret | apply x_ng_exit | apply x_then_ret | apply x_then_exit | apply x_block | apply x_block_ret | apply x_block_exit | refine x_block_other (by decide) ?_))
      exact koc2 hM rfl ⟨rfl, hM.ch⟩
  · rw [rootZ_f (fun h => g ⟨h.1, h.2.1, h.2.2.1, h.2.2.2.1, h.2.2.2.2.1⟩)]
    have g' : a < 0 ∨ (0 ≤ a ∧ 1099511627776 < n) ∨ (0 ≤ a ∧ n ≤ 1099511627776 ∧ n < a) ∨ (0 ≤ a ∧ n ≤ 1099511627776 ∧ a ≤ n ∧ lv.length = 0) ∨ (0 ≤ a ∧ n ≤ 1099511627776 ∧ a ≤ n ∧ lv.length ≠ 0 ∧ n - a < (lv.length : Int)) := by omega
    rcases g' with g' | ⟨g1, g'⟩ | ⟨g1, g2, g'⟩ | ⟨g1, g2, g3, g'⟩ | ⟨g1, g2, g3, g4, g'⟩
    all_goals
      repeat (first | ((with_reducible apply is_ld); first | refine kld hM ?_ | refine kldw hM ?_ | refine kle hM ?_ | refine klew hM ?_) | ((with_reducible apply is_sto); first | (refine kst hM ?_; intro w hM) | (refine kstw hM ?_; intro w hM)) | ((with_reducible apply is_co); first | (refine c_condb rfl (fun _ => ?_) ?hf; (case hf => intro h; cases h; done)) | (refine c_condb rfl ?ht (fun _ => ?_); (case ht => intro h; cases h; done)) | (refine c_cond rfl (fun _ => ?_) ?hf; (case hf => intro h; exfalso; apply h; omega)) | (refine c_cond rfl ?ht (fun _ => ?_); (case ht => intro h; exfalso; omega))) | ((with_reducible apply is_st); refine su ?_) | ((with_reducible apply is_gd); first | refine gt ?_ | refine gf ?_ | refine gu ?_) | ((with_reducible apply is_en); refine en ?_) | (with_reducible first | apply x_then | apply wp_seq | apply c_region | apply wp_block | apply wp_skip | apply wp_exit | apply wp_ret | apply wp_label | apply wp_scope_straight | apply x_ng | apply x_ng_ret | apply x_ng_exit | apply x_then_ret | apply x_then_exit | apply x_block | apply x_block_ret | apply x_block_exit | refine x_block_other (by decide) ?_))
      (try ((with_reducible apply is_gd); first | refine gt ?_ | refine gf ?_ | refine gu ?_)); refine wl_val (r_build_arr0 (e := 5)) ?_
      refine kstw (vs := zeroH.1.map u8v) hM (fun w hM => ?_)
      repeat (first | ((with_reducible apply is_ld); first | refine kld hM ?_ | refine kldw hM ?_ | refine kle hM ?_ | refine klew hM ?_) | ((with_reducible apply is_sto); first | (refine kst hM ?_; intro w hM) | (refine kstw hM ?_; intro w hM)) | ((with_reducible apply is_st); refine su ?_) | ((with_reducible apply is_gd); first | refine gt ?_ | refine gf ?_ | refine gu ?_) | ((with_reducible apply is_en); refine en ?_) | (with_reducible first | apply x_then | apply wp_seq | apply c_region | apply wp_block | apply wp_skip | apply wp_exit | apply wp_ret | apply wp_label | apply wp_scope_straight | apply x_ng | apply x_ng_ret | apply x_ng_exit | apply x_then_ret | apply x_then_exit | apply x_block | apply x_block_ret | apply x_block_exit | refine x_block_other (by decide) ?_))
      exact koc2 hM rfl ⟨rfl, hM.ch⟩
def scheckZ (r : Hs) (n a : Int) (lv sd : List Hs) : Bool := (rootZ n a lv sd).2 && decide ((rootZ n a lv sd).1.1 = r.1)
theorem scheck_any (r : Hs) (n a : Int) (v1 v2 : Value) (lv sd : List Hs) (w0 : World) (hK : Laid w0) (hR1 : (Ty.enc eH).Rd [] w0 v1 lv) (hR2 : (Ty.enc eH).Rd [] w0 v2 sd) (hlv : lv.length ≤ 1000000) :
    Calls Tryd.prog 21 #[hv r.1, .int .i64 n, .int .i64 a, v1, v2] w0 (Ret fun u w' => u = .bool (scheckZ r n a lv sd) ∧ Ch [] w0 w') := by
  have hM := Mem.start w0
  refine enter [hv r.1, .int .i64 n, .int .i64 a, v1, v2, undef, undef, undef, undef, undef, undef, undef, undef, undef, undef, undef, undef, undef, undef, undef, undef, undef, undef, undef, undef, undef, undef] Tryd.func21 rfl rfl ?_
  repeat (first | ((with_reducible apply is_ld); first | refine kld hM ?_ | refine kldw hM ?_ | refine kle hM ?_ | refine klew hM ?_) | ((with_reducible apply is_sto); first | (refine kst hM ?_; intro w hM) | (refine kstw hM ?_; intro w hM)) | ((with_reducible apply is_st); refine su ?_) | ((with_reducible apply is_gd); first | refine gt ?_ | refine gf ?_ | refine gu ?_) | ((with_reducible apply is_en); refine en ?_) | (with_reducible first | apply x_then | apply wp_seq | apply c_region | apply wp_block | apply wp_skip | apply wp_exit | apply wp_ret | apply wp_label | apply wp_scope_straight | apply x_ng | apply x_ng_ret | apply x_ng_exit | apply x_then_ret | apply x_then_exit | apply x_block | apply x_block_ret | apply x_block_exit | refine x_block_other (by decide) ?_))
  refine kbx hM (fun w b5 hM => ?_)
  have hM : Mem [] w0 w [.cell b5 (r.1.map u8v) 29] := hM
  repeat (first | ((with_reducible apply is_ld); first | refine kld hM ?_ | refine kldw hM ?_ | refine kle hM ?_ | refine klew hM ?_) | ((with_reducible apply is_sto); first | (refine kst hM ?_; intro w hM) | (refine kstw hM ?_; intro w hM)) | ((with_reducible apply is_st); refine su ?_) | ((with_reducible apply is_gd); first | refine gt ?_ | refine gf ?_ | refine gu ?_) | ((with_reducible apply is_en); refine en ?_) | (with_reducible first | apply x_then | apply wp_seq | apply c_region | apply wp_block | apply wp_skip | apply wp_exit | apply wp_ret | apply wp_label | apply wp_scope_straight | apply x_ng | apply x_ng_ret | apply x_ng_exit | apply x_then_ret | apply x_then_exit | apply x_block | apply x_block_ret | apply x_block_exit | refine x_block_other (by decide) ?_))
  refine kca hM (sroot_any n a v1 v2 lv sd w (hK.ch hM.ch (by simp)) (hR1.ch hM.ch) (hR2.ch hM.ch) hlv) (fun w hM => ?_)
  unfold scheckZ
  generalize rootZ n a lv sd = z
  obtain ⟨h, b⟩ := z
  repeat (first | ((with_reducible apply is_ld); first | refine kld hM ?_ | refine kldw hM ?_ | refine kle hM ?_ | refine klew hM ?_) | ((with_reducible apply is_sto); first | (refine kst hM ?_; intro w hM) | (refine kstw hM ?_; intro w hM)) | ((with_reducible apply is_st); refine su ?_) | ((with_reducible apply is_gd); first | refine gt ?_ | refine gf ?_ | refine gu ?_) | ((with_reducible apply is_en); refine en ?_) | (with_reducible first | apply x_then | apply wp_seq | apply c_region | apply wp_block | apply wp_skip | apply wp_exit | apply wp_ret | apply wp_label | apply wp_scope_straight | apply x_ng | apply x_ng_ret | apply x_ng_exit | apply x_then_ret | apply x_then_exit | apply x_block | apply x_block_ret | apply x_block_exit | refine x_block_other (by decide) ?_))
  refine kal hM (fun w b11 hM => ?_)
  refine kstw (vs := h.1.map u8v) hM (fun w hM => ?_)
  cases b with
  | false =>
    repeat (first | ((with_reducible apply is_ld); first | refine kld hM ?_ | refine kldw hM ?_ | refine kle hM ?_ | refine klew hM ?_) | ((with_reducible apply is_sto); first | (refine kst hM ?_; intro w hM) | (refine kstw hM ?_; intro w hM)) | ((with_reducible apply is_st); refine su ?_) | ((with_reducible apply is_gd); first | refine gt ?_ | refine gf ?_ | refine gu ?_) | ((with_reducible apply is_en); refine en ?_) | (with_reducible first | apply x_then | apply wp_seq | apply c_region | apply wp_block | apply wp_skip | apply wp_exit | apply wp_ret | apply wp_label | apply wp_scope_straight | apply x_ng | apply x_ng_ret | apply x_ng_exit | apply x_then_ret | apply x_then_exit | apply x_block | apply x_block_ret | apply x_block_exit | refine x_block_other (by decide) ?_))
    exact out1 rfl ⟨rfl, hM.ch⟩
  | true =>
    repeat (first | ((with_reducible apply is_ld); first | refine kld hM ?_ | refine kldw hM ?_ | refine kle hM ?_ | refine klew hM ?_) | ((with_reducible apply is_sto); first | (refine kst hM ?_; intro w hM) | (refine kstw hM ?_; intro w hM)) | ((with_reducible apply is_st); refine su ?_) | ((with_reducible apply is_gd); first | refine gt ?_ | refine gf ?_ | refine gu ?_) | ((with_reducible apply is_en); refine en ?_) | (with_reducible first | apply x_then | apply wp_seq | apply c_region | apply wp_block | apply wp_skip | apply wp_exit | apply wp_ret | apply wp_label | apply wp_scope_straight | apply x_ng | apply x_ng_ret | apply x_ng_exit | apply x_then_ret | apply x_then_exit | apply x_block | apply x_block_ret | apply x_block_exit | refine x_block_other (by decide) ?_))
    (try ((with_reducible apply is_gd); first | refine gt ?_ | refine gf ?_ | refine gu ?_)); refine wl_val (r_eql8 (n := 32) (a := h.1) (b := r.1) Tryd.eqGuardType29 rfl rfl h.2 r.2) ?_
    repeat (first | ((with_reducible apply is_ld); first | refine kld hM ?_ | refine kldw hM ?_ | refine kle hM ?_ | refine klew hM ?_) | ((with_reducible apply is_sto); first | (refine kst hM ?_; intro w hM) | (refine kstw hM ?_; intro w hM)) | ((with_reducible apply is_st); refine su ?_) | ((with_reducible apply is_gd); first | refine gt ?_ | refine gf ?_ | refine gu ?_) | ((with_reducible apply is_en); refine en ?_) | (with_reducible first | apply x_then | apply wp_seq | apply c_region | apply wp_block | apply wp_skip | apply wp_exit | apply wp_ret | apply wp_label | apply wp_scope_straight | apply x_ng | apply x_ng_ret | apply x_ng_exit | apply x_then_ret | apply x_then_exit | apply x_block | apply x_block_ret | apply x_block_exit | refine x_block_other (by decide) ?_))
    exact out1 rfl ⟨rfl, hM.ch⟩
end Go.Proofs.YtfldckjkipmibaaDoor

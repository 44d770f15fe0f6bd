/- Walks: values taken from bytes one behind the other (record.source). -/
import Derived.Test.YtnkkeehoejmcnaaGet2
set_option linter.unusedVariables false
set_option linter.unusedSimpArgs false
namespace Go.Proofs.Ytnkkeehoejmcnaa
open Go Go.RowKit Go.Proofs.E
attribute [local irreducible] Go.wpList Go.Code.wp Go.Proofs.E.exec Go.Proofs.E.wpLexG
abbrev St := Bs × Bool
def gotSt (s : St) (n : Nat) (ok : Bool) : Bool × St := if s.2 = true ∨ ok = false then (false, (s.1, true)) else (true, (s.1.drop n, false))
def numT (most : Nat) (s : St) : Nat × St :=
  (if (gotSt s (getNum s.1).2.1 ((getNum s.1).2.2 && decide ((getNum s.1).1 ≤ most))).1 = true then (getNum s.1).1 else 0, (gotSt s (getNum s.1).2.1 ((getNum s.1).2.2 && decide ((getNum s.1).1 ≤ most))).2)
def flagT (s : St) : Bool × St := ((gotSt s (getFlag s.1).2.1 (getFlag s.1).2.2).1 && (getFlag s.1).1, (gotSt s (getFlag s.1).2.1 (getFlag s.1).2.2).2)
def strT (most : Nat) (s : St) : Bs × St :=
  (if (gotSt s (getStr s.1 most).2.1 (getStr s.1 most).2.2).1 = true then (getStr s.1 most).1 else [], (gotSt s (getStr s.1 most).2.1 (getStr s.1 most).2.2).2)
abbrev sC (vb : Value) (bad : Bool) : List Value := [vb, .bool bad]
/-- What a call that takes leaves behind. -/
def Took (T : TypeId) (bS : Nat) (wx w w' : World) (s : St) : Prop := ∃ vb, Ch [bS] w w' ∧ Blk w' bS (sC vb s.2) T ∧ tU8.Rd [] wx vb s.1
set_option maxHeartbeats 4000000 in
theorem got_any (bS : Nat) (vb : Value) (s : St) (n : Nat) (ok : Bool) (wx w0 : World) (hB : Blk w0 bS (sC vb s.2) 53) (hx : tU8.Rd [] wx vb s.1) (hn : n ≤ s.1.length) :
    Calls Try.prog 44 #[.pointer (some ⟨bS, 0, none⟩), .int .i64 (n : Int), .bool ok] w0 (Ret fun u w' => u = .bool (gotSt s n ok).1 ∧ Took 53 bS wx w0 w' (gotSt s n ok).2) := by
  obtain ⟨A, c, rfl⟩ := hx.form
  obtain ⟨bs, bad⟩ := s
  simp only at hB hx hn ⊢
  have hle := hx.le
  have hM := Mem.take hB
  unfold gotSt
  refine enter [.pointer (some ⟨bS, 0, none⟩), .int .i64 (n : Int), .bool ok, undef, undef, undef, undef, undef, undef, undef, undef, undef, undef, undef, undef, undef, undef, undef, undef, undef, undef, undef, undef, undef, undef, undef, undef, undef, undef, undef, undef] Try.func44 rfl rfl ?_
  repeat (first | ((with_reducible apply is_ld); first | refine kld hM ?_ | refine kldw hM ?_ | refine kle hM ?_ | refine klew hM ?_) | ((with_reducible apply is_sto); first | (refine kst hM ?_; intro w hM) | (refine kstw hM ?_; intro w hM)) | ((with_reducible apply is_st); refine su ?_) | ((with_reducible apply is_gd); first | refine gt ?_ | refine gf ?_ | refine gu ?_) | ((with_reducible apply is_en); refine en ?_) | (with_reducible apply c_region) | refine ws ?_ | refine x_block_other (by decide) ?_)
  cases bad with
  | true =>
    repeat (first | ((with_reducible apply is_ld); first | refine kld hM ?_ | refine kldw hM ?_ | refine kle hM ?_ | refine klew hM ?_) | ((with_reducible apply is_sto); first | (refine kst hM ?_; intro w hM) | (refine kstw hM ?_; intro w hM)) | ((with_reducible apply is_st); refine su ?_) | ((with_reducible apply is_gd); first | refine gt ?_ | refine gf ?_ | refine gu ?_) | ((with_reducible apply is_en); refine en ?_) | (with_reducible apply c_region) | refine ws ?_ | refine x_block_other (by decide) ?_)
    refine c_condb rfl (fun _ => ?_) (fun h => by cases h)
    repeat (first | ((with_reducible apply is_ld); first | refine kld hM ?_ | refine kldw hM ?_ | refine kle hM ?_ | refine klew hM ?_) | ((with_reducible apply is_sto); first | (refine kst hM ?_; intro w hM) | (refine kstw hM ?_; intro w hM)) | ((with_reducible apply is_st); refine su ?_) | ((with_reducible apply is_gd); first | refine gt ?_ | refine gf ?_ | refine gu ?_) | ((with_reducible apply is_en); refine en ?_) | (with_reducible apply c_region) | refine ws ?_ | refine x_block_other (by decide) ?_)
    exact out1 rfl ⟨by simp [ev, nth], _, hM.ch, hM.blk (b := bS) (by (repeat constructor)), by simpa using hx⟩
  | false =>
    repeat (first | ((with_reducible apply is_ld); first | refine kld hM ?_ | refine kldw hM ?_ | refine kle hM ?_ | refine klew hM ?_) | ((with_reducible apply is_sto); first | (refine kst hM ?_; intro w hM) | (refine kstw hM ?_; intro w hM)) | ((with_reducible apply is_st); refine su ?_) | ((with_reducible apply is_gd); first | refine gt ?_ | refine gf ?_ | refine gu ?_) | ((with_reducible apply is_en); refine en ?_) | (with_reducible apply c_region) | refine ws ?_ | refine x_block_other (by decide) ?_)
    cases ok with
    | false =>
      repeat (first | ((with_reducible apply is_ld); first | refine kld hM ?_ | refine kldw hM ?_ | refine kle hM ?_ | refine klew hM ?_) | ((with_reducible apply is_sto); first | (refine kst hM ?_; intro w hM) | (refine kstw hM ?_; intro w hM)) | ((with_reducible apply is_st); refine su ?_) | ((with_reducible apply is_gd); first | refine gt ?_ | refine gf ?_ | refine gu ?_) | ((with_reducible apply is_en); refine en ?_) | (with_reducible apply c_region) | refine ws ?_ | refine x_block_other (by decide) ?_)
      refine c_condb rfl (fun _ => ?_) (fun h => by cases h)
      repeat (first | ((with_reducible apply is_ld); first | refine kld hM ?_ | refine kldw hM ?_ | refine kle hM ?_ | refine klew hM ?_) | ((with_reducible apply is_sto); first | (refine kst hM ?_; intro w hM) | (refine kstw hM ?_; intro w hM)) | ((with_reducible apply is_st); refine su ?_) | ((with_reducible apply is_gd); first | refine gt ?_ | refine gf ?_ | refine gu ?_) | ((with_reducible apply is_en); refine en ?_) | (with_reducible apply c_region) | refine ws ?_ | refine x_block_other (by decide) ?_)
      exact out1 rfl ⟨by simp [ev, nth], _, hM.ch, hM.blk (b := bS) (by (repeat constructor)), by simpa using hx⟩
    | true =>
      repeat (first | ((with_reducible apply is_ld); first | refine kld hM ?_ | refine kldw hM ?_ | refine kle hM ?_ | refine klew hM ?_) | ((with_reducible apply is_sto); first | (refine kst hM ?_; intro w hM) | (refine kstw hM ?_; intro w hM)) | ((with_reducible apply is_st); refine su ?_) | ((with_reducible apply is_gd); first | refine gt ?_ | refine gf ?_ | refine gu ?_) | ((with_reducible apply is_en); refine en ?_) | (with_reducible apply c_region) | refine ws ?_ | refine x_block_other (by decide) ?_)
      refine c_condb rfl (fun h => by cases h) (fun _ => ?_)
      repeat (first | ((with_reducible apply is_ld); first | refine kld hM ?_ | refine kldw hM ?_ | refine kle hM ?_ | refine klew hM ?_) | ((with_reducible apply is_sto); first | (refine kst hM ?_; intro w hM) | (refine kstw hM ?_; intro w hM)) | ((with_reducible apply is_st); refine su ?_) | ((with_reducible apply is_gd); first | refine gt ?_ | refine gf ?_ | refine gu ?_) | ((with_reducible apply is_en); refine en ?_) | (with_reducible apply c_region) | refine ws ?_ | refine x_block_other (by decide) ?_)
      refine kcutl hx (i := (n : Int)) (fun v28 hV => ?_)
      rw [Int.toNat_natCast] at hV
      obtain ⟨A28, c28, rfl⟩ := hV.form
      repeat (first | ((with_reducible apply is_ld); first | refine kld hM ?_ | refine kldw hM ?_ | refine kle hM ?_ | refine klew hM ?_) | ((with_reducible apply is_sto); first | (refine kst hM ?_; intro w hM) | (refine kstw hM ?_; intro w hM)) | ((with_reducible apply is_st); refine su ?_) | ((with_reducible apply is_gd); first | refine gt ?_ | refine gf ?_ | refine gu ?_) | ((with_reducible apply is_en); refine en ?_) | (with_reducible apply c_region) | refine ws ?_ | refine x_block_other (by decide) ?_)
      exact out1 rfl ⟨by simp [ev, nth], _, hM.ch, hM.blk (b := bS) (by (repeat constructor)), by simpa using hV⟩
theorem gotSt_ok {s : St} {n : Nat} {ok : Bool} (h : (gotSt s n ok).1 = true) : ok = true ∧ s.2 = false := by
  unfold gotSt at h
  split at h
  · cases h
  · rename_i q
    constructor
    · cases ok with
      | true => rfl
      | false => exact absurd (.inr rfl) q
    · cases hs : s.2 with
      | true => exact absurd (.inl hs) q
      | false => rfl
theorem getFlag_k (bs : Bs) : (getFlag bs).2.1 ≤ bs.length := by
  cases bs with
  | nil => exact Nat.le_refl _
  | cons b r =>
    rw [getFlag_cons]
    split
    · exact Nat.zero_le _
    · simp
theorem getStr_k (bs : Bs) (most : Nat) : (getStr bs most).2.1 ≤ bs.length := by
  have := getNum_k bs
  unfold getStr
  split
  · exact Nat.zero_le _
  · rename_i h
    simp only
    omega
set_option maxHeartbeats 4000000 in
theorem snum_any (bS : Nat) (vb : Value) (s : St) (most : Nat) (wx w0 : World) (hB : Blk w0 bS (sC vb s.2) 53) (hR : tU8.Rd [] w0 vb s.1) (hx : tU8.Rd [] wx vb s.1) (hm : most ≤ 9223372036854775807) :
    Calls Try.prog 26 #[.pointer (some ⟨bS, 0, none⟩), .int .i64 (most : Int)] w0 (Ret fun u w' => u = .int .i64 ((numT most s).1 : Int) ∧ Took 53 bS wx w0 w' (numT most s).2) := by
  obtain ⟨A, c, rfl⟩ := hx.form
  obtain ⟨bs, bad⟩ := s
  simp only at hB hx hR ⊢
  have hM := Mem.take hB
  refine enter [.pointer (some ⟨bS, 0, none⟩), .int .i64 (most : Int), undef, undef, undef, undef, undef, undef, undef, undef, undef, undef, undef, undef, undef, undef, undef, undef, undef, undef, undef, undef, undef, undef, undef, undef, undef, undef, undef, undef] Try.func26 rfl rfl ?_
  repeat (first | ((with_reducible apply is_ld); first | refine kld hM ?_ | refine kldw hM ?_ | refine kle hM ?_ | refine klew hM ?_) | ((with_reducible apply is_sto); first | (refine kst hM ?_; intro w hM) | (refine kstw hM ?_; intro w hM)) | ((with_reducible apply is_st); refine su ?_) | ((with_reducible apply is_gd); first | refine gt ?_ | refine gf ?_ | refine gu ?_) | ((with_reducible apply is_en); refine en ?_) | (with_reducible apply c_region) | refine ws ?_ | refine x_block_other (by decide) ?_)
  refine kca hM (getNum_any _ _ hR) (fun w hM => ?_)
  have hk := getNum_k bs
  unfold numT
  simp only
  generalize getNum bs = g at hk ⊢
  obtain ⟨n, k, ok⟩ := g
  simp only at hk ⊢
  repeat (first | ((with_reducible apply is_ld); first | refine kld hM ?_ | refine kldw hM ?_ | refine kle hM ?_ | refine klew hM ?_) | ((with_reducible apply is_sto); first | (refine kst hM ?_; intro w hM) | (refine kstw hM ?_; intro w hM)) | ((with_reducible apply is_st); refine su ?_) | ((with_reducible apply is_gd); first | refine gt ?_ | refine gf ?_ | refine gu ?_) | ((with_reducible apply is_en); refine en ?_) | (with_reducible apply c_region) | refine ws ?_ | refine x_block_other (by decide) ?_)
  cases ok with
  | false =>
    rw [Bool.false_and]
    repeat (first | ((with_reducible apply is_ld); first | refine kld hM ?_ | refine kldw hM ?_ | refine kle hM ?_ | refine klew hM ?_) | ((with_reducible apply is_sto); first | (refine kst hM ?_; intro w hM) | (refine kstw hM ?_; intro w hM)) | ((with_reducible apply is_st); refine su ?_) | ((with_reducible apply is_gd); first | refine gt ?_ | refine gf ?_ | refine gu ?_) | ((with_reducible apply is_en); refine en ?_) | (with_reducible apply c_region) | refine ws ?_ | refine x_block_other (by decide) ?_)
    refine ca (got_any bS _ (bs, bad) k false wx w (hM.blk (b := bS) (by (repeat constructor))) hx hk.1) ?_
    rintro _ w2 ⟨rfl, vb2, hc, hB2, hx2⟩
    have hM := hM.cellSet hB2 hc
    have hg1 : (gotSt (bs, bad) k false).1 = false := by simp [gotSt]
    rw [hg1]
    repeat (first | ((with_reducible apply is_ld); first | refine kld hM ?_ | refine kldw hM ?_ | refine kle hM ?_ | refine klew hM ?_) | ((with_reducible apply is_sto); first | (refine kst hM ?_; intro w hM) | (refine kstw hM ?_; intro w hM)) | ((with_reducible apply is_st); refine su ?_) | ((with_reducible apply is_gd); first | refine gt ?_ | refine gf ?_ | refine gu ?_) | ((with_reducible apply is_en); refine en ?_) | (with_reducible apply c_region) | refine ws ?_ | refine x_block_other (by decide) ?_)
    refine c_condb rfl (fun _ => ?_) (fun h => by cases h)
    repeat (first | ((with_reducible apply is_ld); first | refine kld hM ?_ | refine kldw hM ?_ | refine kle hM ?_ | refine klew hM ?_) | ((with_reducible apply is_sto); first | (refine kst hM ?_; intro w hM) | (refine kstw hM ?_; intro w hM)) | ((with_reducible apply is_st); refine su ?_) | ((with_reducible apply is_gd); first | refine gt ?_ | refine gf ?_ | refine gu ?_) | ((with_reducible apply is_en); refine en ?_) | (with_reducible apply c_region) | refine ws ?_ | refine x_block_other (by decide) ?_)
    exact out1 rfl ⟨rfl, vb2, hM.ch, hM.blk (b := bS) (by (repeat constructor)), hx2⟩
  | true =>
    rw [Bool.true_and]
    repeat (first | ((with_reducible apply is_ld); first | refine kld hM ?_ | refine kldw hM ?_ | refine kle hM ?_ | refine klew hM ?_) | ((with_reducible apply is_sto); first | (refine kst hM ?_; intro w hM) | (refine kstw hM ?_; intro w hM)) | ((with_reducible apply is_st); refine su ?_) | ((with_reducible apply is_gd); first | refine gt ?_ | refine gf ?_ | refine gu ?_) | ((with_reducible apply is_en); refine en ?_) | (with_reducible apply c_region) | refine ws ?_ | refine x_block_other (by decide) ?_)
    rw [show decide ((n : Int) ≤ (most : Int)) = decide (n ≤ most) by rw [Bool.eq_iff_iff, decide_eq_true_eq, decide_eq_true_eq]; omega]
    repeat (first | ((with_reducible apply is_ld); first | refine kld hM ?_ | refine kldw hM ?_ | refine kle hM ?_ | refine klew hM ?_) | ((with_reducible apply is_sto); first | (refine kst hM ?_; intro w hM) | (refine kstw hM ?_; intro w hM)) | ((with_reducible apply is_st); refine su ?_) | ((with_reducible apply is_gd); first | refine gt ?_ | refine gf ?_ | refine gu ?_) | ((with_reducible apply is_en); refine en ?_) | (with_reducible apply c_region) | refine ws ?_ | refine x_block_other (by decide) ?_)
    refine ca (got_any bS _ (bs, bad) k (decide (n ≤ most)) wx w (hM.blk (b := bS) (by (repeat constructor))) hx hk.1) ?_
    rintro _ w2 ⟨rfl, vb2, hc, hB2, hx2⟩
    have hM := hM.cellSet hB2 hc
    have hgo := gotSt_ok (s := (bs, bad)) (n := k) (ok := decide (n ≤ most))
    generalize gotSt (bs, bad) k (decide (n ≤ most)) = g2 at hB2 hx2 hM hgo ⊢
    obtain ⟨r2, s2⟩ := g2
    simp only at hgo hx2 hM ⊢
    cases r2 with
    | false =>
      repeat (first | ((with_reducible apply is_ld); first | refine kld hM ?_ | refine kldw hM ?_ | refine kle hM ?_ | refine klew hM ?_) | ((with_reducible apply is_sto); first | (refine kst hM ?_; intro w hM) | (refine kstw hM ?_; intro w hM)) | ((with_reducible apply is_st); refine su ?_) | ((with_reducible apply is_gd); first | refine gt ?_ | refine gf ?_ | refine gu ?_) | ((with_reducible apply is_en); refine en ?_) | (with_reducible apply c_region) | refine ws ?_ | refine x_block_other (by decide) ?_)
      refine c_condb rfl (fun _ => ?_) (fun h => by cases h)
      repeat (first | ((with_reducible apply is_ld); first | refine kld hM ?_ | refine kldw hM ?_ | refine kle hM ?_ | refine klew hM ?_) | ((with_reducible apply is_sto); first | (refine kst hM ?_; intro w hM) | (refine kstw hM ?_; intro w hM)) | ((with_reducible apply is_st); refine su ?_) | ((with_reducible apply is_gd); first | refine gt ?_ | refine gf ?_ | refine gu ?_) | ((with_reducible apply is_en); refine en ?_) | (with_reducible apply c_region) | refine ws ?_ | refine x_block_other (by decide) ?_)
      exact out1 rfl ⟨rfl, vb2, hM.ch, hM.blk (b := bS) (by (repeat constructor)), hx2⟩
    | true =>
      have hnm := of_decide_eq_true (hgo rfl).1
      repeat (first | ((with_reducible apply is_ld); first | refine kld hM ?_ | refine kldw hM ?_ | refine kle hM ?_ | refine klew hM ?_) | ((with_reducible apply is_sto); first | (refine kst hM ?_; intro w hM) | (refine kstw hM ?_; intro w hM)) | ((with_reducible apply is_st); refine su ?_) | ((with_reducible apply is_gd); first | refine gt ?_ | refine gf ?_ | refine gu ?_) | ((with_reducible apply is_en); refine en ?_) | (with_reducible apply c_region) | refine ws ?_ | refine x_block_other (by decide) ?_)
      refine c_condb rfl (fun h => by cases h) (fun _ => ?_)
      repeat ((fail_if_success (with_reducible apply Go.Proofs.E.is_dst (d := 29))); first | ((with_reducible apply is_ld); first | refine kld hM ?_ | refine kldw hM ?_ | refine kle hM ?_ | refine klew hM ?_) | ((with_reducible apply is_sto); first | (refine kst hM ?_; intro w hM) | (refine kstw hM ?_; intro w hM)) | ((with_reducible apply is_st); refine su ?_) | ((with_reducible apply is_gd); first | refine gt ?_ | refine gf ?_ | refine gu ?_) | ((with_reducible apply is_en); refine en ?_) | (with_reducible apply c_region) | refine ws ?_ | refine x_block_other (by decide) ?_)
      (try ((with_reducible apply is_gd); first | refine gt ?_ | refine gf ?_ | refine gu ?_)); refine wl_val (r_convw (a := (n : Int)) (k := .i64) rfl rfl (by omega) (by omega)) ?_
      repeat (first | ((with_reducible apply is_ld); first | refine kld hM ?_ | refine kldw hM ?_ | refine kle hM ?_ | refine klew hM ?_) | ((with_reducible apply is_sto); first | (refine kst hM ?_; intro w hM) | (refine kstw hM ?_; intro w hM)) | ((with_reducible apply is_st); refine su ?_) | ((with_reducible apply is_gd); first | refine gt ?_ | refine gf ?_ | refine gu ?_) | ((with_reducible apply is_en); refine en ?_) | (with_reducible apply c_region) | refine ws ?_ | refine x_block_other (by decide) ?_)
      exact out1 rfl ⟨rfl, vb2, hM.ch, hM.blk (b := bS) (by (repeat constructor)), hx2⟩
set_option maxHeartbeats 4000000 in
theorem sflag_any (bS : Nat) (vb : Value) (s : St) (wx w0 : World) (hB : Blk w0 bS (sC vb s.2) 53) (hR : tU8.Rd [] w0 vb s.1) (hx : tU8.Rd [] wx vb s.1) :
    Calls Try.prog 27 #[.pointer (some ⟨bS, 0, none⟩)] w0 (Ret fun u w' => u = .bool (flagT s).1 ∧ Took 53 bS wx w0 w' (flagT s).2) := by
  obtain ⟨A, c, rfl⟩ := hx.form
  obtain ⟨bs, bad⟩ := s
  simp only at hB hx hR ⊢
  have hM := Mem.take hB
  refine enter [.pointer (some ⟨bS, 0, none⟩), undef, undef, undef, undef, undef, undef, undef, undef, undef, undef, undef, undef, undef, undef, undef, undef, undef, undef, undef, undef, undef] Try.func27 rfl rfl ?_
  repeat (first | ((with_reducible apply is_ld); first | refine kld hM ?_ | refine kldw hM ?_ | refine kle hM ?_ | refine klew hM ?_) | ((with_reducible apply is_sto); first | (refine kst hM ?_; intro w hM) | (refine kstw hM ?_; intro w hM)) | ((with_reducible apply is_st); refine su ?_) | ((with_reducible apply is_gd); first | refine gt ?_ | refine gf ?_ | refine gu ?_) | ((with_reducible apply is_en); refine en ?_) | (with_reducible apply c_region) | refine ws ?_ | refine x_block_other (by decide) ?_)
  refine kca hM (getFlag_any _ _ hR) (fun w hM => ?_)
  have hk := getFlag_k bs
  unfold flagT
  simp only
  generalize getFlag bs = g at hk ⊢
  obtain ⟨n, k, ok⟩ := g
  simp only at hk ⊢
  repeat (first | ((with_reducible apply is_ld); first | refine kld hM ?_ | refine kldw hM ?_ | refine kle hM ?_ | refine klew hM ?_) | ((with_reducible apply is_sto); first | (refine kst hM ?_; intro w hM) | (refine kstw hM ?_; intro w hM)) | ((with_reducible apply is_st); refine su ?_) | ((with_reducible apply is_gd); first | refine gt ?_ | refine gf ?_ | refine gu ?_) | ((with_reducible apply is_en); refine en ?_) | (with_reducible apply c_region) | refine ws ?_ | refine x_block_other (by decide) ?_)
  refine ca (got_any bS _ (bs, bad) k ok wx w (hM.blk (b := bS) (by (repeat constructor))) hx hk) ?_
  rintro _ w2 ⟨rfl, vb2, hc, hB2, hx2⟩
  have hM := hM.cellSet hB2 hc
  generalize gotSt (bs, bad) k ok = g2 at hB2 hx2 hM ⊢
  obtain ⟨r2, s2⟩ := g2
  simp only at hx2 hM ⊢
  cases r2 with
  | false =>
    repeat (first | ((with_reducible apply is_ld); first | refine kld hM ?_ | refine kldw hM ?_ | refine kle hM ?_ | refine klew hM ?_) | ((with_reducible apply is_sto); first | (refine kst hM ?_; intro w hM) | (refine kstw hM ?_; intro w hM)) | ((with_reducible apply is_st); refine su ?_) | ((with_reducible apply is_gd); first | refine gt ?_ | refine gf ?_ | refine gu ?_) | ((with_reducible apply is_en); refine en ?_) | (with_reducible apply c_region) | refine ws ?_ | refine x_block_other (by decide) ?_)
    exact out1 rfl ⟨rfl, vb2, hM.ch, hM.blk (b := bS) (by (repeat constructor)), hx2⟩
  | true =>
    repeat (first | ((with_reducible apply is_ld); first | refine kld hM ?_ | refine kldw hM ?_ | refine kle hM ?_ | refine klew hM ?_) | ((with_reducible apply is_sto); first | (refine kst hM ?_; intro w hM) | (refine kstw hM ?_; intro w hM)) | ((with_reducible apply is_st); refine su ?_) | ((with_reducible apply is_gd); first | refine gt ?_ | refine gf ?_ | refine gu ?_) | ((with_reducible apply is_en); refine en ?_) | (with_reducible apply c_region) | refine ws ?_ | refine x_block_other (by decide) ?_)
    exact out1 rfl ⟨rfl, vb2, hM.ch, hM.blk (b := bS) (by (repeat constructor)), hx2⟩
set_option maxHeartbeats 4000000 in
theorem stext_any (bS : Nat) (vb : Value) (s : St) (most : Nat) (wx w0 : World) (hB : Blk w0 bS (sC vb s.2) 53) (hR : tU8.Rd [] w0 vb s.1) (hx : tU8.Rd [] wx vb s.1) (hm : most ≤ 1000000) :
    Calls Try.prog 32 #[.pointer (some ⟨bS, 0, none⟩), .int .i64 (most : Int)] w0 (Ret fun u w' => u = .string (bst (strT most s).1) ∧ Took 53 bS wx w0 w' (strT most s).2) := by
  obtain ⟨A, c, rfl⟩ := hx.form
  obtain ⟨bs, bad⟩ := s
  simp only at hB hx hR ⊢
  have hM := Mem.take hB
  refine enter [.pointer (some ⟨bS, 0, none⟩), .int .i64 (most : Int), undef, undef, undef, undef, undef, undef, undef, undef, undef, undef, undef, undef, undef, undef, undef, undef, undef, undef, undef, undef, undef, undef] Try.func32 rfl rfl ?_
  repeat (first | ((with_reducible apply is_ld); first | refine kld hM ?_ | refine kldw hM ?_ | refine kle hM ?_ | refine klew hM ?_) | ((with_reducible apply is_sto); first | (refine kst hM ?_; intro w hM) | (refine kstw hM ?_; intro w hM)) | ((with_reducible apply is_st); refine su ?_) | ((with_reducible apply is_gd); first | refine gt ?_ | refine gf ?_ | refine gu ?_) | ((with_reducible apply is_en); refine en ?_) | (with_reducible apply c_region) | refine ws ?_ | refine x_block_other (by decide) ?_)
  refine kca hM (getStr_any _ most _ hR hm) (fun w hM => ?_)
  have hk := getStr_k bs most
  unfold strT
  simp only
  generalize getStr bs most = g at hk ⊢
  obtain ⟨n, k, ok⟩ := g
  simp only at hk ⊢
  repeat (first | ((with_reducible apply is_ld); first | refine kld hM ?_ | refine kldw hM ?_ | refine kle hM ?_ | refine klew hM ?_) | ((with_reducible apply is_sto); first | (refine kst hM ?_; intro w hM) | (refine kstw hM ?_; intro w hM)) | ((with_reducible apply is_st); refine su ?_) | ((with_reducible apply is_gd); first | refine gt ?_ | refine gf ?_ | refine gu ?_) | ((with_reducible apply is_en); refine en ?_) | (with_reducible apply c_region) | refine ws ?_ | refine x_block_other (by decide) ?_)
  refine ca (got_any bS _ (bs, bad) k ok wx w (hM.blk (b := bS) (by (repeat constructor))) hx hk) ?_
  rintro _ w2 ⟨rfl, vb2, hc, hB2, hx2⟩
  have hM := hM.cellSet hB2 hc
  generalize gotSt (bs, bad) k ok = g2 at hB2 hx2 hM ⊢
  obtain ⟨r2, s2⟩ := g2
  simp only at hx2 hM ⊢
  cases r2 with
  | false =>
    repeat (first | ((with_reducible apply is_ld); first | refine kld hM ?_ | refine kldw hM ?_ | refine kle hM ?_ | refine klew hM ?_) | ((with_reducible apply is_sto); first | (refine kst hM ?_; intro w hM) | (refine kstw hM ?_; intro w hM)) | ((with_reducible apply is_st); refine su ?_) | ((with_reducible apply is_gd); first | refine gt ?_ | refine gf ?_ | refine gu ?_) | ((with_reducible apply is_en); refine en ?_) | (with_reducible apply c_region) | refine ws ?_ | refine x_block_other (by decide) ?_)
    refine c_condb rfl (fun _ => ?_) (fun h => by cases h)
    repeat (first | ((with_reducible apply is_ld); first | refine kld hM ?_ | refine kldw hM ?_ | refine kle hM ?_ | refine klew hM ?_) | ((with_reducible apply is_sto); first | (refine kst hM ?_; intro w hM) | (refine kstw hM ?_; intro w hM)) | ((with_reducible apply is_st); refine su ?_) | ((with_reducible apply is_gd); first | refine gt ?_ | refine gf ?_ | refine gu ?_) | ((with_reducible apply is_en); refine en ?_) | (with_reducible apply c_region) | refine ws ?_ | refine x_block_other (by decide) ?_)
    exact out1 rfl ⟨rfl, vb2, hM.ch, hM.blk (b := bS) (by (repeat constructor)), hx2⟩
  | true =>
    repeat (first | ((with_reducible apply is_ld); first | refine kld hM ?_ | refine kldw hM ?_ | refine kle hM ?_ | refine klew hM ?_) | ((with_reducible apply is_sto); first | (refine kst hM ?_; intro w hM) | (refine kstw hM ?_; intro w hM)) | ((with_reducible apply is_st); refine su ?_) | ((with_reducible apply is_gd); first | refine gt ?_ | refine gf ?_ | refine gu ?_) | ((with_reducible apply is_en); refine en ?_) | (with_reducible apply c_region) | refine ws ?_ | refine x_block_other (by decide) ?_)
    refine c_condb rfl (fun h => by cases h) (fun _ => ?_)
    repeat (first | ((with_reducible apply is_ld); first | refine kld hM ?_ | refine kldw hM ?_ | refine kle hM ?_ | refine klew hM ?_) | ((with_reducible apply is_sto); first | (refine kst hM ?_; intro w hM) | (refine kstw hM ?_; intro w hM)) | ((with_reducible apply is_st); refine su ?_) | ((with_reducible apply is_gd); first | refine gt ?_ | refine gf ?_ | refine gu ?_) | ((with_reducible apply is_en); refine en ?_) | (with_reducible apply c_region) | refine ws ?_ | refine x_block_other (by decide) ?_)
    exact out1 rfl ⟨rfl, vb2, hM.ch, hM.blk (b := bS) (by (repeat constructor)), hx2⟩
end Go.Proofs.Ytnkkeehoejmcnaa

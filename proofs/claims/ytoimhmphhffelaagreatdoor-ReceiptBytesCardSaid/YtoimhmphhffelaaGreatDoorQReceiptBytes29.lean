/- Values of bytes (layer 1), both: the plain law, the walks.
   Values of bytes (layer 1), both: truths, texts.
   Walks: values taken from bytes one behind the other (record.source).
   The plain law of reading records: what is taken from bytes is what was written, and the other way round.
   The plain law of reading records, whole: what comes back from bytes.
   Walks: the document's taker of values. -/
import Derived.Test.YtoimhmphhffelaaGreatDoorQReceiptBytes13
set_option linter.unusedVariables false
set_option linter.unusedSimpArgs false
namespace Go.Proofs.E
open Go Go.RowKit
section
variable {P : Program} {ops : Array Oper} {N : Nat} {S : List Nat} {Q : Exit → Act → World → Prop} {z : List Nat × List Nat} {fuel : Nat} {listed : Array Bool} {l : List Value} {w : World} {T : TypeId} {pos : String} {after : Array Edge}
theorem yn_cut_lh {α : Type} {ty : Ty α} {d : Nat} {x : Operand} {t e : TypeId} {zv : Value} {m by_ : Nat} [hu : Und P t (.slice e)] [hi : Inf P e zv m by_] {v : Value} {xs : List α} {y q : Operand} {k1 k2 : IntKind} {i j : Int} (k : Nat) (ho : ops[k]? = some { dst := some d, op := .slice t x (some y) (some q) none, type := T, pos := pos, after := after, guard := none })
    {S' : List Nat} {wx : World} (hR : ty.Rd S' wx v xs) (hx : ev l x = v) (hm : ty.n = m) (hy : ev l y = .int k1 i) (hq : ev l q = .int k2 j) (h0 : 0 ≤ i) (h2 : i ≤ j) (h1 : j ≤ xs.length)
    (h : ∀ v', ty.Rd S' wx v' ((xs.take j.toNat).drop i.toNat) → WY P ops N S Q z fuel (listed.setIfInBounds k true) (fr (l.set d v')) w) (hr : (Region.ready .any ops listed).contains k = true := by kernel_rfl) (hf : Region.free .any ops listed k = true := by kernel_rfl) : WY P ops N S Q z (fuel + 1) listed (fr l) w := by
  subst hm
  obtain ⟨A, c, rfl⟩ := hR.form
  have hc : xs.length ≤ c := by obtain ⟨_, _, _, hv, h, _⟩ := hR; injection hv; omega
  have := hR.cut (L := i.toNat) (H := j.toNat) (M := c) (by omega) (by omega) (by omega)
  refine ynp k ho hr hf (fun w1 => ?_) rfl (h _ this)
  simp [exec, execOp, hx, hy, hq, run_cut (hi := hi) (bnd_lh (b := true) (n := xs.length) h0 h2 (show j ≤ c by omega))]
/-- A byte behind a shifted number. -/
theorem r_orB {x y : Operand} {t u : TypeId} {n b : Nat} (hx : ev l x = .int .u64 ((n * 256 : Nat) : Int)) (hy : ev l y = .int .u64 (b : Int)) (hn : n * 256 + b < 2 ^ 64) (hb : b < 256) :
    (exec (ev l) (.binOp .or t x y u) T).run P w = .ok (.value (.int .u64 ((n * 256 + b : Nat) : Int))) w := by
  refine (r_or hx hy).trans ?_
  congr 3
  have e : (BitVec.ofInt IntKind.u64.bits ((n * 256 : Nat) : Int) ||| BitVec.ofInt IntKind.u64.bits ((b : Nat) : Int)).toNat = n * 256 + b := by
    rw [BitVec.toNat_or, BitVec.ofInt_natCast, BitVec.ofInt_natCast, BitVec.toNat_ofNat, BitVec.toNat_ofNat, Nat.mod_eq_of_lt (show n * 256 < 2 ^ IntKind.u64.bits from Nat.lt_of_le_of_lt (Nat.le_add_right _ _) hn), Nat.mod_eq_of_lt (show b < 2 ^ IntKind.u64.bits from Nat.lt_trans hb (by decide))]
    have := Nat.two_pow_add_eq_or_of_lt (i := 8) (b := b) (by omega) n
    rw [Nat.mul_comm] at this
    rw [show n * 256 = n * 2 ^ 8 by rfl, ← this]
  rw [e]
  exact wrap_rng (k := .u64) rfl (by omega) (by omega)
end
end Go.Proofs.E
namespace Go.Proofs.YtoimhmphhffelaaGreatDoor
open Go Go.RowKit Go.Proofs.E
attribute [local irreducible] Go.wpList Go.Code.wp Go.Proofs.E.exec Go.Proofs.E.wpLexG
def getNum : Bs → Nat × Nat × Bool
  | [] => (0, 0, false)
  | b :: r =>
    if b.toNat < 248 then (b.toNat, 1, true)
    else if r.length < b.toNat - 247 then (0, 0, false)
    else if r.head? = some 0 then (0, 0, false)
    else if valB (r.take (b.toNat - 247)) < 248 then (0, 0, false)
    else (valB (r.take (b.toNat - 247)), 1 + (b.toNat - 247), true)
theorem getNum_cons (b : UInt8) (r : Bs) : getNum (b :: r) = if b.toNat < 248 then (b.toNat, 1, true) else if r.length < b.toNat - 247 then (0, 0, false) else if r.head? = some 0 then (0, 0, false) else if valB (r.take (b.toNat - 247)) < 248 then (0, 0, false) else (valB (r.take (b.toNat - 247)), 1 + (b.toNat - 247), true) := rfl
theorem valB_lt : ∀ (k : Nat) (ds : Bs), ds.length = k → valB ds < 256 ^ k
  | 0, ds, h => by
    rw [List.eq_nil_of_length_eq_zero h]
    simp [valB]
  | k + 1, ds, h => by
    have hne : ds ≠ [] := fun e => by subst e; cases h
    rw [← List.dropLast_concat_getLast hne, valB_snoc]
    have h1 := valB_lt k ds.dropLast (by rw [List.length_dropLast]; omega)
    have h2 := (ds.getLast hne).toNat_lt
    rw [Nat.pow_succ]
    omega
theorem beN_val : ∀ (k : Nat) (ds : Bs), ds.length = k → ds.head? ≠ some 0 → beN (valB ds) = ds
  | 0, ds, h, _ => by
    rw [List.eq_nil_of_length_eq_zero h]
    exact beN_zero
  | k + 1, ds, h, hh => by
    have hne : ds ≠ [] := fun e => by subst e; cases h
    have hsp := List.dropLast_concat_getLast hne
    have hl := (ds.getLast hne).toNat_lt
    generalize ds.getLast hne = b at hsp hl
    generalize ds.dropLast = xs at hsp
    subst hsp
    rw [List.length_append, List.length_singleton] at h
    have hx : xs.head? ≠ some 0 := by
      cases xs with
      | nil => simp
      | cons x xs => simpa using hh
    have ih := beN_val k xs (by omega) hx
    rw [valB_snoc]
    have hpos : 0 < valB xs * 256 + b.toNat := by
      cases xs with
      | nil =>
        have : b ≠ 0 := by simpa using hh
        have : b.toNat ≠ 0 := fun e => this (UInt8.toNat_inj.1 (by simpa using e))
        omega
      | cons x xs =>
        have : valB (x :: xs) ≠ 0 := fun e => by
          rw [e, beN_zero] at ih
          cases ih
        omega
    rw [beN_pos hpos, show (valB xs * 256 + b.toNat) / 256 = valB xs by omega, show (valB xs * 256 + b.toNat) % 256 = b.toNat by omega, ih]
    congr 1
    simp
theorem getNum_dec {bs : Bs} {n k : Nat} (h : getNum bs = (n, k, true)) : bs = numB n ++ bs.drop k ∧ n < 2 ^ 64 ∧ k ≤ bs.length ∧ k = (numB n).length := by
  cases bs with
  | nil => simp [getNum] at h
  | cons b r =>
    have hb := b.toNat_lt
    rw [getNum_cons] at h
    by_cases q1 : b.toNat < 248
    · rw [if_pos q1] at h
      simp only [Prod.mk.injEq, and_true] at h
      obtain ⟨rfl, rfl⟩ := h
      unfold numB
      rw [if_pos q1]
      refine ⟨by simp, by omega, by simp, rfl⟩
    · rw [if_neg q1] at h
      by_cases q2 : r.length < b.toNat - 247
      · rw [if_pos q2] at h
        simp at h
      rw [if_neg q2] at h
      by_cases q3 : r.head? = some 0
      · rw [if_pos q3] at h
        simp at h
      rw [if_neg q3] at h
      by_cases q4 : valB (r.take (b.toNat - 247)) < 248
      · rw [if_pos q4] at h
        simp at h
      rw [if_neg q4] at h
      simp only [Prod.mk.injEq, and_true] at h
      obtain ⟨h1, rfl⟩ := h
      have hl : (r.take (b.toNat - 247)).length = b.toNat - 247 := by rw [List.length_take]; omega
      have hlt := valB_lt (b.toNat - 247) _ hl
      have hpw : 256 ^ (b.toNat - 247) ≤ 256 ^ 8 := Nat.pow_le_pow_right (by omega) (by omega)
      have hbe := beN_val (b.toNat - 247) (r.take (b.toNat - 247)) hl (by
        cases r with
        | nil => simp
        | cons x xs =>
          cases hk : b.toNat - 247 with
          | zero => omega
          | succ m => simpa using q3)
      rw [h1] at hbe q4 hlt
      unfold numB
      rw [if_neg q4, hbe, hl, show 247 + (b.toNat - 247) = b.toNat by omega]
      refine ⟨?_, by omega, by rw [List.length_cons]; omega, by rw [List.length_cons, hl, Nat.add_comm]⟩
      rw [Nat.add_comm 1, List.drop_succ_cons, List.cons_append, List.take_append_drop]
      rw [UInt8.ofNat_toNat]
abbrev gotV (x : Nat × Nat × Bool) : Value := .tuple #[.int .u64 (x.1 : Int), .int .i64 (x.2.1 : Int), .bool x.2.2]
theorem valB_take {ds : Bs} {j : Nat} {x : UInt8} (h : ds[j]? = some x) : valB (ds.take (j + 1)) = valB (ds.take j) * 256 + x.toNat := by
  rw [List.take_add_one, h, Option.toList_some, valB_snoc]
set_option maxHeartbeats 8000000 in
theorem rgetNum_any {bs : Bs} (v : Value) (w0 : World) (hR : tU8.Rd [] w0 v bs) :
    Calls Tryz.prog 47 #[v] w0 (Ret fun u w' => u = gotV (getNum bs) ∧ Ch [] w0 w') := by
  have hM := Mem.start w0
  obtain ⟨A, c, rfl⟩ := hR.form
  have hl := hR.le
  refine enter [.slice A bs.length c, undef, undef, undef, undef, undef, undef, undef, undef, undef, undef, undef, undef, undef, undef, undef, undef, undef, undef, undef, undef, undef, undef, undef, undef, undef, undef, undef, undef, undef, undef, undef, undef, undef, undef, undef, undef, undef, undef, undef, undef, undef, undef, undef, undef, undef, undef, undef, undef, undef, undef, undef, undef, undef, undef, undef] Tryz.func47 rfl rfl ?_
  repeat (first | refine gw ?_ | (refine ks ?_; intro w hM))
  refine c_cond rfl (fun q => ?_) (fun q => ?_)
  · have : bs = [] := List.eq_nil_of_length_eq_zero (by omega)
    subst this
    repeat (first | refine gw ?_ | (refine ks ?_; intro w hM))
    exact out3 rfl ⟨rfl, hM.ch⟩
  obtain ⟨b, r, rfl⟩ : ∃ b r, bs = b :: r := by
    cases bs with
    | nil => simp at q
    | cons b r => exact ⟨b, r, rfl⟩
  have hb := b.toNat_lt
  rw [List.length_cons] at hl
  repeat (first | refine gw ?_ | (refine ks ?_; intro w hM))
  refine kix hR (fun o1 o2 x hx hA => ?_) (h1 := by simp)
  obtain rfl : b = x := by simpa using hx
  refine kat hM hA ?_
  repeat (first | refine gw ?_ | (refine ks ?_; intro w hM))
  refine c_cond rfl (fun q1 => ?_) (fun q1 => ?_)
  · repeat (first | refine gw ?_ | (refine ks ?_; intro w hM))
    refine kix hR (fun o3 o4 x hx hA => ?_) (h1 := by simp)
    obtain rfl : b = x := by simpa using hx
    refine kat hM hA ?_
    repeat ((fail_if_success (with_reducible apply Go.Proofs.E.is_dst (d := 19))); first | ((with_reducible apply is_ld); first | refine kld hM ?_ | refine kldw hM ?_ | refine kle hM ?_ | refine klew hM ?_) | ((with_reducible apply is_sto); first | (refine kst hM ?_; intro w hM) | (refine kstw hM ?_; intro w hM)) | ((with_reducible apply is_st); refine su ?_) | ((with_reducible apply is_gd); first | refine gt ?_ | refine gf ?_ | refine gu ?_) | ((with_reducible apply is_en); refine en ?_) | (with_reducible apply c_region) | refine ws ?_ | refine x_block_other (by decide) ?_)
    (try ((with_reducible apply is_gd); first | refine gt ?_ | refine gf ?_ | refine gu ?_)); refine wl_val (r_convw (a := (b.toNat : Int)) (k := .u64) rfl rfl (by omega) (by omega)) ?_
    repeat (first | refine gw ?_ | (refine ks ?_; intro w hM))
    refine out3 rfl ⟨?_, hM.ch⟩
    rw [getNum_cons, if_pos (by omega)]
    rfl
  obtain ⟨k, hk⟩ : ∃ k, b.toNat = 247 + k := ⟨b.toNat - 247, by omega⟩
  have hgn := getNum_cons b r
  rw [if_neg (by omega), show b.toNat - 247 = k by omega] at hgn
  rw [hgn]
  have hk1 : 1 ≤ k := by omega
  have hk8 : k ≤ 8 := by omega
  clear q1 hgn
  repeat (first | refine gw ?_ | (refine ks ?_; intro w hM))
  refine kix hR (fun o3 o4 x hx hA => ?_) (h1 := by simp)
  obtain rfl : b = x := by simpa using hx
  refine kat hM hA ?_
  repeat ((fail_if_success (with_reducible apply Go.Proofs.E.is_dst (d := 23))); first | ((with_reducible apply is_ld); first | refine kld hM ?_ | refine kldw hM ?_ | refine kle hM ?_ | refine klew hM ?_) | ((with_reducible apply is_sto); first | (refine kst hM ?_; intro w hM) | (refine kstw hM ?_; intro w hM)) | ((with_reducible apply is_st); refine su ?_) | ((with_reducible apply is_gd); first | refine gt ?_ | refine gf ?_ | refine gu ?_) | ((with_reducible apply is_en); refine en ?_) | (with_reducible apply c_region) | refine ws ?_ | refine x_block_other (by decide) ?_)
  (try ((with_reducible apply is_gd); first | refine gt ?_ | refine gf ?_ | refine gu ?_)); refine wl_val (r_convw (a := (b.toNat : Int)) (k := .i64) rfl rfl (by omega) (by omega)) ?_
  rw [show ((b.toNat : Nat) : Int) = 247 + (k : Int) by omega]
  repeat ((fail_if_success (with_reducible apply Go.Proofs.E.is_dst (d := 25))); first | ((with_reducible apply is_ld); first | refine kld hM ?_ | refine kldw hM ?_ | refine kle hM ?_ | refine klew hM ?_) | ((with_reducible apply is_sto); first | (refine kst hM ?_; intro w hM) | (refine kstw hM ?_; intro w hM)) | ((with_reducible apply is_st); refine su ?_) | ((with_reducible apply is_gd); first | refine gt ?_ | refine gf ?_ | refine gu ?_) | ((with_reducible apply is_en); refine en ?_) | (with_reducible apply c_region) | refine ws ?_ | refine x_block_other (by decide) ?_)
  rw [show 247 + (k : Int) - 247 = (k : Int) by omega]
  simp only [List.length_cons]
  simp only [List.length_cons] at hR
  repeat ((fail_if_success (with_reducible apply Go.Proofs.E.is_dst (d := 31))); first | ((with_reducible apply is_ld); first | refine kld hM ?_ | refine kldw hM ?_ | refine kle hM ?_ | refine klew hM ?_) | ((with_reducible apply is_sto); first | (refine kst hM ?_; intro w hM) | (refine kstw hM ?_; intro w hM)) | ((with_reducible apply is_st); refine su ?_) | ((with_reducible apply is_gd); first | refine gt ?_ | refine gf ?_ | refine gu ?_) | ((with_reducible apply is_en); refine en ?_) | (with_reducible apply c_region) | refine ws ?_ | refine x_block_other (by decide) ?_)
  by_cases q2 : ((r.length + 1 : Nat) : Int) < 1 + (k : Int)
  · rw [decide_eq_true q2]
    repeat (first | refine gw ?_ | (refine ks ?_; intro w hM))
    refine c_condb rfl (fun _ => ?_) (fun h => by cases h)
    repeat (first | refine gw ?_ | (refine ks ?_; intro w hM))
    rw [if_pos (by omega)]
    exact out3 rfl ⟨rfl, hM.ch⟩
  rw [decide_eq_false q2, if_neg (by omega)]
  obtain ⟨x2, r2, rfl⟩ : ∃ x r2, r = x :: r2 := by
    cases r with
    | nil => rw [List.length_nil] at q2; omega
    | cons b r => exact ⟨b, r, rfl⟩
  repeat (first | refine gw ?_ | (refine ks ?_; intro w hM))
  (try ((with_reducible apply is_gd); first | refine gt ?_ | refine gf ?_ | refine gu ?_)); refine kix hR (fun o5 o6 x hx hA => ?_) (h1 := by simp)
  obtain rfl : x2 = x := by simpa using hx
  (try ((with_reducible apply is_gd); first | refine gt ?_ | refine gf ?_ | refine gu ?_)); refine kat hM hA ?_
  by_cases q3 : x2 = 0
  · subst q3
    repeat (first | refine gw ?_ | (refine ks ?_; intro w hM))
    refine c_condb rfl (fun _ => ?_) (fun h => by cases h)
    repeat (first | refine gw ?_ | (refine ks ?_; intro w hM))
    rw [if_pos (by rfl)]
    exact out3 rfl ⟨rfl, hM.ch⟩
  rw [if_neg (by simpa using q3)]
  have q4 : ¬ ((x2.toNat : Int) = 0) := fun h => q3 (UInt8.toNat_inj.1 (by simpa using h))
  repeat (first | refine gw ?_ | (refine ks ?_; intro w hM))
  refine c_cond rfl (fun h => absurd h q4) (fun _ => ?_)
  generalize hrr : x2 :: r2 = r at hR q2 ⊢
  clear q4 q hrr
  repeat (first | refine gw ?_ | (refine ks ?_; intro w hM))
  refine kcut hR (i := 1) (j := 1 + (k : Int)) (fun v39 hV => ?_) (h1 := by rw [List.length_cons]; omega)
  rw [show (1 + (k : Int)).toNat = k + 1 by omega, show (1 : Int).toNat = 1 by rfl, List.take_succ_cons, List.drop_succ_cons, List.drop_zero] at hV
  have hdl : (r.take k).length = k := by rw [List.length_take]; omega
  generalize r.take k = ds at hV hdl ⊢
  obtain ⟨A9, c9, rfl⟩ := hV.form
  rw [hdl] at hV ⊢
  repeat (first | refine gw ?_ | (refine ks ?_; intro w hM))
  
  refine c_loop (fun n l w => ∃ (j : Nat), (∃ jj : Nat → Value, l = [.slice A (r.length + 1) c, jj 1, jj 2, jj 3, jj 4, .int .i64 (k : Int), .int .u64 (valB (ds.take j) : Int), jj 7, jj 8, jj 9, jj 10, jj 11, jj 12, jj 13, jj 14, jj 15, jj 16, jj 17, jj 18, jj 19, jj 20, jj 21, jj 22, jj 23, jj 24, jj 25, jj 26, jj 27, jj 28, jj 29, jj 30, jj 31, jj 32, jj 33, jj 34, jj 35, jj 36, jj 37, jj 38, .slice A9 k c9, .int .i64 (k : Int), .int .i64 (j : Int), jj 42, jj 43, jj 44, jj 45, jj 46, jj 47, jj 48, jj 49, jj 50, jj 51, jj 52, jj 53, jj 54, jj 55]) ∧ n + j = k ∧ Mem [] w0 w []) k
    ⟨0, exj rfl, rfl, hM⟩ ?_
  clear hM
  rintro n l w ⟨j, ⟨jj, rfl⟩, hnj, hM⟩
  repeat (first | refine gw ?_ | (refine ks ?_; intro w hM))
  refine c_cond rfl (fun hj => ?_) (fun hj => ?_)
  · repeat (first | refine gw ?_ | (refine ks ?_; intro w hM))
    refine kix hV (fun o7 o8 x hx hA => ?_) (h1 := by omega)
    rw [Int.toNat_natCast] at hx
    refine kat hM hA ?_
    have hxl := x.toNat_lt
    have hvb := valB_take hx
    have hlt := valB_lt (j + 1) (ds.take (j + 1)) (by rw [List.length_take]; omega)
    have hpw : 256 ^ (j + 1) ≤ 256 ^ 8 := Nat.pow_le_pow_right (by omega) (by omega)
    repeat ((fail_if_success (with_reducible apply Go.Proofs.E.is_dst (d := 48))); first | ((with_reducible apply is_ld); first | refine kld hM ?_ | refine kldw hM ?_ | refine kle hM ?_ | refine klew hM ?_) | ((with_reducible apply is_sto); first | (refine kst hM ?_; intro w hM) | (refine kstw hM ?_; intro w hM)) | ((with_reducible apply is_st); refine su ?_) | ((with_reducible apply is_gd); first | refine gt ?_ | refine gf ?_ | refine gu ?_) | ((with_reducible apply is_en); refine en ?_) | (with_reducible apply c_region) | refine ws ?_ | refine x_block_other (by decide) ?_)
    have e1 : IntKind.u64.wrap ((valB (ds.take j) : Int) * 2 ^ min (Int.toNat 8) IntKind.u64.bits) = (valB (ds.take j) : Int) * 256 := by
      rw [show min (Int.toNat 8) IntKind.u64.bits = 8 by rfl]
      exact wrap_rng (k := .u64) rfl (by omega) (by omega)
    rw [e1]
    (try ((with_reducible apply is_gd); first | refine gt ?_ | refine gf ?_ | refine gu ?_)); refine wl_val (r_convw (a := (x.toNat : Int)) (k := .u64) rfl rfl (by omega) (by omega)) ?_
    repeat (first | refine gw ?_ | (refine ks ?_; intro w hM))
    have ec : ((valB (ds.take (j + 1)) : Nat) : Int) = (valB (ds.take j) : Int) * 256 + (x.toNat : Int) := by rw [hvb]; omega
    exact x_goes (n - 1) rfl (by omega) ⟨j + 1, exj (by rw [ec]; rfl), by omega, hM⟩
  · have hjk : j = k := by omega
    subst hjk
    rw [List.take_of_length_le (by omega)]
    repeat (first | refine gw ?_ | (refine ks ?_; intro w hM))
    refine c_cond rfl (fun q5 => ?_) (fun q5 => ?_)
    · repeat (first | refine gw ?_ | (refine ks ?_; intro w hM))
      rw [if_pos (by omega)]
      exact out3 rfl ⟨rfl, hM.ch⟩
    · repeat (first | refine gw ?_ | (refine ks ?_; intro w hM))
      rw [if_neg (by omega)]
      refine out3 rfl ⟨?_, hM.ch⟩
      show Value.tuple #[_, _, _] = Value.tuple #[_, _, _]
      rw [Int.natCast_add]
      rfl
theorem valB_zeros (n : Nat) (ds : Bs) : valB (List.replicate n 0 ++ ds) = valB ds := by
  induction n with
  | zero => rfl
  | succ n ih =>
    rw [List.replicate_succ, List.cons_append]
    show List.foldl _ (0 * 256 + 0) _ = _
    exact ih
set_option maxHeartbeats 8000000 in
theorem getNum_any {bs : Bs} (v : Value) (w0 : World) (hR : tU8.Rd [] w0 v bs) :
    Calls Tryz.prog 40 #[v] w0 (Ret fun u w' => u = gotV (getNum bs) ∧ Ch [] w0 w') := by
  have hM := Mem.start w0
  obtain ⟨A, c, rfl⟩ := hR.form
  have hl := hR.le
  refine enter [.slice A bs.length c, undef, undef, undef, undef, undef, undef, undef, undef, undef, undef, undef, undef, undef, undef, undef, undef, undef, undef, undef, undef, undef, undef, undef, undef, undef, undef, undef, undef, undef, undef, undef, undef, undef, undef, undef, undef, undef, undef, undef, undef, undef, undef, undef, undef, undef, undef, undef, undef, undef, undef, undef, undef, undef, undef, undef, undef, undef, undef] Tryz.func40 rfl rfl ?_
  repeat (first | refine gw ?_ | (refine ks ?_; intro w hM))
  refine c_cond rfl (fun q => ?_) (fun q => ?_)
  · have : bs = [] := List.eq_nil_of_length_eq_zero (by omega)
    subst this
    repeat (first | refine gw ?_ | (refine ks ?_; intro w hM))
    exact out3 rfl ⟨rfl, hM.ch⟩
  obtain ⟨b, r, rfl⟩ : ∃ b r, bs = b :: r := by
    cases bs with
    | nil => simp at q
    | cons b r => exact ⟨b, r, rfl⟩
  have hb := b.toNat_lt
  rw [List.length_cons] at hl
  repeat (first | refine gw ?_ | (refine ks ?_; intro w hM))
  refine kix hR (fun o1 o2 x hx hA => ?_) (h1 := by simp)
  obtain rfl : b = x := by simpa using hx
  refine kat hM hA ?_
  repeat (first | refine gw ?_ | (refine ks ?_; intro w hM))
  refine c_cond rfl (fun q1 => ?_) (fun q1 => ?_)
  · repeat (first | refine gw ?_ | (refine ks ?_; intro w hM))
    refine kix hR (fun o3 o4 x hx hA => ?_) (h1 := by simp)
    obtain rfl : b = x := by simpa using hx
    refine kat hM hA ?_
    repeat ((fail_if_success (with_reducible apply Go.Proofs.E.is_dst (d := 20))); first | ((with_reducible apply is_ld); first | refine kld hM ?_ | refine kldw hM ?_ | refine kle hM ?_ | refine klew hM ?_) | ((with_reducible apply is_sto); first | (refine kst hM ?_; intro w hM) | (refine kstw hM ?_; intro w hM)) | ((with_reducible apply is_st); refine su ?_) | ((with_reducible apply is_gd); first | refine gt ?_ | refine gf ?_ | refine gu ?_) | ((with_reducible apply is_en); refine en ?_) | (with_reducible apply c_region) | refine ws ?_ | refine x_block_other (by decide) ?_)
    (try ((with_reducible apply is_gd); first | refine gt ?_ | refine gf ?_ | refine gu ?_)); refine wl_val (r_convw (a := (b.toNat : Int)) (k := .u64) rfl rfl (by omega) (by omega)) ?_
    repeat (first | refine gw ?_ | (refine ks ?_; intro w hM))
    refine out3 rfl ⟨?_, hM.ch⟩
    rw [getNum_cons, if_pos (by omega)]
    rfl
  obtain ⟨k, hk⟩ : ∃ k, b.toNat = 247 + k := ⟨b.toNat - 247, by omega⟩
  have hgn := getNum_cons b r
  rw [if_neg (by omega), show b.toNat - 247 = k by omega] at hgn
  rw [hgn]
  have hk1 : 1 ≤ k := by omega
  have hk8 : k ≤ 8 := by omega
  clear q1 hgn
  repeat (first | refine gw ?_ | (refine ks ?_; intro w hM))
  refine kal hM (fun w b5 hM => ?_)
  have hM : Mem [] w0 w [.cell b5 ((List.replicate 8 (0 : UInt8)).map u8v) 138] := hM
  repeat (first | refine gw ?_ | (refine ks ?_; intro w hM))
  refine kix hR (fun o3 o4 x hx hA => ?_) (h1 := by simp)
  obtain rfl : b = x := by simpa using hx
  refine kat hM hA ?_
  repeat ((fail_if_success (with_reducible apply Go.Proofs.E.is_dst (d := 24))); first | ((with_reducible apply is_ld); first | refine kld hM ?_ | refine kldw hM ?_ | refine kle hM ?_ | refine klew hM ?_) | ((with_reducible apply is_sto); first | (refine kst hM ?_; intro w hM) | (refine kstw hM ?_; intro w hM)) | ((with_reducible apply is_st); refine su ?_) | ((with_reducible apply is_gd); first | refine gt ?_ | refine gf ?_ | refine gu ?_) | ((with_reducible apply is_en); refine en ?_) | (with_reducible apply c_region) | refine ws ?_ | refine x_block_other (by decide) ?_)
  (try ((with_reducible apply is_gd); first | refine gt ?_ | refine gf ?_ | refine gu ?_)); refine wl_val (r_paw (k := .u8) (q := .u8) (a := (b.toNat : Int) - 247) rfl rfl rfl (by omega) (by omega)) ?_
  (try ((with_reducible apply is_gd); first | refine gt ?_ | refine gf ?_ | refine gu ?_)); refine wl_val (r_convw (a := (b.toNat : Int) - 247) (k := .i64) rfl rfl (by omega) (by omega)) ?_
  rw [show ((b.toNat : Nat) : Int) - 247 = (k : Int) by omega]
  simp only [List.length_cons]
  simp only [List.length_cons] at hR
  repeat ((fail_if_success (with_reducible apply Go.Proofs.E.is_dst (d := 31))); first | ((with_reducible apply is_ld); first | refine kld hM ?_ | refine kldw hM ?_ | refine kle hM ?_ | refine klew hM ?_) | ((with_reducible apply is_sto); first | (refine kst hM ?_; intro w hM) | (refine kstw hM ?_; intro w hM)) | ((with_reducible apply is_st); refine su ?_) | ((with_reducible apply is_gd); first | refine gt ?_ | refine gf ?_ | refine gu ?_) | ((with_reducible apply is_en); refine en ?_) | (with_reducible apply c_region) | refine ws ?_ | refine x_block_other (by decide) ?_)
  by_cases q2 : ((r.length + 1 : Nat) : Int) ≤ (k : Int)
  · rw [decide_eq_true q2]
    repeat (first | refine gw ?_ | (refine ks ?_; intro w hM))
    refine c_condb rfl (fun _ => ?_) (fun h => by cases h)
    repeat (first | refine gw ?_ | (refine ks ?_; intro w hM))
    rw [if_pos (by omega)]
    exact out3 rfl ⟨rfl, hM.ch⟩
  rw [decide_eq_false q2, if_neg (by omega)]
  obtain ⟨x2, r2, rfl⟩ : ∃ x r2, r = x :: r2 := by
    cases r with
    | nil => rw [List.length_nil] at q2; omega
    | cons b r => exact ⟨b, r, rfl⟩
  repeat (first | refine gw ?_ | (refine ks ?_; intro w hM))
  (try ((with_reducible apply is_gd); first | refine gt ?_ | refine gf ?_ | refine gu ?_)); refine kix hR (fun o5 o6 x hx hA => ?_) (h1 := by simp)
  obtain rfl : x2 = x := by simpa using hx
  (try ((with_reducible apply is_gd); first | refine gt ?_ | refine gf ?_ | refine gu ?_)); refine kat hM hA ?_
  by_cases q3 : x2 = 0
  · subst q3
    repeat (first | refine gw ?_ | (refine ks ?_; intro w hM))
    refine c_condb rfl (fun _ => ?_) (fun h => by cases h)
    repeat (first | refine gw ?_ | (refine ks ?_; intro w hM))
    rw [if_pos (by rfl)]
    exact out3 rfl ⟨rfl, hM.ch⟩
  rw [if_neg (by simpa using q3)]
  have q4 : ¬ ((x2.toNat : Int) = 0) := fun h => q3 (UInt8.toNat_inj.1 (by simpa using h))
  repeat (first | refine gw ?_ | (refine ks ?_; intro w hM))
  refine c_cond rfl (fun h => absurd h q4) (fun _ => ?_)
  generalize hrr : x2 :: r2 = r at hR q2 ⊢
  clear q4 q hrr
  repeat (first | refine gw ?_ | (refine ks ?_; intro w hM))
  refine c_ordY ([7], []) [] (by kernel_rfl) (by kernel_rfl) (by kernel_rfl) (fun w hc hs => ?_)
  have hM := hM.call hc
  (first | refine yn 0 rfl ?_ | refine ynt 0 rfl ?_ | refine ynff 0 rfl ?_); (first | refine yn 1 rfl ?_ | refine ynt 1 rfl ?_ | refine ynff 1 rfl ?_)
  refine ynp 2 rfl (by kernel_rfl) (by kernel_rfl) (fun _ => r_cut_arr (i := (8 : Int) - (k : Int)) rfl rfl (by omega) (by omega)) rfl ?_
  (first | refine yn 3 rfl ?_ | refine ynt 3 rfl ?_ | refine ynff 3 rfl ?_); (first | refine yn 4 rfl ?_ | refine ynt 4 rfl ?_ | refine ynff 4 rfl ?_); (first | refine yn 5 rfl ?_ | refine ynt 5 rfl ?_ | refine ynff 5 rfl ?_)
  refine yn_cut_lh (i := 1) (j := 1 + (k : Int)) 6 rfl hR rfl rfl rfl rfl (by omega) (by omega) (by rw [List.length_cons]; omega) (fun v39 hV => ?_)
  rw [show (1 + (k : Int)).toNat = k + 1 by omega, show (1 : Int).toNat = 1 by rfl, List.take_succ_cons, List.drop_succ_cons, List.drop_zero] at hV
  have hdl : (r.take k).length = k := by rw [List.length_take]; omega
  generalize r.take k = ds at hV hdl ⊢
  refine yk1 7 hM (by kernel_rfl) rfl (fun w h0 hM => ?_)
  obtain ⟨b9, o9, c9, rfl, _, _, hrg⟩ := rowE (hV.ch hM.ch) (by intro h; subst h; simp at hdl; omega)
  have hfm : List.flatMap eU8.f ds = ds.map u8v := by
    clear hrg hV hdl
    induction ds with
    | nil => rfl
    | cons x xs ih => rw [List.flatMap_cons, ih]; rfl
  rw [hfm] at hrg
  refine cpb rfl rfl (hM.blk (b := b5) (by (repeat constructor))) (cs := ds.map u8v) (by rw [List.length_map, hdl]; show k = Nat.min k _; rw [show 8 - ((8 : Int) - (k : Int)).toNat = k by omega]; exact (Nat.min_self k).symm) hrg (by simp; omega) (by intro v hv; obtain ⟨x, _, rfl⟩ := List.mem_map.1 hv; rfl) (fun w' hB hc hsz => ?_)
  have hM := hM.cellSet hB hc
  have harr : spl ((List.replicate 8 (0 : UInt8)).map u8v) (0 + ((8 : Int) - (k : Int)).toNat * 1) (ds.map u8v) = (List.replicate (8 - k) (0 : UInt8) ++ ds).map u8v := by
    rw [show 0 + ((8 : Int) - (k : Int)).toNat * 1 = 8 - k by omega]
    unfold spl
    rw [List.map_append, List.map_replicate, List.map_replicate, List.take_replicate, List.drop_replicate, List.length_map, hdl, show 8 - (8 - k + k) = 0 by omega, show min (8 - k) 8 = 8 - k by omega]
    simp
  rw [harr] at hM
  refine x_wy (.inr ⟨by decide, by omega⟩) rfl ?_
  refine wy_done (by kernel_rfl) (fun w hc => ?_)
  have hM := hM.call hc
  have hal : (List.replicate (8 - k) (0 : UInt8) ++ ds).length = 8 := by rw [List.length_append, List.length_replicate]; omega
  have hvz := valB_zeros (8 - k) ds
  generalize List.replicate (8 - k) (0 : UInt8) ++ ds = xs at hM hal hvz
  repeat (first | refine gw ?_ | (refine ks ?_; intro w hM))
  refine kldw hM ?_ (hn := by simp [hal])
  repeat (first | refine gw ?_ | (refine ks ?_; intro w hM))
  
  refine c_loop (fun n l w => ∃ (j : Nat), (∃ jj : Nat → Value, l = [jj 0, jj 1, jj 2, jj 3, jj 4, jj 5, .int .i64 (k : Int), .int .u64 (valB (xs.take j) : Int), jj 8, jj 9, jj 10, jj 11, jj 12, jj 13, jj 14, jj 15, jj 16, jj 17, jj 18, jj 19, jj 20, jj 21, jj 22, jj 23, jj 24, jj 25, jj 26, jj 27, jj 28, jj 29, jj 30, jj 31, jj 32, jj 33, jj 34, jj 35, jj 36, jj 37, jj 38, jj 39, jj 40, jj 41, jj 42, jj 43, .agg (xs.map u8v).toArray, .int .i64 (j : Int), jj 46, jj 47, jj 48, jj 49, jj 50, jj 51, jj 52, jj 53, jj 54, jj 55, jj 56, jj 57, jj 58]) ∧ n + j = 8 ∧ Mem [] w0 w []) 8
    ⟨0, exj rfl, rfl, hM.nil⟩ ?_
  clear hM
  rintro n l w ⟨j, ⟨jj, rfl⟩, hnj, hM⟩
  repeat (first | refine gw ?_ | (refine ks ?_; intro w hM))
  refine c_cond rfl (fun hj => ?_) (fun hj => ?_)
  · obtain ⟨x, hx⟩ : ∃ x, xs[j]? = some x := ⟨_, List.getElem?_eq_getElem (by omega)⟩
    have hxl := x.toNat_lt
    have hvb := valB_take hx
    have hlt := valB_lt (j + 1) (xs.take (j + 1)) (by rw [List.length_take]; omega)
    have hpw : 256 ^ (j + 1) ≤ 256 ^ 8 := Nat.pow_le_pow_right (by omega) (by omega)
    repeat (first | refine gw ?_ | (refine ks ?_; intro w hM))
    (try ((with_reducible apply is_gd); first | refine gt ?_ | refine gf ?_ | refine gu ?_)); refine wl_val (r_index_one (v := u8v x) (i := (j : Int)) rfl rfl (by omega) (by omega) (by rw [Int.toNat_natCast, List.getElem?_map, hx]; rfl)) ?_
    repeat ((fail_if_success (with_reducible apply Go.Proofs.E.is_dst (d := 51))); first | ((with_reducible apply is_ld); first | refine kld hM ?_ | refine kldw hM ?_ | refine kle hM ?_ | refine klew hM ?_) | ((with_reducible apply is_sto); first | (refine kst hM ?_; intro w hM) | (refine kstw hM ?_; intro w hM)) | ((with_reducible apply is_st); refine su ?_) | ((with_reducible apply is_gd); first | refine gt ?_ | refine gf ?_ | refine gu ?_) | ((with_reducible apply is_en); refine en ?_) | (with_reducible apply c_region) | refine ws ?_ | refine x_block_other (by decide) ?_)
    have e1 : IntKind.u64.wrap ((valB (xs.take j) : Int) * 2 ^ min (Int.toNat 8) IntKind.u64.bits) = ((valB (xs.take j) * 256 : Nat) : Int) := by
      rw [show min (Int.toNat 8) IntKind.u64.bits = 8 by rfl]
      rw [wrap_rng (k := .u64) rfl (by omega) (by omega)]
      omega
    rw [e1]
    (try ((with_reducible apply is_gd); first | refine gt ?_ | refine gf ?_ | refine gu ?_)); refine wl_val (r_convw (a := (x.toNat : Int)) (k := .u64) rfl rfl (by omega) (by omega)) ?_
    (try ((with_reducible apply is_gd); first | refine gt ?_ | refine gf ?_ | refine gu ?_)); refine wl_val (r_orB (n := valB (xs.take j)) (b := x.toNat) rfl rfl (by omega) (by omega)) ?_
    rw [← hvb]
    repeat (first | refine gw ?_ | (refine ks ?_; intro w hM))
    exact x_goes (n - 1) rfl (by omega) ⟨j + 1, exj rfl, by omega, hM⟩
  · rw [List.take_of_length_le (by omega), hvz]
    repeat (first | refine gw ?_ | (refine ks ?_; intro w hM))
    refine c_cond rfl (fun q5 => ?_) (fun q5 => ?_)
    · repeat (first | refine gw ?_ | (refine ks ?_; intro w hM))
      rw [if_pos (by omega)]
      exact out3 rfl ⟨rfl, hM.ch⟩
    · repeat (first | refine gw ?_ | (refine ks ?_; intro w hM))
      rw [if_neg (by omega)]
      refine out3 rfl ⟨?_, hM.ch⟩
      show Value.tuple #[_, _, _] = Value.tuple #[_, _, _]
      rw [Int.natCast_add]
      rfl
end Go.Proofs.YtoimhmphhffelaaGreatDoor
set_option linter.unusedVariables false
set_option linter.unusedSimpArgs false
namespace Go.Proofs.E
open Go Go.RowKit
section
variable {P : Program} {l : List Value} {w : World} {T : TypeId}
theorem r_maxI {x y : Operand} {ts : Array TypeId} {k : IntKind} {a b : Int} (c : Int) (hx : ev l x = .int k a := by exact rfl) (hy : ev l y = .int k b := by exact rfl) (hc : c = max a b := by omega) :
    (exec (ev l) (.call { callee := .builtin .max, args := #[x, y], argTypes := ts }) T).run P w = .ok (.value (.int k c)) w := by
  have h : c = (if a < b then b else a) := by rw [hc]; omega
  subst h
  simp [exec, execOp, resolve, invoke, builtin, hx, hy, run_max_int2]
end
end Go.Proofs.E
namespace Go.Proofs.YtoimhmphhffelaaGreatDoor
open Go Go.RowKit Go.Proofs.E
attribute [local irreducible] Go.wpList Go.Code.wp Go.Proofs.E.exec Go.Proofs.E.wpLexG
def getFlag : Bs → Bool × Nat × Bool
  | [] => (false, 0, false)
  | b :: r => if b.toNat > 1 then (false, 0, false) else (decide (b.toNat = 1), 1, true)
theorem getFlag_cons (b : UInt8) (r : Bs) : getFlag (b :: r) = if b.toNat > 1 then (false, 0, false) else (decide (b.toNat = 1), 1, true) := rfl
def getStr (bs : Bs) (most : Nat) : Bs × Nat × Bool :=
  if (getNum bs).2.2 = false ∨ most < (getNum bs).1 ∨ bs.length - (getNum bs).2.1 < (getNum bs).1 then ([], 0, false)
  else ((bs.drop (getNum bs).2.1).take (getNum bs).1, (getNum bs).2.1 + (getNum bs).1, true)
abbrev gotF (x : Bool × Nat × Bool) : Value := .tuple #[.bool x.1, .int .i64 (x.2.1 : Int), .bool x.2.2]
abbrev gotS (x : Bs × Nat × Bool) : Value := .tuple #[.string (bst x.1), .int .i64 (x.2.1 : Int), .bool x.2.2]
set_option maxHeartbeats 4000000 in
theorem getFlag_any {bs : Bs} (v : Value) (w0 : World) (hR : tU8.Rd [] w0 v bs) :
    Calls Tryz.prog 150 #[v] w0 (Ret fun u w' => u = gotF (getFlag bs) ∧ Ch [] w0 w') := by
  have hM := Mem.start w0
  obtain ⟨A, c, rfl⟩ := hR.form
  have hl := hR.le
  refine enter [.slice A bs.length c, undef, undef, undef, undef, undef, undef, undef, undef, undef, undef, undef, undef, undef, undef, undef, undef, undef] Tryz.func150 rfl rfl ?_
  cases bs with
  | nil =>
    repeat (first | refine gw ?_ | (refine ks ?_; intro w hM))
    rw [decide_eq_true (show (([] : Bs).length : Int) = 0 by rfl)]
    repeat (first | refine gw ?_ | (refine ks ?_; intro w hM))
    refine c_condb rfl (fun _ => ?_) (fun h => by cases h)
    repeat (first | refine gw ?_ | (refine ks ?_; intro w hM))
    exact out3 rfl ⟨rfl, hM.ch⟩
  | cons b r =>
    have hb := b.toNat_lt
    repeat (first | refine gw ?_ | (refine ks ?_; intro w hM))
    rw [decide_eq_false (show ¬ (((b :: r).length : Nat) : Int) = 0 by rw [List.length_cons]; omega)]
    repeat (first | refine gw ?_ | (refine ks ?_; intro w hM))
    (try ((with_reducible apply is_gd); first | refine gt ?_ | refine gf ?_ | refine gu ?_)); refine kix hR (fun o1 o2 x hx hA => ?_) (h1 := by simp)
    obtain rfl : b = x := by simpa using hx
    (try ((with_reducible apply is_gd); first | refine gt ?_ | refine gf ?_ | refine gu ?_)); refine kat hM hA ?_
    repeat (first | refine gw ?_ | (refine ks ?_; intro w hM))
    rw [getFlag_cons]
    by_cases q1 : (b.toNat : Int) > 1
    · rw [decide_eq_true q1, if_pos (by omega)]
      repeat (first | refine gw ?_ | (refine ks ?_; intro w hM))
      refine c_condb rfl (fun _ => ?_) (fun h => by cases h)
      repeat (first | refine gw ?_ | (refine ks ?_; intro w hM))
      exact out3 rfl ⟨rfl, hM.ch⟩
    · rw [decide_eq_false q1, if_neg (by omega)]
      repeat (first | refine gw ?_ | (refine ks ?_; intro w hM))
      refine c_condb rfl (fun h => by cases h) (fun _ => ?_)
      repeat (first | refine gw ?_ | (refine ks ?_; intro w hM))
      refine kix hR (fun o3 o4 x hx hA => ?_) (h1 := by simp)
      obtain rfl : b = x := by simpa using hx
      refine kat hM hA ?_
      repeat (first | refine gw ?_ | (refine ks ?_; intro w hM))
      refine out3 rfl ⟨?_, hM.ch⟩
      have e : decide ((b.toNat : Int) = 1) = decide (b.toNat = 1) := by rw [Bool.eq_iff_iff, decide_eq_true_eq, decide_eq_true_eq]; omega
      rw [← e]
      rfl
set_option maxHeartbeats 4000000 in
theorem rgetFlag_any {bs : Bs} (v : Value) (w0 : World) (hR : tU8.Rd [] w0 v bs) :
    Calls Tryz.prog 155 #[v] w0 (Ret fun u w' => u = gotF (getFlag bs) ∧ Ch [] w0 w') := by
  have hM := Mem.start w0
  obtain ⟨A, c, rfl⟩ := hR.form
  have hl := hR.le
  refine enter [.slice A bs.length c, undef, undef, undef, undef, undef, undef, undef, undef, undef, undef, undef, undef, undef, undef, undef, undef, undef] Tryz.func155 rfl rfl ?_
  cases bs with
  | nil =>
    repeat (first | refine gw ?_ | (refine ks ?_; intro w hM))
    rw [decide_eq_true (show (([] : Bs).length : Int) = 0 by rfl)]
    repeat (first | refine gw ?_ | (refine ks ?_; intro w hM))
    refine c_condb rfl (fun _ => ?_) (fun h => by cases h)
    repeat (first | refine gw ?_ | (refine ks ?_; intro w hM))
    exact out3 rfl ⟨rfl, hM.ch⟩
  | cons b r =>
    have hb := b.toNat_lt
    repeat (first | refine gw ?_ | (refine ks ?_; intro w hM))
    rw [decide_eq_false (show ¬ (((b :: r).length : Nat) : Int) = 0 by rw [List.length_cons]; omega)]
    repeat (first | refine gw ?_ | (refine ks ?_; intro w hM))
    (try ((with_reducible apply is_gd); first | refine gt ?_ | refine gf ?_ | refine gu ?_)); refine kix hR (fun o1 o2 x hx hA => ?_) (h1 := by simp)
    obtain rfl : b = x := by simpa using hx
    (try ((with_reducible apply is_gd); first | refine gt ?_ | refine gf ?_ | refine gu ?_)); refine kat hM hA ?_
    repeat (first | refine gw ?_ | (refine ks ?_; intro w hM))
    rw [getFlag_cons]
    by_cases q1 : (b.toNat : Int) > 1
    · rw [decide_eq_true q1, if_pos (by omega)]
      repeat (first | refine gw ?_ | (refine ks ?_; intro w hM))
      refine c_condb rfl (fun _ => ?_) (fun h => by cases h)
      repeat (first | refine gw ?_ | (refine ks ?_; intro w hM))
      exact out3 rfl ⟨rfl, hM.ch⟩
    · rw [decide_eq_false q1, if_neg (by omega)]
      repeat (first | refine gw ?_ | (refine ks ?_; intro w hM))
      refine c_condb rfl (fun h => by cases h) (fun _ => ?_)
      repeat (first | refine gw ?_ | (refine ks ?_; intro w hM))
      refine kix hR (fun o3 o4 x hx hA => ?_) (h1 := by simp)
      obtain rfl : b = x := by simpa using hx
      refine kat hM hA ?_
      repeat (first | refine gw ?_ | (refine ks ?_; intro w hM))
      refine out3 rfl ⟨?_, hM.ch⟩
      have e : decide ((b.toNat : Int) = 1) = decide (b.toNat = 1) := by rw [Bool.eq_iff_iff, decide_eq_true_eq, decide_eq_true_eq]; omega
      rw [← e]
      rfl
theorem getNum_k (bs : Bs) : (getNum bs).2.1 ≤ bs.length ∧ (getNum bs).1 < 2 ^ 64 := by
  cases h : (getNum bs).2.2 with
  | true =>
    obtain ⟨_, h1, h2, _⟩ := getNum_dec (bs := bs) (n := (getNum bs).1) (k := (getNum bs).2.1) (by rw [← h])
    exact ⟨h2, h1⟩
  | false =>
    have : (getNum bs).1 = 0 ∧ (getNum bs).2.1 = 0 := by
      cases bs with
      | nil => exact ⟨rfl, rfl⟩
      | cons b r =>
        rw [getNum_cons] at h ⊢
        split at h <;> rename_i q1
        · cases h
        rw [if_neg q1]
        split at h <;> rename_i q2
        · rw [if_pos q2]; exact ⟨rfl, rfl⟩
        rw [if_neg q2]
        split at h <;> rename_i q3
        · rw [if_pos q3]; exact ⟨rfl, rfl⟩
        rw [if_neg q3]
        split at h <;> rename_i q4
        · rw [if_pos q4]; exact ⟨rfl, rfl⟩
        · cases h
    omega
set_option maxHeartbeats 4000000 in
theorem getStr_any {bs : Bs} (v : Value) (most : Nat) (w0 : World) (hR : tU8.Rd [] w0 v bs) (hm : most ≤ 1000000) :
    Calls Tryz.prog 42 #[v, .int .i64 (most : Int)] w0 (Ret fun u w' => u = gotS (getStr bs most) ∧ Ch [] w0 w') := by
  have hM := Mem.start w0
  obtain ⟨A, c, rfl⟩ := hR.form
  have hl := hR.le
  refine enter [.slice A bs.length c, .int .i64 (most : Int), undef, undef, undef, undef, undef, undef, undef, undef, undef, undef, undef, undef, undef, undef, undef, undef, undef, undef, undef, undef, undef, undef, undef, undef, undef, undef, undef, undef, undef, undef, undef, undef, undef, undef, undef, undef, undef, undef, undef, undef, undef, undef, undef] Tryz.func42 rfl rfl ?_
  repeat (first | refine gw ?_ | (refine ks ?_; intro w hM))
  refine kca hM (getNum_any _ _ hR) (fun w hM => ?_)
  have hk := getNum_k bs
  unfold getStr
  generalize getNum bs = g at hk ⊢
  obtain ⟨n, k, ok⟩ := g
  simp only at hk ⊢
  repeat (first | refine gw ?_ | (refine ks ?_; intro w hM))
  cases ok with
  | false =>
    repeat (first | refine gw ?_ | (refine ks ?_; intro w hM))
    refine c_condb rfl (fun _ => ?_) (fun h => by cases h)
    repeat (first | refine gw ?_ | (refine ks ?_; intro w hM))
    rw [if_pos (.inl rfl)]
    exact out3 rfl ⟨rfl, hM.ch⟩
  | true =>
  repeat (first | refine gw ?_ | (refine ks ?_; intro w hM))
  (try ((with_reducible apply is_gd); first | refine gt ?_ | refine gf ?_ | refine gu ?_)); refine wl_val (r_maxI (a := (most : Int)) (b := 0) (most : Int)) ?_
  repeat (first | refine gw ?_ | (refine ks ?_; intro w hM))
  by_cases q1 : (most : Int) < (n : Int)
  · rw [decide_eq_true q1]
    repeat (first | refine gw ?_ | (refine ks ?_; intro w hM))
    refine c_condb rfl (fun _ => ?_) (fun h => by cases h)
    repeat (first | refine gw ?_ | (refine ks ?_; intro w hM))
    rw [if_pos (.inr (.inl (by omega)))]
    exact out3 rfl ⟨rfl, hM.ch⟩
  rw [decide_eq_false q1]
  repeat (first | refine gw ?_ | (refine ks ?_; intro w hM))
  by_cases q2 : (bs.length : Int) - (k : Int) < (n : Int)
  · rw [decide_eq_true q2]
    refine c_condb rfl (fun _ => ?_) (fun h => by cases h)
    repeat (first | refine gw ?_ | (refine ks ?_; intro w hM))
    rw [if_pos (.inr (.inr (by omega)))]
    exact out3 rfl ⟨rfl, hM.ch⟩
  rw [decide_eq_false q2]
  refine c_condb rfl (fun h => by cases h) (fun _ => ?_)
  rw [if_neg (by rintro (h | h | h); cases h; all_goals omega)]
  repeat (first | refine gw ?_ | (refine ks ?_; intro w hM))
  refine kcut hR (i := (k : Int)) (j := (k : Int) + (n : Int)) (fun v42 hV => ?_)
  rw [show ((k : Int) + (n : Int)).toNat = k + n by omega, Int.toNat_natCast, List.drop_take, show k + n - k = n by omega] at hV
  (try ((with_reducible apply is_gd); first | refine gt ?_ | refine gf ?_ | refine gu ?_)); refine wl_val (r_b2s (hV.ch hM.ch)) ?_
  repeat (first | refine gw ?_ | (refine ks ?_; intro w hM))
  refine out3 rfl ⟨?_, hM.ch⟩
  show Value.tuple #[_, _, _] = Value.tuple #[_, _, _]
  rw [Int.natCast_add]
  rfl
set_option maxHeartbeats 4000000 in
theorem rgetStr_any {bs : Bs} (v : Value) (most : Nat) (w0 : World) (hR : tU8.Rd [] w0 v bs) (hm : most ≤ 1000000) :
    Calls Tryz.prog 45 #[v, .int .i64 (most : Int)] w0 (Ret fun u w' => u = gotS (getStr bs most) ∧ Ch [] w0 w') := by
  have hM := Mem.start w0
  obtain ⟨A, c, rfl⟩ := hR.form
  have hl := hR.le
  refine enter [.slice A bs.length c, .int .i64 (most : Int), undef, undef, undef, undef, undef, undef, undef, undef, undef, undef, undef, undef, undef, undef, undef, undef, undef, undef, undef, undef, undef, undef, undef, undef, undef, undef, undef, undef, undef, undef, undef, undef, undef, undef, undef, undef, undef, undef, undef, undef, undef, undef, undef, undef, undef] Tryz.func45 rfl rfl ?_
  repeat (first | refine gw ?_ | (refine ks ?_; intro w hM))
  rw [decide_eq_false (by omega : ¬ (most : Int) < 0)]
  refine c_condb rfl (fun h => by cases h) (fun _ => ?_)
  repeat (first | refine gw ?_ | (refine ks ?_; intro w hM))
  refine kca hM (rgetNum_any _ _ hR) (fun w hM => ?_)
  have hk := getNum_k bs
  unfold getStr
  generalize getNum bs = g at hk ⊢
  obtain ⟨n, k, ok⟩ := g
  simp only at hk ⊢
  repeat (first | refine gw ?_ | (refine ks ?_; intro w hM))
  cases ok with
  | false =>
    repeat (first | refine gw ?_ | (refine ks ?_; intro w hM))
    refine c_condb rfl (fun _ => ?_) (fun h => by cases h)
    repeat (first | refine gw ?_ | (refine ks ?_; intro w hM))
    rw [if_pos (.inl rfl)]
    exact out3 rfl ⟨rfl, hM.ch⟩
  | true =>
  repeat (first | refine gw ?_ | (refine ks ?_; intro w hM))
  by_cases q1 : (most : Int) < (n : Int)
  · rw [decide_eq_true q1]
    repeat (first | refine gw ?_ | (refine ks ?_; intro w hM))
    refine c_condb rfl (fun _ => ?_) (fun h => by cases h)
    repeat (first | refine gw ?_ | (refine ks ?_; intro w hM))
    rw [if_pos (.inr (.inl (by omega)))]
    exact out3 rfl ⟨rfl, hM.ch⟩
  rw [decide_eq_false q1]
  repeat (first | refine gw ?_ | (refine ks ?_; intro w hM))
  by_cases q2 : (bs.length : Int) - (k : Int) < (n : Int)
  · rw [decide_eq_true q2]
    refine c_condb rfl (fun _ => ?_) (fun h => by cases h)
    repeat (first | refine gw ?_ | (refine ks ?_; intro w hM))
    rw [if_pos (.inr (.inr (by omega)))]
    exact out3 rfl ⟨rfl, hM.ch⟩
  rw [decide_eq_false q2]
  refine c_condb rfl (fun h => by cases h) (fun _ => ?_)
  rw [if_neg (by rintro (h | h | h); cases h; all_goals omega)]
  repeat (first | refine gw ?_ | (refine ks ?_; intro w hM))
  refine kcut hR (i := (k : Int)) (j := (k : Int) + (n : Int)) (fun v42 hV => ?_)
  rw [show ((k : Int) + (n : Int)).toNat = k + n by omega, Int.toNat_natCast, List.drop_take, show k + n - k = n by omega] at hV
  (try ((with_reducible apply is_gd); first | refine gt ?_ | refine gf ?_ | refine gu ?_)); refine wl_val (r_b2s (hV.ch hM.ch)) ?_
  repeat (first | refine gw ?_ | (refine ks ?_; intro w hM))
  refine out3 rfl ⟨?_, hM.ch⟩
  show Value.tuple #[_, _, _] = Value.tuple #[_, _, _]
  rw [Int.natCast_add]
  rfl
end Go.Proofs.YtoimhmphhffelaaGreatDoor
set_option linter.unusedVariables false
set_option linter.unusedSimpArgs false
namespace Go.Proofs.YtoimhmphhffelaaGreatDoor
open Go Go.RowKit Go.Proofs.E
attribute [local irreducible] Go.wpList Go.Code.wp Go.Proofs.E.exec Go.Proofs.E.wpLexG
abbrev Sr := Bs × Bool
def gotSt (s : Sr) (n : Nat) (ok : Bool) : Bool × Sr := if s.2 = true ∨ ok = false then (false, (s.1, true)) else (true, (s.1.drop n, false))
def numT (most : Nat) (s : Sr) : Nat × Sr :=
  (if (gotSt s (getNum s.1).2.1 ((getNum s.1).2.2 && decide ((getNum s.1).1 ≤ most))).1 = true then (getNum s.1).1 else 0, (gotSt s (getNum s.1).2.1 ((getNum s.1).2.2 && decide ((getNum s.1).1 ≤ most))).2)
def flagT (s : Sr) : Bool × Sr := ((gotSt s (getFlag s.1).2.1 (getFlag s.1).2.2).1 && (getFlag s.1).1, (gotSt s (getFlag s.1).2.1 (getFlag s.1).2.2).2)
def strT (most : Nat) (s : Sr) : Bs × Sr :=
  (if (gotSt s (getStr s.1 most).2.1 (getStr s.1 most).2.2).1 = true then (getStr s.1 most).1 else [], (gotSt s (getStr s.1 most).2.1 (getStr s.1 most).2.2).2)
abbrev sC (vb : Value) (bad : Bool) : List Value := [vb, .bool bad]
/-- What a call that takes leaves behind. -/
def Took (T : TypeId) (bS : Nat) (wx w w' : World) (s : Sr) : Prop := ∃ vb, Ch [bS] w w' ∧ Blk w' bS (sC vb s.2) T ∧ tU8.Rd [] wx vb s.1
set_option maxHeartbeats 4000000 in
theorem got_any (bS : Nat) (vb : Value) (s : Sr) (n : Nat) (ok : Bool) (wx w0 : World) (hB : Blk w0 bS (sC vb s.2) 142) (hx : tU8.Rd [] wx vb s.1) (hn : n ≤ s.1.length) :
    Calls Tryz.prog 149 #[.pointer (some ⟨bS, 0, none⟩), .int .i64 (n : Int), .bool ok] w0 (Ret fun u w' => u = .bool (gotSt s n ok).1 ∧ Took 142 bS wx w0 w' (gotSt s n ok).2) := by
  obtain ⟨A, c, rfl⟩ := hx.form
  obtain ⟨bs, bad⟩ := s
  simp only at hB hx hn ⊢
  have hle := hx.le
  have hM := Mem.take hB
  unfold gotSt
  refine enter [.pointer (some ⟨bS, 0, none⟩), .int .i64 (n : Int), .bool ok, undef, undef, undef, undef, undef, undef, undef, undef, undef, undef, undef, undef, undef, undef, undef, undef, undef, undef, undef, undef, undef, undef, undef, undef, undef, undef, undef, undef] Tryz.func149 rfl rfl ?_
  repeat (first | refine gw ?_ | (refine ks ?_; intro w hM))
  cases bad with
  | true =>
    repeat (first | refine gw ?_ | (refine ks ?_; intro w hM))
    refine c_condb rfl (fun _ => ?_) (fun h => by cases h)
    repeat (first | refine gw ?_ | (refine ks ?_; intro w hM))
    exact out1 rfl ⟨by simp [ev, nth], _, hM.ch, hM.blk (b := bS) (by (repeat constructor)), by simpa using hx⟩
  | false =>
    repeat (first | refine gw ?_ | (refine ks ?_; intro w hM))
    cases ok with
    | false =>
      repeat (first | refine gw ?_ | (refine ks ?_; intro w hM))
      refine c_condb rfl (fun _ => ?_) (fun h => by cases h)
      repeat (first | refine gw ?_ | (refine ks ?_; intro w hM))
      exact out1 rfl ⟨by simp [ev, nth], _, hM.ch, hM.blk (b := bS) (by (repeat constructor)), by simpa using hx⟩
    | true =>
      repeat (first | refine gw ?_ | (refine ks ?_; intro w hM))
      refine c_condb rfl (fun h => by cases h) (fun _ => ?_)
      repeat (first | refine gw ?_ | (refine ks ?_; intro w hM))
      refine kcutl hx (i := (n : Int)) (fun v28 hV => ?_)
      rw [Int.toNat_natCast] at hV
      obtain ⟨A28, c28, rfl⟩ := hV.form
      repeat (first | refine gw ?_ | (refine ks ?_; intro w hM))
      exact out1 rfl ⟨by simp [ev, nth], _, hM.ch, hM.blk (b := bS) (by (repeat constructor)), by simpa using hV⟩
theorem gotSt_ok {s : Sr} {n : Nat} {ok : Bool} (h : (gotSt s n ok).1 = true) : ok = true ∧ s.2 = false := by
  unfold gotSt at h
  split at h
  · cases h
  · rename_i q
    constructor
    · cases ok with
      | true => rfl
      | false => exact absurd (.inr rfl) q
    · cases hs : s.2 with
      | true => exact absurd (.inl hs) q
      | false => rfl
theorem getFlag_k (bs : Bs) : (getFlag bs).2.1 ≤ bs.length := by
  cases bs with
  | nil => exact Nat.le_refl _
  | cons b r =>
    rw [getFlag_cons]
    split
    · exact Nat.zero_le _
    · simp
theorem getStr_k (bs : Bs) (most : Nat) : (getStr bs most).2.1 ≤ bs.length := by
  have := getNum_k bs
  unfold getStr
  split
  · exact Nat.zero_le _
  · rename_i h
    simp only
    omega
set_option maxHeartbeats 4000000 in
theorem snum_any (bS : Nat) (vb : Value) (s : Sr) (most : Nat) (wx w0 : World) (hB : Blk w0 bS (sC vb s.2) 142) (hR : tU8.Rd [] w0 vb s.1) (hx : tU8.Rd [] wx vb s.1) (hm : most ≤ 9223372036854775807) :
    Calls Tryz.prog 105 #[.pointer (some ⟨bS, 0, none⟩), .int .i64 (most : Int)] w0 (Ret fun u w' => u = .int .i64 ((numT most s).1 : Int) ∧ Took 142 bS wx w0 w' (numT most s).2) := by
  obtain ⟨A, c, rfl⟩ := hx.form
  obtain ⟨bs, bad⟩ := s
  simp only at hB hx hR ⊢
  have hM := Mem.take hB
  refine enter [.pointer (some ⟨bS, 0, none⟩), .int .i64 (most : Int), undef, undef, undef, undef, undef, undef, undef, undef, undef, undef, undef, undef, undef, undef, undef, undef, undef, undef, undef, undef, undef, undef, undef, undef, undef, undef, undef, undef] Tryz.func105 rfl rfl ?_
  repeat (first | refine gw ?_ | (refine ks ?_; intro w hM))
  refine kca hM (getNum_any _ _ hR) (fun w hM => ?_)
  have hk := getNum_k bs
  unfold numT
  simp only
  generalize getNum bs = g at hk ⊢
  obtain ⟨n, k, ok⟩ := g
  simp only at hk ⊢
  repeat (first | refine gw ?_ | (refine ks ?_; intro w hM))
  cases ok with
  | false =>
    rw [Bool.false_and]
    repeat (first | refine gw ?_ | (refine ks ?_; intro w hM))
    refine ca (got_any bS _ (bs, bad) k false wx w (hM.blk (b := bS) (by (repeat constructor))) hx hk.1) ?_
    rintro _ w2 ⟨rfl, vb2, hc, hB2, hx2⟩
    have hM := hM.cellSet hB2 hc
    have hg1 : (gotSt (bs, bad) k false).1 = false := by simp [gotSt]
    rw [hg1]
    repeat (first | refine gw ?_ | (refine ks ?_; intro w hM))
    refine c_condb rfl (fun _ => ?_) (fun h => by cases h)
    repeat (first | refine gw ?_ | (refine ks ?_; intro w hM))
    exact out1 rfl ⟨rfl, vb2, hM.ch, hM.blk (b := bS) (by (repeat constructor)), hx2⟩
  | true =>
    rw [Bool.true_and]
    repeat (first | refine gw ?_ | (refine ks ?_; intro w hM))
    rw [show decide ((n : Int) ≤ (most : Int)) = decide (n ≤ most) by rw [Bool.eq_iff_iff, decide_eq_true_eq, decide_eq_true_eq]; omega]
    repeat (first | refine gw ?_ | (refine ks ?_; intro w hM))
    refine ca (got_any bS _ (bs, bad) k (decide (n ≤ most)) wx w (hM.blk (b := bS) (by (repeat constructor))) hx hk.1) ?_
    rintro _ w2 ⟨rfl, vb2, hc, hB2, hx2⟩
    have hM := hM.cellSet hB2 hc
    have hgo := gotSt_ok (s := (bs, bad)) (n := k) (ok := decide (n ≤ most))
    generalize gotSt (bs, bad) k (decide (n ≤ most)) = g2 at hB2 hx2 hM hgo ⊢
    obtain ⟨r2, s2⟩ := g2
    simp only at hgo hx2 hM ⊢
    cases r2 with
    | false =>
      repeat (first | refine gw ?_ | (refine ks ?_; intro w hM))
      refine c_condb rfl (fun _ => ?_) (fun h => by cases h)
      repeat (first | refine gw ?_ | (refine ks ?_; intro w hM))
      exact out1 rfl ⟨rfl, vb2, hM.ch, hM.blk (b := bS) (by (repeat constructor)), hx2⟩
    | true =>
      have hnm := of_decide_eq_true (hgo rfl).1
      repeat (first | refine gw ?_ | (refine ks ?_; intro w hM))
      refine c_condb rfl (fun h => by cases h) (fun _ => ?_)
      repeat ((fail_if_success (with_reducible apply Go.Proofs.E.is_dst (d := 29))); first | ((with_reducible apply is_ld); first | refine kld hM ?_ | refine kldw hM ?_ | refine kle hM ?_ | refine klew hM ?_) | ((with_reducible apply is_sto); first | (refine kst hM ?_; intro w hM) | (refine kstw hM ?_; intro w hM)) | ((with_reducible apply is_st); refine su ?_) | ((with_reducible apply is_gd); first | refine gt ?_ | refine gf ?_ | refine gu ?_) | ((with_reducible apply is_en); refine en ?_) | (with_reducible apply c_region) | refine ws ?_ | refine x_block_other (by decide) ?_)
      (try ((with_reducible apply is_gd); first | refine gt ?_ | refine gf ?_ | refine gu ?_)); refine wl_val (r_convw (a := (n : Int)) (k := .i64) rfl rfl (by omega) (by omega)) ?_
      repeat (first | refine gw ?_ | (refine ks ?_; intro w hM))
      exact out1 rfl ⟨rfl, vb2, hM.ch, hM.blk (b := bS) (by (repeat constructor)), hx2⟩
set_option maxHeartbeats 4000000 in
theorem sflag_any (bS : Nat) (vb : Value) (s : Sr) (wx w0 : World) (hB : Blk w0 bS (sC vb s.2) 142) (hR : tU8.Rd [] w0 vb s.1) (hx : tU8.Rd [] wx vb s.1) :
    Calls Tryz.prog 106 #[.pointer (some ⟨bS, 0, none⟩)] w0 (Ret fun u w' => u = .bool (flagT s).1 ∧ Took 142 bS wx w0 w' (flagT s).2) := by
  obtain ⟨A, c, rfl⟩ := hx.form
  obtain ⟨bs, bad⟩ := s
  simp only at hB hx hR ⊢
  have hM := Mem.take hB
  refine enter [.pointer (some ⟨bS, 0, none⟩), undef, undef, undef, undef, undef, undef, undef, undef, undef, undef, undef, undef, undef, undef, undef, undef, undef, undef, undef, undef, undef] Tryz.func106 rfl rfl ?_
  repeat (first | refine gw ?_ | (refine ks ?_; intro w hM))
  refine kca hM (getFlag_any _ _ hR) (fun w hM => ?_)
  have hk := getFlag_k bs
  unfold flagT
  simp only
  generalize getFlag bs = g at hk ⊢
  obtain ⟨n, k, ok⟩ := g
  simp only at hk ⊢
  repeat (first | refine gw ?_ | (refine ks ?_; intro w hM))
  refine ca (got_any bS _ (bs, bad) k ok wx w (hM.blk (b := bS) (by (repeat constructor))) hx hk) ?_
  rintro _ w2 ⟨rfl, vb2, hc, hB2, hx2⟩
  have hM := hM.cellSet hB2 hc
  generalize gotSt (bs, bad) k ok = g2 at hB2 hx2 hM ⊢
  obtain ⟨r2, s2⟩ := g2
  simp only at hx2 hM ⊢
  cases r2 with
  | false =>
    repeat (first | refine gw ?_ | (refine ks ?_; intro w hM))
    exact out1 rfl ⟨rfl, vb2, hM.ch, hM.blk (b := bS) (by (repeat constructor)), hx2⟩
  | true =>
    repeat (first | refine gw ?_ | (refine ks ?_; intro w hM))
    exact out1 rfl ⟨rfl, vb2, hM.ch, hM.blk (b := bS) (by (repeat constructor)), hx2⟩
set_option maxHeartbeats 4000000 in
theorem stext_any (bS : Nat) (vb : Value) (s : Sr) (most : Nat) (wx w0 : World) (hB : Blk w0 bS (sC vb s.2) 142) (hR : tU8.Rd [] w0 vb s.1) (hx : tU8.Rd [] wx vb s.1) (hm : most ≤ 1000000) :
    Calls Tryz.prog 111 #[.pointer (some ⟨bS, 0, none⟩), .int .i64 (most : Int)] w0 (Ret fun u w' => u = .string (bst (strT most s).1) ∧ Took 142 bS wx w0 w' (strT most s).2) := by
  obtain ⟨A, c, rfl⟩ := hx.form
  obtain ⟨bs, bad⟩ := s
  simp only at hB hx hR ⊢
  have hM := Mem.take hB
  refine enter [.pointer (some ⟨bS, 0, none⟩), .int .i64 (most : Int), undef, undef, undef, undef, undef, undef, undef, undef, undef, undef, undef, undef, undef, undef, undef, undef, undef, undef, undef, undef, undef, undef] Tryz.func111 rfl rfl ?_
  repeat (first | refine gw ?_ | (refine ks ?_; intro w hM))
  refine kca hM (getStr_any _ most _ hR hm) (fun w hM => ?_)
  have hk := getStr_k bs most
  unfold strT
  simp only
  generalize getStr bs most = g at hk ⊢
  obtain ⟨n, k, ok⟩ := g
  simp only at hk ⊢
  repeat (first | refine gw ?_ | (refine ks ?_; intro w hM))
  refine ca (got_any bS _ (bs, bad) k ok wx w (hM.blk (b := bS) (by (repeat constructor))) hx hk) ?_
  rintro _ w2 ⟨rfl, vb2, hc, hB2, hx2⟩
  have hM := hM.cellSet hB2 hc
  generalize gotSt (bs, bad) k ok = g2 at hB2 hx2 hM ⊢
  obtain ⟨r2, s2⟩ := g2
  simp only at hx2 hM ⊢
  cases r2 with
  | false =>
    repeat (first | refine gw ?_ | (refine ks ?_; intro w hM))
    refine c_condb rfl (fun _ => ?_) (fun h => by cases h)
    repeat (first | refine gw ?_ | (refine ks ?_; intro w hM))
    exact out1 rfl ⟨rfl, vb2, hM.ch, hM.blk (b := bS) (by (repeat constructor)), hx2⟩
  | true =>
    repeat (first | refine gw ?_ | (refine ks ?_; intro w hM))
    refine c_condb rfl (fun h => by cases h) (fun _ => ?_)
    repeat (first | refine gw ?_ | (refine ks ?_; intro w hM))
    exact out1 rfl ⟨rfl, vb2, hM.ch, hM.blk (b := bS) (by (repeat constructor)), hx2⟩
end Go.Proofs.YtoimhmphhffelaaGreatDoor
set_option linter.unusedVariables false
set_option linter.unusedSimpArgs false
namespace Go.Proofs.YtoimhmphhffelaaGreatDoor
open Go Go.RowKit Go.Proofs.E
def loopT {α : Type} (f : Sr → α × Sr) : Nat → List α → Sr → List α × Sr
  | 0, a, s => (a, s)
  | n + 1, a, s => if s.2 = true then (a, s) else loopT f n (a ++ [(f s).1]) (f s).2
def pairS (s : Sr) : Pr × Sr := (((strT 64 s).1, (strT 256 (strT 64 s).2).1, false), (strT 256 (strT 64 s).2).2)
def toS (sc : Bool) (s : Sr) : Bs × Sr := if sc = true then strT 64 s else ([], s)
def valS (d : Bool) (s : Sr) : Bs × Sr := if d = true then ([], s) else strT 256 s
def timesT {α : Type} (most : Nat) (f : Sr → α × Sr) (s : Sr) : List α × Sr := loopT f (numT most s).1 [] (numT most s).2
def readS (s : Sr) : Dat × Sr :=
  let a := flagT s
  let b := strT 64 a.2
  let c := toS a.1 b.2
  let d := timesT 200 pairS c.2
  ((a.1, b.1, c.1, d.1), d.2)
def writeS (s : Sr) : Pr × Sr :=
  let a := strT 64 s
  let b := flagT a.2
  let c := valS b.1 b.2
  ((a.1, c.1, b.1), c.2)
abbrev RecV := Nat × Nat × Bool × List Dat × List Pr
def recS (s : Sr) : RecV × Sr :=
  let a := numT 8 s
  let b := numT 1099511627776 a.2
  let c := flagT b.2
  let d := timesT 64 readS c.2
  let e := timesT 64 writeS d.2
  ((a.1, b.1, c.1, d.1, e.1), e.2)
theorem gotSt_false {s : Sr} {n : Nat} {ok : Bool} (h : (gotSt s n ok).2.2 = false) : s.2 = false ∧ ok = true ∧ (gotSt s n ok) = (true, (s.1.drop n, false)) := by
  unfold gotSt at h ⊢
  split at h
  · cases h
  · rename_i q
    have h1 : s.2 = false := by
      cases hs : s.2 with
      | true => exact absurd (.inl hs) q
      | false => rfl
    have h2 : ok = true := by
      cases ok with
      | true => rfl
      | false => exact absurd (.inr rfl) q
    exact ⟨h1, h2, by rw [if_neg q]⟩
theorem gotSt_mk {s : Sr} {n : Nat} {ok : Bool} (h1 : s.2 = false) (h2 : ok = true) : gotSt s n ok = (true, (s.1.drop n, false)) := by
  unfold gotSt
  rw [if_neg (by rintro (h | h); rw [h1] at h; cases h; rw [h2] at h; cases h)]
theorem num_sound {most : Nat} {s : Sr} (h : (numT most s).2.2 = false) : s.2 = false ∧ s.1 = numB (numT most s).1 ++ (numT most s).2.1 ∧ (numT most s).1 ≤ most ∧ (numT most s).1 < 2 ^ 64 := by
  obtain ⟨h1, h2, h3⟩ := gotSt_false (show (gotSt s (getNum s.1).2.1 ((getNum s.1).2.2 && decide ((getNum s.1).1 ≤ most))).2.2 = false from h)
  unfold numT
  rw [h3, if_pos rfl]
  rw [Bool.and_eq_true, decide_eq_true_eq] at h2
  obtain ⟨g1, g2, g3, g4⟩ := getNum_dec (bs := s.1) (n := (getNum s.1).1) (k := (getNum s.1).2.1) (by rw [← h2.1])
  exact ⟨h1, g1, h2.2, g2⟩
theorem flag_sound {s : Sr} (h : (flagT s).2.2 = false) : s.2 = false ∧ s.1 = flagB (flagT s).1 ++ (flagT s).2.1 := by
  obtain ⟨h1, h2, h3⟩ := gotSt_false (show (gotSt s (getFlag s.1).2.1 (getFlag s.1).2.2).2.2 = false from h)
  unfold flagT
  rw [h3]
  refine ⟨h1, ?_⟩
  obtain ⟨bs, bad⟩ := s
  simp only at h2 ⊢
  cases bs with
  | nil => cases h2
  | cons b r =>
    rw [getFlag_cons] at h2 ⊢
    split at h2 <;> rename_i q
    · cases h2
    · rw [if_neg q, Bool.true_and]
      unfold flagB
      have hb : b = 0 ∨ b = 1 := by
        have : b.toNat = 0 ∨ b.toNat = 1 := by omega
        rcases this with h | h
        · exact .inl (UInt8.toNat_inj.1 (by simpa using h))
        · exact .inr (UInt8.toNat_inj.1 (by simpa using h))
      rcases hb with rfl | rfl <;> rfl
theorem str_sound {most : Nat} {s : Sr} (h : (strT most s).2.2 = false) : s.2 = false ∧ s.1 = strB (strT most s).1 ++ (strT most s).2.1 ∧ (strT most s).1.length ≤ most := by
  obtain ⟨h1, h2, h3⟩ := gotSt_false (show (gotSt s (getStr s.1 most).2.1 (getStr s.1 most).2.2).2.2 = false from h)
  unfold strT
  rw [h3, if_pos rfl]
  unfold getStr at h2 ⊢
  split at h2 <;> rename_i q
  · cases h2
  rw [if_neg q]
  simp only
  have q1 : (getNum s.1).2.2 = true := by
    cases hh : (getNum s.1).2.2 with
    | true => rfl
    | false => exact absurd (.inl hh) q
  have q2 : ¬ most < (getNum s.1).1 := fun hh => q (.inr (.inl hh))
  have q3 : ¬ s.1.length - (getNum s.1).2.1 < (getNum s.1).1 := fun hh => q (.inr (.inr hh))
  obtain ⟨g1, g2, g3, g4⟩ := getNum_dec (bs := s.1) (n := (getNum s.1).1) (k := (getNum s.1).2.1) (by rw [← q1])
  have hl : ((s.1.drop (getNum s.1).2.1).take (getNum s.1).1).length = (getNum s.1).1 := by rw [List.length_take, List.length_drop]; omega
  refine ⟨h1, ?_, by omega⟩
  unfold strB
  rw [hl, List.append_assoc, ← List.drop_drop, List.take_append_drop]
  exact g1
/-- A taker of values that are written so. -/
def Sound {α : Type} (f : Sr → α × Sr) (enc : α → Bs) (D : α → Prop) : Prop := ∀ s, (f s).2.2 = false → s.2 = false ∧ s.1 = enc (f s).1 ++ (f s).2.1 ∧ D (f s).1
theorem loop_sound {α : Type} {f : Sr → α × Sr} {enc : α → Bs} {D : α → Prop} (hf : Sound f enc D) : ∀ (n : Nat) (a : List α) (s : Sr), (loopT f n a s).2.2 = false →
    s.2 = false ∧ ∃ xs, (loopT f n a s).1 = a ++ xs ∧ xs.length = n ∧ s.1 = xs.flatMap enc ++ (loopT f n a s).2.1 ∧ ∀ x ∈ xs, D x
  | 0, a, s, h => ⟨h, [], by simp [loopT], rfl, by simp [loopT], by simp⟩
  | n + 1, a, s, h => by
    unfold loopT at h ⊢
    split at h <;> rename_i q
    · simp only at h
      rw [q] at h
      cases h
    rw [if_neg q]
    obtain ⟨h1, xs, h2, h3, h4, h5⟩ := loop_sound hf n _ _ h
    obtain ⟨g1, g2, g3⟩ := hf s h1
    refine ⟨g1, (f s).1 :: xs, by rw [h2]; simp, by rw [List.length_cons, h3], ?_, ?_⟩
    · rw [g2, h4, List.flatMap_cons, List.append_assoc]
    · intro x hx
      rcases List.mem_cons.1 hx with rfl | hx
      · exact g3
      · exact h5 x hx
theorem times_sound {α : Type} {f : Sr → α × Sr} {enc : α → Bs} {D : α → Prop} {most : Nat} (hf : Sound f enc D) {s : Sr} (h : (timesT most f s).2.2 = false) :
    s.2 = false ∧ s.1 = numB (timesT most f s).1.length ++ ((timesT most f s).1.flatMap enc ++ (timesT most f s).2.1) ∧ (timesT most f s).1.length ≤ most ∧ ∀ x ∈ (timesT most f s).1, D x := by
  unfold timesT at h ⊢
  obtain ⟨h1, xs, h2, h3, h4, h5⟩ := loop_sound hf _ _ _ h
  obtain ⟨g1, g2, g3, g4⟩ := num_sound h1
  rw [h2, List.nil_append, h3]
  refine ⟨g1, ?_, g3, h5⟩
  rw [← h4]
  exact g2
def PairD (p : Pr) : Prop := p.1.length ≤ 64 ∧ p.2.1.length ≤ 256 ∧ p.2.2 = false
theorem pair_sound : Sound pairS pairB PairD := fun s h => by
  obtain ⟨h1, h2, h3⟩ := str_sound (show (strT 256 (strT 64 s).2).2.2 = false from h)
  obtain ⟨g1, g2, g3⟩ := str_sound h1
  refine ⟨g1, ?_, g3, h3, rfl⟩
  rw [g2, h2]
  unfold pairB pairS
  simp
def readD (d : Dat) : Bs := flagB d.1 ++ (strB d.2.1 ++ ((if d.1 = true then strB d.2.2.1 else []) ++ (numB d.2.2.2.length ++ d.2.2.2.flatMap pairB)))
def ReadP (d : Dat) : Prop := d.2.1.length ≤ 64 ∧ d.2.2.1.length ≤ 64 ∧ (d.1 = false → d.2.2.1 = []) ∧ d.2.2.2.length ≤ 200 ∧ ∀ p ∈ d.2.2.2, PairD p
theorem to_sound {sc : Bool} {s : Sr} (h : (toS sc s).2.2 = false) : s.2 = false ∧ s.1 = (if sc = true then strB (toS sc s).1 else []) ++ (toS sc s).2.1 ∧ (toS sc s).1.length ≤ 64 ∧ (sc = false → (toS sc s).1 = []) := by
  unfold toS at h ⊢
  cases sc with
  | true =>
    simp only [if_pos] at h ⊢
    obtain ⟨h1, h2, h3⟩ := str_sound h
    exact ⟨h1, h2, h3, fun h => by cases h⟩
  | false => exact ⟨h, by simp, by simp, fun _ => by simp⟩
theorem read_sound : Sound readS readD ReadP := fun s h => by
  unfold readS at h ⊢
  simp only at h ⊢
  obtain ⟨h1, h2, h3, h4⟩ := times_sound pair_sound h
  obtain ⟨g1, g2, g3, g4⟩ := to_sound h1
  obtain ⟨k1, k2, k3⟩ := str_sound g1
  obtain ⟨l1, l2⟩ := flag_sound k1
  refine ⟨l1, ?_, k3, g3, g4, h3, h4⟩
  unfold readD
  simp only [List.append_assoc]
  rw [← h2, ← g2, ← k2]
  exact l2
def WriteP (p : Pr) : Prop := p.1.length ≤ 64 ∧ p.2.1.length ≤ 256 ∧ (p.2.2 = true → p.2.1 = [])
theorem val_sound {d : Bool} {s : Sr} (h : (valS d s).2.2 = false) : s.2 = false ∧ s.1 = (if d = true then [] else strB (valS d s).1) ++ (valS d s).2.1 ∧ (valS d s).1.length ≤ 256 ∧ (d = true → (valS d s).1 = []) := by
  unfold valS at h ⊢
  cases d with
  | true => exact ⟨h, by simp, by simp, fun _ => by simp⟩
  | false =>
    rw [if_neg (by simp)] at h
    rw [if_neg (by simp), if_neg (by simp)]
    obtain ⟨h1, h2, h3⟩ := str_sound h
    exact ⟨h1, h2, h3, fun h => by cases h⟩
theorem write_sound : Sound writeS writeB WriteP := fun s h => by
  unfold writeS at h ⊢
  simp only at h ⊢
  obtain ⟨g1, g2, g3, g4⟩ := val_sound h
  obtain ⟨l1, l2⟩ := flag_sound g1
  obtain ⟨k1, k2, k3⟩ := str_sound l1
  refine ⟨k1, ?_, k3, g3, g4⟩
  unfold writeB
  simp only [List.append_assoc]
  rw [← g2, ← l2]
  exact k2
def recD (x : RecV) : Bs := numB x.1 ++ (numB x.2.1 ++ (flagB x.2.2.1 ++ (numB x.2.2.2.1.length ++ (x.2.2.2.1.flatMap readD ++ (numB x.2.2.2.2.length ++ x.2.2.2.2.flatMap writeB)))))
theorem recD_dat (ses snap : Nat) (strict : Bool) (us : List (RR × List Pr)) (wz : List Pr) : recD (ses, snap, strict, us.map dat, wz) = recB ses snap strict us wz := by
  unfold recD recB
  simp only [List.length_map, List.flatMap_map]
  rfl
def RecP (x : RecV) : Prop := x.1 ≤ 8 ∧ x.2.1 ≤ 1099511627776 ∧ x.2.2.2.1.length ≤ 64 ∧ (∀ d ∈ x.2.2.2.1, ReadP d) ∧ x.2.2.2.2.length ≤ 64 ∧ ∀ p ∈ x.2.2.2.2, WriteP p
theorem rec_sound : Sound recS recD RecP := fun s h => by
  unfold recS at h ⊢
  simp only at h ⊢
  obtain ⟨e1, e2, e3, e4⟩ := times_sound write_sound h
  obtain ⟨d1, d2, d3, d4⟩ := times_sound read_sound e1
  obtain ⟨c1, c2⟩ := flag_sound d1
  obtain ⟨b1, b2, b3, b4⟩ := num_sound c1
  obtain ⟨a1, a2, a3, a4⟩ := num_sound b1
  refine ⟨a1, ?_, a3, b3, d3, d4, e3, e4⟩
  unfold recD
  simp only [List.append_assoc]
  rw [← e2, ← d2, ← c2, ← b2]
  exact a2
end Go.Proofs.YtoimhmphhffelaaGreatDoor
set_option linter.unusedVariables false
set_option linter.unusedSimpArgs false
namespace Go.Proofs.YtoimhmphhffelaaGreatDoor
open Go Go.RowKit Go.Proofs.E
def undat (d : Dat) : RR × List Pr := ((d.1, d.2.1, d.2.2.1, (none, 0, 0)), d.2.2.2)
theorem map_undat (ds : List Dat) : (ds.map undat).map dat = ds := by
  rw [List.map_map]
  exact List.map_id ds
theorem goodRB_dat {u v : RR × List Pr} (h : dat u = dat v) : goodRB u.1 u.2 = goodRB v.1 v.2 := by
  obtain ⟨h1, h2, h3, h4⟩ := dat_iff.1 h
  have h5 : inB u.1 = inB v.1 := by
    funext p
    unfold inB
    rw [h1, h2, h3]
  unfold goodRB
  rw [h1, h2, h3, h4, h5]
theorem readsGo_dat : ∀ (ks : List Bs) {us vs : List (RR × List Pr)}, us.map dat = vs.map dat → readsGo ks us = readsGo ks vs
  | _, [], [], _ => rfl
  | _, [], _ :: _, h => by simp at h
  | _, _ :: _, [], h => by simp at h
  | ks, u :: us, v :: vs, h => by
    simp only [List.map_cons, List.cons.injEq] at h
    rw [readsGo_cons, readsGo_cons, goodRB_dat h.1, (dat_iff.1 h.1).1, (dat_iff.1 h.1).2.1, readsGo_dat _ h.2]
theorem rightB_dat {ses snap : Int} {us vs : List (RR × List Pr)} {wz : List Pr} (h : us.map dat = vs.map dat) : rightB ses snap us wz = rightB ses snap vs wz := by
  have hl : us.length = vs.length := by simpa using congrArg List.length h
  unfold rightB
  rw [hl, readsGo_dat [] h]
theorem recGood_dat {ses snap : Int} {strict : Bool} {us vs : List (RR × List Pr)} {wz : List Pr} (h : us.map dat = vs.map dat) : recGood ses snap strict us wz = recGood ses snap strict vs wz := by
  unfold recGood
  rw [rightB_dat h, recB_dat h]
def goodV (x : RecV) : Bool := recGood x.1 x.2.1 x.2.2.1 (x.2.2.2.1.map undat) x.2.2.2.2
theorem recGood_V {ses snap : Nat} {strict : Bool} {us : List (RR × List Pr)} {wz : List Pr} : recGood (ses : Int) (snap : Int) strict us wz = goodV (ses, snap, strict, us.map dat, wz) :=
  recGood_dat (map_undat _).symm
theorem recD_undat (x : RecV) : recD x = recB x.1 x.2.1 x.2.2.1 (x.2.2.2.1.map undat) x.2.2.2.2 := by
  rw [← recD_dat, map_undat]
def readZ (bs : Bs) : Option RecV :=
  if 8192 < bs.length then none else if (recS (bs, false)).2.2 = true ∨ (recS (bs, false)).2.1 ≠ [] ∨ goodV (recS (bs, false)).1 = false then none else some (recS (bs, false)).1
theorem goodV_parts {x : RecV} (h : goodV x = true) : rightB x.1 x.2.1 (x.2.2.2.1.map undat) x.2.2.2.2 = true ∧ (recD x).length ≤ 8192 := by
  unfold goodV recGood at h
  rw [Bool.and_eq_true, decide_eq_true_eq, Int.toNat_natCast, Int.toNat_natCast, ← recD_undat] at h
  exact h
def resR : Option RecV → RecV
  | none => (0, 0, false, [], [])
  | some x => x
def errR : Option RecV → Int
  | none => 4
  | some _ => 0
/-! ### How long what is read can be -/
theorem strT_len (most : Nat) (s : Sr) : (strT most s).1.length ≤ most := by
  unfold strT
  simp only
  split
  · unfold getStr
    split
    · exact Nat.zero_le _
    · rename_i q
      simp only [not_or] at q
      rw [List.length_take]
      omega
  · exact Nat.zero_le _
theorem loop_all {α : Type} {f : Sr → α × Sr} {D : α → Prop} (hf : ∀ s, D (f s).1) : ∀ (n : Nat) (a : List α) (s : Sr), (∀ x ∈ a, D x) → ∀ x ∈ (loopT f n a s).1, D x
  | 0, a, s, h => h
  | n + 1, a, s, h => by
    rw [loopT]
    split
    · exact h
    · exact loop_all hf n _ _ (fun x hx => by
        rcases List.mem_append.1 hx with hx | hx
        · exact h x hx
        · rw [List.mem_singleton.1 hx]
          exact hf s)
theorem times_all {α : Type} {f : Sr → α × Sr} {D : α → Prop} (hf : ∀ s, D (f s).1) (most : Nat) (s : Sr) : ∀ x ∈ (timesT most f s).1, D x := loop_all hf _ _ _ (by simp)
def SmP (p : Pr) : Prop := p.1.length ≤ 256 ∧ p.2.1.length ≤ 256
def SmD (d : Dat) : Prop := d.2.1.length ≤ 256 ∧ d.2.2.1.length ≤ 256 ∧ ∀ p ∈ d.2.2.2, SmP p
def SmV (x : RecV) : Prop := (∀ d ∈ x.2.2.2.1, SmD d) ∧ ∀ p ∈ x.2.2.2.2, SmP p
theorem pairS_sm (s : Sr) : SmP (pairS s).1 := ⟨Nat.le_trans (strT_len _ _) (by decide), strT_len _ _⟩
theorem writeS_sm (s : Sr) : SmP (writeS s).1 := by
  refine ⟨Nat.le_trans (strT_len _ _) (by decide), ?_⟩
  unfold writeS valS
  simp only
  split
  · exact Nat.zero_le _
  · exact strT_len _ _
theorem readS_sm (s : Sr) : SmD (readS s).1 := by
  unfold readS toS
  refine ⟨Nat.le_trans (strT_len _ _) (by decide), ?_, times_all pairS_sm _ _⟩
  simp only
  split
  · exact Nat.le_trans (strT_len _ _) (by decide)
  · exact Nat.zero_le _
theorem recS_sm (s : Sr) : SmV (recS s).1 := ⟨times_all readS_sm _ _, times_all writeS_sm _ _⟩
theorem smV_short {x : RecV} {us : List (RR × List Pr)} (h : SmV x) (hd : us.map dat = x.2.2.2.1) : ShortR us ∧ ShortL x.2.2.2.2 := by
  refine ⟨fun u hu => ?_, fun p hp => ⟨Nat.le_trans (h.2 p hp).1 (by decide), Nat.le_trans (h.2 p hp).2 (by decide)⟩⟩
  obtain ⟨h1, h2, h3⟩ := h.1 (dat u) (hd ▸ List.mem_map_of_mem hu)
  exact ⟨Nat.le_trans h1 (by decide), Nat.le_trans h2 (by decide), fun p hp => ⟨Nat.le_trans (h3 p hp).1 (by decide), Nat.le_trans (h3 p hp).2 (by decide)⟩⟩
/-- What is taken in whole is what was written. -/
theorem recS_whole {bs : Bs} (h : (recS (bs, false)).2.2 = false) (hn : (recS (bs, false)).2.1 = []) : bs = recD (recS (bs, false)).1 := by
  obtain ⟨_, g, _⟩ := rec_sound (bs, false) h
  rwa [hn, List.append_nil] at g
end Go.Proofs.YtoimhmphhffelaaGreatDoor
set_option linter.unusedVariables false
set_option linter.unusedSimpArgs false
namespace Go.Proofs.YtoimhmphhffelaaGreatDoor
open Go Go.RowKit Go.Proofs.E
attribute [local irreducible] Go.wpList Go.Code.wp Go.Proofs.E.exec Go.Proofs.E.wpLexG
theorem gotSt_bad {bs : Bs} {n : Nat} {ok : Bool} : gotSt (bs, true) n ok = (false, (bs, true)) := by simp [gotSt]
theorem gotSt_no {bs : Bs} {n : Nat} {bad : Bool} : gotSt (bs, bad) n false = (false, (bs, true)) := by simp [gotSt]
theorem gotSt_yes {bs : Bs} {n : Nat} : gotSt (bs, false) n true = (true, (bs.drop n, false)) := by simp [gotSt]
set_option maxHeartbeats 4000000 in
theorem tnum_any (bS : Nat) (vb : Value) (s : Sr) (most : Nat) (wx w0 : World) (hB : Blk w0 bS (sC vb s.2) 150) (hR : tU8.Rd [] w0 vb s.1) (hx : tU8.Rd [] wx vb s.1) (hm : most ≤ 9223372036854775807) :
    Calls Tryz.prog 115 #[.pointer (some ⟨bS, 0, none⟩), .int .u64 (most : Int)] w0 (Ret fun u w' => u = .int .i64 ((numT most s).1 : Int) ∧ Took 150 bS wx w0 w' (numT most s).2) := by
  obtain ⟨A, c, rfl⟩ := hx.form
  obtain ⟨bs, bad⟩ := s
  simp only at hB hx hR ⊢
  have hM := Mem.take hB
  have hle := hx.le
  refine enter [.pointer (some ⟨bS, 0, none⟩), .int .u64 (most : Int), undef, undef, undef, undef, undef, undef, undef, undef, undef, undef, undef, undef, undef, undef, undef, undef, undef, undef, undef, undef, undef, undef, undef, undef, undef, undef, undef, undef, undef, undef, undef, undef, undef, undef, undef, undef, undef, undef, undef, undef, undef, undef] Tryz.func115 rfl rfl ?_
  repeat (first | refine gw ?_ | (refine ks ?_; intro w hM))
  refine kca hM (rgetNum_any _ _ hR) (fun w hM => ?_)
  have hk := getNum_k bs
  unfold numT
  simp only
  generalize getNum bs = g at hk ⊢
  obtain ⟨n, k, ok⟩ := g
  simp only at hk ⊢
  repeat (first | refine gw ?_ | (refine ks ?_; intro w hM))
  cases bad with
  | true =>
    rw [gotSt_bad]
    repeat (first | refine gw ?_ | (refine ks ?_; intro w hM))
    refine c_condb rfl (fun _ => ?_) (fun h => by cases h)
    repeat (first | refine gw ?_ | (refine ks ?_; intro w hM))
    exact out1 rfl ⟨rfl, _, hM.ch, hM.blk (b := bS) (by (repeat constructor)), hx⟩
  | false =>
  repeat (first | refine gw ?_ | (refine ks ?_; intro w hM))
  cases ok with
  | false =>
    rw [Bool.false_and, gotSt_no]
    repeat (first | refine gw ?_ | (refine ks ?_; intro w hM))
    refine c_condb rfl (fun _ => ?_) (fun h => by cases h)
    repeat (first | refine gw ?_ | (refine ks ?_; intro w hM))
    exact out1 rfl ⟨rfl, _, hM.ch, hM.blk (b := bS) (by (repeat constructor)), hx⟩
  | true =>
  repeat (first | refine gw ?_ | (refine ks ?_; intro w hM))
  rw [Bool.true_and]
  by_cases q : (most : Int) < (n : Int)
  · rw [decide_eq_true q, decide_eq_false (by omega : ¬ n ≤ most), gotSt_no]
    refine c_condb rfl (fun _ => ?_) (fun h => by cases h)
    repeat (first | refine gw ?_ | (refine ks ?_; intro w hM))
    exact out1 rfl ⟨rfl, _, hM.ch, hM.blk (b := bS) (by (repeat constructor)), hx⟩
  · rw [decide_eq_false q, decide_eq_true (by omega : n ≤ most), gotSt_yes]
    refine c_condb rfl (fun h => by cases h) (fun _ => ?_)
    repeat (first | refine gw ?_ | (refine ks ?_; intro w hM))
    refine kcutl hx (i := (k : Int)) (fun v28 hV => ?_)
    rw [Int.toNat_natCast] at hV
    obtain ⟨A28, c28, rfl⟩ := hV.form
    repeat ((fail_if_success (with_reducible apply Go.Proofs.E.is_dst (d := 43))); first | ((with_reducible apply is_ld); first | refine kld hM ?_ | refine kldw hM ?_ | refine kle hM ?_ | refine klew hM ?_) | ((with_reducible apply is_sto); first | (refine kst hM ?_; intro w hM) | (refine kstw hM ?_; intro w hM)) | ((with_reducible apply is_st); refine su ?_) | ((with_reducible apply is_gd); first | refine gt ?_ | refine gf ?_ | refine gu ?_) | ((with_reducible apply is_en); refine en ?_) | (with_reducible apply c_region) | refine ws ?_ | refine x_block_other (by decide) ?_)
    (try ((with_reducible apply is_gd); first | refine gt ?_ | refine gf ?_ | refine gu ?_)); refine wl_val (r_convw (a := (n : Int)) (k := .i64) rfl rfl (by omega) (by omega)) ?_
    repeat (first | refine gw ?_ | (refine ks ?_; intro w hM))
    exact out1 rfl ⟨rfl, _, hM.ch, hM.blk (b := bS) (by (repeat constructor)), hV⟩
set_option maxHeartbeats 4000000 in
theorem tflag_any (bS : Nat) (vb : Value) (s : Sr) (wx w0 : World) (hB : Blk w0 bS (sC vb s.2) 150) (hR : tU8.Rd [] w0 vb s.1) (hx : tU8.Rd [] wx vb s.1) :
    Calls Tryz.prog 116 #[.pointer (some ⟨bS, 0, none⟩)] w0 (Ret fun u w' => u = .bool (flagT s).1 ∧ Took 150 bS wx w0 w' (flagT s).2) := by
  obtain ⟨A, c, rfl⟩ := hx.form
  obtain ⟨bs, bad⟩ := s
  simp only at hB hx hR ⊢
  have hM := Mem.take hB
  have hle := hx.le
  refine enter [.pointer (some ⟨bS, 0, none⟩), undef, undef, undef, undef, undef, undef, undef, undef, undef, undef, undef, undef, undef, undef, undef, undef, undef, undef, undef, undef, undef, undef, undef, undef, undef, undef, undef, undef, undef, undef, undef, undef, undef, undef, undef] Tryz.func116 rfl rfl ?_
  repeat (first | refine gw ?_ | (refine ks ?_; intro w hM))
  refine kca hM (rgetFlag_any _ _ hR) (fun w hM => ?_)
  have hk := getFlag_k bs
  unfold flagT
  simp only
  generalize getFlag bs = g at hk ⊢
  obtain ⟨n, k, ok⟩ := g
  simp only at hk ⊢
  repeat (first | refine gw ?_ | (refine ks ?_; intro w hM))
  cases bad with
  | true =>
    rw [gotSt_bad]
    repeat (first | refine gw ?_ | (refine ks ?_; intro w hM))
    refine c_condb rfl (fun _ => ?_) (fun h => by cases h)
    repeat (first | refine gw ?_ | (refine ks ?_; intro w hM))
    exact out1 rfl ⟨rfl, _, hM.ch, hM.blk (b := bS) (by (repeat constructor)), hx⟩
  | false =>
  repeat (first | refine gw ?_ | (refine ks ?_; intro w hM))
  cases ok with
  | false =>
    rw [gotSt_no]
    repeat (first | refine gw ?_ | (refine ks ?_; intro w hM))
    refine c_condb rfl (fun _ => ?_) (fun h => by cases h)
    repeat (first | refine gw ?_ | (refine ks ?_; intro w hM))
    exact out1 rfl ⟨rfl, _, hM.ch, hM.blk (b := bS) (by (repeat constructor)), hx⟩
  | true =>
    rw [gotSt_yes]
    repeat (first | refine gw ?_ | (refine ks ?_; intro w hM))
    refine c_condb rfl (fun h => by cases h) (fun _ => ?_)
    repeat (first | refine gw ?_ | (refine ks ?_; intro w hM))
    refine kcutl hx (i := (k : Int)) (fun v28 hV => ?_)
    rw [Int.toNat_natCast] at hV
    obtain ⟨A28, c28, rfl⟩ := hV.form
    repeat (first | refine gw ?_ | (refine ks ?_; intro w hM))
    exact out1 rfl ⟨rfl, _, hM.ch, hM.blk (b := bS) (by (repeat constructor)), hV⟩
set_option maxHeartbeats 4000000 in
theorem tstr_any (bS : Nat) (vb : Value) (s : Sr) (most : Nat) (wx w0 : World) (hB : Blk w0 bS (sC vb s.2) 150) (hR : tU8.Rd [] w0 vb s.1) (hx : tU8.Rd [] wx vb s.1) (hm : most ≤ 1000000) :
    Calls Tryz.prog 117 #[.pointer (some ⟨bS, 0, none⟩), .int .i64 (most : Int)] w0 (Ret fun u w' => u = .string (bst (strT most s).1) ∧ Took 150 bS wx w0 w' (strT most s).2) := by
  obtain ⟨A, c, rfl⟩ := hx.form
  obtain ⟨bs, bad⟩ := s
  simp only at hB hx hR ⊢
  have hM := Mem.take hB
  have hle := hx.le
  refine enter [.pointer (some ⟨bS, 0, none⟩), .int .i64 (most : Int), undef, undef, undef, undef, undef, undef, undef, undef, undef, undef, undef, undef, undef, undef, undef, undef, undef, undef, undef, undef, undef, undef, undef, undef, undef, undef, undef, undef, undef, undef, undef, undef, undef, undef, undef, undef, undef] Tryz.func117 rfl rfl ?_
  repeat (first | refine gw ?_ | (refine ks ?_; intro w hM))
  refine kca hM (rgetStr_any _ most _ hR hm) (fun w hM => ?_)
  have hk := getStr_k bs most
  unfold strT
  simp only
  generalize getStr bs most = g at hk ⊢
  obtain ⟨n, k, ok⟩ := g
  simp only at hk ⊢
  repeat (first | refine gw ?_ | (refine ks ?_; intro w hM))
  cases bad with
  | true =>
    rw [gotSt_bad]
    repeat (first | refine gw ?_ | (refine ks ?_; intro w hM))
    refine c_condb rfl (fun _ => ?_) (fun h => by cases h)
    repeat (first | refine gw ?_ | (refine ks ?_; intro w hM))
    exact out1 rfl ⟨rfl, _, hM.ch, hM.blk (b := bS) (by (repeat constructor)), hx⟩
  | false =>
  repeat (first | refine gw ?_ | (refine ks ?_; intro w hM))
  cases ok with
  | false =>
    rw [gotSt_no]
    repeat (first | refine gw ?_ | (refine ks ?_; intro w hM))
    refine c_condb rfl (fun _ => ?_) (fun h => by cases h)
    repeat (first | refine gw ?_ | (refine ks ?_; intro w hM))
    exact out1 rfl ⟨rfl, _, hM.ch, hM.blk (b := bS) (by (repeat constructor)), hx⟩
  | true =>
    rw [gotSt_yes]
    repeat (first | refine gw ?_ | (refine ks ?_; intro w hM))
    refine c_condb rfl (fun h => by cases h) (fun _ => ?_)
    repeat (first | refine gw ?_ | (refine ks ?_; intro w hM))
    refine kcutl hx (i := (k : Int)) (fun v28 hV => ?_)
    rw [Int.toNat_natCast] at hV
    obtain ⟨A28, c28, rfl⟩ := hV.form
    repeat (first | refine gw ?_ | (refine ks ?_; intro w hM))
    exact out1 rfl ⟨rfl, _, hM.ch, hM.blk (b := bS) (by (repeat constructor)), hV⟩
end Go.Proofs.YtoimhmphhffelaaGreatDoor

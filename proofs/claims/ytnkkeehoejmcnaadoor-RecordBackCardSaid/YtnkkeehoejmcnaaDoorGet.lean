/- Values of bytes (layer 1), both: the plain law, the walks.
   Values of bytes (layer 1), both: truths, texts. -/
import Derived.Test.YtnkkeehoejmcnaaDoorEnc16
set_option linter.unusedVariables false
set_option linter.unusedSimpArgs false
namespace Go.Proofs.E
open Go Go.RowKit
section
variable {P : Program} {ops : Array Oper} {N : Nat} {S : List Nat} {Q : Exit → Act → World → Prop} {z : List Nat × List Nat} {fuel : Nat} {listed : Array Bool} {l : List Value} {w : World} {T : TypeId} {pos : String} {after : Array Edge}
theorem yn_cut_lh {α : Type} {ty : Ty α} {d : Nat} {x : Operand} {t e : TypeId} {zv : Value} {m by_ : Nat} [hu : Und P t (.slice e)] [hi : Inf P e zv m by_] {v : Value} {xs : List α} {y q : Operand} {k1 k2 : IntKind} {i j : Int} (k : Nat) (ho : ops[k]? = some { dst := some d, op := .slice t x (some y) (some q) none, type := T, pos := pos, after := after, guard := none })
    {S' : List Nat} {wx : World} (hR : ty.Rd S' wx v xs) (hx : ev l x = v) (hm : ty.n = m) (hy : ev l y = .int k1 i) (hq : ev l q = .int k2 j) (h0 : 0 ≤ i) (h2 : i ≤ j) (h1 : j ≤ xs.length)
    (h : ∀ v', ty.Rd S' wx v' ((xs.take j.toNat).drop i.toNat) → WY P ops N S Q z fuel (listed.setIfInBounds k true) (fr (l.set d v')) w) (hr : (Region.ready .any ops listed).contains k = true := by kernel_rfl) (hf : Region.free .any ops listed k = true := by kernel_rfl) : WY P ops N S Q z (fuel + 1) listed (fr l) w := by
  subst hm
  obtain ⟨A, c, rfl⟩ := hR.form
  have hc : xs.length ≤ c := by obtain ⟨_, _, _, hv, h, _⟩ := hR; injection hv; omega
  have := hR.cut (L := i.toNat) (H := j.toNat) (M := c) (by omega) (by omega) (by omega)
  refine ynp k ho hr hf (fun w1 => ?_) rfl (h _ this)
  simp [exec, execOp, hx, hy, hq, run_cut (hi := hi) (bnd_lh (b := true) (n := xs.length) h0 h2 (show j ≤ c by omega))]
/-- A byte behind a shifted number. -/
theorem r_orB {x y : Operand} {t u : TypeId} {n b : Nat} (hx : ev l x = .int .u64 ((n * 256 : Nat) : Int)) (hy : ev l y = .int .u64 (b : Int)) (hn : n * 256 + b < 2 ^ 64) (hb : b < 256) :
    (exec (ev l) (.binOp .or t x y u) T).run P w = .ok (.value (.int .u64 ((n * 256 + b : Nat) : Int))) w := by
  refine (r_or hx hy).trans ?_
  congr 3
  have e : (BitVec.ofInt IntKind.u64.bits ((n * 256 : Nat) : Int) ||| BitVec.ofInt IntKind.u64.bits ((b : Nat) : Int)).toNat = n * 256 + b := by
    rw [BitVec.toNat_or, BitVec.ofInt_natCast, BitVec.ofInt_natCast, BitVec.toNat_ofNat, BitVec.toNat_ofNat, Nat.mod_eq_of_lt (show n * 256 < 2 ^ IntKind.u64.bits from Nat.lt_of_le_of_lt (Nat.le_add_right _ _) hn), Nat.mod_eq_of_lt (show b < 2 ^ IntKind.u64.bits from Nat.lt_trans hb (by decide))]
    have := Nat.two_pow_add_eq_or_of_lt (i := 8) (b := b) (by omega) n
    rw [Nat.mul_comm] at this
    rw [show n * 256 = n * 2 ^ 8 by rfl, ← this]
  rw [e]
  exact wrap_rng (k := .u64) rfl (by omega) (by omega)
end
end Go.Proofs.E
namespace Go.Proofs.YtnkkeehoejmcnaaDoor
open Go Go.RowKit Go.Proofs.E
attribute [local irreducible] Go.wpList Go.Code.wp Go.Proofs.E.exec Go.Proofs.E.wpLexG
def getNum : Bs → Nat × Nat × Bool
  | [] => (0, 0, false)
  | b :: r =>
    if b.toNat < 248 then (b.toNat, 1, true)
    else if r.length < b.toNat - 247 then (0, 0, false)
    else if r.head? = some 0 then (0, 0, false)
    else if valB (r.take (b.toNat - 247)) < 248 then (0, 0, false)
    else (valB (r.take (b.toNat - 247)), 1 + (b.toNat - 247), true)
theorem getNum_cons (b : UInt8) (r : Bs) : getNum (b :: r) = if b.toNat < 248 then (b.toNat, 1, true) else if r.length < b.toNat - 247 then (0, 0, false) else if r.head? = some 0 then (0, 0, false) else if valB (r.take (b.toNat - 247)) < 248 then (0, 0, false) else (valB (r.take (b.toNat - 247)), 1 + (b.toNat - 247), true) := rfl
theorem valB_lt : ∀ (k : Nat) (ds : Bs), ds.length = k → valB ds < 256 ^ k
  | 0, ds, h => by
    rw [List.eq_nil_of_length_eq_zero h]
    simp [valB]
  | k + 1, ds, h => by
    have hne : ds ≠ [] := fun e => by subst e; cases h
    rw [← List.dropLast_concat_getLast hne, valB_snoc]
    have h1 := valB_lt k ds.dropLast (by rw [List.length_dropLast]; omega)
    have h2 := (ds.getLast hne).toNat_lt
    rw [Nat.pow_succ]
    omega
theorem beN_val : ∀ (k : Nat) (ds : Bs), ds.length = k → ds.head? ≠ some 0 → beN (valB ds) = ds
  | 0, ds, h, _ => by
    rw [List.eq_nil_of_length_eq_zero h]
    exact beN_zero
  | k + 1, ds, h, hh => by
    have hne : ds ≠ [] := fun e => by subst e; cases h
    have hsp := List.dropLast_concat_getLast hne
    have hl := (ds.getLast hne).toNat_lt
    generalize ds.getLast hne = b at hsp hl
    generalize ds.dropLast = xs at hsp
    subst hsp
    rw [List.length_append, List.length_singleton] at h
    have hx : xs.head? ≠ some 0 := by
      cases xs with
      | nil => simp
      | cons x xs => simpa using hh
    have ih := beN_val k xs (by omega) hx
    rw [valB_snoc]
    have hpos : 0 < valB xs * 256 + b.toNat := by
      cases xs with
      | nil =>
        have : b ≠ 0 := by simpa using hh
        have : b.toNat ≠ 0 := fun e => this (UInt8.toNat_inj.1 (by simpa using e))
        omega
      | cons x xs =>
        have : valB (x :: xs) ≠ 0 := fun e => by
          rw [e, beN_zero] at ih
          cases ih
        omega
    rw [beN_pos hpos, show (valB xs * 256 + b.toNat) / 256 = valB xs by omega, show (valB xs * 256 + b.toNat) % 256 = b.toNat by omega, ih]
    congr 1
    simp
theorem beN_head {n : Nat} (h : 0 < n) : (beN n).head? ≠ some 0 := by
  induction n using Nat.strongRecOn with
  | _ n ih =>
    rw [beN_pos h]
    by_cases q : n / 256 = 0
    · rw [q, beN_zero]
      have h2 : n % 256 = n := by omega
      rw [h2]
      simp only [List.nil_append, List.head?_cons, ne_eq, Option.some.injEq]
      intro e
      have := ofNat_inj (a := n) (b := 0) (by omega) (by omega) (by simpa using e)
      omega
    · have := ih (n / 256) (by omega) (by omega)
      have h1 := beN_one (n := n / 256) (by omega)
      cases hb : beN (n / 256) with
      | nil => rw [hb] at h1; simp at h1
      | cons x xs =>
        rw [hb] at this
        simpa using this
theorem getNum_enc {n : Nat} (hn : n < 2 ^ 64) (r : Bs) : getNum (numB n ++ r) = (n, (numB n).length, true) := by
  have ln := beN_len8 hn
  unfold numB
  by_cases q : n < 248
  · rw [if_pos q]
    have : (UInt8.ofNat n).toNat = n := by rw [UInt8.toNat_ofNat', Nat.mod_eq_of_lt (by omega)]
    simp [getNum, this, q]
  · rw [if_neg q]
    have h1 := beN_one (n := n) (by omega)
    have h2 := beN_head (n := n) (by omega)
    have : (UInt8.ofNat (247 + (beN n).length)).toNat = 247 + (beN n).length := by rw [UInt8.toNat_ofNat', Nat.mod_eq_of_lt (by omega)]
    rw [List.cons_append, getNum_cons, this, if_neg (by omega), show 247 + (beN n).length - 247 = (beN n).length by omega, List.take_left, valB_beN, if_neg (by rw [List.length_append]; omega), if_neg (by
      cases hb : beN n with
      | nil => rw [hb] at h1; simp at h1
      | cons x xs =>
        rw [hb] at h2
        simpa using h2), if_neg q, List.length_cons, Nat.add_comm]
theorem getNum_dec {bs : Bs} {n k : Nat} (h : getNum bs = (n, k, true)) : bs = numB n ++ bs.drop k ∧ n < 2 ^ 64 ∧ k ≤ bs.length ∧ k = (numB n).length := by
  cases bs with
  | nil => simp [getNum] at h
  | cons b r =>
    have hb := b.toNat_lt
    rw [getNum_cons] at h
    by_cases q1 : b.toNat < 248
    · rw [if_pos q1] at h
      simp only [Prod.mk.injEq, and_true] at h
      obtain ⟨rfl, rfl⟩ := h
      unfold numB
      rw [if_pos q1]
      refine ⟨by simp, by omega, by simp, rfl⟩
    · rw [if_neg q1] at h
      by_cases q2 : r.length < b.toNat - 247
      · rw [if_pos q2] at h
        simp at h
      rw [if_neg q2] at h
      by_cases q3 : r.head? = some 0
      · rw [if_pos q3] at h
        simp at h
      rw [if_neg q3] at h
      by_cases q4 : valB (r.take (b.toNat - 247)) < 248
      · rw [if_pos q4] at h
        simp at h
      rw [if_neg q4] at h
      simp only [Prod.mk.injEq, and_true] at h
      obtain ⟨h1, rfl⟩ := h
      have hl : (r.take (b.toNat - 247)).length = b.toNat - 247 := by rw [List.length_take]; omega
      have hlt := valB_lt (b.toNat - 247) _ hl
      have hpw : 256 ^ (b.toNat - 247) ≤ 256 ^ 8 := Nat.pow_le_pow_right (by omega) (by omega)
      have hbe := beN_val (b.toNat - 247) (r.take (b.toNat - 247)) hl (by
        cases r with
        | nil => simp
        | cons x xs =>
          cases hk : b.toNat - 247 with
          | zero => omega
          | succ m => simpa using q3)
      rw [h1] at hbe q4 hlt
      unfold numB
      rw [if_neg q4, hbe, hl, show 247 + (b.toNat - 247) = b.toNat by omega]
      refine ⟨?_, by omega, by rw [List.length_cons]; omega, by rw [List.length_cons, hl, Nat.add_comm]⟩
      rw [Nat.add_comm 1, List.drop_succ_cons, List.cons_append, List.take_append_drop]
      rw [UInt8.ofNat_toNat]
abbrev gotV (x : Nat × Nat × Bool) : Value := .tuple #[.int .u64 (x.1 : Int), .int .i64 (x.2.1 : Int), .bool x.2.2]
theorem valB_take {ds : Bs} {j : Nat} {x : UInt8} (h : ds[j]? = some x) : valB (ds.take (j + 1)) = valB (ds.take j) * 256 + x.toNat := by
  rw [List.take_add_one, h, Option.toList_some, valB_snoc]
theorem valB_zeros (n : Nat) (ds : Bs) : valB (List.replicate n 0 ++ ds) = valB ds := by
  induction n with
  | zero => rfl
  | succ n ih =>
    rw [List.replicate_succ, List.cons_append]
    show List.foldl _ (0 * 256 + 0) _ = _
    exact ih
set_option maxHeartbeats 8000000 in
theorem getNum_any {bs : Bs} (v : Value) (w0 : World) (hR : tU8.Rd [] w0 v bs) :
    Calls Tryd.prog 156 #[v] w0 (Ret fun u w' => u = gotV (getNum bs) ∧ Ch [] w0 w') := by
  have hM := Mem.start w0
  obtain ⟨A, c, rfl⟩ := hR.form
  have hl := hR.le
  refine enter [.slice A bs.length c, undef, undef, undef, undef, undef, undef, undef, undef, undef, undef, undef, undef, undef, undef, undef, undef, undef, undef, undef, undef, undef, undef, undef, undef, undef, undef, undef, undef, undef, undef, undef, undef, undef, undef, undef, undef, undef, undef, undef, undef, undef, undef, undef, undef, undef, undef, undef, undef, undef, undef, undef, undef, undef, undef, undef, undef, undef, undef] Tryd.func156 rfl rfl ?_
  repeat (first | ((with_reducible apply is_ld); first | refine kld hM ?_ | refine kldw hM ?_ | refine kle hM ?_ | refine klew hM ?_) | ((with_reducible apply is_sto); first | (refine kst hM ?_; intro w hM) | (refine kstw hM ?_; intro w hM)) | ((with_reducible apply is_st); refine su ?_) | ((with_reducible apply is_gd); first | refine gt ?_ | refine gf ?_ | refine gu ?_) | ((with_reducible apply is_en); refine en ?_) | (with_reducible apply c_region) | refine ws ?_ | refine x_block_other (by decide) ?_)
  refine c_cond rfl (fun q => ?_) (fun q => ?_)
  · have : bs = [] := List.eq_nil_of_length_eq_zero (by omega)
    subst this
    repeat (first | ((with_reducible apply is_ld); first | refine kld hM ?_ | refine kldw hM ?_ | refine kle hM ?_ | refine klew hM ?_) | ((with_reducible apply is_sto); first | (refine kst hM ?_; intro w hM) | (refine kstw hM ?_; intro w hM)) | ((with_reducible apply is_st); refine su ?_) | ((with_reducible apply is_gd); first | refine gt ?_ | refine gf ?_ | refine gu ?_) | ((with_reducible apply is_en); refine en ?_) | (with_reducible apply c_region) | refine ws ?_ | refine x_block_other (by decide) ?_)
    exact out3 rfl ⟨rfl, hM.ch⟩
  obtain ⟨b, r, rfl⟩ : ∃ b r, bs = b :: r := by
    cases bs with
    | nil => simp at q
    | cons b r => exact ⟨b, r, rfl⟩
  have hb := b.toNat_lt
  rw [List.length_cons] at hl
  repeat (first | ((with_reducible apply is_ld); first | refine kld hM ?_ | refine kldw hM ?_ | refine kle hM ?_ | refine klew hM ?_) | ((with_reducible apply is_sto); first | (refine kst hM ?_; intro w hM) | (refine kstw hM ?_; intro w hM)) | ((with_reducible apply is_st); refine su ?_) | ((with_reducible apply is_gd); first | refine gt ?_ | refine gf ?_ | refine gu ?_) | ((with_reducible apply is_en); refine en ?_) | (with_reducible apply c_region) | refine ws ?_ | refine x_block_other (by decide) ?_)
  refine kix hR (fun o1 o2 x hx hA => ?_) (h1 := by simp)
  obtain rfl : b = x := by simpa using hx
  refine kat hM hA ?_
  repeat (first | ((with_reducible apply is_ld); first | refine kld hM ?_ | refine kldw hM ?_ | refine kle hM ?_ | refine klew hM ?_) | ((with_reducible apply is_sto); first | (refine kst hM ?_; intro w hM) | (refine kstw hM ?_; intro w hM)) | ((with_reducible apply is_st); refine su ?_) | ((with_reducible apply is_gd); first | refine gt ?_ | refine gf ?_ | refine gu ?_) | ((with_reducible apply is_en); refine en ?_) | (with_reducible apply c_region) | refine ws ?_ | refine x_block_other (by decide) ?_)
  refine c_cond rfl (fun q1 => ?_) (fun q1 => ?_)
  · repeat (first | ((with_reducible apply is_ld); first | refine kld hM ?_ | refine kldw hM ?_ | refine kle hM ?_ | refine klew hM ?_) | ((with_reducible apply is_sto); first | (refine kst hM ?_; intro w hM) | (refine kstw hM ?_; intro w hM)) | ((with_reducible apply is_st); refine su ?_) | ((with_reducible apply is_gd); first | refine gt ?_ | refine gf ?_ | refine gu ?_) | ((with_reducible apply is_en); refine en ?_) | (with_reducible apply c_region) | refine ws ?_ | refine x_block_other (by decide) ?_)
    refine kix hR (fun o3 o4 x hx hA => ?_) (h1 := by simp)
    obtain rfl : b = x := by simpa using hx
    refine kat hM hA ?_
    repeat ((fail_if_success (with_reducible apply Go.Proofs.E.is_dst (d := 20))); first | ((with_reducible apply is_ld); first | refine kld hM ?_ | refine kldw hM ?_ | refine kle hM ?_ | refine klew hM ?_) | ((with_reducible apply is_sto); first | (refine kst hM ?_; intro w hM) | (refine kstw hM ?_; intro w hM)) | ((with_reducible apply is_st); refine su ?_) | ((with_reducible apply is_gd); first | refine gt ?_ | refine gf ?_ | refine gu ?_) | ((with_reducible apply is_en); refine en ?_) | (with_reducible apply c_region) | refine ws ?_ | refine x_block_other (by decide) ?_)
    (try ((with_reducible apply is_gd); first | refine gt ?_ | refine gf ?_ | refine gu ?_)); refine wl_val (r_convw (a := (b.toNat : Int)) (k := .u64) rfl rfl (by omega) (by omega)) ?_
    repeat (first | ((with_reducible apply is_ld); first | refine kld hM ?_ | refine kldw hM ?_ | refine kle hM ?_ | refine klew hM ?_) | ((with_reducible apply is_sto); first | (refine kst hM ?_; intro w hM) | (refine kstw hM ?_; intro w hM)) | ((with_reducible apply is_st); refine su ?_) | ((with_reducible apply is_gd); first | refine gt ?_ | refine gf ?_ | refine gu ?_) | ((with_reducible apply is_en); refine en ?_) | (with_reducible apply c_region) | refine ws ?_ | refine x_block_other (by decide) ?_)
    refine out3 rfl ⟨?_, hM.ch⟩
    rw [getNum_cons, if_pos (by omega)]
    rfl
  obtain ⟨k, hk⟩ : ∃ k, b.toNat = 247 + k := ⟨b.toNat - 247, by omega⟩
  have hgn := getNum_cons b r
  rw [if_neg (by omega), show b.toNat - 247 = k by omega] at hgn
  rw [hgn]
  have hk1 : 1 ≤ k := by omega
  have hk8 : k ≤ 8 := by omega
  clear q1 hgn
  repeat (first | ((with_reducible apply is_ld); first | refine kld hM ?_ | refine kldw hM ?_ | refine kle hM ?_ | refine klew hM ?_) | ((with_reducible apply is_sto); first | (refine kst hM ?_; intro w hM) | (refine kstw hM ?_; intro w hM)) | ((with_reducible apply is_st); refine su ?_) | ((with_reducible apply is_gd); first | refine gt ?_ | refine gf ?_ | refine gu ?_) | ((with_reducible apply is_en); refine en ?_) | (with_reducible apply c_region) | refine ws ?_ | refine x_block_other (by decide) ?_)
  refine kal hM (fun w b5 hM => ?_)
  have hM : Mem [] w0 w [.cell b5 ((List.replicate 8 (0 : UInt8)).map u8v) 241] := hM
  repeat (first | ((with_reducible apply is_ld); first | refine kld hM ?_ | refine kldw hM ?_ | refine kle hM ?_ | refine klew hM ?_) | ((with_reducible apply is_sto); first | (refine kst hM ?_; intro w hM) | (refine kstw hM ?_; intro w hM)) | ((with_reducible apply is_st); refine su ?_) | ((with_reducible apply is_gd); first | refine gt ?_ | refine gf ?_ | refine gu ?_) | ((with_reducible apply is_en); refine en ?_) | (with_reducible apply c_region) | refine ws ?_ | refine x_block_other (by decide) ?_)
  refine kix hR (fun o3 o4 x hx hA => ?_) (h1 := by simp)
  obtain rfl : b = x := by simpa using hx
  refine kat hM hA ?_
  repeat ((fail_if_success (with_reducible apply Go.Proofs.E.is_dst (d := 24))); first | ((with_reducible apply is_ld); first | refine kld hM ?_ | refine kldw hM ?_ | refine kle hM ?_ | refine klew hM ?_) | ((with_reducible apply is_sto); first | (refine kst hM ?_; intro w hM) | (refine kstw hM ?_; intro w hM)) | ((with_reducible apply is_st); refine su ?_) | ((with_reducible apply is_gd); first | refine gt ?_ | refine gf ?_ | refine gu ?_) | ((with_reducible apply is_en); refine en ?_) | (with_reducible apply c_region) | refine ws ?_ | refine x_block_other (by decide) ?_)
  (try ((with_reducible apply is_gd); first | refine gt ?_ | refine gf ?_ | refine gu ?_)); refine wl_val (r_paw (k := .u8) (q := .u8) (a := (b.toNat : Int) - 247) rfl rfl rfl (by omega) (by omega)) ?_
  (try ((with_reducible apply is_gd); first | refine gt ?_ | refine gf ?_ | refine gu ?_)); refine wl_val (r_convw (a := (b.toNat : Int) - 247) (k := .i64) rfl rfl (by omega) (by omega)) ?_
  rw [show ((b.toNat : Nat) : Int) - 247 = (k : Int) by omega]
  simp only [List.length_cons]
  simp only [List.length_cons] at hR
  repeat ((fail_if_success (with_reducible apply Go.Proofs.E.is_dst (d := 31))); first | ((with_reducible apply is_ld); first | refine kld hM ?_ | refine kldw hM ?_ | refine kle hM ?_ | refine klew hM ?_) | ((with_reducible apply is_sto); first | (refine kst hM ?_; intro w hM) | (refine kstw hM ?_; intro w hM)) | ((with_reducible apply is_st); refine su ?_) | ((with_reducible apply is_gd); first | refine gt ?_ | refine gf ?_ | refine gu ?_) | ((with_reducible apply is_en); refine en ?_) | (with_reducible apply c_region) | refine ws ?_ | refine x_block_other (by decide) ?_)
  by_cases q2 : ((r.length + 1 : Nat) : Int) ≤ (k : Int)
  · rw [decide_eq_true q2]
    repeat (first | ((with_reducible apply is_ld); first | refine kld hM ?_ | refine kldw hM ?_ | refine kle hM ?_ | refine klew hM ?_) | ((with_reducible apply is_sto); first | (refine kst hM ?_; intro w hM) | (refine kstw hM ?_; intro w hM)) | ((with_reducible apply is_st); refine su ?_) | ((with_reducible apply is_gd); first | refine gt ?_ | refine gf ?_ | refine gu ?_) | ((with_reducible apply is_en); refine en ?_) | (with_reducible apply c_region) | refine ws ?_ | refine x_block_other (by decide) ?_)
    refine c_condb rfl (fun _ => ?_) (fun h => by cases h)
    repeat (first | ((with_reducible apply is_ld); first | refine kld hM ?_ | refine kldw hM ?_ | refine kle hM ?_ | refine klew hM ?_) | ((with_reducible apply is_sto); first | (refine kst hM ?_; intro w hM) | (refine kstw hM ?_; intro w hM)) | ((with_reducible apply is_st); refine su ?_) | ((with_reducible apply is_gd); first | refine gt ?_ | refine gf ?_ | refine gu ?_) | ((with_reducible apply is_en); refine en ?_) | (with_reducible apply c_region) | refine ws ?_ | refine x_block_other (by decide) ?_)
    rw [if_pos (by omega)]
    exact out3 rfl ⟨rfl, hM.ch⟩
  rw [decide_eq_false q2, if_neg (by omega)]
  obtain ⟨x2, r2, rfl⟩ : ∃ x r2, r = x :: r2 := by
    cases r with
    | nil => rw [List.length_nil] at q2; omega
    | cons b r => exact ⟨b, r, rfl⟩
  repeat (first | ((with_reducible apply is_ld); first | refine kld hM ?_ | refine kldw hM ?_ | refine kle hM ?_ | refine klew hM ?_) | ((with_reducible apply is_sto); first | (refine kst hM ?_; intro w hM) | (refine kstw hM ?_; intro w hM)) | ((with_reducible apply is_st); refine su ?_) | ((with_reducible apply is_gd); first | refine gt ?_ | refine gf ?_ | refine gu ?_) | ((with_reducible apply is_en); refine en ?_) | (with_reducible apply c_region) | refine ws ?_ | refine x_block_other (by decide) ?_)
  (try ((with_reducible apply is_gd); first | refine gt ?_ | refine gf ?_ | refine gu ?_)); refine kix hR (fun o5 o6 x hx hA => ?_) (h1 := by simp)
  obtain rfl : x2 = x := by simpa using hx
  (try ((with_reducible apply is_gd); first | refine gt ?_ | refine gf ?_ | refine gu ?_)); refine kat hM hA ?_
  by_cases q3 : x2 = 0
  · subst q3
    repeat (first | ((with_reducible apply is_ld); first | refine kld hM ?_ | refine kldw hM ?_ | refine kle hM ?_ | refine klew hM ?_) | ((with_reducible apply is_sto); first | (refine kst hM ?_; intro w hM) | (refine kstw hM ?_; intro w hM)) | ((with_reducible apply is_st); refine su ?_) | ((with_reducible apply is_gd); first | refine gt ?_ | refine gf ?_ | refine gu ?_) | ((with_reducible apply is_en); refine en ?_) | (with_reducible apply c_region) | refine ws ?_ | refine x_block_other (by decide) ?_)
    refine c_condb rfl (fun _ => ?_) (fun h => by cases h)
    repeat (first | ((with_reducible apply is_ld); first | refine kld hM ?_ | refine kldw hM ?_ | refine kle hM ?_ | refine klew hM ?_) | ((with_reducible apply is_sto); first | (refine kst hM ?_; intro w hM) | (refine kstw hM ?_; intro w hM)) | ((with_reducible apply is_st); refine su ?_) | ((with_reducible apply is_gd); first | refine gt ?_ | refine gf ?_ | refine gu ?_) | ((with_reducible apply is_en); refine en ?_) | (with_reducible apply c_region) | refine ws ?_ | refine x_block_other (by decide) ?_)
    rw [if_pos (by rfl)]
    exact out3 rfl ⟨rfl, hM.ch⟩
  rw [if_neg (by simpa using q3)]
  have q4 : ¬ ((x2.toNat : Int) = 0) := fun h => q3 (UInt8.toNat_inj.1 (by simpa using h))
  repeat (first | ((with_reducible apply is_ld); first | refine kld hM ?_ | refine kldw hM ?_ | refine kle hM ?_ | refine klew hM ?_) | ((with_reducible apply is_sto); first | (refine kst hM ?_; intro w hM) | (refine kstw hM ?_; intro w hM)) | ((with_reducible apply is_st); refine su ?_) | ((with_reducible apply is_gd); first | refine gt ?_ | refine gf ?_ | refine gu ?_) | ((with_reducible apply is_en); refine en ?_) | (with_reducible apply c_region) | refine ws ?_ | refine x_block_other (by decide) ?_)
  refine c_cond rfl (fun h => absurd h q4) (fun _ => ?_)
  generalize hrr : x2 :: r2 = r at hR q2 ⊢
  clear q4 q hrr
  repeat (first | ((with_reducible apply is_ld); first | refine kld hM ?_ | refine kldw hM ?_ | refine kle hM ?_ | refine klew hM ?_) | ((with_reducible apply is_sto); first | (refine kst hM ?_; intro w hM) | (refine kstw hM ?_; intro w hM)) | ((with_reducible apply is_st); refine su ?_) | ((with_reducible apply is_gd); first | refine gt ?_ | refine gf ?_ | refine gu ?_) | ((with_reducible apply is_en); refine en ?_) | (with_reducible apply c_region) | refine ws ?_ | refine x_block_other (by decide) ?_)
  refine c_ordY ([7], []) [] (by kernel_rfl) (by kernel_rfl) (by kernel_rfl) (fun w hc hs => ?_)
  have hM := hM.call hc
  (first | refine yn 0 rfl ?_ | refine ynt 0 rfl ?_ | refine ynff 0 rfl ?_); (first | refine yn 1 rfl ?_ | refine ynt 1 rfl ?_ | refine ynff 1 rfl ?_)
  refine ynp 2 rfl (by kernel_rfl) (by kernel_rfl) (fun _ => r_cut_arr (i := (8 : Int) - (k : Int)) rfl rfl (by omega) (by omega)) rfl ?_
  (first | refine yn 3 rfl ?_ | refine ynt 3 rfl ?_ | refine ynff 3 rfl ?_); (first | refine yn 4 rfl ?_ | refine ynt 4 rfl ?_ | refine ynff 4 rfl ?_); (first | refine yn 5 rfl ?_ | refine ynt 5 rfl ?_ | refine ynff 5 rfl ?_)
  refine yn_cut_lh (i := 1) (j := 1 + (k : Int)) 6 rfl hR rfl rfl rfl rfl (by omega) (by omega) (by rw [List.length_cons]; omega) (fun v39 hV => ?_)
  rw [show (1 + (k : Int)).toNat = k + 1 by omega, show (1 : Int).toNat = 1 by rfl, List.take_succ_cons, List.drop_succ_cons, List.drop_zero] at hV
  have hdl : (r.take k).length = k := by rw [List.length_take]; omega
  generalize r.take k = ds at hV hdl ⊢
  refine yk1 7 hM (by kernel_rfl) rfl (fun w h0 hM => ?_)
  obtain ⟨b9, o9, c9, rfl, _, _, hrg⟩ := rowE (hV.ch hM.ch) (by intro h; subst h; simp at hdl; omega)
  have hfm : List.flatMap eU8.f ds = ds.map u8v := by
    clear hrg hV hdl
    induction ds with
    | nil => rfl
    | cons x xs ih => rw [List.flatMap_cons, ih]; rfl
  rw [hfm] at hrg
  refine cpb rfl rfl (hM.blk (b := b5) (by (repeat constructor))) (cs := ds.map u8v) (by rw [List.length_map, hdl]; show k = Nat.min k _; rw [show 8 - ((8 : Int) - (k : Int)).toNat = k by omega]; exact (Nat.min_self k).symm) hrg (by simp; omega) (by intro v hv; obtain ⟨x, _, rfl⟩ := List.mem_map.1 hv; rfl) (fun w' hB hc hsz => ?_)
  have hM := hM.cellSet hB hc
  have harr : spl ((List.replicate 8 (0 : UInt8)).map u8v) (0 + ((8 : Int) - (k : Int)).toNat * 1) (ds.map u8v) = (List.replicate (8 - k) (0 : UInt8) ++ ds).map u8v := by
    rw [show 0 + ((8 : Int) - (k : Int)).toNat * 1 = 8 - k by omega]
    unfold spl
    rw [List.map_append, List.map_replicate, List.map_replicate, List.take_replicate, List.drop_replicate, List.length_map, hdl, show 8 - (8 - k + k) = 0 by omega, show min (8 - k) 8 = 8 - k by omega]
    simp
  rw [harr] at hM
  refine x_wy (.inr ⟨by decide, by omega⟩) rfl ?_
  refine wy_done (by kernel_rfl) (fun w hc => ?_)
  have hM := hM.call hc
  have hal : (List.replicate (8 - k) (0 : UInt8) ++ ds).length = 8 := by rw [List.length_append, List.length_replicate]; omega
  have hvz := valB_zeros (8 - k) ds
  generalize List.replicate (8 - k) (0 : UInt8) ++ ds = xs at hM hal hvz
  repeat (first | ((with_reducible apply is_ld); first | refine kld hM ?_ | refine kldw hM ?_ | refine kle hM ?_ | refine klew hM ?_) | ((with_reducible apply is_sto); first | (refine kst hM ?_; intro w hM) | (refine kstw hM ?_; intro w hM)) | ((with_reducible apply is_st); refine su ?_) | ((with_reducible apply is_gd); first | refine gt ?_ | refine gf ?_ | refine gu ?_) | ((with_reducible apply is_en); refine en ?_) | (with_reducible apply c_region) | refine ws ?_ | refine x_block_other (by decide) ?_)
  refine kldw hM ?_ (hn := by simp [hal])
  repeat (first | ((with_reducible apply is_ld); first | refine kld hM ?_ | refine kldw hM ?_ | refine kle hM ?_ | refine klew hM ?_) | ((with_reducible apply is_sto); first | (refine kst hM ?_; intro w hM) | (refine kstw hM ?_; intro w hM)) | ((with_reducible apply is_st); refine su ?_) | ((with_reducible apply is_gd); first | refine gt ?_ | refine gf ?_ | refine gu ?_) | ((with_reducible apply is_en); refine en ?_) | (with_reducible apply c_region) | refine ws ?_ | refine x_block_other (by decide) ?_)
  
  refine c_loop (fun n l w => ∃ (j : Nat), (∃ jj : Nat → Value, l = [jj 0, jj 1, jj 2, jj 3, jj 4, jj 5, .int .i64 (k : Int), .int .u64 (valB (xs.take j) : Int), jj 8, jj 9, jj 10, jj 11, jj 12, jj 13, jj 14, jj 15, jj 16, jj 17, jj 18, jj 19, jj 20, jj 21, jj 22, jj 23, jj 24, jj 25, jj 26, jj 27, jj 28, jj 29, jj 30, jj 31, jj 32, jj 33, jj 34, jj 35, jj 36, jj 37, jj 38, jj 39, jj 40, jj 41, jj 42, jj 43, .agg (xs.map u8v).toArray, .int .i64 (j : Int), jj 46, jj 47, jj 48, jj 49, jj 50, jj 51, jj 52, jj 53, jj 54, jj 55, jj 56, jj 57, jj 58]) ∧ n + j = 8 ∧ Mem [] w0 w []) 8
    ⟨0, exj rfl, rfl, hM.nil⟩ ?_
  clear hM
  rintro n l w ⟨j, ⟨jj, rfl⟩, hnj, hM⟩
  repeat (first | ((with_reducible apply is_ld); first | refine kld hM ?_ | refine kldw hM ?_ | refine kle hM ?_ | refine klew hM ?_) | ((with_reducible apply is_sto); first | (refine kst hM ?_; intro w hM) | (refine kstw hM ?_; intro w hM)) | ((with_reducible apply is_st); refine su ?_) | ((with_reducible apply is_gd); first | refine gt ?_ | refine gf ?_ | refine gu ?_) | ((with_reducible apply is_en); refine en ?_) | (with_reducible apply c_region) | refine ws ?_ | refine x_block_other (by decide) ?_)
  refine c_cond rfl (fun hj => ?_) (fun hj => ?_)
  · obtain ⟨x, hx⟩ : ∃ x, xs[j]? = some x := ⟨_, List.getElem?_eq_getElem (by omega)⟩
    have hxl := x.toNat_lt
    have hvb := valB_take hx
    have hlt := valB_lt (j + 1) (xs.take (j + 1)) (by rw [List.length_take]; omega)
    have hpw : 256 ^ (j + 1) ≤ 256 ^ 8 := Nat.pow_le_pow_right (by omega) (by omega)
    repeat (first | ((with_reducible apply is_ld); first | refine kld hM ?_ | refine kldw hM ?_ | refine kle hM ?_ | refine klew hM ?_) | ((with_reducible apply is_sto); first | (refine kst hM ?_; intro w hM) | (refine kstw hM ?_; intro w hM)) | ((with_reducible apply is_st); refine su ?_) | ((with_reducible apply is_gd); first | refine gt ?_ | refine gf ?_ | refine gu ?_) | ((with_reducible apply is_en); refine en ?_) | (with_reducible apply c_region) | refine ws ?_ | refine x_block_other (by decide) ?_)
    (try ((with_reducible apply is_gd); first | refine gt ?_ | refine gf ?_ | refine gu ?_)); refine wl_val (r_index_one (v := u8v x) (i := (j : Int)) rfl rfl (by omega) (by omega) (by rw [Int.toNat_natCast, List.getElem?_map, hx]; rfl)) ?_
    repeat ((fail_if_success (with_reducible apply Go.Proofs.E.is_dst (d := 51))); first | ((with_reducible apply is_ld); first | refine kld hM ?_ | refine kldw hM ?_ | refine kle hM ?_ | refine klew hM ?_) | ((with_reducible apply is_sto); first | (refine kst hM ?_; intro w hM) | (refine kstw hM ?_; intro w hM)) | ((with_reducible apply is_st); refine su ?_) | ((with_reducible apply is_gd); first | refine gt ?_ | refine gf ?_ | refine gu ?_) | ((with_reducible apply is_en); refine en ?_) | (with_reducible apply c_region) | refine ws ?_ | refine x_block_other (by decide) ?_)
    have e1 : IntKind.u64.wrap ((valB (xs.take j) : Int) * 2 ^ min (Int.toNat 8) IntKind.u64.bits) = ((valB (xs.take j) * 256 : Nat) : Int) := by
      rw [show min (Int.toNat 8) IntKind.u64.bits = 8 by rfl]
      rw [wrap_rng (k := .u64) rfl (by omega) (by omega)]
      omega
    rw [e1]
    (try ((with_reducible apply is_gd); first | refine gt ?_ | refine gf ?_ | refine gu ?_)); refine wl_val (r_convw (a := (x.toNat : Int)) (k := .u64) rfl rfl (by omega) (by omega)) ?_
    (try ((with_reducible apply is_gd); first | refine gt ?_ | refine gf ?_ | refine gu ?_)); refine wl_val (r_orB (n := valB (xs.take j)) (b := x.toNat) rfl rfl (by omega) (by omega)) ?_
    rw [← hvb]
    repeat (first | ((with_reducible apply is_ld); first | refine kld hM ?_ | refine kldw hM ?_ | refine kle hM ?_ | refine klew hM ?_) | ((with_reducible apply is_sto); first | (refine kst hM ?_; intro w hM) | (refine kstw hM ?_; intro w hM)) | ((with_reducible apply is_st); refine su ?_) | ((with_reducible apply is_gd); first | refine gt ?_ | refine gf ?_ | refine gu ?_) | ((with_reducible apply is_en); refine en ?_) | (with_reducible apply c_region) | refine ws ?_ | refine x_block_other (by decide) ?_)
    exact x_goes (n - 1) rfl (by omega) ⟨j + 1, exj rfl, by omega, hM⟩
  · rw [List.take_of_length_le (by omega), hvz]
    repeat (first | ((with_reducible apply is_ld); first | refine kld hM ?_ | refine kldw hM ?_ | refine kle hM ?_ | refine klew hM ?_) | ((with_reducible apply is_sto); first | (refine kst hM ?_; intro w hM) | (refine kstw hM ?_; intro w hM)) | ((with_reducible apply is_st); refine su ?_) | ((with_reducible apply is_gd); first | refine gt ?_ | refine gf ?_ | refine gu ?_) | ((with_reducible apply is_en); refine en ?_) | (with_reducible apply c_region) | refine ws ?_ | refine x_block_other (by decide) ?_)
    refine c_cond rfl (fun q5 => ?_) (fun q5 => ?_)
    · repeat (first | ((with_reducible apply is_ld); first | refine kld hM ?_ | refine kldw hM ?_ | refine kle hM ?_ | refine klew hM ?_) | ((with_reducible apply is_sto); first | (refine kst hM ?_; intro w hM) | (refine kstw hM ?_; intro w hM)) | ((with_reducible apply is_st); refine su ?_) | ((with_reducible apply is_gd); first | refine gt ?_ | refine gf ?_ | refine gu ?_) | ((with_reducible apply is_en); refine en ?_) | (with_reducible apply c_region) | refine ws ?_ | refine x_block_other (by decide) ?_)
      rw [if_pos (by omega)]
      exact out3 rfl ⟨rfl, hM.ch⟩
    · repeat (first | ((with_reducible apply is_ld); first | refine kld hM ?_ | refine kldw hM ?_ | refine kle hM ?_ | refine klew hM ?_) | ((with_reducible apply is_sto); first | (refine kst hM ?_; intro w hM) | (refine kstw hM ?_; intro w hM)) | ((with_reducible apply is_st); refine su ?_) | ((with_reducible apply is_gd); first | refine gt ?_ | refine gf ?_ | refine gu ?_) | ((with_reducible apply is_en); refine en ?_) | (with_reducible apply c_region) | refine ws ?_ | refine x_block_other (by decide) ?_)
      rw [if_neg (by omega)]
      refine out3 rfl ⟨?_, hM.ch⟩
      show Value.tuple #[_, _, _] = Value.tuple #[_, _, _]
      rw [Int.natCast_add]
      rfl
end Go.Proofs.YtnkkeehoejmcnaaDoor
set_option linter.unusedVariables false
set_option linter.unusedSimpArgs false
namespace Go.Proofs.E
open Go Go.RowKit
section
variable {P : Program} {l : List Value} {w : World} {T : TypeId}
theorem r_maxI {x y : Operand} {ts : Array TypeId} {k : IntKind} {a b : Int} (c : Int) (hx : ev l x = .int k a := by exact rfl) (hy : ev l y = .int k b := by exact rfl) (hc : c = max a b := by omega) :
    (exec (ev l) (.call { callee := .builtin .max, args := #[x, y], argTypes := ts }) T).run P w = .ok (.value (.int k c)) w := by
  have h : c = (if a < b then b else a) := by rw [hc]; omega
  subst h
  simp [exec, execOp, resolve, invoke, builtin, hx, hy, run_max_int2]
end
end Go.Proofs.E
namespace Go.Proofs.YtnkkeehoejmcnaaDoor
open Go Go.RowKit Go.Proofs.E
attribute [local irreducible] Go.wpList Go.Code.wp Go.Proofs.E.exec Go.Proofs.E.wpLexG
def getFlag : Bs → Bool × Nat × Bool
  | [] => (false, 0, false)
  | b :: r => if b.toNat > 1 then (false, 0, false) else (decide (b.toNat = 1), 1, true)
theorem getFlag_cons (b : UInt8) (r : Bs) : getFlag (b :: r) = if b.toNat > 1 then (false, 0, false) else (decide (b.toNat = 1), 1, true) := rfl
def getStr (bs : Bs) (most : Nat) : Bs × Nat × Bool :=
  if (getNum bs).2.2 = false ∨ most < (getNum bs).1 ∨ bs.length - (getNum bs).2.1 < (getNum bs).1 then ([], 0, false)
  else ((bs.drop (getNum bs).2.1).take (getNum bs).1, (getNum bs).2.1 + (getNum bs).1, true)
abbrev gotF (x : Bool × Nat × Bool) : Value := .tuple #[.bool x.1, .int .i64 (x.2.1 : Int), .bool x.2.2]
abbrev gotS (x : Bs × Nat × Bool) : Value := .tuple #[.string (bst x.1), .int .i64 (x.2.1 : Int), .bool x.2.2]
set_option maxHeartbeats 4000000 in
theorem getFlag_any {bs : Bs} (v : Value) (w0 : World) (hR : tU8.Rd [] w0 v bs) :
    Calls Tryd.prog 158 #[v] w0 (Ret fun u w' => u = gotF (getFlag bs) ∧ Ch [] w0 w') := by
  have hM := Mem.start w0
  obtain ⟨A, c, rfl⟩ := hR.form
  have hl := hR.le
  refine enter [.slice A bs.length c, undef, undef, undef, undef, undef, undef, undef, undef, undef, undef, undef, undef, undef, undef, undef, undef, undef] Tryd.func158 rfl rfl ?_
  cases bs with
  | nil =>
    repeat (first | ((with_reducible apply is_ld); first | refine kld hM ?_ | refine kldw hM ?_ | refine kle hM ?_ | refine klew hM ?_) | ((with_reducible apply is_sto); first | (refine kst hM ?_; intro w hM) | (refine kstw hM ?_; intro w hM)) | ((with_reducible apply is_st); refine su ?_) | ((with_reducible apply is_gd); first | refine gt ?_ | refine gf ?_ | refine gu ?_) | ((with_reducible apply is_en); refine en ?_) | (with_reducible apply c_region) | refine ws ?_ | refine x_block_other (by decide) ?_)
    rw [decide_eq_true (show (([] : Bs).length : Int) = 0 by rfl)]
    repeat (first | ((with_reducible apply is_ld); first | refine kld hM ?_ | refine kldw hM ?_ | refine kle hM ?_ | refine klew hM ?_) | ((with_reducible apply is_sto); first | (refine kst hM ?_; intro w hM) | (refine kstw hM ?_; intro w hM)) | ((with_reducible apply is_st); refine su ?_) | ((with_reducible apply is_gd); first | refine gt ?_ | refine gf ?_ | refine gu ?_) | ((with_reducible apply is_en); refine en ?_) | (with_reducible apply c_region) | refine ws ?_ | refine x_block_other (by decide) ?_)
    refine c_condb rfl (fun _ => ?_) (fun h => by cases h)
    repeat (first | ((with_reducible apply is_ld); first | refine kld hM ?_ | refine kldw hM ?_ | refine kle hM ?_ | refine klew hM ?_) | ((with_reducible apply is_sto); first | (refine kst hM ?_; intro w hM) | (refine kstw hM ?_; intro w hM)) | ((with_reducible apply is_st); refine su ?_) | ((with_reducible apply is_gd); first | refine gt ?_ | refine gf ?_ | refine gu ?_) | ((with_reducible apply is_en); refine en ?_) | (with_reducible apply c_region) | refine ws ?_ | refine x_block_other (by decide) ?_)
    exact out3 rfl ⟨rfl, hM.ch⟩
  | cons b r =>
    have hb := b.toNat_lt
    repeat (first | ((with_reducible apply is_ld); first | refine kld hM ?_ | refine kldw hM ?_ | refine kle hM ?_ | refine klew hM ?_) | ((with_reducible apply is_sto); first | (refine kst hM ?_; intro w hM) | (refine kstw hM ?_; intro w hM)) | ((with_reducible apply is_st); refine su ?_) | ((with_reducible apply is_gd); first | refine gt ?_ | refine gf ?_ | refine gu ?_) | ((with_reducible apply is_en); refine en ?_) | (with_reducible apply c_region) | refine ws ?_ | refine x_block_other (by decide) ?_)
    rw [decide_eq_false (show ¬ (((b :: r).length : Nat) : Int) = 0 by rw [List.length_cons]; omega)]
    repeat (first | ((with_reducible apply is_ld); first | refine kld hM ?_ | refine kldw hM ?_ | refine kle hM ?_ | refine klew hM ?_) | ((with_reducible apply is_sto); first | (refine kst hM ?_; intro w hM) | (refine kstw hM ?_; intro w hM)) | ((with_reducible apply is_st); refine su ?_) | ((with_reducible apply is_gd); first | refine gt ?_ | refine gf ?_ | refine gu ?_) | ((with_reducible apply is_en); refine en ?_) | (with_reducible apply c_region) | refine ws ?_ | refine x_block_other (by decide) ?_)
    (try ((with_reducible apply is_gd); first | refine gt ?_ | refine gf ?_ | refine gu ?_)); refine kix hR (fun o1 o2 x hx hA => ?_) (h1 := by simp)
    obtain rfl : b = x := by simpa using hx
    (try ((with_reducible apply is_gd); first | refine gt ?_ | refine gf ?_ | refine gu ?_)); refine kat hM hA ?_
    repeat (first | ((with_reducible apply is_ld); first | refine kld hM ?_ | refine kldw hM ?_ | refine kle hM ?_ | refine klew hM ?_) | ((with_reducible apply is_sto); first | (refine kst hM ?_; intro w hM) | (refine kstw hM ?_; intro w hM)) | ((with_reducible apply is_st); refine su ?_) | ((with_reducible apply is_gd); first | refine gt ?_ | refine gf ?_ | refine gu ?_) | ((with_reducible apply is_en); refine en ?_) | (with_reducible apply c_region) | refine ws ?_ | refine x_block_other (by decide) ?_)
    rw [getFlag_cons]
    by_cases q1 : (b.toNat : Int) > 1
    · rw [decide_eq_true q1, if_pos (by omega)]
      repeat (first | ((with_reducible apply is_ld); first | refine kld hM ?_ | refine kldw hM ?_ | refine kle hM ?_ | refine klew hM ?_) | ((with_reducible apply is_sto); first | (refine kst hM ?_; intro w hM) | (refine kstw hM ?_; intro w hM)) | ((with_reducible apply is_st); refine su ?_) | ((with_reducible apply is_gd); first | refine gt ?_ | refine gf ?_ | refine gu ?_) | ((with_reducible apply is_en); refine en ?_) | (with_reducible apply c_region) | refine ws ?_ | refine x_block_other (by decide) ?_)
      refine c_condb rfl (fun _ => ?_) (fun h => by cases h)
      repeat (first | ((with_reducible apply is_ld); first | refine kld hM ?_ | refine kldw hM ?_ | refine kle hM ?_ | refine klew hM ?_) | ((with_reducible apply is_sto); first | (refine kst hM ?_; intro w hM) | (refine kstw hM ?_; intro w hM)) | ((with_reducible apply is_st); refine su ?_) | ((with_reducible apply is_gd); first | refine gt ?_ | refine gf ?_ | refine gu ?_) | ((with_reducible apply is_en); refine en ?_) | (with_reducible apply c_region) | refine ws ?_ | refine x_block_other (by decide) ?_)
      exact out3 rfl ⟨rfl, hM.ch⟩
    · rw [decide_eq_false q1, if_neg (by omega)]
      repeat (first | ((with_reducible apply is_ld); first | refine kld hM ?_ | refine kldw hM ?_ | refine kle hM ?_ | refine klew hM ?_) | ((with_reducible apply is_sto); first | (refine kst hM ?_; intro w hM) | (refine kstw hM ?_; intro w hM)) | ((with_reducible apply is_st); refine su ?_) | ((with_reducible apply is_gd); first | refine gt ?_ | refine gf ?_ | refine gu ?_) | ((with_reducible apply is_en); refine en ?_) | (with_reducible apply c_region) | refine ws ?_ | refine x_block_other (by decide) ?_)
      refine c_condb rfl (fun h => by cases h) (fun _ => ?_)
      repeat (first | ((with_reducible apply is_ld); first | refine kld hM ?_ | refine kldw hM ?_ | refine kle hM ?_ | refine klew hM ?_) | ((with_reducible apply is_sto); first | (refine kst hM ?_; intro w hM) | (refine kstw hM ?_; intro w hM)) | ((with_reducible apply is_st); refine su ?_) | ((with_reducible apply is_gd); first | refine gt ?_ | refine gf ?_ | refine gu ?_) | ((with_reducible apply is_en); refine en ?_) | (with_reducible apply c_region) | refine ws ?_ | refine x_block_other (by decide) ?_)
      refine kix hR (fun o3 o4 x hx hA => ?_) (h1 := by simp)
      obtain rfl : b = x := by simpa using hx
      refine kat hM hA ?_
      repeat (first | ((with_reducible apply is_ld); first | refine kld hM ?_ | refine kldw hM ?_ | refine kle hM ?_ | refine klew hM ?_) | ((with_reducible apply is_sto); first | (refine kst hM ?_; intro w hM) | (refine kstw hM ?_; intro w hM)) | ((with_reducible apply is_st); refine su ?_) | ((with_reducible apply is_gd); first | refine gt ?_ | refine gf ?_ | refine gu ?_) | ((with_reducible apply is_en); refine en ?_) | (with_reducible apply c_region) | refine ws ?_ | refine x_block_other (by decide) ?_)
      refine out3 rfl ⟨?_, hM.ch⟩
      have e : decide ((b.toNat : Int) = 1) = decide (b.toNat = 1) := by rw [Bool.eq_iff_iff, decide_eq_true_eq, decide_eq_true_eq]; omega
      rw [← e]
      rfl
theorem getNum_k (bs : Bs) : (getNum bs).2.1 ≤ bs.length ∧ (getNum bs).1 < 2 ^ 64 := by
  cases h : (getNum bs).2.2 with
  | true =>
    obtain ⟨_, h1, h2, _⟩ := getNum_dec (bs := bs) (n := (getNum bs).1) (k := (getNum bs).2.1) (by rw [← h])
    exact ⟨h2, h1⟩
  | false =>
    have : (getNum bs).1 = 0 ∧ (getNum bs).2.1 = 0 := by
      cases bs with
      | nil => exact ⟨rfl, rfl⟩
      | cons b r =>
        rw [getNum_cons] at h ⊢
        split at h <;> rename_i q1
        · cases h
        rw [if_neg q1]
        split at h <;> rename_i q2
        · rw [if_pos q2]; exact ⟨rfl, rfl⟩
        rw [if_neg q2]
        split at h <;> rename_i q3
        · rw [if_pos q3]; exact ⟨rfl, rfl⟩
        rw [if_neg q3]
        split at h <;> rename_i q4
        · rw [if_pos q4]; exact ⟨rfl, rfl⟩
        · cases h
    omega
set_option maxHeartbeats 4000000 in
theorem getStr_any {bs : Bs} (v : Value) (most : Nat) (w0 : World) (hR : tU8.Rd [] w0 v bs) (hm : most ≤ 1000000) :
    Calls Tryd.prog 160 #[v, .int .i64 (most : Int)] w0 (Ret fun u w' => u = gotS (getStr bs most) ∧ Ch [] w0 w') := by
  have hM := Mem.start w0
  obtain ⟨A, c, rfl⟩ := hR.form
  have hl := hR.le
  refine enter [.slice A bs.length c, .int .i64 (most : Int), undef, undef, undef, undef, undef, undef, undef, undef, undef, undef, undef, undef, undef, undef, undef, undef, undef, undef, undef, undef, undef, undef, undef, undef, undef, undef, undef, undef, undef, undef, undef, undef, undef, undef, undef, undef, undef, undef, undef, undef, undef, undef, undef] Tryd.func160 rfl rfl ?_
  repeat (first | ((with_reducible apply is_ld); first | refine kld hM ?_ | refine kldw hM ?_ | refine kle hM ?_ | refine klew hM ?_) | ((with_reducible apply is_sto); first | (refine kst hM ?_; intro w hM) | (refine kstw hM ?_; intro w hM)) | ((with_reducible apply is_st); refine su ?_) | ((with_reducible apply is_gd); first | refine gt ?_ | refine gf ?_ | refine gu ?_) | ((with_reducible apply is_en); refine en ?_) | (with_reducible apply c_region) | refine ws ?_ | refine x_block_other (by decide) ?_)
  refine kca hM (getNum_any _ _ hR) (fun w hM => ?_)
  have hk := getNum_k bs
  unfold getStr
  generalize getNum bs = g at hk ⊢
  obtain ⟨n, k, ok⟩ := g
  simp only at hk ⊢
  repeat (first | ((with_reducible apply is_ld); first | refine kld hM ?_ | refine kldw hM ?_ | refine kle hM ?_ | refine klew hM ?_) | ((with_reducible apply is_sto); first | (refine kst hM ?_; intro w hM) | (refine kstw hM ?_; intro w hM)) | ((with_reducible apply is_st); refine su ?_) | ((with_reducible apply is_gd); first | refine gt ?_ | refine gf ?_ | refine gu ?_) | ((with_reducible apply is_en); refine en ?_) | (with_reducible apply c_region) | refine ws ?_ | refine x_block_other (by decide) ?_)
  cases ok with
  | false =>
    repeat (first | ((with_reducible apply is_ld); first | refine kld hM ?_ | refine kldw hM ?_ | refine kle hM ?_ | refine klew hM ?_) | ((with_reducible apply is_sto); first | (refine kst hM ?_; intro w hM) | (refine kstw hM ?_; intro w hM)) | ((with_reducible apply is_st); refine su ?_) | ((with_reducible apply is_gd); first | refine gt ?_ | refine gf ?_ | refine gu ?_) | ((with_reducible apply is_en); refine en ?_) | (with_reducible apply c_region) | refine ws ?_ | refine x_block_other (by decide) ?_)
    refine c_condb rfl (fun _ => ?_) (fun h => by cases h)
    repeat (first | ((with_reducible apply is_ld); first | refine kld hM ?_ | refine kldw hM ?_ | refine kle hM ?_ | refine klew hM ?_) | ((with_reducible apply is_sto); first | (refine kst hM ?_; intro w hM) | (refine kstw hM ?_; intro w hM)) | ((with_reducible apply is_st); refine su ?_) | ((with_reducible apply is_gd); first | refine gt ?_ | refine gf ?_ | refine gu ?_) | ((with_reducible apply is_en); refine en ?_) | (with_reducible apply c_region) | refine ws ?_ | refine x_block_other (by decide) ?_)
    rw [if_pos (.inl rfl)]
    exact out3 rfl ⟨rfl, hM.ch⟩
  | true =>
  repeat (first | ((with_reducible apply is_ld); first | refine kld hM ?_ | refine kldw hM ?_ | refine kle hM ?_ | refine klew hM ?_) | ((with_reducible apply is_sto); first | (refine kst hM ?_; intro w hM) | (refine kstw hM ?_; intro w hM)) | ((with_reducible apply is_st); refine su ?_) | ((with_reducible apply is_gd); first | refine gt ?_ | refine gf ?_ | refine gu ?_) | ((with_reducible apply is_en); refine en ?_) | (with_reducible apply c_region) | refine ws ?_ | refine x_block_other (by decide) ?_)
  (try ((with_reducible apply is_gd); first | refine gt ?_ | refine gf ?_ | refine gu ?_)); refine wl_val (r_maxI (a := (most : Int)) (b := 0) (most : Int)) ?_
  repeat (first | ((with_reducible apply is_ld); first | refine kld hM ?_ | refine kldw hM ?_ | refine kle hM ?_ | refine klew hM ?_) | ((with_reducible apply is_sto); first | (refine kst hM ?_; intro w hM) | (refine kstw hM ?_; intro w hM)) | ((with_reducible apply is_st); refine su ?_) | ((with_reducible apply is_gd); first | refine gt ?_ | refine gf ?_ | refine gu ?_) | ((with_reducible apply is_en); refine en ?_) | (with_reducible apply c_region) | refine ws ?_ | refine x_block_other (by decide) ?_)
  by_cases q1 : (most : Int) < (n : Int)
  · rw [decide_eq_true q1]
    repeat (first | ((with_reducible apply is_ld); first | refine kld hM ?_ | refine kldw hM ?_ | refine kle hM ?_ | refine klew hM ?_) | ((with_reducible apply is_sto); first | (refine kst hM ?_; intro w hM) | (refine kstw hM ?_; intro w hM)) | ((with_reducible apply is_st); refine su ?_) | ((with_reducible apply is_gd); first | refine gt ?_ | refine gf ?_ | refine gu ?_) | ((with_reducible apply is_en); refine en ?_) | (with_reducible apply c_region) | refine ws ?_ | refine x_block_other (by decide) ?_)
    refine c_condb rfl (fun _ => ?_) (fun h => by cases h)
    repeat (first | ((with_reducible apply is_ld); first | refine kld hM ?_ | refine kldw hM ?_ | refine kle hM ?_ | refine klew hM ?_) | ((with_reducible apply is_sto); first | (refine kst hM ?_; intro w hM) | (refine kstw hM ?_; intro w hM)) | ((with_reducible apply is_st); refine su ?_) | ((with_reducible apply is_gd); first | refine gt ?_ | refine gf ?_ | refine gu ?_) | ((with_reducible apply is_en); refine en ?_) | (with_reducible apply c_region) | refine ws ?_ | refine x_block_other (by decide) ?_)
    rw [if_pos (.inr (.inl (by omega)))]
    exact out3 rfl ⟨rfl, hM.ch⟩
  rw [decide_eq_false q1]
  repeat (first | ((with_reducible apply is_ld); first | refine kld hM ?_ | refine kldw hM ?_ | refine kle hM ?_ | refine klew hM ?_) | ((with_reducible apply is_sto); first | (refine kst hM ?_; intro w hM) | (refine kstw hM ?_; intro w hM)) | ((with_reducible apply is_st); refine su ?_) | ((with_reducible apply is_gd); first | refine gt ?_ | refine gf ?_ | refine gu ?_) | ((with_reducible apply is_en); refine en ?_) | (with_reducible apply c_region) | refine ws ?_ | refine x_block_other (by decide) ?_)
  by_cases q2 : (bs.length : Int) - (k : Int) < (n : Int)
  · rw [decide_eq_true q2]
    refine c_condb rfl (fun _ => ?_) (fun h => by cases h)
    repeat (first | ((with_reducible apply is_ld); first | refine kld hM ?_ | refine kldw hM ?_ | refine kle hM ?_ | refine klew hM ?_) | ((with_reducible apply is_sto); first | (refine kst hM ?_; intro w hM) | (refine kstw hM ?_; intro w hM)) | ((with_reducible apply is_st); refine su ?_) | ((with_reducible apply is_gd); first | refine gt ?_ | refine gf ?_ | refine gu ?_) | ((with_reducible apply is_en); refine en ?_) | (with_reducible apply c_region) | refine ws ?_ | refine x_block_other (by decide) ?_)
    rw [if_pos (.inr (.inr (by omega)))]
    exact out3 rfl ⟨rfl, hM.ch⟩
  rw [decide_eq_false q2]
  refine c_condb rfl (fun h => by cases h) (fun _ => ?_)
  rw [if_neg (by rintro (h | h | h); cases h; all_goals omega)]
  repeat (first | ((with_reducible apply is_ld); first | refine kld hM ?_ | refine kldw hM ?_ | refine kle hM ?_ | refine klew hM ?_) | ((with_reducible apply is_sto); first | (refine kst hM ?_; intro w hM) | (refine kstw hM ?_; intro w hM)) | ((with_reducible apply is_st); refine su ?_) | ((with_reducible apply is_gd); first | refine gt ?_ | refine gf ?_ | refine gu ?_) | ((with_reducible apply is_en); refine en ?_) | (with_reducible apply c_region) | refine ws ?_ | refine x_block_other (by decide) ?_)
  refine kcut hR (i := (k : Int)) (j := (k : Int) + (n : Int)) (fun v42 hV => ?_)
  rw [show ((k : Int) + (n : Int)).toNat = k + n by omega, Int.toNat_natCast, List.drop_take, show k + n - k = n by omega] at hV
  (try ((with_reducible apply is_gd); first | refine gt ?_ | refine gf ?_ | refine gu ?_)); refine wl_val (r_b2s (hV.ch hM.ch)) ?_
  repeat (first | ((with_reducible apply is_ld); first | refine kld hM ?_ | refine kldw hM ?_ | refine kle hM ?_ | refine klew hM ?_) | ((with_reducible apply is_sto); first | (refine kst hM ?_; intro w hM) | (refine kstw hM ?_; intro w hM)) | ((with_reducible apply is_st); refine su ?_) | ((with_reducible apply is_gd); first | refine gt ?_ | refine gf ?_ | refine gu ?_) | ((with_reducible apply is_en); refine en ?_) | (with_reducible apply c_region) | refine ws ?_ | refine x_block_other (by decide) ?_)
  refine out3 rfl ⟨?_, hM.ch⟩
  show Value.tuple #[_, _, _] = Value.tuple #[_, _, _]
  rw [Int.natCast_add]
  rfl
end Go.Proofs.YtnkkeehoejmcnaaDoor

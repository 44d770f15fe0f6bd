/- The greatest power of two below a number: plain words.
   A tree over leaves: plain words.
   Walks: the root of leaves, row by row.
   Walks: the reference's Split and Bits, the law's examples (for the seat of the tied cards).
   Walks: the reference's root; the law of halves. -/
import Derived.Test.YtkdbinchlpdkmaaDoorQClashTops07
import Derived.Test.YtkdbinchlpdkmaaDoorQClashTops08
import Derived.Test.YtkdbinchlpdkmaaDoorQClashTops03
set_option linter.unusedVariables false
set_option linter.unusedSimpArgs false
namespace Go.Proofs.YtkdbinchlpdkmaaDoor
open Go Go.RowKit Go.Proofs.E
/-- The greatest power of two below n. -/
def splitN (n : Nat) : Nat := (splitZ (n : Int)).toNat
theorem splitZ_nat (n : Nat) : splitZ (n : Int) = (splitN n : Int) := by
  unfold splitN
  have : 0 ≤ splitZ (n : Int) := by
    unfold splitZ
    split
    · exact Int.le_refl _
    · exact_mod_cast Nat.zero_le _
  omega
theorem splitN_spec {n : Nat} (h2 : 2 ≤ n) (h : n ≤ 9223372036854775807) : ∃ j, splitN n = 2 ^ j ∧ 2 ^ j < n ∧ n ≤ 2 ^ (j + 1) := by
  obtain ⟨k, hk, h1, h3, h4⟩ := bitLen_spec (u := n - 1) (by omega) (by omega)
  refine ⟨k, ?_, by omega, by omega⟩
  unfold splitN splitZ
  rw [if_neg (by omega), show ((n : Int) - 1).toNat = n - 1 by omega, hk, Nat.add_sub_cancel]
  have : ((2 : Int) ^ k) = ((2 ^ k : Nat) : Int) := by simp
  rw [this, Int.toNat_natCast]
theorem splitN_lt {n : Nat} (h2 : 2 ≤ n) (h : n ≤ 9223372036854775807) : 0 < splitN n ∧ splitN n < n := by
  obtain ⟨j, e, h1, _⟩ := splitN_spec h2 h
  have := Nat.one_le_two_pow (n := j)
  omega
end Go.Proofs.YtkdbinchlpdkmaaDoor
set_option linter.unusedVariables false
set_option linter.unusedSimpArgs false
namespace Go.Proofs.YtkdbinchlpdkmaaDoor
open Go Go.RowKit Go.Proofs.E

section
variable {α : Type} (nd : α → α → α) (em : α)
/-- The root, of n steps at most. -/
def rootF : Nat → List α → α
  | 0, l => l.headD em
  | f + 1, l => if l.length < 2 then l.headD em else nd (rootF f (l.take (splitN l.length))) (rootF f (l.drop (splitN l.length)))
def rootG (l : List α) : α := rootF nd em l.length l
variable {nd em}
theorem rootF_any : ∀ (f g : Nat) (l : List α), l.length ≤ f → l.length ≤ g → l.length ≤ 9223372036854775807 → rootF nd em f l = rootF nd em g l
  | 0, 0, l, _, _, _ => rfl
  | 0, g + 1, l, h, _, _ => by rw [rootF, rootF, if_pos (by omega)]
  | f + 1, 0, l, _, h, _ => by rw [rootF, rootF, if_pos (by omega)]
  | f + 1, g + 1, l, hf, hg, hb => by
    rw [rootF, rootF]
    by_cases h : l.length < 2
    · rw [if_pos h, if_pos h]
    · rw [if_neg h, if_neg h]
      have := splitN_lt (n := l.length) (by omega) hb
      rw [rootF_any f g (l.take _) (by rw [List.length_take]; omega) (by rw [List.length_take]; omega) (by rw [List.length_take]; omega)]
      rw [rootF_any f g (l.drop _) (by rw [List.length_drop]; omega) (by rw [List.length_drop]; omega) (by rw [List.length_drop]; omega)]
theorem rootG_two {l : List α} (h : 2 ≤ l.length) (hb : l.length ≤ 9223372036854775807) : rootG nd em l = nd (rootG nd em (l.take (splitN l.length))) (rootG nd em (l.drop (splitN l.length))) := by
  have := splitN_lt (n := l.length) h hb
  obtain ⟨f, hf⟩ : ∃ f, l.length = f + 1 := ⟨l.length - 1, by omega⟩
  unfold rootG
  conv => lhs; rw [hf]
  rw [rootF, if_neg (by omega)]
  rw [rootF_any f _ (l.take _) (by rw [List.length_take]; omega) (Nat.le_refl _) (by rw [List.length_take]; omega)]
  rw [rootF_any f _ (l.drop _) (by rw [List.length_drop]; omega) (Nat.le_refl _) (by rw [List.length_drop]; omega)]
end
/-! ### Hashes -/
abbrev Hs := { a : List UInt8 // a.length = 32 }
abbrev eH : En Hs := { f := fun a => a.1.map u8v, n := 32, hl := fun a => by rw [List.length_map, a.2], h1 := fun a => one_u8 }
def nodeH (a b : Hs) : Hs := ⟨nodeOf a.1 b.1, nodeOf_len _ _⟩
def emptyH : Hs := ⟨emptyOf, shaOf_len _⟩
def rootH (l : List Hs) : Hs := rootG nodeH emptyH l
end Go.Proofs.YtkdbinchlpdkmaaDoor
set_option linter.unusedVariables false
set_option linter.unusedSimpArgs false
namespace Go.Proofs.YtkdbinchlpdkmaaDoor
open Go Go.RowKit Go.Proofs.E
attribute [local irreducible] Go.wpList Go.Code.wp Go.Proofs.E.exec Go.Proofs.E.wpLexG

section
variable {α : Type} {nd : α → α → α}
end

end Go.Proofs.YtkdbinchlpdkmaaDoor
set_option linter.unusedVariables false
set_option linter.unusedSimpArgs false
namespace Go.Proofs.YtkdbinchlpdkmaaDoor
open Go Go.RowKit Go.Proofs.E
attribute [local irreducible] Go.wpList Go.Code.wp Go.Proofs.E.exec Go.Proofs.E.wpLexG

theorem splitZ_eq {n : Int} {j : Nat} (h1 : (2 : Int) ^ j < n) (h2 : n ≤ 2 ^ (j + 1)) (h3 : n ≤ 9223372036854775807) : splitZ n = 2 ^ j := by
  have hp : (1 : Int) ≤ 2 ^ j := by exact_mod_cast Nat.one_le_two_pow
  obtain ⟨m, rfl⟩ : ∃ m : Nat, n = m + 2 := ⟨(n - 2).toNat, by omega⟩
  have em : ((m : Int) + 2 - 1).toNat = m + 1 := by omega
  obtain ⟨k, hk, k1, k2, k3⟩ := bitLen_spec (u := m + 1) (by omega) (by omega)
  unfold splitZ
  rw [if_neg (by omega), em, hk, Nat.add_sub_cancel]
  have a1 : 2 ^ j ≤ m + 1 := by have : ((2 ^ j : Nat) : Int) < (m : Int) + 2 := by exact_mod_cast h1
                                omega
  have a2 : m + 1 < 2 ^ (j + 1) := by have : (m : Int) + 2 ≤ ((2 ^ (j + 1) : Nat) : Int) := by exact_mod_cast h2
                                      omega
  have e1 : j < k + 1 := (Nat.pow_lt_pow_iff_right (a := 2) (by omega)).1 (by omega)
  have e2 : k < j + 1 := (Nat.pow_lt_pow_iff_right (a := 2) (by omega)).1 (by omega)
  rw [show k = j by omega]
theorem rsplit_any (n : Int) (h0 : -9223372036854775808 ≤ n ∧ n ≤ 2305843009213693952) (w : World) :
    Calls Tryd.prog 52 #[.int .i64 n] w (Ret fun v w' => v = .int .i64 (splitZ n) ∧ w' = w) := by
  refine enter [.int .i64 n, undef, undef, undef, undef, undef, undef, undef, undef, undef, undef, undef, undef, undef] Tryd.func52 rfl rfl ?_
  repeat (first | ((with_reducible apply is_st); refine st ?_) | ((with_reducible apply is_gd); first | refine gt ?_ | refine gf ?_ | refine gu ?_) | ((with_reducible apply is_en); refine en ?_) | (with_reducible apply c_region) | refine ws ?_ | refine x_block_other (by decide) ?_)
  refine c_cond rfl (fun h => ?_) (fun h => ?_)
  · repeat (first | ((with_reducible apply is_st); refine st ?_) | ((with_reducible apply is_gd); first | refine gt ?_ | refine gf ?_ | refine gu ?_) | ((with_reducible apply is_en); refine en ?_) | (with_reducible apply c_region) | refine ws ?_ | refine x_block_other (by decide) ?_)
    exact out1 rfl ⟨by simp [splitZ, h]; rfl, rfl⟩
  · repeat (first | ((with_reducible apply is_st); refine st ?_) | ((with_reducible apply is_gd); first | refine gt ?_ | refine gf ?_ | refine gu ?_) | ((with_reducible apply is_en); refine en ?_) | (with_reducible apply c_region) | refine ws ?_ | refine x_block_other (by decide) ?_)
    
    refine c_loop (fun k l w' => ∃ (q : Int) (j : Nat), (∃ jj : Nat → Value, l = [.int .i64 n, undef, .int .i64 0, .int .i64 q, jj 4, jj 5, jj 6, jj 7, jj 8, jj 9, jj 10, jj 11, jj 12, jj 13]) ∧ q = 2 ^ j ∧ q < n ∧ k = (n - q).toNat ∧ w' = w) (n - 1).toNat
      ⟨1, 0, exj rfl, rfl, by omega, by omega, rfl⟩ ?_
    rintro k l w1 ⟨q, j, ⟨jj, rfl⟩, hq, hqn, hk, rfl⟩
    have hp : (1 : Int) ≤ q := by rw [hq]; exact_mod_cast Nat.one_le_two_pow
    repeat (first | ((with_reducible apply is_st); refine st ?_) | ((with_reducible apply is_gd); first | refine gt ?_ | refine gf ?_ | refine gu ?_) | ((with_reducible apply is_en); refine en ?_) | (with_reducible apply c_region) | refine ws ?_ | refine x_block_other (by decide) ?_)
    refine c_cond rfl (fun hi => ?_) (fun hi => ?_)
    · repeat (first | ((with_reducible apply is_st); refine st ?_) | ((with_reducible apply is_gd); first | refine gt ?_ | refine gf ?_ | refine gu ?_) | ((with_reducible apply is_en); refine en ?_) | (with_reducible apply c_region) | refine ws ?_ | refine x_block_other (by decide) ?_)
      exact x_goes (n - q * 2).toNat rfl (by omega) ⟨q * 2, j + 1, exj rfl, by rw [hq, Int.pow_succ], by omega, rfl, rfl⟩
    · repeat (first | ((with_reducible apply is_st); refine st ?_) | ((with_reducible apply is_gd); first | refine gt ?_ | refine gf ?_ | refine gu ?_) | ((with_reducible apply is_en); refine en ?_) | (with_reducible apply c_region) | refine ws ?_ | refine x_block_other (by decide) ?_)
      refine out1 rfl ⟨?_, rfl⟩
      show Value.int .i64 q = _
      rw [splitZ_eq (j := j) (by omega) (by rw [Int.pow_succ]; omega) (by omega), hq]
end Go.Proofs.YtkdbinchlpdkmaaDoor
set_option linter.unusedVariables false
set_option linter.unusedSimpArgs false
namespace Go.Proofs.YtkdbinchlpdkmaaDoor
open Go Go.RowKit Go.Proofs.E
attribute [local irreducible] Go.wpList Go.Code.wp Go.Proofs.E.exec Go.Proofs.E.wpLexG

set_option maxHeartbeats 8000000 in
theorem rroot_any (n : Nat) : ∀ (v : Value) (lv : List Hs) (w : World), lv.length = n → (Ty.enc eH).Rd [] w v lv → lv.length ≤ 1000000000 →
    Calls Tryd.prog 19 #[v] w (Ret fun u w' => u = hv (rootH lv).1 ∧ Ch [] w w') := by
  induction n using Nat.strongRecOn with
  | _ n ih =>
  intro v lv w hn hR hb
  refine enter [v, undef, undef, undef, undef, undef, undef, undef, undef, undef, undef, undef, undef, undef, undef, undef, undef, undef, undef, undef, undef, undef, undef, undef, undef, undef] Tryd.func19 rfl rfl ?_
  obtain ⟨A, cap, rfl⟩ := hR.form
  (try refine wk ?_)
  refine wl_alloc (fun w1 c hc => ?_)
  have hC1 : Blk w1 c ((List.replicate 32 (0 : UInt8)).map u8v) 30 := hc.blk
  have hcw : c = w.heap.size := hc.at_
  (try refine wk ?_)
  refine c_cond rfl (fun h => ?_) (fun h => ?_)
  · have : lv = [] := List.eq_nil_of_length_eq_zero (by omega)
    subst this
    (try refine wk ?_)
    (try ((with_reducible apply is_gd); first | refine gt ?_ | refine gf ?_ | refine gu ?_)); refine ca (rempty_any w1) ?_
    rintro _ w2 ⟨rfl, hc2⟩
    have hls := shaOf_len []
    (try refine wk ?_)
    refine stbw (n := 32) (hC1.ch hc2 (by simp)) rfl rfl (hv_len hls) (by simp) one_u8 (fun w3 hC3 hch3 hs3 => ?_)
    (try refine wk ?_)
    exact outc rfl rfl (hC3.row (n := 32) (o := 0) (ds := emptyOf.map u8v) (by simp [emptyOf, List.take_of_length_le, hls])) (by simp [emptyOf, hls]) ⟨rfl, (hc.ch.then hc2).own hch3 (by omega)⟩
  · (try refine wk ?_)
    refine c_cond rfl (fun h1 => ?_) (fun h1 => ?_)
    · match lv, (show lv.length = 1 by omega) with
      | [a], _ =>
        (try refine wk ?_)
        (try ((with_reducible apply is_gd); first | refine gt ?_ | refine gf ?_ | refine gu ?_)); refine ix (hR.ch hc.ch) (fun b1 o1 x1 hx1 hA1 => ?_)
        obtain rfl := Option.some.inj hx1
        (try ((with_reducible apply is_gd); first | refine gt ?_ | refine gf ?_ | refine gu ?_)); refine ldr hA1 ?_
        (try refine wk ?_)
        refine stbw (n := 32) hC1 rfl rfl (by simp [a.2]) (by simp) one_u8 (fun w5 hC5 hch5 hs5 => ?_)
        (try refine wk ?_)
        exact outc rfl rfl (hC5.row (n := 32) (o := 0) (ds := a.1.map u8v) (by simp [List.take_of_length_le, a.2])) (by simp [a.2]) ⟨rfl, hc.ch.own hch5 (by omega)⟩
    · have h2 : 2 ≤ lv.length := by omega
      (try refine wk ?_)
      (try ((with_reducible apply is_gd); first | refine gt ?_ | refine gf ?_ | refine gu ?_)); refine ca (rsplit_any (lv.length : Int) (by omega) w1) ?_
      rintro _ w2 ⟨rfl, hc2⟩
      subst hc2
      rw [splitZ_nat]
      obtain ⟨hk0, hk1⟩ := splitN_lt (n := lv.length) h2 (by omega)
      generalize hk : splitN lv.length = k at hk0 hk1
      (try refine wk ?_)
      refine c_drawl 9 [] (by kernel_rfl) (by kernel_rfl) (by kernel_rfl) (fun w4 hc4 hs4 => ?_)
      have hR4 := (hR.ch hc.ch).ch hc4
      have hC4 := hC1.ch hc4 (by simp)
      (try refine wkg ?_)
      refine wg_cut_hi rfl hR4 rfl rfl (by omega) (by omega) (fun v1 hV1 => ?_)
      rw [Int.toNat_natCast] at hV1
      (try ((with_reducible apply is_gg); first | refine gtg ?_ | refine gfg ?_ | refine gug ?_)); refine cag (fun w5 hc5 => ih (lv.take k).length (by rw [List.length_take]; omega) v1 (lv.take k) w5 rfl (hV1.ch hc5) (by rw [List.length_take]; omega)) ?_
      (try refine wkg ?_)
      refine wg_cut_lo rfl hR4 rfl rfl (by omega) (by omega) (fun v2 hV2 => ?_)
      rw [Int.toNat_natCast] at hV2
      (try ((with_reducible apply is_gg); first | refine gtg ?_ | refine gfg ?_ | refine gug ?_)); refine cag (fun w5 hc5 => ih (lv.drop k).length (by rw [List.length_drop]; omega) v2 (lv.drop k) w5 rfl (hV2.ch hc5) (by rw [List.length_drop]; omega)) ?_
      (try ((with_reducible apply is_gg); first | refine gtg ?_ | refine gfg ?_ | refine gug ?_)); refine cag (fun w5 hc5 => rnode_any (rootH (lv.take k)).1 (rootH (lv.drop k)).1 (rootH (lv.take k)).2 (rootH (lv.drop k)).2 w5) ?_
      have hroot : rootH lv = nodeH (rootH (lv.take k)) (rootH (lv.drop k)) := by
        have := rootG_two (nd := nodeH) (em := emptyH) (l := lv) h2 (by omega)
        rw [hk] at this
        exact this
      refine lastg rfl (by kernel_rfl) (fun w7 hc7 => ?_)
      refine stbw (n := 32) (vs := (rootH lv).1.map u8v) (hC4.ch hc7 (by simp)) rfl (by rw [hroot]; rfl) (by simp [(rootH lv).2]) (by simp) one_u8 (fun w8 hC8 hch8 hs8 => ?_)
      refine x_last rfl rfl (fun w9 hc9 => ?_)
      (try refine wk ?_)
      exact outc rfl rfl ((hC8.ch hc9 (by simp)).row (n := 32) (o := 0) (ds := (rootH lv).1.map u8v) (by simp [List.take_of_length_le, (rootH lv).2])) (by simp [(rootH lv).2]) ⟨rfl, (((hc.ch.then hc4).then hc7).own hch8 (by omega)).then hc9⟩
end Go.Proofs.YtkdbinchlpdkmaaDoor

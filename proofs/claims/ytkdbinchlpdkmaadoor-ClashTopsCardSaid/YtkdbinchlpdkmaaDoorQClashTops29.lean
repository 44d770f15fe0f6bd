/- Chains of inputs, plainly: each one's hash stands in the next. -/
import Derived.Test.YtkdbinchlpdkmaaDoorQClashTops23
import Derived.Test.YtkdbinchlpdkmaaDoorQClashTops25
import Derived.Test.YtkdbinchlpdkmaaDoorQClashTops28
set_option linter.unusedVariables false
set_option linter.unusedSimpArgs false
namespace Go.Proofs.YtkdbinchlpdkmaaDoor
open Go Go.RowKit Go.Proofs.E
/-- A hash stands in an input, behind the first byte. -/
def InX (h x : List UInt8) : Prop := ∃ k, 1 ≤ k ∧ k + 32 ≤ x.length ∧ (x.drop k).take 32 = h
def ChainX (l : List (List UInt8)) : Prop := l ≠ [] ∧ ∀ i a b, l[i]? = some a → l[i + 1]? = some b → InX (shaOf a) b
theorem inX_first {t : UInt8} {h r : List UInt8} (hl : h.length = 32) : InX h (t :: (h ++ r)) := ⟨1, Nat.le_refl _, by simp [hl], by rw [List.drop_one, List.tail_cons, List.take_left' hl]⟩
theorem inX_second {t : UInt8} {q h : List UInt8} (hq : q.length = 32) (hl : h.length = 32) : InX h (t :: (q ++ h)) := ⟨33, by omega, by simp [hl, hq], by
  rw [show 33 = 32 + 1 from rfl, List.drop_succ_cons, List.drop_left' hq, List.take_of_length_le (by omega)]⟩
theorem inX_cons {t : UInt8} {h x : List UInt8} (hx : InX h x) : InX h (t :: x) := by
  obtain ⟨k, h1, h2, h3⟩ := hx
  exact ⟨k + 1, by omega, by rw [List.length_cons]; omega, by rw [List.drop_succ_cons]; exact h3⟩
theorem chain_one (x : List UInt8) : ChainX [x] := ⟨by simp, fun i a b _ hb => by simp at hb⟩
theorem chain_snoc {l : List (List UInt8)} {x : List UInt8} (hl : ChainX l) (hx : InX (shaOf (l.getLastD [])) x) : ChainX (l ++ [x]) := by
  obtain ⟨hne, hc⟩ := hl
  refine ⟨by simp, fun i a b ha hb => ?_⟩
  have hpos : 0 < l.length := List.length_pos_iff.2 hne
  by_cases h : i + 1 < l.length
  · rw [List.getElem?_append_left (by omega)] at ha hb
    exact hc i a b ha hb
  · have hi : i + 1 < (l ++ [x]).length := (List.getElem?_eq_some_iff.1 hb).1
    rw [List.length_append, List.length_singleton] at hi
    have e : i + 1 = l.length := by omega
    rw [List.getElem?_append_right (by omega), e, Nat.sub_self] at hb
    obtain rfl : x = b := by simpa using hb
    rw [List.getElem?_append_left (by omega)] at ha
    rw [getLastD_of (x := a) (by rw [show l.length - 1 = i by omega]; exact ha)] at hx
    exact hx
theorem last_snoc (l : List (List UInt8)) (x : List UInt8) : (l ++ [x]).getLastD [] = x := by simp
theorem snoc_ind {α : Type} {P : List α → Prop} (h0 : P []) (h1 : ∀ l a, P l → P (l ++ [a])) (l : List α) : P l := by
  rw [← List.reverse_reverse l]
  induction l.reverse with
  | nil => exact h0
  | cons a r ih => rw [List.reverse_cons]; exact h1 _ _ ih
/-- The way up from a leaf. -/
theorem ups_chain (path : List Hs) (leaf : List UInt8) : ∀ sd : List Bool, ChainX (upsT path leaf sd) := by
  refine snoc_ind (chain_one _) fun sd b ih => ?_
  rw [upsT_snoc]
  unfold stepW
  refine chain_snoc ih ?_
  cases b
  · exact inX_first (shaOf_len _)
  · exact inX_second (path.getD sd.length zeroH).2 (shaOf_len _)
theorem ups_top (path : List Hs) (leaf : List UInt8) : ∀ (ts : List (Nat × Bool)), shaH ((upsT path leaf (ts.map (·.2))).getLastD []) = ((ts.zipIdx.map fun p => (p.2, p.1)).foldl (stepC path) (shaH (0 :: leaf))) := by
  refine snoc_ind rfl fun ts t ih => ?_
  rw [List.map_append, List.map_singleton, upsT_snoc, List.zipIdx_append, List.map_append, List.foldl_append, ← ih]
  unfold stepW
  rw [last_snoc]
  obtain ⟨n, b⟩ := t
  cases b <;> simp [stepC, nodeH, nodeOf, shaH]
theorem down_chain (k : Hs) : ∀ (st : List (Int × Hs)) (l : List (List UInt8)), ChainX l → ChainX (downL k st l)
  | [], l, h => h
  | s :: r, l, h => by
    rw [downL]
    refine down_chain k r _ (chain_snoc h ?_)
    unfold forkX
    split
    · exact inX_cons (inX_first (shaOf_len _))
    · exact inX_cons (inX_second s.2.2 (shaOf_len _))
theorem down_top {k pk : Hs} : ∀ (st : List (Int × Hs)) (l : List (List UInt8)) (h r : Hs), shaH (l.getLastD []) = h → climbUp k pk st h = some r → shaH ((downL k st l).getLastD []) = r
  | [], l, h, r, hl, hc => by
    rw [climbUp] at hc
    rw [downL, hl]
    exact Option.some.inj hc
  | s :: q, l, h, r, hl, hc => by
    rw [climbUp] at hc
    split at hc
    · rw [downL]
      refine down_top q _ (stepUp k s h) r ?_ hc
      rw [last_snoc, stepUp_sha, hl]
    · cases hc
end Go.Proofs.YtkdbinchlpdkmaaDoor

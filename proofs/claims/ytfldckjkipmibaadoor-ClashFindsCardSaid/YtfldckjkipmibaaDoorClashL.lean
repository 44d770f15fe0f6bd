/- Plain laws: two inputs of one hash are found, or the leaves are the same. -/
import Derived.Test.YtfldckjkipmibaaDoorClashK
set_option linter.unusedVariables false
set_option linter.unusedSimpArgs false
namespace Go.Proofs.YtfldckjkipmibaaDoor
open Go Go.RowKit Go.Proofs.E
theorem firstL_some : ∀ {l : List (List UInt8 × List UInt8)} {x y : List UInt8}, firstL l = some (x, y) → x ≠ y ∧ shaOf x = shaOf y
  | [], x, y, h => by cases h
  | q :: l, x, y, h => by
    rw [firstL] at h
    split at h
    · exact firstL_some h
    · rename_i hne
      split at h
      · rename_i hs
        cases h
        exact ⟨hne, hs⟩
      · cases h
theorem pairsL_snoc (us vs : List (List UInt8)) (x y : List UInt8) : pairsL (us ++ [x]) (vs ++ [y]) = (x, y) :: pairsL us vs := by
  unfold pairsL
  rw [List.reverse_append, List.reverse_append]
  rfl
theorem last_snoc (us : List (List UInt8)) (x : List UInt8) : (us ++ [x]).getLastD [] = x := by
  rw [List.getLastD_eq_getLast?, List.getLast?_append]
  rfl
theorem step_inj {c : Bool} {p q h k : List UInt8} (hp : p.length = 32) (hq : q.length = 32) (hh : h.length = 32) (hk : k.length = 32) (e : (1 : UInt8) :: (if c = true then p ++ h else h ++ p) = 1 :: (if c = true then q ++ k else k ++ q)) : p = q ∧ h = k := by
  have e := (List.cons.inj e).2
  cases c with
  | true => exact List.append_inj (by simpa using e) (by omega)
  | false =>
    have := List.append_inj (s₁ := h) (s₂ := k) (t₁ := p) (t₂ := q) (by simpa using e) (by omega)
    exact ⟨this.2, this.1⟩
theorem firstL_none {x y : List UInt8} {l : List (List UInt8 × List UInt8)} (h : firstL ((x, y) :: l) = none) (hs : shaOf x = shaOf y) : x = y ∧ firstL l = none := by
  rw [firstL] at h
  by_cases hxy : x = y
  · rw [if_pos hxy] at h
    exact ⟨hxy, h⟩
  · rw [if_neg hxy, if_pos hs] at h
    cases h
theorem find_same (p q : List Hs) (a b : List UInt8) : ∀ (m : Nat) (sd : List Bool), sd.length = m → shaOf ((upsT p a sd).getLastD []) = shaOf ((upsT q b sd).getLastD []) → firstL (pairsL (upsT p a sd) (upsT q b sd)) = none → a = b ∧ ∀ j, j < m → p.getD j zeroH = q.getD j zeroH := by
  intro m
  induction m with
  | zero =>
    intro sd hl hs hf
    have := List.eq_nil_of_length_eq_zero hl
    subst this
    refine ⟨?_, fun j hj => absurd hj (by omega)⟩
    have hs : shaOf (0 :: a) = shaOf (0 :: b) := hs
    have hf : firstL [(0 :: a, 0 :: b)] = none := hf
    exact (List.cons.inj (firstL_none hf hs).1).2
  | succ m ih =>
    intro sd hl hs hf
    obtain ⟨sd', c, rfl⟩ : ∃ sd' c, sd = sd' ++ [c] := by
      rcases List.eq_nil_or_concat sd with h | ⟨L, b, h⟩
      · subst h
        simp at hl
      · exact ⟨L, b, by rw [h]; simp⟩
    have hl' : sd'.length = m := by simpa using hl
    rw [upsT_snoc, upsT_snoc] at hs hf
    unfold stepW at hs hf
    rw [last_snoc, last_snoc] at hs
    rw [pairsL_snoc] at hf
    obtain ⟨he, hf⟩ := firstL_none hf hs
    obtain ⟨h1, h2⟩ := step_inj (c := c) (p := (p.getD sd'.length zeroH).1) (q := (q.getD sd'.length zeroH).1) (p.getD sd'.length zeroH).2 (q.getD sd'.length zeroH).2 (shaOf_len _) (shaOf_len _) he
    obtain ⟨h3, h4⟩ := ih sd' hl' h2 hf
    refine ⟨h3, fun j hj => ?_⟩
    by_cases hjm : j < m
    · exact h4 j hjm
    · have : j = sd'.length := by omega
      rw [this]
      exact Subtype.ext h1
theorem last_fold (path : List Hs) : ∀ (ts : List (Nat × Bool)) (k : Nat) (l : List (List UInt8)) (h : Hs), shaH (l.getLastD []) = h → shaH ((((ts.map (·.2)).zipIdx k).foldl (stepW path) l).getLastD []) = ((ts.zipIdx k).map fun p => (p.2, p.1)).foldl (stepC path) h
  | [], k, l, h, e => e
  | t :: ts, k, l, h, e => by
    rw [List.map_cons, List.zipIdx_cons, List.zipIdx_cons, List.map_cons, List.foldl_cons, List.foldl_cons]
    refine last_fold path ts (k + 1) _ _ ?_
    subst e
    obtain ⟨n, c⟩ := t
    unfold stepW stepC
    rw [last_snoc]
    cases c with
    | true => rfl
    | false => rfl
theorem last_foldC (path : List Hs) (leaf : List UInt8) (n i : Nat) : shaH ((upsT path leaf (sidesB n i)).getLastD []) = foldC path (shaH (0 :: leaf)) n i :=
  last_fold path (turnsN n i).reverse 0 [0 :: leaf] _ rfl
/-- The law of finds. -/
theorem finds_law {n i : Int} {a b : List UInt8} {p q : List Hs} (h1 : (climbZ n i (shaH (0 :: a)) p).2 = true) (h2 : (climbZ n i (shaH (0 :: b)) q).2 = true) (h3 : (climbZ n i (shaH (0 :: a)) p).1 = (climbZ n i (shaH (0 :: b)) q).1) (h4 : leavesZ n i a p b q = none) : a = b ∧ p = q := by
  have e1 := climbZ_ok.1 h1
  have e2 := climbZ_ok.1 h2
  have k1 : (climbZ n i zeroH p).2 = true := climbZ_ok.2 e1
  have k2 : (climbZ n i zeroH q).2 = true := climbZ_ok.2 e2
  have f1 : (climbZ n i (shaH (0 :: a)) p).1 = foldC p (shaH (0 :: a)) n.toNat i.toNat := by unfold climbZ; rw [if_pos e1]; rfl
  have f2 : (climbZ n i (shaH (0 :: b)) q).1 = foldC q (shaH (0 :: b)) n.toNat i.toNat := by unfold climbZ; rw [if_pos e2]; rfl
  rw [f1, f2, ← last_foldC, ← last_foldC] at h3
  unfold leavesZ at h4
  rw [if_pos ⟨k1, k2⟩] at h4
  unfold upsZ at h4
  rw [if_pos k1, if_pos k2] at h4
  obtain ⟨h5, h6⟩ := find_same p q a b _ _ rfl (congrArg Subtype.val h3) h4
  rw [sidesB_len] at h6
  refine ⟨h5, ?_⟩
  apply List.ext_getElem (by omega)
  intro j hj hj'
  have := h6 j (by omega)
  rwa [List.getD_eq_getElem?_getD, List.getD_eq_getElem?_getD, List.getElem?_eq_getElem hj, List.getElem?_eq_getElem hj'] at this
theorem finds_some {n i : Int} {a b : List UInt8} {p q : List Hs} {x y : List UInt8} (h : leavesZ n i a p b q = some (x, y)) : x ≠ y ∧ shaOf x = shaOf y := by
  unfold leavesZ at h
  split at h
  · exact firstL_some h
  · cases h
end Go.Proofs.YtfldckjkipmibaaDoor

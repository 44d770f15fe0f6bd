/- The plain law of growth, fourth part: what is told of an honest path and of honest growth is the roots of the parts of the leaves. -/
import Derived.Test.YtkdbinchlpdkmaaDoorQGrowthSays27
import Derived.Test.YtkdbinchlpdkmaaDoorQGrowthSays29
set_option linter.unusedVariables false
set_option linter.unusedSimpArgs false
namespace Go.Proofs.YtkdbinchlpdkmaaDoor
open Go Go.RowKit Go.Proofs.E
/-- A part of the leaves. -/
def sg (L : List Hs) (lo n : Nat) : List Hs := (L.take (lo + n)).drop lo
theorem sg_len {L : List Hs} {lo n : Nat} (h : lo + n ≤ L.length) : (sg L lo n).length = n := by
  unfold sg
  rw [List.length_drop, List.length_take]
  omega
theorem sg_take {L : List Hs} {lo n k : Nat} (h : k ≤ n) : (sg L lo n).take k = sg L lo k := by
  unfold sg
  rw [List.take_drop, List.take_take]
  congr 2
  omega
theorem sg_drop {L : List Hs} {lo n k : Nat} (h : k ≤ n) : (sg L lo n).drop k = sg L (lo + k) (n - k) := by
  unfold sg
  rw [List.drop_drop]
  congr 2
  omega
theorem sg_get {L : List Hs} {lo n i : Nat} (h : i < n) : (sg L lo n)[i]? = L[lo + i]? := by
  unfold sg
  rw [List.getElem?_drop, List.getElem?_take, if_pos (by omega)]
theorem sg_all (L : List Hs) : sg L 0 L.length = L := by
  unfold sg
  rw [List.drop_zero, List.take_of_length_le (by omega)]
/-- A fact speaks of a part of the leaves, and says its root. -/
def Says (L : List Hs) (f : Ft) : Prop := ∃ lo n : Nat, 1 ≤ n ∧ lo + n ≤ L.length ∧ f.1 = (lo : Int) ∧ f.2.1 = ((lo + n : Nat) : Int) ∧ f.2.2.1 = rootH (sg L lo n)
theorem root_sg {L : List Hs} {lo n : Nat} (h2 : 2 ≤ n) (h : lo + n ≤ L.length) (hb : n ≤ 1000000000) : rootH (sg L lo n) = nodeH (rootH (sg L lo (splitN n))) (rootH (sg L (lo + splitN n) (n - splitN n))) := by
  have hs := splitN_lt h2 (by omega)
  have hl := sg_len h
  rw [root_split (by omega) (by omega), hl, sg_take (by omega), sg_drop (by omega)]
theorem says_S {L : List Hs} {lo hi n : Nat} {a : Hs} (h1 : 1 ≤ n) (h : lo + n ≤ L.length) (e : hi = lo + n) (ha : a = rootH (sg L lo n)) : Says L (factS lo hi a) := ⟨lo, n, h1, h, rfl, by rw [e]; rfl, ha⟩
theorem says_N {L : List Hs} {lo hi n : Nat} {a b : Hs} (h1 : 1 ≤ n) (h : lo + n ≤ L.length) (e : hi = lo + n) (ha : nodeH a b = rootH (sg L lo n)) : Says L (factN lo hi a b) := ⟨lo, n, h1, h, rfl, by rw [e]; rfl, ha⟩
theorem says_snoc2 {L : List Hs} {X : List Ft} {a b : Ft} (h : ∀ f ∈ X, Says L f) (ha : Says L a) (hb : Says L b) : ∀ f ∈ X ++ [a, b], Says L f := fun f hf => by
  rcases List.mem_append.1 hf with hf | hf
  · exact h f hf
  · simp only [List.mem_cons, List.not_mem_nil, or_false] at hf
    rcases hf with rfl | rfl
    · exact ha
    · exact hb
theorem says_snoc3 {L : List Hs} {X : List Ft} {a b c : Ft} (h : ∀ f ∈ X, Says L f) (ha : Says L a) (hb : Says L b) (hc : Says L c) : ∀ f ∈ X ++ [a, b, c], Says L f := fun f hf => by
  rcases List.mem_append.1 hf with hf | hf
  · exact h f hf
  · simp only [List.mem_cons, List.not_mem_nil, or_false] at hf
    rcases hf with rfl | rfl | rfl
    · exact ha
    · exact hb
    · exact hc
theorem topF_snoc3 (l : List Ft) (d e f : Ft) : topF (l ++ [d, e, f]) = f.2.2.1 := by
  rw [show l ++ [d, e, f] = (l ++ [d, e]) ++ [f] by simp, topF_snoc]
theorem path_says {L : List Hs} {leaf : List UInt8} : ∀ (n lo i : Nat), n ≤ 1000000000 → i < n → lo + n ≤ L.length → L[lo + i]? = some (inH (0 :: leaf)) →
    (∀ f ∈ pathN lo n i leaf (downH (sg L lo n) i).reverse, Says L f) ∧ topF (pathN lo n i leaf (downH (sg L lo n) i).reverse) = rootH (sg L lo n) := by
  intro n
  induction n using Nat.strongRecOn with
  | _ n ih =>
    intro lo i hb hi hL hx
    have hl := sg_len hL
    by_cases h1 : n ≤ 1
    · obtain rfl : n = 1 := by omega
      obtain rfl : i = 0 := by omega
      have e : sg L lo 1 = [inH (0 :: leaf)] := by
        have hg := sg_get (L := L) (lo := lo) (n := 1) (i := 0) (by omega)
        rw [hx] at hg
        match hs : sg L lo 1, hl, hg with
        | [], hl, _ => simp at hl
        | [x], _, hg => simpa using hg
        | x :: y :: r, hl, _ => simp at hl
      rw [path_one (by omega), e]
      refine ⟨fun f hf => ?_, rfl⟩
      simp only [List.mem_singleton] at hf
      subst hf
      exact ⟨lo, 1, by omega, hL, rfl, rfl, by rw [e]; rfl⟩
    · have hs := splitN_lt (n := n) (by omega) (by omega)
      have hr := root_sg (by omega) hL hb
      by_cases hi2 : i < splitN n
      · rw [down_left (by omega) (by omega) (by rw [hl]; exact hi2), hl, sg_take (by omega), sg_drop (by omega), List.reverse_cons]
        rw [path_left (by omega) (by omega) hi2, take_snoc, getD_snoc']
        obtain ⟨h3, h4⟩ := ih (splitN n) hs.2 lo i (by omega) hi2 (by omega) hx
        rw [topF_snoc2, h4]
        exact ⟨says_snoc2 h3 (says_S (n := n - splitN n) (by omega) (by omega) (by omega) rfl) (says_N (n := n) (by omega) hL rfl hr.symm), hr.symm⟩
      · rw [down_right (by omega) (by omega) (by rw [hl]; exact hi2), hl, sg_take (by omega), sg_drop (by omega), List.reverse_cons]
        rw [path_right (by omega) (by omega) hi2, take_snoc, getD_snoc']
        obtain ⟨h3, h4⟩ := ih (n - splitN n) (by omega) (lo + splitN n) (i - splitN n) (by omega) (by omega) (by omega) (by rw [show lo + splitN n + (i - splitN n) = lo + i by omega]; exact hx)
        rw [topF_snoc2, h4]
        exact ⟨says_snoc2 h3 (says_S (n := splitN n) (by omega) (by omega) rfl rfl) (says_N (n := n) (by omega) hL rfl hr.symm), hr.symm⟩
theorem two_says {L : List Hs} : ∀ (n lo m : Nat) (whole : Bool) (a : Hs), n ≤ 1000000000 → 1 ≤ m → m ≤ n → lo + n ≤ L.length → (whole = true → a = rootH (sg L lo m)) →
    ∃ Y, twoF a lo m n (gdH m (sg L lo n) whole).reverse whole = some (Y, rootH (sg L lo m), rootH (sg L lo n)) ∧ (∀ f ∈ Y, Says L f) ∧ topF Y = rootH (sg L lo n) ∧ ∃ f ∈ Y, f.1 = (lo : Int) ∧ f.2.1 = ((lo + m : Nat) : Int) := by
  intro n
  induction n using Nat.strongRecOn with
  | _ n ih =>
    intro lo m whole a hb h1 hmn hL hw
    have hl := sg_len hL
    by_cases e : m = n
    · subst e
      rw [gd_all (by omega)]
      cases whole with
      | true =>
        rw [hw rfl]
        rw [if_pos rfl]
        refine ⟨[factS lo (lo + m) (rootH (sg L lo m))], by rw [twoF, if_pos rfl, if_pos rfl, if_pos (show ([] : List Hs).reverse.length = 0 from rfl)], ?_, rfl, factS lo (lo + m) (rootH (sg L lo m)), by simp, rfl, rfl⟩
        intro f hf
        simp only [List.mem_singleton] at hf
        subst hf
        exact says_S h1 hL rfl rfl
      | false =>
        rw [if_neg (by simp)]
        refine ⟨[factS lo (lo + m) (rootH (sg L lo m))], by rw [twoF, if_pos rfl, if_neg (by simp), if_pos (show ([rootH (sg L lo m)] : List Hs).reverse.length = 1 from rfl)]; rfl, ?_, rfl, factS lo (lo + m) (rootH (sg L lo m)), by simp, rfl, rfl⟩
        intro f hf
        simp only [List.mem_singleton] at hf
        subst hf
        exact says_S h1 hL rfl rfl
    · have hs := splitN_lt (n := n) (by omega) (by omega)
      have hr := root_sg (by omega) hL hb
      by_cases h2 : m ≤ splitN n
      · rw [gd_left h1 (by omega) (by omega) (by rw [hl]; exact h2), hl, sg_take (by omega), sg_drop (by omega), List.reverse_cons]
        obtain ⟨Y, hY, h3, h4, f, hf, hf1, hf2⟩ := ih (splitN n) hs.2 lo m whole a (by omega) h1 h2 (by omega) hw
        refine ⟨_, by rw [twoF, if_neg e, if_neg (by simp), if_pos h2, take_snoc, getD_snoc', hY, Option.map_some, ← hr], ?_, ?_, f, List.mem_append_left _ hf, hf1, hf2⟩
        · exact says_snoc2 h3 (says_S (n := n - splitN n) (by omega) (by omega) (by omega) rfl) (says_N (n := n) (by omega) hL rfl hr.symm)
        · rw [topF_snoc2]
          exact hr.symm
      · have hsm : splitN m = splitN n := split_same (by omega) (by omega) hmn (by omega)
        have hrm := root_sg (L := L) (lo := lo) (n := m) (by omega) (by omega) (by omega)
        rw [hsm] at hrm
        rw [gd_right h1 (by omega) (by omega) (by rw [hl]; exact h2), hl, sg_take (by omega), sg_drop (by omega), List.reverse_cons]
        obtain ⟨Y, hY, h3, h4, f, hf, hf1, hf2⟩ := ih (n - splitN n) (by omega) (lo + splitN n) (m - splitN n) false a (by omega) (by omega) (by omega) (by omega) (fun h => by cases h)
        refine ⟨_, by rw [twoF, if_neg e, if_neg (by simp), if_neg h2, take_snoc, getD_snoc', hY, Option.map_some, ← hr, ← hrm], ?_, ?_, factN lo (lo + m) (rootH (sg L lo (splitN n))) (rootH (sg L (lo + splitN n) (m - splitN n))), in3b, rfl, rfl⟩
        · exact says_snoc3 h3 (says_S (n := splitN n) (by omega) (by omega) rfl rfl) (says_N (n := m) h1 (by omega) rfl hrm.symm) (says_N (n := n) (by omega) hL rfl hr.symm)
        · rw [topF_snoc3]
          exact hr.symm
theorem pathF_ne : ∀ (f lo n i : Nat) (leaf : List UInt8) (p : List Hs), pathF f lo n i leaf p ≠ []
  | 0, lo, n, i, leaf, p => by simp [pathF]
  | f + 1, lo, n, i, leaf, p => by
    rw [pathF]
    split
    · simp
    · split <;> simp
theorem top_last {fs : List (Fv × List UInt8)} {l : List Ft} (h : fs.map dF = l) (hne : l ≠ []) : fs ≠ [] ∧ ∃ x, fs[fs.length - 1]? = some x ∧ x.1.2.2.1 = topF l := by
  have hf : fs ≠ [] := fun e => hne (by rw [← h, e]; rfl)
  obtain ⟨x, h1, h2⟩ := last_at hf
  refine ⟨hf, x, h2, ?_⟩
  rw [← h]
  unfold topF
  rw [List.getLast?_map, h1]
  rfl
theorem pathG_says {L : List Hs} {i : Nat} {leaf : List UInt8} (hb : L.length ≤ 1000000000) (hx : L[i]? = some (inH (0 :: leaf))) :
    (climbZ (L.length : Int) (i : Int) zeroH (downH L i).reverse).2 = true ∧ pathG (L.length : Int) (i : Int) leaf (downH L i).reverse ≠ [] ∧ (∀ f ∈ pathG (L.length : Int) (i : Int) leaf (downH L i).reverse, Says L f) ∧ topF (pathG (L.length : Int) (i : Int) leaf (downH L i).reverse) = rootH L := by
  have hi : i < L.length := by
    rw [List.getElem?_eq_some_iff] at hx
    exact hx.1
  have h1 : (climbZ (L.length : Int) (i : Int) zeroH (downH L i).reverse).2 = true := by
    rw [climb_two (b := inH (0 :: leaf)), climb_path hb hx]
  obtain ⟨h2, h3⟩ := path_says (L := L) (leaf := leaf) L.length 0 i hb hi (by omega) (by rw [Nat.zero_add]; exact hx)
  rw [sg_all] at h2 h3
  unfold pathG
  rw [if_pos h1, Int.toNat_natCast, Int.toNat_natCast]
  exact ⟨h1, pathF_ne _ _ _ _ _ _, h2, h3⟩
theorem grownO_says {L : List Hs} {m : Nat} (hb : L.length ≤ 1000000000) (h1 : 1 ≤ m) (hm : m ≤ L.length) :
    ∃ Y, grownO (rootH (L.take m)) (m : Int) (L.length : Int) (gdH m L true).reverse = some Y ∧ (∀ f ∈ Y, Says L f) ∧ topF Y = rootH L ∧ ∃ f ∈ Y, f.1 = 0 ∧ f.2.1 = (m : Int) := by
  have e : sg L 0 m = L.take m := by unfold sg; rw [Nat.zero_add, List.drop_zero]
  obtain ⟨Y, hY, h2, h3, f, hf, hf1, hf2⟩ := two_says (L := L) L.length 0 m true (rootH (L.take m)) hb h1 hm (by omega) (fun _ => by rw [e])
  rw [sg_all] at hY h3
  refine ⟨Y, ?_, h2, h3, f, hf, hf1, by rw [hf2, Nat.zero_add]⟩
  unfold grownO
  rw [if_pos (by unfold inW; rw [decide_eq_true_eq]; omega), Int.toNat_natCast, Int.toNat_natCast, hY]
  rfl
end Go.Proofs.YtkdbinchlpdkmaaDoor

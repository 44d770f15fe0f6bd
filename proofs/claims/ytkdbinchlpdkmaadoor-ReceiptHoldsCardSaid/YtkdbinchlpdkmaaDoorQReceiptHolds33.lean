/- Plain: paths and growth of leaves lead to their roots. -/
import Derived.Test.YtkdbinchlpdkmaaDoorQReceiptHolds28
import Derived.Test.YtkdbinchlpdkmaaDoorQReceiptHolds32
set_option linter.unusedVariables false
set_option linter.unusedSimpArgs false
namespace Go.Proofs.YtkdbinchlpdkmaaDoor
open Go Go.RowKit Go.Proofs.E
attribute [local irreducible] Go.wpList Go.Code.wp Go.Proofs.E.exec Go.Proofs.E.wpLexG
theorem root_split {l : List Hs} (h2 : 2 ≤ l.length) (hb : l.length ≤ 1000000000) : rootH l = nodeH (rootH (l.take (splitN l.length))) (rootH (l.drop (splitN l.length))) := rootG_two (nd := nodeH) (em := emptyH) (l := l) h2 (by omega)
theorem getD_snoc (xs : List Hs) (x : Hs) : (xs ++ [x])[(xs ++ [x]).length - 1]? = some x := by
  rw [List.length_append, List.length_singleton, Nat.add_sub_cancel, List.getElem?_append_right (Nat.le_refl _), Nat.sub_self]
  rfl
theorem take_snoc (xs : List Hs) (x : Hs) : (xs ++ [x]).take ((xs ++ [x]).length - 1) = xs := by
  rw [List.length_append, List.length_singleton, Nat.add_sub_cancel, List.take_left' rfl]
/-- A leaf's path leads to the root. -/
theorem path_root (N : Nat) : ∀ (l : List Hs) (i : Nat) (x : Hs), l.length = N → l.length ≤ 1000000000 → l[i]? = some x → foldC (downH l i).reverse x l.length i = rootH l := by
  induction N using Nat.strongRecOn with
  | _ N ih =>
    intro l i x hN hb hx
    have hi : i < l.length := (List.getElem?_eq_some_iff.1 hx).1
    by_cases h1 : l.length ≤ 1
    · unfold foldC
      rw [turns_one h1]
      have h0 : i = 0 := by omega
      subst h0
      match l, h1, hx with
      | [y], _, hx =>
        obtain rfl := Option.some.inj hx
        rfl
    · have hk := splitN_lt (n := l.length) (by omega) (by omega)
      rw [root_split (l := l) (by omega) hb]
      by_cases hs : i < splitN l.length
      · rw [down_left (by omega) hb hs, List.reverse_cons]
        have hlen : (turnsN l.length i).length = ((downH (l.take (splitN l.length)) i).reverse ++ [rootH (l.drop (splitN l.length))]).length := by
          rw [← List.reverse_cons, ← down_left (by omega) hb hs, List.length_reverse, down_turns l.length l i rfl hb]
        have hf := (fold_left (leaf := x) (n := l.length) (i := i) (by omega) (by omega) hs (by simp) (getD_snoc (downH (l.take (splitN l.length)) i).reverse (rootH (l.drop (splitN l.length))))).2 hlen
        rw [hf, take_snoc]
        refine congrArg (fun h => nodeH h _) ?_
        have := ih (l.take (splitN l.length)).length (by rw [List.length_take]; omega) (l.take (splitN l.length)) i x rfl (by rw [List.length_take]; omega) (by rw [List.getElem?_take, if_pos hs]; exact hx)
        rw [List.length_take, Nat.min_eq_left (by omega)] at this
        exact this
      · rw [down_right (by omega) hb hs, List.reverse_cons]
        have hlen : (turnsN l.length i).length = ((downH (l.drop (splitN l.length)) (i - splitN l.length)).reverse ++ [rootH (l.take (splitN l.length))]).length := by
          rw [← List.reverse_cons, ← down_right (by omega) hb hs, List.length_reverse, down_turns l.length l i rfl hb]
        have hf := (fold_right (leaf := x) (n := l.length) (i := i) (by omega) (by omega) hs (by simp) (getD_snoc (downH (l.drop (splitN l.length)) (i - splitN l.length)).reverse (rootH (l.take (splitN l.length))))).2 hlen
        rw [hf, take_snoc]
        refine congrArg (nodeH _) ?_
        have := ih (l.drop (splitN l.length)).length (by rw [List.length_drop]; omega) (l.drop (splitN l.length)) (i - splitN l.length) x rfl (by rw [List.length_drop]; omega) (by rw [List.getElem?_drop, show splitN l.length + (i - splitN l.length) = i by omega]; exact hx)
        rw [List.length_drop] at this
        exact this
theorem climb_path {l : List Hs} {i : Nat} {x : Hs} (hb : l.length ≤ 1000000000) (hx : l[i]? = some x) : climbZ (l.length : Int) (i : Int) x (downH l i).reverse = (rootH l, true) := by
  have hi : i < l.length := (List.getElem?_eq_some_iff.1 hx).1
  unfold climbZ
  rw [Int.toNat_natCast, Int.toNat_natCast, if_pos ⟨inC_t (by omega) hi, by rw [List.length_reverse, down_turns l.length l i rfl hb]⟩]
  have := path_root l.length l i x rfl hb hx
  unfold foldC at this
  rw [this]
theorem getD_snoc' (xs : List Hs) (x : Hs) : (xs ++ [x]).getD ((xs ++ [x]).length - 1) zeroH = x := by rw [List.getD_eq_getElem?_getD, getD_snoc]; rfl
/-- What is told of growth leads to both roots. -/
theorem grown_root (N : Nat) : ∀ (l : List Hs) (m : Nat) (whole : Bool) (a : Hs), l.length = N → l.length ≤ 1000000000 → 1 ≤ m → m ≤ l.length → (whole = true → a = rootH (l.take m)) →
    twoZ a m l.length (gdH m l whole).reverse whole = (rootH (l.take m), rootH l, true) := by
  induction N using Nat.strongRecOn with
  | _ N ih =>
    intro l m whole a hN hb h1 hm ha
    by_cases h : m = l.length
    · have ht : l.take m = l := by rw [h, List.take_length]
      rw [gd_all (by omega), ht]
      rw [ht] at ha
      cases whole with
      | true =>
        rw [twoZ_whole h, ha rfl]
        rfl
      | false =>
        rw [twoZ_one h rfl]
        rfl
    · obtain ⟨j, e, h3, h4⟩ := splitN_spec (n := l.length) (by omega) (by omega)
      have hk := splitN_lt (n := l.length) (by omega) (by omega)
      by_cases hs : m ≤ splitN l.length
      · have htt : (l.take (splitN l.length)).take m = l.take m := by rw [List.take_take, Nat.min_eq_left hs]
        have := ih (l.take (splitN l.length)).length (by rw [List.length_take]; omega) (l.take (splitN l.length)) m whole a rfl (by rw [List.length_take]; omega) h1 (by rw [List.length_take]; omega) (fun h => by rw [htt]; exact ha h)
        rw [htt, List.length_take, Nat.min_eq_left (by omega)] at this
        rw [gd_left h1 (by omega) hb hs, List.reverse_cons, twoZ_left h (by simp) hs (X := rootH (l.take m)) (Y := rootH (l.take (splitN l.length))) (ok := true) (by rw [take_snoc]; exact this), getD_snoc', ← root_split (by omega) hb]
      · have := ih (l.drop (splitN l.length)).length (by rw [List.length_drop]; omega) (l.drop (splitN l.length)) (m - splitN l.length) false a rfl (by rw [List.length_drop]; omega) (by omega) (by rw [List.length_drop]; omega) (fun h => by cases h)
        rw [List.length_drop] at this
        have hsm : splitN (l.take m).length = splitN l.length := by
          rw [List.length_take, Nat.min_eq_left hm, e]
          exact splitN_eq (by omega) (by omega) (by omega)
        have hrm : rootH (l.take m) = nodeH (rootH (l.take (splitN l.length))) (rootH ((l.drop (splitN l.length)).take (m - splitN l.length))) := by
          rw [root_split (l := l.take m) (by rw [List.length_take]; omega) (by rw [List.length_take]; omega), hsm, List.take_take, Nat.min_eq_left (by omega), List.drop_take]
        rw [gd_right h1 (by omega) hb hs, List.reverse_cons, twoZ_right h (by simp) hs (X := rootH ((l.drop (splitN l.length)).take (m - splitN l.length))) (Y := rootH (l.drop (splitN l.length))) (ok := true) (by rw [take_snoc]; exact this), getD_snoc', ← root_split (by omega) hb, ← hrm]
theorem checks_grown {l : List Hs} {m : Nat} (hb : l.length ≤ 1000000) (h1 : 1 ≤ m) (hm : m ≤ l.length) : checksZ (rootH (l.take m)) (rootH l) (m : Int) (l.length : Int) (gdH m l true).reverse = true := by
  unfold checksZ
  rw [inK_t (by omega) (by omega) (by omega), Int.toNat_natCast, Int.toNat_natCast, grown_root l.length l m true (rootH (l.take m)) rfl (by omega) h1 hm (fun _ => rfl)]
  unfold twoOk
  simp
end Go.Proofs.YtkdbinchlpdkmaaDoor

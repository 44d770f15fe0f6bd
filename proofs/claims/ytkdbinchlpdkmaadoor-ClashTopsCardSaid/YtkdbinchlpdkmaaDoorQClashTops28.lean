/- Plain: paths and growth of leaves lead to their roots. -/
import Derived.Test.YtkdbinchlpdkmaaDoorQClashTops26
import Derived.Test.YtkdbinchlpdkmaaDoorQClashTops27
set_option linter.unusedVariables false
set_option linter.unusedSimpArgs false
namespace Go.Proofs.YtkdbinchlpdkmaaDoor
open Go Go.RowKit Go.Proofs.E
attribute [local irreducible] Go.wpList Go.Code.wp Go.Proofs.E.exec Go.Proofs.E.wpLexG
theorem root_split {l : List Hs} (h2 : 2 ≤ l.length) (hb : l.length ≤ 1000000000) : rootH l = nodeH (rootH (l.take (splitN l.length))) (rootH (l.drop (splitN l.length))) := rootG_two (nd := nodeH) (em := emptyH) (l := l) h2 (by omega)
theorem getD_snoc (xs : List Hs) (x : Hs) : (xs ++ [x])[(xs ++ [x]).length - 1]? = some x := by
  rw [List.length_append, List.length_singleton, Nat.add_sub_cancel, List.getElem?_append_right (Nat.le_refl _), Nat.sub_self]
  rfl
theorem take_snoc (xs : List Hs) (x : Hs) : (xs ++ [x]).take ((xs ++ [x]).length - 1) = xs := by
  rw [List.length_append, List.length_singleton, Nat.add_sub_cancel, List.take_left' rfl]
/-- A leaf's path leads to the root. -/
theorem path_root (N : Nat) : ∀ (l : List Hs) (i : Nat) (x : Hs), l.length = N → l.length ≤ 1000000000 → l[i]? = some x → foldC (downH l i).reverse x l.length i = rootH l := by
  induction N using Nat.strongRecOn with
  | _ N ih =>
    intro l i x hN hb hx
    have hi : i < l.length := (List.getElem?_eq_some_iff.1 hx).1
    by_cases h1 : l.length ≤ 1
    · unfold foldC
      rw [turns_one h1]
      have h0 : i = 0 := by omega
      subst h0
      match l, h1, hx with
      | [y], _, hx =>
        obtain rfl := Option.some.inj hx
        rfl
    · have hk := splitN_lt (n := l.length) (by omega) (by omega)
      rw [root_split (l := l) (by omega) hb]
      by_cases hs : i < splitN l.length
      · rw [down_left (by omega) hb hs, List.reverse_cons]
        have hlen : (turnsN l.length i).length = ((downH (l.take (splitN l.length)) i).reverse ++ [rootH (l.drop (splitN l.length))]).length := by
          rw [← List.reverse_cons, ← down_left (by omega) hb hs, List.length_reverse, down_turns l.length l i rfl hb]
        have hf := (fold_left (leaf := x) (n := l.length) (i := i) (by omega) (by omega) hs (by simp) (getD_snoc (downH (l.take (splitN l.length)) i).reverse (rootH (l.drop (splitN l.length))))).2 hlen
        rw [hf, take_snoc]
        refine congrArg (fun h => nodeH h _) ?_
        have := ih (l.take (splitN l.length)).length (by rw [List.length_take]; omega) (l.take (splitN l.length)) i x rfl (by rw [List.length_take]; omega) (by rw [List.getElem?_take, if_pos hs]; exact hx)
        rw [List.length_take, Nat.min_eq_left (by omega)] at this
        exact this
      · rw [down_right (by omega) hb hs, List.reverse_cons]
        have hlen : (turnsN l.length i).length = ((downH (l.drop (splitN l.length)) (i - splitN l.length)).reverse ++ [rootH (l.take (splitN l.length))]).length := by
          rw [← List.reverse_cons, ← down_right (by omega) hb hs, List.length_reverse, down_turns l.length l i rfl hb]
        have hf := (fold_right (leaf := x) (n := l.length) (i := i) (by omega) (by omega) hs (by simp) (getD_snoc (downH (l.drop (splitN l.length)) (i - splitN l.length)).reverse (rootH (l.take (splitN l.length))))).2 hlen
        rw [hf, take_snoc]
        refine congrArg (nodeH _) ?_
        have := ih (l.drop (splitN l.length)).length (by rw [List.length_drop]; omega) (l.drop (splitN l.length)) (i - splitN l.length) x rfl (by rw [List.length_drop]; omega) (by rw [List.getElem?_drop, show splitN l.length + (i - splitN l.length) = i by omega]; exact hx)
        rw [List.length_drop] at this
        exact this
theorem climb_path {l : List Hs} {i : Nat} {x : Hs} (hb : l.length ≤ 1000000000) (hx : l[i]? = some x) : climbZ (l.length : Int) (i : Int) x (downH l i).reverse = (rootH l, true) := by
  have hi : i < l.length := (List.getElem?_eq_some_iff.1 hx).1
  unfold climbZ
  rw [Int.toNat_natCast, Int.toNat_natCast, if_pos ⟨inC_t (by omega) hi, by rw [List.length_reverse, down_turns l.length l i rfl hb]⟩]
  have := path_root l.length l i x rfl hb hx
  unfold foldC at this
  rw [this]
end Go.Proofs.YtkdbinchlpdkmaaDoor

/- Walks: the root of leaves, row by row. -/
import Derived.Test.YtnkkeehoejmcnaaDoorTree
import Derived.Test.YtnkkeehoejmcnaaDoorU
set_option linter.unusedVariables false
set_option linter.unusedSimpArgs false
namespace Go.Proofs.YtnkkeehoejmcnaaDoor
open Go Go.RowKit Go.Proofs.E
attribute [local irreducible] Go.wpList Go.Code.wp Go.Proofs.E.exec Go.Proofs.E.wpLexG

section
variable {α : Type} {nd : α → α → α}
theorem halve_get : ∀ (n : Nat) (l : List α) (a b : α), l[2 * n]? = some a → l[2 * n + 1]? = some b → (halve nd l)[n]? = some (nd a b)
  | n, [], a, b, h, _ => by simp at h
  | n, [x], a, b, _, h => by simp at h
  | 0, x :: y :: r, a, b, h1, h2 => by
    simp at h1 h2
    subst h1 h2
    simp [halve]
  | n + 1, x :: y :: r, a, b, h1, h2 => by
    rw [halve, List.getElem?_cons_succ]
    exact halve_get n r a b (by simpa [Nat.mul_succ] using h1) (by simpa [Nat.mul_succ] using h2)
theorem halve_last : ∀ (n : Nat) (l : List α) (a : α), l.length = 2 * n + 1 → l[2 * n]? = some a → (halve nd l)[n]? = some a
  | n, [], a, h, _ => by simp at h
  | 0, [x], a, _, h => by simpa [halve] using h
  | n + 1, [x], a, h, _ => by simp at h
  | 0, x :: y :: r, a, h, _ => by simp at h
  | n + 1, x :: y :: r, a, h1, h2 => by
    rw [halve, List.getElem?_cons_succ]
    exact halve_last n r a (by simpa [Nat.mul_succ] using h1) (by simpa [Nat.mul_succ] using h2)
theorem ys_step {ys hr : List α} {n : Nat} {x : α} (h1 : ys.take n = hr.take n) (hn : n < ys.length) (hx : hr[n]? = some x) : (ys.set n x).take (n + 1) = hr.take (n + 1) := by
  rw [List.take_add_one, List.take_add_one, hx, List.getElem?_set_self hn, List.take_set, List.set_eq_of_length_le (by rw [List.length_take]; omega), h1]
end

end Go.Proofs.YtnkkeehoejmcnaaDoor

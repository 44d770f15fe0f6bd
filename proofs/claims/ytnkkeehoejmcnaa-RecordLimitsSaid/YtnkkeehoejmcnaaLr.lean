/- A loop whose ways out all come to the same: what holds behind it is said once. -/
import Derived.Test.YtnkkeehoejmcnaaE
set_option linter.unusedVariables false
set_option linter.unusedSimpArgs false
namespace Go.Proofs.E
open Go Go.RowKit
theorem inBlock_mono {i : Nat} {Q Q' : Exit → Act → World → Prop} (h : ∀ e a w, Q e a w → Q' e a w) {e : Exit} {a : Act} {w : World} (hq : Exit.inBlock i Q e a w) : Exit.inBlock i Q' e a w := by
  cases e with
  | exit id =>
    unfold Exit.inBlock at hq ⊢
    by_cases hc : id = i
    · simp only [hc, if_true] at hq ⊢
      exact h _ _ _ hq
    · simp only [hc, if_false] at hq ⊢
      exact h _ _ _ hq
  | _ => exact h _ _ _ hq
def OutJ (J : List Value → World → Prop) : Exit → Act → World → Prop := fun e a w => e = .normal ∧ ∃ l, a = fr l ∧ J l w
theorem outJ {J : List Value → World → Prop} {l : List Value} {w : World} (h : J l w) : OutJ J .normal (fr l) w := ⟨rfl, l, rfl, h⟩
theorem c_loopJ {P : Program} {c : Code} {i : Nat} {K : Act → World → Prop} {Q : Exit → Act → World → Prop} {l : List Value} {w : World} (I : Nat → List Value → World → Prop) (J : List Value → World → Prop) (n : Nat) (h0 : I n l w)
    (hr : ∀ (k : Nat) (l : List Value) (w : World), I k l w → c.wp P (Exit.then (Goes I k) (Exit.inBlock i (OutJ J))) (fr l) w) (hk : ∀ l w, J l w → K (fr l) w) : (Code.loop c).wp P (Exit.inBlock i (Exit.then K Q)) (fr l) w :=
  wp_mono (c_loop I n h0 hr) fun e a w h => inBlock_mono (fun e a w h => by
    obtain ⟨rfl, l, rfl, hj⟩ := h
    exact hk l w hj) h
/-- The same for a choice. -/
theorem c_condJ {P : Program} {c : Operand} {x y : Code} {b : Bool} {K : Act → World → Prop} {Q : Exit → Act → World → Prop} {l : List Value} {w : World} (J : List Value → World → Prop) (hc : ev l c = .bool b) (ht : b = true → x.wp P (OutJ J) (fr l) w) (hf : b = false → y.wp P (OutJ J) (fr l) w)
    (hk : ∀ l w, J l w → K (fr l) w) : (Code.cond c x y).wp P (Exit.then K Q) (fr l) w :=
  wp_mono (c_condb hc ht hf) fun e a w h => by
    obtain ⟨rfl, l, rfl, hj⟩ := h
    exact hk l w hj
/-- The same for any code. -/
theorem c_cutJ {P : Program} {c : Code} {K : Act → World → Prop} {Q : Exit → Act → World → Prop} {l : List Value} {w : World} (J : List Value → World → Prop) (h : c.wp P (OutJ J) (fr l) w) (hk : ∀ l w, J l w → K (fr l) w) : c.wp P (Exit.then K Q) (fr l) w :=
  wp_mono h fun e a w h => by
    obtain ⟨rfl, l, rfl, hj⟩ := h
    exact hk l w hj
end Go.Proofs.E

/- Words shared by the laws of paths: pairs, remainders, three blocks in any order. -/
import Derived.Test.YtkdbinchlpdkmaaDoorQClashTops22
import Derived.Test.YtkdbinchlpdkmaaDoorQClashTops13
import Derived.Test.YtkdbinchlpdkmaaDoorQClashTops21
set_option linter.unusedVariables false
set_option linter.unusedSimpArgs false
namespace Go.Proofs.E
open Go Go.RowKit
section
variable {P : Program} {ops : Array Oper} {N : Nat} {S : List Nat} {Q : Exit → Act → World → Prop} {z : List Nat × List Nat} {fuel : Nat} {listed : Array Bool} {a : Act} {l l' : List Value} {w : World}
  {T : TypeId} {pos : String} {after : Array Edge}
end
end Go.Proofs.E
namespace Go.Proofs.YtkdbinchlpdkmaaDoor
open Go Go.RowKit Go.Proofs.E
attribute [local irreducible] Go.wpList Go.Code.wp Go.Proofs.E.exec Go.Proofs.E.wpLexG
def hv2 (a b : Hs) : Value := .agg ([a, b].flatMap eH.f).toArray
theorem down_turns (N : Nat) : ∀ (l : List Hs) (i : Nat), l.length = N → l.length ≤ 1000000000 → (downH l i).length = (turnsN l.length i).length := by
  induction N using Nat.strongRecOn with
  | _ N ih =>
    intro l i hN hb
    by_cases h1 : l.length ≤ 1
    · rw [down_one h1, turns_one h1]
      rfl
    · have hk := splitN_lt (n := l.length) (by omega) (by omega)
      by_cases hi : i < splitN l.length
      · have := ih (l.take (splitN l.length)).length (by rw [List.length_take]; omega) (l.take (splitN l.length)) i rfl (by rw [List.length_take]; omega)
        rw [down_left (by omega) hb hi, turns_left (by omega) (by omega) hi, List.length_cons, List.length_cons, this, List.length_take, Nat.min_eq_left (by omega)]
      · have := ih (l.drop (splitN l.length)).length (by rw [List.length_drop]; omega) (l.drop (splitN l.length)) (i - splitN l.length) rfl (by rw [List.length_drop]; omega)
        rw [down_right (by omega) hb hi, turns_right (by omega) (by omega) hi, List.length_cons, List.length_cons, this, List.length_drop]
theorem remN (a b : Nat) : ((a : Int).tmod (b : Int)) = ((a % b : Nat) : Int) := (Int.ofNat_tmod a b).symm
end Go.Proofs.YtkdbinchlpdkmaaDoor

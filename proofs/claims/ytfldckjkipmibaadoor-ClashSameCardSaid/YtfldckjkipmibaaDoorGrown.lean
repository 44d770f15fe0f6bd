/- Walks: what shows that leaves have grown of the first of them, the program's and the reference's.
   Walks: what shows that leaves have grown of the first of them, the reference's. -/
import Derived.Test.YtfldckjkipmibaaDoorPath
set_option linter.unusedVariables false
set_option linter.unusedSimpArgs false
namespace Go.Proofs.YtfldckjkipmibaaDoor
open Go Go.RowKit Go.Proofs.E
attribute [local irreducible] Go.wpList Go.Code.wp Go.Proofs.E.exec Go.Proofs.E.wpLexG
/-- The sides, from the root down, of the way to where the first m end. -/
def gdF : Nat → Nat → List Hs → Bool → List Hs
  | 0, m, l, b => if b = true then [] else [rootH l]
  | f + 1, m, l, b => if l.length ≤ m then (if b = true then [] else [rootH l]) else if m ≤ splitN l.length then rootH (l.drop (splitN l.length)) :: gdF f m (l.take (splitN l.length)) b else rootH (l.take (splitN l.length)) :: gdF f (m - splitN l.length) (l.drop (splitN l.length)) false
def gdH (m : Nat) (l : List Hs) (b : Bool) : List Hs := gdF l.length m l b
theorem gdF_any : ∀ (f g m : Nat) (l : List Hs) (b : Bool), 1 ≤ m → l.length ≤ f → l.length ≤ g → l.length ≤ 9223372036854775807 → gdF f m l b = gdF g m l b
  | 0, 0, m, l, b, _, _, _, _ => rfl
  | 0, g + 1, m, l, b, hm, h, _, _ => by rw [gdF, gdF, if_pos (by omega : l.length ≤ m)]
  | f + 1, 0, m, l, b, hm, _, h, _ => by rw [gdF, gdF, if_pos (by omega : l.length ≤ m)]
  | f + 1, g + 1, m, l, b, hm, hf, hg, hb => by
    rw [gdF, gdF]
    by_cases h : l.length ≤ m
    · rw [if_pos h, if_pos h]
    · rw [if_neg h, if_neg h]
      have := splitN_lt (n := l.length) (by omega) hb
      by_cases h2 : m ≤ splitN l.length
      · rw [if_pos h2, if_pos h2, gdF_any f g m (l.take _) b hm (by rw [List.length_take]; omega) (by rw [List.length_take]; omega) (by rw [List.length_take]; omega)]
      · rw [if_neg h2, if_neg h2, gdF_any f g (m - splitN l.length) (l.drop _) false (by omega) (by rw [List.length_drop]; omega) (by rw [List.length_drop]; omega) (by rw [List.length_drop]; omega)]
theorem gd_all {m : Nat} {l : List Hs} {b : Bool} (h : l.length ≤ m) : gdH m l b = if b = true then [] else [rootH l] := by
  have : ∀ f, gdF f m l b = if b = true then [] else [rootH l] := by
    intro f
    cases f with
    | zero => rfl
    | succ f => rw [gdF, if_pos h]
  exact this _
theorem gd_left {m : Nat} {l : List Hs} {b : Bool} (hm : 1 ≤ m) (h : m < l.length) (hb : l.length ≤ 1000000000) (h2 : m ≤ splitN l.length) : gdH m l b = rootH (l.drop (splitN l.length)) :: gdH m (l.take (splitN l.length)) b := by
  have := splitN_lt (n := l.length) (by omega) (by omega)
  unfold gdH
  obtain ⟨f, hf⟩ : ∃ f, l.length = f + 1 := ⟨l.length - 1, by omega⟩
  conv => lhs; rw [hf, gdF]
  rw [if_neg (by omega), if_pos h2, gdF_any f _ m (l.take _) b hm (by rw [List.length_take]; omega) (Nat.le_refl _) (by rw [List.length_take]; omega)]
theorem gd_right {m : Nat} {l : List Hs} {b : Bool} (hm : 1 ≤ m) (h : m < l.length) (hb : l.length ≤ 1000000000) (h2 : ¬ m ≤ splitN l.length) : gdH m l b = rootH (l.take (splitN l.length)) :: gdH (m - splitN l.length) (l.drop (splitN l.length)) false := by
  have := splitN_lt (n := l.length) (by omega) (by omega)
  unfold gdH
  obtain ⟨f, hf⟩ : ∃ f, l.length = f + 1 := ⟨l.length - 1, by omega⟩
  conv => lhs; rw [hf, gdF]
  rw [if_neg (by omega), if_neg h2, gdF_any f _ (m - splitN l.length) (l.drop _) false (by omega) (by rw [List.length_drop]; omega) (Nat.le_refl _) (by rw [List.length_drop]; omega)]
theorem gdF_len : ∀ f m l b, (gdF f m l b).length ≤ f + 1
  | 0, m, l, b => by
    rw [gdF]
    split <;> simp
  | f + 1, m, l, b => by
    rw [gdF]
    split
    · split <;> simp
    · split
      · have := gdF_len f m (l.take (splitN l.length)) b
        simp
        omega
      · have := gdF_len f (m - splitN l.length) (l.drop (splitN l.length)) false
        simp
        omega
theorem gd_len (m : Nat) (l : List Hs) (b : Bool) : (gdH m l b).length ≤ l.length + 1 := gdF_len _ m l b
def inG (m : Int) (n : Nat) : Bool := decide (1 ≤ m) && decide (m ≤ n)
def grownZ (l : List Hs) (m : Int) : List Hs := if inG m l.length = true then (gdH m.toNat l true).reverse else []
theorem inG_t {n m : Nat} (h1 : 1 ≤ m) (h : m ≤ n) : inG (m : Int) n = true := by unfold inG; rw [decide_eq_true (by omega : (1 : Int) ≤ (m : Int)), decide_eq_true (by omega : (m : Int) ≤ (n : Int))]; rfl
theorem inG_f {n : Nat} {m : Int} (h : m < 1 ∨ (n : Int) < m) : inG m n = false := by
  unfold inG
  rcases h with h | h
  · rw [decide_eq_false (by omega), Bool.false_and]
  · rw [decide_eq_false (by omega : ¬ m ≤ (n : Int)), Bool.and_false]
theorem grownZ_t {l : List Hs} {m : Nat} (h1 : 1 ≤ m) (h : m ≤ l.length) : grownZ l (m : Int) = (gdH m l true).reverse := by unfold grownZ; rw [inG_t h1 h, Int.toNat_natCast]; rfl
theorem grownZ_f {l : List Hs} {m : Int} (h : inG m l.length = false) : grownZ l m = [] := by unfold grownZ; rw [h]; rfl
end Go.Proofs.YtfldckjkipmibaaDoor
set_option linter.unusedVariables false
set_option linter.unusedSimpArgs false
namespace Go.Proofs.YtfldckjkipmibaaDoor
open Go Go.RowKit Go.Proofs.E
attribute [local irreducible] Go.wpList Go.Code.wp Go.Proofs.E.exec Go.Proofs.E.wpLexG
end Go.Proofs.YtfldckjkipmibaaDoor

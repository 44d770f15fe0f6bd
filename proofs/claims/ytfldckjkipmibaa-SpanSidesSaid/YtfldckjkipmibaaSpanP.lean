/- Plain laws of the parts beside a range: no hashes. -/
import Derived.Test.YtfldckjkipmibaaSides
set_option linter.unusedVariables false
set_option linter.unusedSimpArgs false
namespace Go.Proofs.Ytfldckjkipmibaa
open Go Go.RowKit Go.Proofs.E
theorem sides_in' (a b : Nat) : ∀ (N lo hi : Nat), hi - lo = N → lo < hi → hi ≤ 9223372036854775807 → ∀ p ∈ sidesN a b lo hi, lo ≤ p.1 ∧ p.1 < p.2 ∧ p.2 ≤ hi := by
  intro N
  induction N using Nat.strongRecOn with
  | _ N ih =>
    intro lo hi hN h hb p hp
    by_cases ho : hi ≤ a ∨ b ≤ lo
    · rw [sides_out h ho] at hp
      simp at hp
      subst hp
      exact ⟨Nat.le_refl _, h, Nat.le_refl _⟩
    · by_cases hi' : hi - lo = 1 ∨ (a ≤ lo ∧ hi ≤ b)
      · rw [sides_in h ho hi'] at hp
        simp at hp
      · have hsp := splitN_lt (n := hi - lo) (by omega) (by omega)
        rw [sides_two h hb ho hi', List.mem_append] at hp
        rcases hp with hp | hp
        · have := ih _ (by omega) lo _ rfl (by omega) (by omega) p hp
          omega
        · have := ih _ (by omega) _ hi rfl (by omega) hb p hp
          omega
theorem sidesZ_mem {n a b : Int} {p : Nat × Nat} (hp : p ∈ sidesZ n a b) : p.1 < p.2 ∧ (p.2 : Int) ≤ n := by
  unfold sidesZ at hp
  split at hp
  · rename_i hm
    unfold mayZ at hm
    simp only [Bool.and_eq_true, decide_eq_true_eq] at hm
    have := sides_in' a.toNat b.toNat _ 0 n.toNat rfl (by omega) (by omega) p hp
    omega
  · simp at hp
/-- Where a walk along the parts stands, that steps over the range. -/
def posN (a b x : Nat) : Nat := if x ≤ a then x else if x ≤ b then a else x
def okPart (a b : Nat) (at_ : Nat) (p : Nat × Nat) : Prop := p.1 = (if at_ = a then b else at_) ∧ p.1 < p.2 ∧ ¬ (a < p.2 ∧ p.1 < b)
def okParts (a b : Nat) : Nat → List (Nat × Nat) → Nat → Prop
  | at_, [], z => at_ = z
  | at_, p :: ps, z => okPart a b at_ p ∧ okParts a b p.2 ps z
theorem okParts_append {a b : Nat} {y z : Nat} : ∀ (ps qs : List (Nat × Nat)) (x : Nat), okParts a b x ps y → okParts a b y qs z → okParts a b x (ps ++ qs) z
  | [], qs, x, h, k => by cases (h : x = y); exact k
  | p :: ps, qs, x, h, k => ⟨h.1, okParts_append ps qs p.2 h.2 k⟩
theorem parts_ok {a b : Nat} (hab : a < b) : ∀ (N lo hi : Nat), hi - lo = N → lo < hi → hi ≤ 9223372036854775807 → okParts a b (posN a b lo) (sidesN a b lo hi) (posN a b hi) := by
  intro N
  induction N using Nat.strongRecOn with
  | _ N ih =>
    intro lo hi hN h hb
    by_cases ho : hi ≤ a ∨ b ≤ lo
    · rw [sides_out h ho]
      refine ⟨⟨?_, h, by omega⟩, ?_⟩
      · show lo = if posN a b lo = a then b else posN a b lo
        rcases ho with ho | ho
        · have e : posN a b lo = lo := by unfold posN; rw [if_pos (by omega)]
          rw [e, if_neg (by omega)]
        · by_cases hl : lo = b
          · have e : posN a b lo = a := by unfold posN; rw [if_neg (by omega), if_pos (by omega)]
            rw [e, if_pos rfl, hl]
          · have e : posN a b lo = lo := by unfold posN; rw [if_neg (by omega), if_neg (by omega)]
            rw [e, if_neg (by omega)]
      · show hi = posN a b hi
        unfold posN
        rcases ho with ho | ho
        · rw [if_pos ho]
        · rw [if_neg (by omega), if_neg (by omega)]
    · by_cases hi' : hi - lo = 1 ∨ (a ≤ lo ∧ hi ≤ b)
      · rw [sides_in h ho hi']
        show posN a b lo = posN a b hi
        unfold posN
        split <;> split <;> (try split) <;> (try split) <;> omega
      · have hsp := splitN_lt (n := hi - lo) (by omega) (by omega)
        rw [sides_two h (by omega) ho hi']
        exact okParts_append _ _ _ (ih _ (by omega) lo _ rfl (by omega) (by omega)) (ih _ (by omega) _ hi rfl (by omega) hb)
end Go.Proofs.Ytfldckjkipmibaa

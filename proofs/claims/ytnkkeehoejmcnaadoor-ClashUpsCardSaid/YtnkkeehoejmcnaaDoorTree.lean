/- A tree over leaves: plain words. -/
import Derived.Test.YtnkkeehoejmcnaaDoorSplitN
import Derived.Test.YtnkkeehoejmcnaaDoorRef
set_option linter.unusedVariables false
set_option linter.unusedSimpArgs false
namespace Go.Proofs.YtnkkeehoejmcnaaDoor
open Go Go.RowKit Go.Proofs.E

section
variable {α : Type} (nd : α → α → α) (em : α)
/-- The root, of n steps at most. -/
def rootF : Nat → List α → α
  | 0, l => l.headD em
  | f + 1, l => if l.length < 2 then l.headD em else nd (rootF f (l.take (splitN l.length))) (rootF f (l.drop (splitN l.length)))
def rootG (l : List α) : α := rootF nd em l.length l
variable {nd em}
theorem rootF_any : ∀ (f g : Nat) (l : List α), l.length ≤ f → l.length ≤ g → l.length ≤ 9223372036854775807 → rootF nd em f l = rootF nd em g l
  | 0, 0, l, _, _, _ => rfl
  | 0, g + 1, l, h, _, _ => by rw [rootF, rootF, if_pos (by omega)]
  | f + 1, 0, l, _, h, _ => by rw [rootF, rootF, if_pos (by omega)]
  | f + 1, g + 1, l, hf, hg, hb => by
    rw [rootF, rootF]
    by_cases h : l.length < 2
    · rw [if_pos h, if_pos h]
    · rw [if_neg h, if_neg h]
      have := splitN_lt (n := l.length) (by omega) hb
      rw [rootF_any f g (l.take _) (by rw [List.length_take]; omega) (by rw [List.length_take]; omega) (by rw [List.length_take]; omega)]
      rw [rootF_any f g (l.drop _) (by rw [List.length_drop]; omega) (by rw [List.length_drop]; omega) (by rw [List.length_drop]; omega)]
theorem rootG_nil : rootG nd em [] = em := rfl
theorem rootG_one (a : α) : rootG nd em [a] = a := rfl
theorem rootG_two {l : List α} (h : 2 ≤ l.length) (hb : l.length ≤ 9223372036854775807) : rootG nd em l = nd (rootG nd em (l.take (splitN l.length))) (rootG nd em (l.drop (splitN l.length))) := by
  have := splitN_lt (n := l.length) h hb
  obtain ⟨f, hf⟩ : ∃ f, l.length = f + 1 := ⟨l.length - 1, by omega⟩
  unfold rootG
  conv => lhs; rw [hf]
  rw [rootF, if_neg (by omega)]
  rw [rootF_any f _ (l.take _) (by rw [List.length_take]; omega) (Nat.le_refl _) (by rw [List.length_take]; omega)]
  rw [rootF_any f _ (l.drop _) (by rw [List.length_drop]; omega) (Nat.le_refl _) (by rw [List.length_drop]; omega)]
/-- One row less. -/
def halve (nd : α → α → α) : List α → List α
  | a :: b :: r => nd a b :: halve nd r
  | l => l
theorem halve_len : ∀ l : List α, (halve nd l).length = (l.length + 1) / 2
  | [] => by simp [halve]
  | [_] => by simp [halve]
  | a :: b :: r => by rw [halve, List.length_cons, halve_len r, List.length_cons, List.length_cons]; omega
theorem halve_app : ∀ (k : Nat) (a b : List α), a.length = 2 * k → halve nd (a ++ b) = halve nd a ++ halve nd b
  | 0, a, b, h => by
    have : a = [] := List.eq_nil_of_length_eq_zero (by omega)
    subst this
    rfl
  | k + 1, [], b, h => by simp at h
  | k + 1, [_], b, h => by simp at h; omega
  | k + 1, x :: y :: a, b, h => by
    show nd x y :: halve nd (a ++ b) = nd x y :: halve nd a ++ halve nd b
    rw [halve_app k a b (by simp at h; omega)]
    rfl
theorem root_halve (n : Nat) : ∀ (l : List α), l.length = n → n ≤ 9223372036854775807 → rootG nd em (halve nd l) = rootG nd em l := by
  induction n using Nat.strongRecOn with
  | _ n ih =>
    intro l hl hb
    match l, hl with
    | [], _ => rfl
    | [_], _ => rfl
    | [a, b], _ =>
      rw [rootG_two (l := [a, b]) (by simp) (by simp)]
      rw [show splitN [a, b].length = 1 from splitN_eq (j := 0) (by simp) (by simp) (by simp)]
      rfl
    | x :: y :: z :: r, hl =>
      generalize hm : x :: y :: z :: r = m at hl
      have h3 : 3 ≤ m.length := by rw [← hm]; simp
      obtain ⟨j, e, h1, h2⟩ := splitN_spec (n := m.length) (by omega) (by omega)
      obtain ⟨i, rfl⟩ : ∃ i, j = i + 1 := by
        cases j with
        | zero => simp at h2; omega
        | succ i => exact ⟨i, rfl⟩
      have hp : 2 ^ (i + 1) = 2 * 2 ^ i := by rw [Nat.pow_succ]; omega
      have hp2 : 2 ^ (i + 1 + 1) = 2 * 2 ^ (i + 1) := by rw [Nat.pow_succ]; omega
      have hpos := Nat.one_le_two_pow (n := i)
      have htl : (m.take (2 ^ (i + 1))).length = 2 ^ (i + 1) := by rw [List.length_take]; omega
      have hdl : (m.drop (2 ^ (i + 1))).length = m.length - 2 ^ (i + 1) := by rw [List.length_drop]
      have hsplit : halve nd m = halve nd (m.take (2 ^ (i + 1))) ++ halve nd (m.drop (2 ^ (i + 1))) := by
        conv => lhs; rw [← List.take_append_drop (2 ^ (i + 1)) m]
        exact halve_app (2 ^ i) _ _ (by rw [htl, hp])
      have hhl : (halve nd m).length = (m.length + 1) / 2 := halve_len m
      have hht : (halve nd (m.take (2 ^ (i + 1)))).length = 2 ^ i := by rw [halve_len, htl]; omega
      have hsp : splitN (halve nd m).length = 2 ^ i := by
        rw [hhl]
        exact splitN_eq (by omega) (by omega) (by omega)
      rw [rootG_two (l := halve nd m) (by omega) (by omega), hsp]
      rw [rootG_two (l := m) (by omega) (by omega), e]
      rw [hsplit, List.take_append_of_le_length (by omega), List.take_of_length_le (by omega)]
      rw [List.drop_append_of_le_length (by omega), List.drop_of_length_le (by omega), List.nil_append]
      rw [ih _ (by omega) (m.take (2 ^ (i + 1))) rfl (by omega)]
      rw [ih _ (by omega) (m.drop (2 ^ (i + 1))) rfl (by omega)]
end
/-! ### Hashes -/
abbrev Hs := { a : List UInt8 // a.length = 32 }
abbrev eH : En Hs := { f := fun a => a.1.map u8v, n := 32, hl := fun a => by rw [List.length_map, a.2], h1 := fun a => one_u8 }
def nodeH (a b : Hs) : Hs := ⟨nodeOf a.1 b.1, nodeOf_len _ _⟩
def emptyH : Hs := ⟨emptyOf, shaOf_len _⟩
def rootH (l : List Hs) : Hs := rootG nodeH emptyH l
end Go.Proofs.YtnkkeehoejmcnaaDoor

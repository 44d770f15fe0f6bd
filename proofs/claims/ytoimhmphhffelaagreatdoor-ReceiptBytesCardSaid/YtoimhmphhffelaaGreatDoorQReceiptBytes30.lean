/- Law 17: what a receipt's bytes are, what is read of bytes (plain): what is read is written so; what is written is read; cut off it is none. -/
import Derived.Test.YtoimhmphhffelaaGreatDoorQReceiptBytes28
import Derived.Test.YtoimhmphhffelaaGreatDoorQReceiptBytes29
set_option linter.unusedVariables false
set_option linter.unusedSimpArgs false
namespace Go.Proofs.YtoimhmphhffelaaGreatDoor
open Go Go.RowKit Go.Proofs.E
def hashT (s : Sr) : Hs × Sr := if h : s.2 = true ∨ s.1.length < 32 then (zeroH, (s.1, true)) else (⟨s.1.take 32, by rw [List.length_take]; omega⟩, (s.1.drop 32, false))
theorem hash_sound : Sound hashT (fun h : Hs => h.1) (fun _ => True) := fun s h => by
  unfold hashT at h ⊢
  split at h <;> rename_i q
  · cases h
  rw [dif_neg q]
  refine ⟨?_, (List.take_append_drop 32 s.1).symm, trivial⟩
  cases hs : s.2 with
  | false => rfl
  | true => exact absurd (.inl hs) q
abbrev RcV := Bs × Nat × Nat × Hs × Hs × List Hs
def rctS (s : Sr) : RcV × Sr :=
  let t := strT 8192 s
  let a := numT 1099511627776 t.2
  let b := numT 1099511627777 a.2
  let c := hashT b.2
  let d := hashT c.2
  let e := timesT 64 hashT d.2
  ((t.1, a.1, b.1, c.1, d.1, e.1), e.2)
def rctB (y : RcV) : Bs := strB y.1 ++ (numB y.2.1 ++ (numB y.2.2.1 ++ (y.2.2.2.1.1 ++ (y.2.2.2.2.1.1 ++ (numB y.2.2.2.2.2.length ++ y.2.2.2.2.2.flatMap (fun h : Hs => h.1))))))
def RctP (y : RcV) : Prop := y.1.length ≤ 8192 ∧ y.2.1 ≤ 1099511627776 ∧ y.2.2.1 ≤ 1099511627777 ∧ y.2.2.2.2.2.length ≤ 64
/-- A receipt, as it is read. -/
abbrev RtV := RecV × Nat × Nat × Hs × Hs × List Hs
def goodT (x : RtV) : Bool := good17 x.2.1 x.2.2.1 x.1.2.1 x.2.2.2.2.2.length (goodV x.1)
def readR (bs : Bs) : Option RtV :=
  if (rctS (bs, false)).2.2 = true ∨ (rctS (bs, false)).2.1 ≠ [] then none else
  match readZ (rctS (bs, false)).1.1 with
  | none => none
  | some x => if goodT (x, (rctS (bs, false)).1.2) = true then some (x, (rctS (bs, false)).1.2) else none
theorem goodT_parts {x : RtV} (h : goodT x = true) : goodV x.1 = true ∧ RctP (recD x.1, x.2) := by
  unfold goodT good17 at h
  rw [Bool.and_eq_true, decide_eq_true_eq] at h
  exact ⟨h.2, (goodV_parts h.2).2, by simp only; omega, by simp only; omega, by simp only; omega⟩
theorem readR_bad {bs : Bs} (h : (rctS (bs, false)).2.2 = true ∨ (rctS (bs, false)).2.1 ≠ []) : readR bs = none := by
  unfold readR
  rw [if_pos h]
def resT : Option RtV → RtV
  | none => ((0, 0, false, [], []), 0, 0, zeroH, zeroH, [])
  | some x => x
end Go.Proofs.YtoimhmphhffelaaGreatDoor

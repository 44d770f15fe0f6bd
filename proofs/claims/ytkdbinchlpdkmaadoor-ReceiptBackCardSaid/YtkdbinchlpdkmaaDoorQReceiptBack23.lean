/- Law 17: what a receipt's bytes are, what is read of bytes (plain): what is read is written so; what is written is read; cut off it is none. -/
import Derived.Test.YtkdbinchlpdkmaaDoorQReceiptBack21
import Derived.Test.YtkdbinchlpdkmaaDoorQReceiptBack22
set_option linter.unusedVariables false
set_option linter.unusedSimpArgs false
namespace Go.Proofs.YtkdbinchlpdkmaaDoor
open Go Go.RowKit Go.Proofs.E
def hashT (s : Sr) : Hs × Sr := if h : s.2 = true ∨ s.1.length < 32 then (zeroH, (s.1, true)) else (⟨s.1.take 32, by rw [List.length_take]; omega⟩, (s.1.drop 32, false))
theorem hash_sound : Sound hashT (fun h : Hs => h.1) (fun _ => True) := fun s h => by
  unfold hashT at h ⊢
  split at h <;> rename_i q
  · cases h
  rw [dif_neg q]
  refine ⟨?_, (List.take_append_drop 32 s.1).symm, trivial⟩
  cases hs : s.2 with
  | false => rfl
  | true => exact absurd (.inl hs) q
theorem hash_comp : Comp hashT (fun h : Hs => h.1) (fun _ => True) := fun x r _ => by
  unfold hashT
  rw [dif_neg (by rintro (h | h); cases h; rw [List.length_append, x.2] at h; omega)]
  have h1 : (x.1 ++ r).take 32 = x.1 := List.take_left' x.2
  have h2 : (x.1 ++ r).drop 32 = r := List.drop_left' x.2
  simp only [h1, h2]
abbrev RcV := Bs × Nat × Nat × Hs × Hs × List Hs
def rctS (s : Sr) : RcV × Sr :=
  let t := strT 8192 s
  let a := numT 1099511627776 t.2
  let b := numT 1099511627777 a.2
  let c := hashT b.2
  let d := hashT c.2
  let e := timesT 64 hashT d.2
  ((t.1, a.1, b.1, c.1, d.1, e.1), e.2)
def rctB (y : RcV) : Bs := strB y.1 ++ (numB y.2.1 ++ (numB y.2.2.1 ++ (y.2.2.2.1.1 ++ (y.2.2.2.2.1.1 ++ (numB y.2.2.2.2.2.length ++ y.2.2.2.2.2.flatMap (fun h : Hs => h.1))))))
def RctP (y : RcV) : Prop := y.1.length ≤ 8192 ∧ y.2.1 ≤ 1099511627776 ∧ y.2.2.1 ≤ 1099511627777 ∧ y.2.2.2.2.2.length ≤ 64
theorem rct_sound : Sound rctS rctB RctP := fun s h => by
  unfold rctS at h ⊢
  simp only at h ⊢
  obtain ⟨e1, e2, e3, e4⟩ := times_sound hash_sound h
  obtain ⟨d1, d2, _⟩ := hash_sound _ e1
  obtain ⟨c1, c2, _⟩ := hash_sound _ d1
  obtain ⟨b1, b2, b3, b4⟩ := num_sound c1
  obtain ⟨a1, a2, a3, a4⟩ := num_sound b1
  obtain ⟨t1, t2, t3⟩ := str_sound a1
  refine ⟨t1, ?_, t3, a3, b3, e3⟩
  unfold rctB
  simp only [List.append_assoc]
  rw [← e2, ← d2, ← c2, ← b2, ← a2]
  exact t2
theorem rct_comp : Comp rctS rctB RctP := fun y r ⟨h1, h2, h3, h4⟩ => by
  obtain ⟨t, a, b, c, d, e⟩ := y
  simp only at h1 h2 h3 h4
  unfold rctS rctB
  simp only [List.append_assoc]
  rw [str_comp h1 (by omega)]
  simp only
  rw [num_comp h2 (by omega)]
  simp only
  rw [num_comp h3 (by omega)]
  simp only
  rw [hash_comp c _ trivial]
  simp only
  rw [hash_comp d _ trivial]
  simp only
  rw [times_comp hash_comp e r h4 (by omega) (fun _ _ => trivial)]
/-- A receipt, as it is read. -/
abbrev RtV := RecV × Nat × Nat × Hs × Hs × List Hs
def goodT (x : RtV) : Bool := good17 x.2.1 x.2.2.1 x.1.2.1 x.2.2.2.2.2.length (goodV x.1)
def rtB (x : RtV) : Bs := rctB (recD x.1, x.2)
def readR (bs : Bs) : Option RtV :=
  if (rctS (bs, false)).2.2 = true ∨ (rctS (bs, false)).2.1 ≠ [] then none else
  match readZ (rctS (bs, false)).1.1 with
  | none => none
  | some x => if goodT (x, (rctS (bs, false)).1.2) = true then some (x, (rctS (bs, false)).1.2) else none
theorem goodT_parts {x : RtV} (h : goodT x = true) : goodV x.1 = true ∧ RctP (recD x.1, x.2) := by
  unfold goodT good17 at h
  rw [Bool.and_eq_true, decide_eq_true_eq] at h
  exact ⟨h.2, (goodV_parts h.2).2, by simp only; omega, by simp only; omega, by simp only; omega⟩
theorem readR_sound {bs : Bs} {x : RtV} (h : readR bs = some x) : bs = rtB x ∧ goodT x = true := by
  unfold readR at h
  split at h
  · cases h
  rename_i h2
  have e1 : (rctS (bs, false)).2.2 = false := by
    cases he : (rctS (bs, false)).2.2 with
    | false => rfl
    | true => exact absurd (.inl he) h2
  have e2 : (rctS (bs, false)).2.1 = [] := Classical.byContradiction fun he => h2 (.inr he)
  obtain ⟨_, g, _⟩ := rct_sound (bs, false) e1
  rw [e2, List.append_nil] at g
  split at h
  · cases h
  rename_i y hy
  split at h
  · rename_i q
    injection h with h
    subst h
    refine ⟨?_, q⟩
    unfold rtB
    rw [← (readZ_sound hy).1]
    exact g
  · cases h
theorem rctS_comp {x : RtV} (h : goodT x = true) (r : Bs) : rctS (rtB x ++ r, false) = ((recD x.1, x.2), (r, false)) := rct_comp _ r (goodT_parts h).2
theorem readR_comp {x : RtV} (h : goodT x = true) : readR (rtB x) = some x := by
  have hc := rctS_comp h []
  rw [List.append_nil] at hc
  unfold readR
  rw [hc]
  simp only [ne_eq, not_true_eq_false, or_false, Bool.false_eq_true, if_false]
  rw [readZ_comp (goodT_parts h).1]
  simp only
  rw [if_pos h]
theorem readR_cut {x : RtV} (h : goodT x = true) {k : Nat} (hk : k < (rtB x).length) : readR ((rtB x).take k) = none := by
  cases hz : readR ((rtB x).take k) with
  | none => rfl
  | some y =>
    exfalso
    obtain ⟨e1, e2⟩ := readR_sound hz
    have h1 := rctS_comp e2 ((rtB x).drop k)
    rw [← e1, List.take_append_drop] at h1
    have h2 := rctS_comp h []
    rw [List.append_nil, h1] at h2
    have h3 := congrArg (fun z : RcV × Sr => z.2.1.length) h2
    simp only [List.length_drop, List.length_nil] at h3
    omega
theorem readR_bad {bs : Bs} (h : (rctS (bs, false)).2.2 = true ∨ (rctS (bs, false)).2.1 ≠ []) : readR bs = none := by
  unfold readR
  rw [if_pos h]
def resT : Option RtV → RtV
  | none => ((0, 0, false, [], []), 0, 0, zeroH, zeroH, [])
  | some x => x
end Go.Proofs.YtkdbinchlpdkmaaDoor

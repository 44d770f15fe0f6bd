/- What an argument that a row opens reads as: from the data's reading to this project's own.
   More of what arguments read as: arrays of what holds no address, structs of two fields.
   What an argument that a row opens reads as, with the bounds of its weights.
   What arguments that a row opens read as: structs of any fields, strings. -/
import Derived.Test.YtoimhmphhffelaaGreatDoorQQueryParses03
import Derived.Test.YtoimhmphhffelaaGreatDoorQQueryParses12
import Derived.ProofKit
import Derived.OpenShut
import Derived.ChangeArms
set_option linter.unusedVariables false
set_option linter.unusedSimpArgs false
namespace Go.Proofs.E
open Go Go.RowKit Go.ChangeShapes Go.WideShapes
section
variable {H : Type} {enc : TypeId × Value → H} {P : Program} {W : World} {base : Nat} {sp : Nat → Bool} {held : Bool}
/-- Whatever cells a type's reading goes through, they are a value of α. -/
def Reads {α : Type} (enc : TypeId × Value → H) (P : Program) (W : World) (base : Nat) (sp : Nat → Bool) (held : Bool) (E : TypeId) (t : Ty α) : Prop :=
  ∀ fuel cs x, DataW.trod enc P W base sp held fuel E cs = some x → ∃ a : α, t.R [] W a cs
theorem cellsOf_inf {E : TypeId} {z : Value} {n by_ : Nat} (hi : Inf P E z n by_) : P.cellsOf E = n := by
  obtain ⟨i, k1, k2, k3, k4⟩ := inf_parts hi
  simp [Program.cellsOf, k1, k3]
/-- An array of integers: its cells, out of what it reads as. -/
theorem trod_arr_int {k : IntKind} {E e : TypeId} {z ze : Value} {n by_ b2 : Nat} [hu : Und P E (.array n e)] [hi : Inf P E z n by_] [he : Und P e (.int k)] [hie : Inf P e ze 1 b2] {fuel : Nat} {cs : List Value} {ns : List Int} {p : List MemPlace}
    (h : DataW.trod enc P W base sp held fuel E cs = some (.agg (ns.map fun q => .lit (.int k q)), p)) : cs = ns.map (Value.int k) := by
  cases fuel with
  | zero => simp [DataW.trod] at h
  | succ fuel =>
    unfold DataW.trod at h
    rw [hu.out] at h
    simp only at h
    split at h
    · rename_i hl
      rw [cellsOf_inf hi] at hl
      obtain ⟨xs, hx, hxe⟩ := Option.map_eq_some_iff.1 h
      simp only [Prod.mk.injEq, DataW.agg.injEq] at hxe
      have hc := cellsOf_inf hie
      have hlen := mapM_some_length hx
      rw [List.length_range] at hlen
      have hnl : ns.length = n := by
        have := congrArg List.length hxe.1
        simpa [hlen] using this.symm
      apply List.ext_getElem?
      intro i
      by_cases hin : i < n
      · have h1 := mapM_some_get hx i i (by rw [List.getElem?_range hin])
        rw [List.getElem?_eq_getElem (by omega), hc, Nat.mul_one] at h1
        obtain ⟨q, hq, hy, hw⟩ := DataW.trod_int he.out h1
        have h2 : i < cs.length := by omega
        rw [List.drop_eq_getElem_cons h2, List.take_succ_cons, List.take_zero] at hq
        injection hq with hq _
        rw [List.getElem?_eq_getElem h2, hq, List.getElem?_map, List.getElem?_eq_getElem (by omega)]
        have h3 := congrArg (fun l => l[i]?) hxe.1
        simp only [List.getElem?_map] at h3
        rw [List.getElem?_eq_getElem (by omega), List.getElem?_eq_getElem (by omega), hy] at h3
        simp only [Option.map_some, Option.some.injEq, DataW.lit.injEq, Lit.int.injEq, true_and] at h3
        rw [h3]
        rfl
      · rw [List.getElem?_eq_none (by omega), List.getElem?_eq_none (by rw [List.length_map]; omega)]
    · cases h
end
end Go.Proofs.E
set_option linter.unusedVariables false
set_option linter.unusedSimpArgs false
namespace Go.Proofs.E
open Go Go.RowKit Go.ChangeShapes Go.WideShapes
section
variable {H : Type} {enc : TypeId × Value → H} {P : Program} {W : World} {base : Nat} {sp : Nat → Bool} {held : Bool}
end
end Go.Proofs.E
set_option linter.unusedVariables false
set_option linter.unusedSimpArgs false
namespace Go.Proofs.E
open Go Go.RowKit Go.ChangeShapes Go.WideShapes
section
variable {H : Type} {enc : TypeId × Value → H} {P : Program} {W : World} {base : Nat} {sp : Nat → Bool} {held : Bool}
def ReadsW {α : Type} (enc : TypeId × Value → H) (P : Program) (W : World) (base : Nat) (sp : Nat → Bool) (held : Bool) (E : TypeId) (t : Ty α) (q : α → Prop) : Prop :=
  ∀ fuel cs x, DataW.trod enc P W base sp held fuel E cs = some x → (∀ n ∈ x.1.weights P E, n ≤ reachBytes) → ∃ a : α, t.R [] W a cs ∧ q a
theorem Reads.w {α : Type} {E : TypeId} {t : Ty α} (h : Reads enc P W base sp held E t) : ReadsW enc P W base sp held E t (fun _ => True) := fun fuel cs x hx _ => let ⟨a, ha⟩ := h fuel cs x hx; ⟨a, ha, trivial⟩
end
end Go.Proofs.E
set_option linter.unusedVariables false
set_option linter.unusedSimpArgs false
namespace Go.Proofs.E
open Go Go.RowKit Go.ChangeShapes Go.WideShapes
section
variable {H : Type} {enc : TypeId × Value → H} {P : Program} {W : World} {base : Nat} {sp : Nat → Bool} {held : Bool}
/-- The fields from o on. -/
def ReadsFs {α : Type} (enc : TypeId × Value → H) (P : Program) (W : World) (base : Nat) (sp : Nat → Bool) (held : Bool) (fs : List Field) (o : Nat) (t : Ty α) (q : α → Prop) : Prop :=
  ∀ fuel (cs : List Value) (xs : List (DataW H × List MemPlace)), fs.mapM (fun f => DataW.trod enc P W base sp held fuel f.type ((cs.drop f.offset).take (P.cellsOf f.type))) = some xs →
    (∀ n ∈ DataW.weightsEach P (fs.map (·.type)) (xs.map (·.1)), n ≤ reachBytes) → cs.length = o + t.n → ∃ a, t.R [] W a (cs.drop o) ∧ q a
theorem ReadsFs.one {α : Type} {f : Field} {o : Nat} {t : Ty α} {q : α → Prop} {z : Value} {m by_ : Nat} (ho : f.offset = o) (h : ReadsW enc P W base sp held f.type t q) [hi : Inf P f.type z m by_] (hm : t.n = m := by exact rfl) : ReadsFs enc P W base sp held [f] o t q := by
  intro fuel cs xs hx hw hl
  subst ho hm
  simp only [List.mapM_cons, List.mapM_nil, Option.bind_eq_bind, Option.pure_def] at hx
  obtain ⟨x, hx1, hx2⟩ := Option.bind_eq_some_iff.1 hx
  simp at hx2
  subst hx2
  rw [cellsOf_inf hi] at hx1
  obtain ⟨a, ha, hq⟩ := h _ _ _ hx1 (fun n hn => hw n (by simp [DataW.weightsEach, hn]))
  rw [List.take_of_length_le (by rw [List.length_drop]; omega)] at ha
  exact ⟨a, ha, hq⟩
theorem ReadsFs.cons {α β : Type} {f : Field} {fs : List Field} {o : Nat} {t : Ty α} {u : Ty β} {q : α → Prop} {r : β → Prop} {z : Value} {m by_ : Nat} (ho : f.offset = o) (h : ReadsW enc P W base sp held f.type t q) (hs : ReadsFs enc P W base sp held fs (o + t.n) u r) [hi : Inf P f.type z m by_] (hm : t.n = m := by exact rfl) :
    ReadsFs enc P W base sp held (f :: fs) o (t.prod u) (fun x => q x.1 ∧ r x.2) := by
  intro fuel cs xs hx hw hl
  subst ho hm
  simp only [List.mapM_cons, Option.bind_eq_bind, Option.pure_def] at hx
  obtain ⟨x, hx1, hx2⟩ := Option.bind_eq_some_iff.1 hx
  obtain ⟨ys, hy, hx3⟩ := Option.bind_eq_some_iff.1 hx2
  simp only [Option.some.injEq] at hx3
  subst hx3
  rw [cellsOf_inf hi] at hx1
  have hl' : cs.length = f.offset + (t.n + u.n) := hl
  obtain ⟨a, ha, hq⟩ := h _ _ _ hx1 (fun n hn => hw n (by simp [DataW.weightsEach, hn]))
  obtain ⟨b, hb, hr⟩ := hs _ cs ys hy (fun n hn => hw n (by simp only [List.map_cons, DataW.weightsEach]; exact List.mem_append.2 (.inr hn))) (by omega)
  refine ⟨(a, b), ⟨_, _, ?_, ha, hb⟩, hq, hr⟩
  rw [← List.drop_drop, List.take_append_drop]
theorem ReadsW.map {α β : Type} {E : TypeId} {t : Ty α} {u : Ty β} {q : α → Prop} {r : β → Prop} (h : ReadsW enc P W base sp held E t q) (f : ∀ a cs, t.R [] W a cs → q a → ∃ b, u.R [] W b cs ∧ r b) : ReadsW enc P W base sp held E u r := fun fuel cs x hx hw =>
  let ⟨a, ha, hq⟩ := h fuel cs x hx hw
  f a cs ha hq
end
end Go.Proofs.E
namespace Go.Proofs.YtoimhmphhffelaaGreatDoor
open Go Go.RowKit Go.Proofs.E
section
variable {H : Type} {enc : TypeId × Value → H} {W : World}
end
end Go.Proofs.YtoimhmphhffelaaGreatDoor

/- Walks: whether records are alike, both.
   Walks: Same, both; the law's own. -/
import Derived.Test.YtkpkfplcoakfcaaDoorRec6
set_option linter.unusedVariables false
set_option linter.unusedSimpArgs false
namespace Go.Proofs.E
open Go Go.RowKit Go.Proofs.YtkpkfplcoakfcaaDoor
theorem Ty.At.part {α β : Type} {en : En α} {e2 : En β} {S : List Nat} {w : World} {b o : Nat} {x : α} {y : β} (k : Nat) (h : (Ty.enc en).At S w b o x) (hp : ((en.f x).drop k).take e2.n = e2.f y) : (Ty.enc e2).At S w b (o + k) y := by
  obtain ⟨hb, hn, cs, hR, hr⟩ := h
  have hR : cs = en.f x := hR
  subst hR
  refine ⟨hb, hn, _, rfl, fun j v hv => ?_⟩
  have hlt : j < e2.n := by
    rw [← e2.hl y]
    exact (List.getElem?_eq_some_iff.1 hv).1
  rw [← hp, List.getElem?_take_of_lt hlt, List.getElem?_drop] at hv
  have := hr (k + j) v hv
  rw [Nat.add_assoc]
  exact this
section
variable {P : Program} {l : List Value} {w : World} {T : TypeId}
end
end Go.Proofs.E
namespace Go.Proofs.YtkpkfplcoakfcaaDoor
open Go Go.RowKit Go.Proofs.E
attribute [local irreducible] Go.wpList Go.Code.wp Go.Proofs.E.exec Go.Proofs.E.wpLexG
abbrev Dat := Bool × Bs × Bs × List Pr
instance decPr : DecidableEq Pr := inferInstanceAs (DecidableEq (List UInt8 × List UInt8 × Bool))
instance decDat : DecidableEq Dat := inferInstanceAs (DecidableEq (Bool × List UInt8 × List UInt8 × List Pr))
end Go.Proofs.YtkpkfplcoakfcaaDoor
set_option linter.unusedVariables false
set_option linter.unusedSimpArgs false
namespace Go.Proofs.YtkpkfplcoakfcaaDoor
open Go Go.RowKit Go.Proofs.E
attribute [local irreducible] Go.wpList Go.Code.wp Go.Proofs.E.exec Go.Proofs.E.wpLexG
/-- A record's value in memory. -/
structure RecM (w : World) (vr vw : Value) (us : List (RR × List Pr)) (wz : List Pr) : Prop where
  r : (Ty.enc eRr).Rd [] w vr (us.map (fun u : RR × List Pr => u.1))
  u : ∀ u ∈ us, (Ty.enc ePr).Rd [] w (slv u.1.2.2.2) u.2
  w : (Ty.enc ePr).Rd [] w vw wz
theorem RecM.ch {w w' : World} {vr vw : Value} {us : List (RR × List Pr)} {wz : List Pr} (h : RecM w vr vw us wz) (hc : Ch [] w w') : RecM w' vr vw us wz := ⟨h.r.ch hc, fun u hu => (h.u u hu).ch hc, h.w.ch hc⟩
end Go.Proofs.YtkpkfplcoakfcaaDoor

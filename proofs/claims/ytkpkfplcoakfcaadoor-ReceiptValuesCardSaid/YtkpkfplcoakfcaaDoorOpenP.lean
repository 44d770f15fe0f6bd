/- What arguments read as: proofs of keys. -/
import Derived.Test.YtkpkfplcoakfcaaDoorOpenH
import Derived.Test.YtkpkfplcoakfcaaDoorClashV
set_option linter.unusedVariables false
set_option linter.unusedSimpArgs false
namespace Go.Proofs.YtkpkfplcoakfcaaDoor
open Go Go.RowKit Go.Proofs.E
section
variable {H : Type} {enc : TypeId × Value → H} {W : World}
abbrev tSt : Ty (Int × Hs) := Ty.prod (tInt .i64) (Ty.enc eH)
theorem rw_step : RW enc W 91 (Ty.enc eSt) (fun _ => True) :=
  (readsW_struct (t := tSt) Tryd.underlying91 (.cons rfl rw_int (.one rfl rw_hash))).map
    (fun a cs h q => ⟨a, by obtain ⟨c, d, rfl, h1, h2⟩ := h; rw [show c = _ from h1, show d = _ from h2]; rfl, trivial⟩)
theorem rw_steps : RW enc W 52 (Ty.sl (Ty.enc eSt)) (fun xs => xs.length ≤ 1099511627776000) :=
  (readsW_slice (E := 52) (e := 91) (t := Ty.enc eSt) rfl (by decide) rw_step).map (fun a cs h q => ⟨a, h, by
    have := q.2
    rw [show Tryd.prog.bytesOf 91 = 40 by kernel_rfl] at this
    have : reachBytes = 140737488351232 := rfl
    omega⟩)
abbrev tPf : Ty (List (Int × Hs) × Bool × Hs × Hs) := Ty.prod (Ty.sl (Ty.enc eSt)) (Ty.prod tBool (Ty.prod (Ty.enc eH) (Ty.enc eH)))
theorem rw_proof : RW enc W 54 tPf (fun x => x.1.length ≤ 1099511627776000) :=
  (readsW_struct (t := tPf) Tryd.underlying54 (.cons rfl rw_steps (.cons rfl rw_bool
    (.cons rfl rw_hash (.one rfl rw_hash))))).map (fun a cs h q => ⟨a, h, q.1⟩)
theorem tPf_out {w : World} {x : List (Int × Hs) × Bool × Hs × Hs} {cs : List Value} (h : tPf.R [] w x cs) : ∃ sp, cs = pC sp x.2.1 x.2.2.1 x.2.2.2 ∧ (Ty.enc eSt).Rd [] w sp x.1 := by
  obtain ⟨c, d, rfl, ⟨sp, h1, h2⟩, c2, d2, rfl, h3, c3, d3, rfl, h4, h5⟩ := h
  rw [h1, show c2 = _ from h3, show c3 = _ from h4, show d3 = _ from h5]
  exact ⟨sp, rfl, h2⟩
end
end Go.Proofs.YtkpkfplcoakfcaaDoor

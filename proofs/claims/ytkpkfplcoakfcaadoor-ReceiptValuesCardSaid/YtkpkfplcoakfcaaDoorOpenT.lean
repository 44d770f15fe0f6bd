/- What law 17's arguments read as: receipts, digests. -/
import Derived.Test.YtkpkfplcoakfcaaDoorOpenR
import Derived.Test.YtkpkfplcoakfcaaDoorOpenH
import Derived.Test.YtkpkfplcoakfcaaDoorRcp1
set_option linter.unusedVariables false
set_option linter.unusedSimpArgs false
namespace Go.Proofs.YtkpkfplcoakfcaaDoor
open Go Go.RowKit Go.Proofs.E
section
variable {H : Type} {enc : TypeId × Value → H} {W : World}
abbrev tDig : Ty (Int × Hs × Hs) := Ty.prod (tInt .i64) (Ty.prod (Ty.enc eH) (Ty.enc eH))
theorem rw_digest : RW enc W 30 tDig (fun _ => True) :=
  (readsW_struct (t := tDig) Tryd.underlying30 (.cons rfl rw_int (.cons rfl rw_hash (.one rfl rw_hash)))).map (fun a cs h q => ⟨a, h, trivial⟩)
theorem tDig_out {w : World} {x : Int × Hs × Hs} {cs : List Value} (h : tDig.R [] w x cs) : ∃ (size : Int) (lg mp : Hs), cs = dC size lg mp := by
  obtain ⟨size, lg, mp⟩ := x
  obtain ⟨c, d, rfl, h1, c2, d2, rfl, h2, h3⟩ := h
  exact ⟨size, lg, mp, by rw [show c = _ from h1, show c2 = _ from h2, show d2 = _ from h3]; rfl⟩
end
end Go.Proofs.YtkpkfplcoakfcaaDoor

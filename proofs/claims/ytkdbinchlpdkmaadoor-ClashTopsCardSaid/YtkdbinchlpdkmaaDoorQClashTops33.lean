/- What a slice of items reads as. -/
import Derived.Test.YtkdbinchlpdkmaaDoorQClashTops10
import Derived.Test.YtkdbinchlpdkmaaDoorQClashTops32
set_option linter.unusedVariables false
set_option linter.unusedSimpArgs false
namespace Go.Proofs.YtkdbinchlpdkmaaDoor
open Go Go.RowKit Go.Proofs.E
section
variable {H : Type} {enc : TypeId × Value → H} {W : World}
theorem rw_item : RW enc W 41 (Ty.enc eKv) (fun _ => True) :=
  (readsW_struct (t := Ty.prod (Ty.enc eH) (Ty.enc eH)) Tryd.underlying41 (.cons rfl rw_hash (.one rfl rw_hash))).map (fun a cs h q => ⟨a, by
    obtain ⟨c, d, rfl, h1, h2⟩ := h
    rw [show c = _ from h1, show d = _ from h2]
    rfl, trivial⟩)
theorem rw_items : RW enc W 24 (Ty.sl (Ty.enc eKv)) (fun _ => True) :=
  (readsW_slice (E := 24) (e := 41) (t := Ty.enc eKv) rfl (by decide) rw_item).map (fun a cs h q => ⟨a, h, trivial⟩)
end
end Go.Proofs.YtkdbinchlpdkmaaDoor

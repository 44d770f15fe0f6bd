/- What arguments read as: hashes. -/
import Derived.Test.YtkdbinchlpdkmaaDoorQClashTops05
import Derived.Test.YtkdbinchlpdkmaaDoorQClashTops09
set_option linter.unusedVariables false
namespace Go.Proofs.YtkdbinchlpdkmaaDoor
open Go Go.RowKit Go.Proofs.E
section
variable {H : Type} {enc : TypeId × Value → H} {W : World}
theorem rw_hash : RW enc W 30 (Ty.enc eH) (fun _ => True) := fun fuel cs x h _ => by
  obtain ⟨bs, hl, hc⟩ := reads_arr8 (m := 0) (E := 30) (e := 5) h
  exact ⟨⟨bs, hl⟩, hc, trivial⟩
end
end Go.Proofs.YtkdbinchlpdkmaaDoor

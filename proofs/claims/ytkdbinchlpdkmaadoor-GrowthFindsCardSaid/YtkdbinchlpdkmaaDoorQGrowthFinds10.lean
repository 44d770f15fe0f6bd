/- What arguments read as: hashes. -/
import Derived.Test.YtkdbinchlpdkmaaDoorQGrowthFinds05
import Derived.Test.YtkdbinchlpdkmaaDoorQGrowthFinds09
set_option linter.unusedVariables false
namespace Go.Proofs.YtkdbinchlpdkmaaDoor
open Go Go.RowKit Go.Proofs.E
section
variable {H : Type} {enc : TypeId × Value → H} {W : World}
theorem rw_hash : RW enc W 30 (Ty.enc eH) (fun _ => True) := fun fuel cs x h _ => by
  obtain ⟨bs, hl, hc⟩ := reads_arr8 (m := 0) (E := 30) (e := 5) h
  exact ⟨⟨bs, hl⟩, hc, trivial⟩
theorem rw_hashes : RW enc W 27 (Ty.sl (Ty.enc eH)) (fun xs => xs.length * 32 ≤ reachBytes) :=
  (readsW_slice (E := 27) (e := 30) (t := Ty.enc eH) rfl (by decide) rw_hash).map (fun a cs h q => ⟨a, h, by
    have := q.2
    rwa [show Tryd.prog.bytesOf 30 = 32 by kernel_rfl] at this⟩)
end
end Go.Proofs.YtkdbinchlpdkmaaDoor

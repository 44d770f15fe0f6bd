/- What arguments read as: hashes. -/
import Derived.Test.YtoimhmphhffelaaGreatDoorQReceiptBytes41
import Derived.Test.YtoimhmphhffelaaGreatDoorQReceiptBytes18
set_option linter.unusedVariables false
namespace Go.Proofs.YtoimhmphhffelaaGreatDoor
open Go Go.RowKit Go.Proofs.E
section
variable {H : Type} {enc : TypeId × Value → H} {W : World}
theorem rw_hash : RW enc W 28 (Ty.enc eH) (fun _ => True) := fun fuel cs x h _ => by
  obtain ⟨bs, hl, hc⟩ := reads_arr8 (m := 0) (E := 28) (e := 5) h
  exact ⟨⟨bs, hl⟩, hc, trivial⟩
theorem rw_hashes : RW enc W 26 (Ty.sl (Ty.enc eH)) (fun xs => xs.length * 32 ≤ reachBytes) :=
  (readsW_slice (E := 26) (e := 28) (t := Ty.enc eH) rfl (by decide) rw_hash).map (fun a cs h q => ⟨a, h, by
    have := q.2
    rwa [show Tryz.prog.bytesOf 28 = 32 by kernel_rfl] at this⟩)
end
end Go.Proofs.YtoimhmphhffelaaGreatDoor

/- Walk: the law RecordBack. -/
import Derived.Test.YtkdbinchlpdkmaaDoorQReceiptBack24
import Derived.Test.YtkdbinchlpdkmaaDoorQReceiptBack09
import Derived.Test.YtkdbinchlpdkmaaDoorQReceiptBack00
import Derived.Test.YtkdbinchlpdkmaaDoorQReceiptBack20
set_option linter.unusedVariables false
set_option linter.unusedSimpArgs false
namespace Go.Proofs.YtkdbinchlpdkmaaDoor
open Go Go.RowKit Go.Proofs.E
attribute [local irreducible] Go.wpList Go.Code.wp Go.Proofs.E.exec Go.Proofs.E.wpLexG
theorem bytesB_V {ses snap : Nat} {strict : Bool} {us : List (RR × List Pr)} {wz : List Pr} (h : goodV (ses, snap, strict, us.map dat, wz) = true) : bytesB (ses : Int) (snap : Int) strict us wz = recD (ses, snap, strict, us.map dat, wz) := by
  have h1 := (goodV_parts h).1
  rw [rightB_dat (vs := us) (map_undat _)] at h1
  unfold bytesB
  rw [if_pos h1, recD_dat]
  rfl
theorem recGood_rt {ses snap : Int} {strict : Bool} {us : List (RR × List Pr)} {wz : List Pr} (h : recGood ses snap strict us wz = true) : rightB ses snap us wz = true := by
  unfold recGood at h
  rw [Bool.and_eq_true] at h
  exact h.1
theorem sameB_rfl {ses snap : Int} {strict : Bool} {us vs : List (RR × List Pr)} {wz : List Pr} (h : us.map dat = vs.map dat) : sameB ses snap strict us wz ses snap strict vs wz = true := by simp [sameB, h]
end Go.Proofs.YtkdbinchlpdkmaaDoor

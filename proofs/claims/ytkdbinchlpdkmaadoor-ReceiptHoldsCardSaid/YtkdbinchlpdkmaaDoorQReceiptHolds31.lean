/- Walks: a key's bits, both.
   Walks: the hashes of nothing, of an item, of a fork, both.
   Walks: the hashes of an item and of a fork, both; structs compared; helpers for blocks that hold hashes.
   Walks: whether a proof of a key may be, both.
   Walks: the root that a proof of a key leads to, both.
   Walks: the root that a proof of a key leads to, both. -/
import Derived.Test.YtkdbinchlpdkmaaDoorQReceiptHolds10
import Derived.Test.YtkdbinchlpdkmaaDoorQReceiptHolds27
set_option linter.unusedVariables false
set_option linter.unusedSimpArgs false
namespace Go.Proofs.YtkdbinchlpdkmaaDoor
open Go Go.RowKit Go.Proofs.E
attribute [local irreducible] Go.wpList Go.Code.wp Go.Proofs.E.exec Go.Proofs.E.wpLexG
def shaH (bs : List UInt8) : Hs := ⟨shaOf bs, shaOf_len bs⟩
end Go.Proofs.YtkdbinchlpdkmaaDoor
set_option linter.unusedVariables false
set_option linter.unusedSimpArgs false
namespace Go.Proofs.YtkdbinchlpdkmaaDoor
open Go Go.RowKit Go.Proofs.E
attribute [local irreducible] Go.wpList Go.Code.wp Go.Proofs.E.exec Go.Proofs.E.wpLexG
theorem rnothing_any (w0 : World) (hK : True) : Calls Tryd.prog 67 #[] w0 (Ret fun u w' => u = hv (shaH [5]).1 ∧ Ch [] w0 w') := by
  have hM := Mem.start w0
  refine enter [undef, undef] Tryd.func67 rfl rfl ?_
  repeat (first | refine gw ?_ | (refine ks ?_; intro w hM))
  refine kal hM (fun w b2 hM => ?_)
  repeat (first | refine gw ?_ | (refine ks ?_; intro w hM))
  refine kca hM ((fun q v ls w (_ : True) => rof_any q v ls w) 5 (.slice none 0 0) [] w (hK) (Ty.Rd.nil _ _ _ _ _) (by decide)) (X := hv (shaH [5]).1) (fun w hM => ?_)
  refine kstw (vs := (shaH [5]).1.map u8v) hM (fun w hM => ?_)
  repeat (first | refine gw ?_ | (refine ks ?_; intro w hM))
  exact koc hM rfl ⟨rfl, hM.ch⟩
end Go.Proofs.YtkdbinchlpdkmaaDoor
set_option linter.unusedVariables false
set_option linter.unusedSimpArgs false
namespace Go.Proofs.YtkdbinchlpdkmaaDoor
open Go Go.RowKit Go.Proofs.E
attribute [local irreducible] Go.wpList Go.Code.wp Go.Proofs.E.exec Go.Proofs.E.wpLexG
@[simp] theorem hs_len (a : Hs) : a.1.length = 32 := a.2
@[simp] theorem hs_take (a : Hs) : (a.1.map u8v).take 32 = a.1.map u8v := List.take_of_length_le (by simp)
@[simp] theorem hs_takeA (a : Hs) (r : List Value) : (a.1.map u8v ++ r).take 32 = a.1.map u8v := List.take_left' (by simp)
@[simp] theorem hs_dropA (a : Hs) (r : List Value) : (a.1.map u8v ++ r).drop 32 = r := List.drop_left' (by simp)
end Go.Proofs.YtkdbinchlpdkmaaDoor
set_option linter.unusedVariables false
set_option linter.unusedSimpArgs false
namespace Go.Proofs.YtkdbinchlpdkmaaDoor
open Go Go.RowKit Go.Proofs.E
attribute [local irreducible] Go.wpList Go.Code.wp Go.Proofs.E.exec Go.Proofs.E.wpLexG
end Go.Proofs.YtkdbinchlpdkmaaDoor
set_option linter.unusedVariables false
set_option linter.unusedSimpArgs false
namespace Go.Proofs.YtkdbinchlpdkmaaDoor
open Go Go.RowKit Go.Proofs.E
attribute [local irreducible] Go.wpList Go.Code.wp Go.Proofs.E.exec Go.Proofs.E.wpLexG
end Go.Proofs.YtkdbinchlpdkmaaDoor
set_option linter.unusedVariables false
set_option linter.unusedSimpArgs false
namespace Go.Proofs.YtkdbinchlpdkmaaDoor
open Go Go.RowKit Go.Proofs.E
attribute [local irreducible] Go.wpList Go.Code.wp Go.Proofs.E.exec Go.Proofs.E.wpLexG
end Go.Proofs.YtkdbinchlpdkmaaDoor

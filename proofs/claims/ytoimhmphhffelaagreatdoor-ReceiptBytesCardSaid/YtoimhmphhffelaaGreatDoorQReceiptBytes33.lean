/- Walks: a key's bits, both.
   Walks: the hashes of nothing, of an item, of a fork, both.
   Walks: the hashes of an item and of a fork, both; structs compared; helpers for blocks that hold hashes.
   Walks: whether a proof of a key may be, both.
   Walks: the root that a proof of a key leads to, both.
   Walks: the root that a proof of a key leads to, both.
   Walks: whether a member's proof is borne out, both. -/
import Derived.Test.YtoimhmphhffelaaGreatDoorQReceiptBytes09
import Derived.Test.YtoimhmphhffelaaGreatDoorQReceiptBytes25
set_option linter.unusedVariables false
set_option linter.unusedSimpArgs false
namespace Go.Proofs.YtoimhmphhffelaaGreatDoor
open Go Go.RowKit Go.Proofs.E
attribute [local irreducible] Go.wpList Go.Code.wp Go.Proofs.E.exec Go.Proofs.E.wpLexG
end Go.Proofs.YtoimhmphhffelaaGreatDoor
set_option linter.unusedVariables false
set_option linter.unusedSimpArgs false
namespace Go.Proofs.YtoimhmphhffelaaGreatDoor
open Go Go.RowKit Go.Proofs.E
attribute [local irreducible] Go.wpList Go.Code.wp Go.Proofs.E.exec Go.Proofs.E.wpLexG
end Go.Proofs.YtoimhmphhffelaaGreatDoor
set_option linter.unusedVariables false
set_option linter.unusedSimpArgs false
namespace Go.Proofs.YtoimhmphhffelaaGreatDoor
open Go Go.RowKit Go.Proofs.E
attribute [local irreducible] Go.wpList Go.Code.wp Go.Proofs.E.exec Go.Proofs.E.wpLexG
@[simp] theorem hs_len (a : Hs) : a.1.length = 32 := a.2
@[simp] theorem hs_take (a : Hs) : (a.1.map u8v).take 32 = a.1.map u8v := List.take_of_length_le (by simp)
@[simp] theorem hs_takeA (a : Hs) (r : List Value) : (a.1.map u8v ++ r).take 32 = a.1.map u8v := List.take_left' (by simp)
@[simp] theorem hs_dropA (a : Hs) (r : List Value) : (a.1.map u8v ++ r).drop 32 = r := List.drop_left' (by simp)
theorem hs_get (a : Hs) (x : Value) (r : List Value) : (a.1.map u8v ++ x :: r)[32]? = some x := by
  rw [List.getElem?_append_right (by simp)]
  simp
theorem hs_get1 (a : Hs) (x y : Value) (r : List Value) : (a.1.map u8v ++ x :: y :: r)[33]? = some y := by
  rw [List.getElem?_append_right (by simp)]
  simp
theorem hs_takeB (a b : Hs) : ((b.1.map u8v ++ a.1.map u8v).drop 32).take 32 = a.1.map u8v := by simp
theorem kldh {P : Program} {ops : Array Oper} {Q : Exit → Act → World → Prop} {rest : List Oper} {l l' : List Value} {O : List Nat} {w0 w : World} {L L' : List As} {T : TypeId} {pos : String} {after : Array Edge} {d : Nat} {x : Operand} {E E' : TypeId} {b o by_ : Nat} {cs : List Value} {z : Value} {a : Hs} [hr : Row P E] [hi : Inf P E z 32 by_] (hM : Mem O w0 w L) (h : wpList P ops Q rest (fr l') w)
    (hx : ev l x = .pointer (some ⟨b, o, none⟩) := by exact rfl) (hp : Pick L (.cell b cs E') L' := by (repeat (first | exact Go.Proofs.E.Pick.here | apply Go.Proofs.E.Pick.there))) (hd : (cs.drop o).take 32 = a.1.map u8v := by first | exact hs_take _ | exact hs_takeA _ _ | exact hs_takeB _ _)
    (hl : l.set d (.agg (a.1.map u8v).toArray) = l' := by first | (dsimp only [List.set, Go.Proofs.E.set1, Go.Proofs.E.ev, Go.Proofs.E.nth]; done) | exact rfl) :
    wpList P ops Q ({ dst := some d, op := .load E x, type := T, pos := pos, after := after, guard := none } :: rest) (fr l) w := by
  subst hl
  exact kldp (a.1.map u8v) hM hd h hx hp (by simp) rfl
theorem gh {G H : Prop} (h : H) (s : Hd H → G := by
  intro h
  (first | ((with_reducible apply is_ld); first | refine kld hM ?_ | refine kldw hM ?_ | refine kle hM ?_ | refine klew hM ?_ | refine kldh hM ?_ | refine kld hM ?_ (hv := by first | exact hs_get _ _ _ | exact hs_get1 _ _ _ _)) | ((with_reducible apply is_st); refine su ?_) | ((with_reducible apply is_gd); first | refine gt ?_ | refine gf ?_ | refine gu ?_) | ((with_reducible apply is_en); refine en ?_) | (with_reducible apply c_region) | refine ws ?_ | refine x_block_other (by decide) ?_ | fail)
  repeat (first | ((with_reducible apply is_ld); first | refine kld hM ?_ | refine kldw hM ?_ | refine kle hM ?_ | refine klew hM ?_ | refine kldh hM ?_ | refine kld hM ?_ (hv := by first | exact hs_get _ _ _ | exact hs_get1 _ _ _ _)) | ((with_reducible apply is_st); refine su ?_) | ((with_reducible apply is_gd); first | refine gt ?_ | refine gf ?_ | refine gu ?_) | ((with_reducible apply is_en); refine en ?_) | (with_reducible apply c_region) | refine ws ?_ | refine x_block_other (by decide) ?_)
  exact h.out) : G := s ⟨h⟩
end Go.Proofs.YtoimhmphhffelaaGreatDoor
set_option linter.unusedVariables false
set_option linter.unusedSimpArgs false
namespace Go.Proofs.YtoimhmphhffelaaGreatDoor
open Go Go.RowKit Go.Proofs.E
attribute [local irreducible] Go.wpList Go.Code.wp Go.Proofs.E.exec Go.Proofs.E.wpLexG
end Go.Proofs.YtoimhmphhffelaaGreatDoor
set_option linter.unusedVariables false
set_option linter.unusedSimpArgs false
namespace Go.Proofs.YtoimhmphhffelaaGreatDoor
open Go Go.RowKit Go.Proofs.E
attribute [local irreducible] Go.wpList Go.Code.wp Go.Proofs.E.exec Go.Proofs.E.wpLexG
end Go.Proofs.YtoimhmphhffelaaGreatDoor
set_option linter.unusedVariables false
set_option linter.unusedSimpArgs false
namespace Go.Proofs.YtoimhmphhffelaaGreatDoor
open Go Go.RowKit Go.Proofs.E
attribute [local irreducible] Go.wpList Go.Code.wp Go.Proofs.E.exec Go.Proofs.E.wpLexG
end Go.Proofs.YtoimhmphhffelaaGreatDoor
set_option linter.unusedVariables false
set_option linter.unusedSimpArgs false
namespace Go.Proofs.YtoimhmphhffelaaGreatDoor
open Go Go.RowKit Go.Proofs.E
attribute [local irreducible] Go.wpList Go.Code.wp Go.Proofs.E.exec Go.Proofs.E.wpLexG
end Go.Proofs.YtoimhmphhffelaaGreatDoor

/- Regions that draw their order: an append onto an empty literal beside another literal, guarded. -/
import Derived.Test.YtoimhmphhffelaaGreatDoorQQueryPrints06
import Derived.Test.YtoimhmphhffelaaGreatDoorQQueryPrints18
set_option linter.unusedVariables false
set_option linter.unusedSimpArgs false
namespace Go.Proofs.E
open Go Go.RowKit
section
variable {P : Program} {ops : Array Oper} {N : Nat} {S : List Nat} {Q : Exit → Act → World → Prop} {z : List Nat × List Nat} {fuel : Nat} {listed : Array Bool} {a : Act} {l l' : List Value} {w : World} {T : TypeId} {pos : String} {after : Array Edge}
/-- Guarded loads, cuts, calls. -/
theorem ynlrt {x : Operand} {E E' : TypeId} {b o d n by_ j tg : Nat} {cs ds : List Value} {zv : Value} [hr1 : Row P E] [hi : Inf P E zv n by_] (k : Nat) (ho : ops[k]? = some { dst := some d, op := .load E x, type := T, pos := pos, after := after, guard := some (j, true) }) (hB : Blk w b cs E') (hlt : b < N) (hS : b ∉ S) (hd : (cs.drop o).take n = ds) (hn : ds.length = n)
    (h : WY P ops N S Q z fuel (listed.setIfInBounds k true) (fr (l.set d (.agg ds.toArray))) w) (hx : ev l x = .pointer (some ⟨b, o, none⟩) := by exact rfl) (hj : (ops[j]?).bind (·.dst) = some tg := by exact rfl) (hv : ev l (.tmp tg) = .bool true := by exact rfl) (hlg : tg < l.length := by exact Nat.le_of_ble_eq_true rfl) (hr : (Region.ready .any ops listed).contains k = true := by kernel_rfl) (hf : Region.free .any ops listed k = true := by kernel_rfl) (hnf : k ∉ z.2 := by decide) : WY P ops N S Q z (fuel + 1) listed (fr l) w :=
  ynvt (hnf := hnf) k ho hr hf hj hv hlg rfl (fun w1 hG => r_load_row hx ((hB.bw hG hlt hS).row hd) hn) rfl h
end
end Go.Proofs.E

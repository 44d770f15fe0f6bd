/- The table that the program's listed variable holds, out of the row's premise; a world in which it lies. -/
import Derived.Test.YtoimhmphhffelaaGreatDoorRows
import Derived.Test.YtoimhmphhffelaaGreatDoorQReceiptBytes14
import Derived.Test.YtoimhmphhffelaaGreatDoorQReceiptBytes41
import Derived.ChangeSame
import Derived.ChangeVars
import Derived.JoinedOf
set_option linter.unusedVariables false
set_option linter.unusedSimpArgs false
namespace Go.Proofs.YtoimhmphhffelaaGreatDoor
open Go Go.RowKit Go.Proofs.E
theorem gNamed : Tryz.prog.globalNamed "indenture/sha.rounds" = some 10 := by kernel_rfl
theorem gType : (Tryz.prog.globals[10]?).map (·.type) = some 246 := by kernel_rfl
def nsK : List Int := K256.map fun x => (x.toNat : Int)
def cellsK : Array Value := (K256.map v32).toArray
theorem laidK {H : Type} : (Rows.laid_indenture_sha_rounds : DataW H) = .agg (nsK.map fun q => .lit (.int .u32 q)) := by rfl
theorem laid_of {W : World} (h : laidMet Tryz.prog [("indenture/sha.rounds", Rows.laid_indenture_sha_rounds)] W) : Laid W := by
  obtain ⟨ps, ⟨g, t, cs, fuel, p, q, hg, ht, hvar, hd, _, _⟩, _⟩ := h
  obtain rfl := Option.some.inj (gNamed.symm.trans hg)
  obtain rfl := Option.some.inj (gType.symm.trans ht)
  rw [laidK] at hd
  have hcs := trod_arr_int (P := Tryz.prog) (E := 246) (e := 231) (k := .u32) hd
  have hmap : nsK.map (Value.int .u32) = K256.map v32 := by
    unfold nsK
    rw [List.map_map]
    rfl
  rw [hmap] at hcs
  have hc : ∀ i, W.cell? ⟨10, i, none⟩ = cs[i]? := fun i => World.var?_cell hg hvar i
  have hc0 : W.cell? ⟨10, 0, none⟩ = some (v32 0x428a2f98) := by
    rw [hc 0, ← Array.getElem?_toList, hcs]
    rfl
  refine ⟨?_, fun j v hv => ?_⟩
  · unfold World.cell? at hc0
    split at hc0
    · rename_i hh
      exact (Array.getElem?_eq_some_iff.1 hh).1
    · cases hc0
  · rw [Nat.zero_add, hc j, ← Array.getElem?_toList, hcs]
    exact hv
noncomputable def laidWorld (os : Os) : World :=
  { World.holding Tryz.prog os ⟨#[], #[], []⟩ with heap := (World.holding Tryz.prog os ⟨#[], #[], []⟩).heap.modify 10 fun
      | .cells _ t frozen => .cells cellsK t frozen
      | o => o }
theorem noIface {cs : List Value} (h : ∀ x ∈ cs, ∀ u v, x ≠ .iface u v) {w : World} {b off : Nat} {t : TypeId} (hw : w.heap[b]? = some (.cells cs.toArray t (0, 0))) (u : TypeId) (v : Value) : w.cell? ⟨b, off, none⟩ ≠ some (.iface u v) := by
  intro hc
  rw [cell_of_row w b off cs.toArray t (0, 0) hw] at hc
  have : cs[off]? = some (.iface u v) := by simpa using hc
  exact h _ (List.mem_of_getElem? this) u v rfl
theorem k_noIface : ∀ x ∈ K256.map v32, ∀ u v, x ≠ .iface u v := fun x hx u v e => by
  obtain ⟨n, _, rfl⟩ := List.mem_map.1 hx
  cases e
end Go.Proofs.YtoimhmphhffelaaGreatDoor

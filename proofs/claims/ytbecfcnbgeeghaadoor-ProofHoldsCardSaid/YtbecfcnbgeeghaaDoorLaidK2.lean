/- The three tables that the listed variables hold, out of a row's premise; a world in which they lie. -/
import Derived.Test.YtbecfcnbgeeghaaDoorLaidK
import Derived.Test.YtbecfcnbgeeghaaDoorCnt
set_option linter.unusedVariables false
set_option linter.unusedSimpArgs false
namespace Go.Proofs.YtbecfcnbgeeghaaDoor
open Go Go.RowKit Go.Proofs.E
def dB32 : List Nat := (List.range 32).map fun i => ((List.range 32).find? fun t => 2 ^ t * 125613361 % 2 ^ 32 / 2 ^ 27 == i).getD 0
def cB32 : List Value := dB32.map fun (n : Nat) => Value.int .u8 (n : Int)
abbrev laid3 : List (String × DataW Unit) := [("math/bits.deBruijn32tab", Rows.laid_math_bits_deBruijn32tab), ("math/bits.deBruijn64tab", Rows.laid_math_bits_deBruijn64tab), ("indenture/sha.rounds", Rows.laid_indenture_sha_rounds)]
theorem gNamed1 : Tryd.prog.globalNamed "math/bits.deBruijn64tab" = some 1 := by kernel_rfl
theorem gType1 : (Tryd.prog.globals[1]?).map (·.type) = some 105 := by kernel_rfl
theorem gNamed0 : Tryd.prog.globalNamed "math/bits.deBruijn32tab" = some 0 := by kernel_rfl
theorem laidB {H : Type} : (Rows.laid_math_bits_deBruijn64tab : DataW H) = .agg ((dB.map fun (n : Nat) => (n : Int)).map fun q => .lit (.int .u8 q)) := by kernel_rfl
theorem laid3_of {W : World} (h : laidMet Tryd.prog laid3 W) : Laid W ∧ LaidB W := by
  obtain ⟨ps, ⟨g0, t0, cs0, fuel0, p0, q0, hg0, ht0, hvar0, hd0, ⟨g1, t1, cs1, fuel1, p1, q1, hg1, ht1, hvar1, hd1, hrest, hq1⟩, hq0⟩, hnd, hif⟩ := h
  refine ⟨laid_of ⟨q1, hrest, ?_, fun b off hm => hif b off ?_⟩, ?_⟩
  · rw [hq0, hq1] at hnd
    exact (List.nodup_append.1 (List.nodup_append.1 hnd).2.1).2.1
  · rw [hq0, hq1]
    simp [hm]
  · obtain rfl := Option.some.inj (gNamed1.symm.trans hg1)
    obtain rfl := Option.some.inj (gType1.symm.trans ht1)
    rw [laidB] at hd1
    have hcs := trod_arr_int (P := Tryd.prog) (E := 105) (e := 5) (k := .u8) hd1
    have hmap : (dB.map fun (n : Nat) => (n : Int)).map (Value.int .u8) = cB := by
      unfold cB
      rw [List.map_map]
      rfl
    rw [hmap] at hcs
    have hc : ∀ i, W.cell? ⟨1, i, none⟩ = cs1[i]? := fun i => World.var?_cell hg1 hvar1 i
    have hc0 : W.cell? ⟨1, 0, none⟩ = some (.int .u8 0) := by
      rw [hc 0, ← Array.getElem?_toList, hcs]
      rfl
    refine ⟨?_, fun j v hv => ?_⟩
    · unfold World.cell? at hc0
      split at hc0
      · rename_i hh
        exact (Array.getElem?_eq_some_iff.1 hh).1
      · cases hc0
    · rw [Nat.zero_add, hc j, ← Array.getElem?_toList, hcs]
      exact hv
def tab (cs : Array Value) : Obj → Obj
  | .cells _ t frozen => .cells cs t frozen
  | o => o
noncomputable def laidWorld3 (os : Os) : World :=
  { World.holding Tryd.prog os ⟨#[], #[], []⟩ with heap := (((World.holding Tryd.prog os ⟨#[], #[], []⟩).heap.modify 0 (tab cB32.toArray)).modify 1 (tab cB.toArray)).modify 2 (tab cellsK) }
theorem noIface {cs : List Value} (h : ∀ x ∈ cs, ∀ u v, x ≠ .iface u v) {w : World} {b off : Nat} {t : TypeId} (hw : w.heap[b]? = some (.cells cs.toArray t (0, 0))) (u : TypeId) (v : Value) : w.cell? ⟨b, off, none⟩ ≠ some (.iface u v) := by
  intro hc
  rw [cell_of_row w b off cs.toArray t (0, 0) hw] at hc
  have : cs[off]? = some (.iface u v) := by simpa using hc
  exact h _ (List.mem_of_getElem? this) u v rfl
theorem ints_noIface {k : IntKind} {ns : List Int} : ∀ x ∈ ns.map (Value.int k), ∀ u v, x ≠ .iface u v := fun x hx u v e => by
  obtain ⟨n, _, rfl⟩ := List.mem_map.1 hx
  cases e
theorem nats_noIface {k : IntKind} {ns : List Nat} : ∀ x ∈ ns.map (fun (n : Nat) => Value.int k (n : Int)), ∀ u v, x ≠ .iface u v := fun x hx u v e => by
  obtain ⟨n, _, rfl⟩ := List.mem_map.1 hx
  cases e
theorem k_noIface : ∀ x ∈ K256.map v32, ∀ u v, x ≠ .iface u v := fun x hx u v e => by
  obtain ⟨n, _, rfl⟩ := List.mem_map.1 hx
  cases e
end Go.Proofs.YtbecfcnbgeeghaaDoor

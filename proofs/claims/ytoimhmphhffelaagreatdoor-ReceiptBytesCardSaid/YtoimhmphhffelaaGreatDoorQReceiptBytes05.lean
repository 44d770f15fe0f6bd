/- More of memory: structs built, results in cells, appends that find no room, that find room. -/
import Derived.Test.YtoimhmphhffelaaGreatDoorQReceiptBytes04
import Derived.Laws.AppendOwn
set_option linter.unusedVariables false
set_option linter.unusedSimpArgs false
namespace Go.Proofs.E
open Go Go.RowKit
section
variable {P : Program} {ops : Array Oper} {Q : Exit → Act → World → Prop} {rest : List Oper} {l : List Value} {w : World} {op : Op} {T : TypeId} {pos : String} {after : Array Edge}
/-- Two results: one that lies in a cell, and one. -/
theorem outc2 {fn : Func} {t s : Nat} {E : TypeId} {R : Value → World → Prop} {b o : Nat} {cs : List Value} {z : Value} {n by_ : Nat} [hr : Row P E] [hi : Inf P E z n by_] (hf : fn.results = #[.cell t E, .tmp s])
    (hx : ev l (.tmp t) = .pointer (some ⟨b, o, none⟩)) (hc : w.rangeAt b o cs) (hn : cs.length = n) (h : R (.tuple #[.agg cs.toArray, ev l (.tmp s)]) w) : bodyPost P fn (Ret R) .ret (fr l) w := by
  subst hn
  obtain ⟨d, h1, h2⟩ := hr.out
  refine ⟨rfl, .tuple #[.agg cs.toArray, ev l (.tmp s)], ?_, _, rfl, h⟩
  have hx' : l.toArray.getD t undef = .pointer (some ⟨b, o, none⟩) := (ev_tmp l t).trans hx
  have hx2 : l[t]?.getD undef = .pointer (some ⟨b, o, none⟩) := by simpa [Array.getD_eq_getD_getElem?] using hx'
  have hs' : l.toArray.getD s undef = ev l (.tmp s) := ev_tmp l s
  have hs2 : l[s]?.getD undef = ev l (.tmp s) := by simpa [Array.getD_eq_getD_getElem?] using hs'
  simp [results, hf, fr, hx2, hs2, asAddr, run_loadVar_mid w b o E cs d hc h1 h2 (info_size hi)]
/-- A struct of two fields, built. -/
theorem fill_two {n0 n1 : Nat} {v0 v1 : Value} {z : List Value} (hz : z.length = n0 + n1) (h0 : v0.cells.size = n0) (h1 : v1.cells.size = n1) : Instr.fill (fun i => #[(0, n0), (n0, n1)][i]?) z.toArray [(0, v0), (1, v1)] = some (v0.cells.toList ++ v1.cells.toList).toArray := by
  have f0 := foldl_set 0 v0.cells.toList 0 z (by simp [h0]; omega)
  have e0 : (v0.cells.zipIdx.foldl (fun (cs : Array Value) (x : Value × Nat) => cs.setIfInBounds (0 + x.2) x.1) z.toArray) = (spl z 0 v0.cells.toList).toArray := by
    rw [← Array.foldl_toList, Array.toList_zipIdx]
    exact f0
  have l0 : (spl z 0 v0.cells.toList).length = n0 + n1 := by rw [spl_length (by simp [h0]; omega), hz]
  have f1 := foldl_set n0 v1.cells.toList 0 (spl z 0 v0.cells.toList) (by simp [h1]; omega)
  have e1 : (v1.cells.zipIdx.foldl (fun (cs : Array Value) (x : Value × Nat) => cs.setIfInBounds (n0 + x.2) x.1) (spl z 0 v0.cells.toList).toArray) = (spl (spl z 0 v0.cells.toList) n0 v1.cells.toList).toArray := by
    rw [← Array.foldl_toList, Array.toList_zipIdx]
    exact f1
  have es : spl (spl z 0 v0.cells.toList) n0 v1.cells.toList = v0.cells.toList ++ v1.cells.toList := by
    have hl0 : v0.cells.toList.length = n0 := by simpa using h0
    have hl1 : v1.cells.toList.length = n1 := by simpa using h1
    have : spl z 0 v0.cells.toList = v0.cells.toList ++ z.drop n0 := by
      unfold spl
      rw [List.take_zero, List.nil_append, Nat.zero_add, hl0]
    rw [this, ← hl0, spl_at _ _ _ (by rw [List.length_drop]; omega), List.drop_of_length_le (by rw [List.length_drop]; omega), List.append_nil]
  have q0 : (#[(0, n0), (n0, n1)] : Array (Nat × Nat))[0]? = some (0, n0) := rfl
  have q1 : (#[(0, n0), (n0, n1)] : Array (Nat × Nat))[1]? = some (n0, n1) := rfl
  simp only [Instr.fill, q0, q1]
  rw [if_neg (by simp [h0, hz]), e0, if_neg (by simp [h1, l0]), e1, es]
theorem r_build2 {t e0 e1 : TypeId} {x0 x1 : Operand} {v0 v1 z z0 z1 : Value} {f0 f1 : Field} {N n0 n1 by_ b0 b1 : Nat} [hi : Inf P t z N by_] [h0 : Inf P e0 z0 n0 b0] [h1 : Inf P e1 z1 n1 b1] (hu : P.underlying t = some (.struct #[f0, f1]))
    (t0 : f0.type = e0) (t1 : f1.type = e1) (o0 : f0.offset = 0) (o1 : f1.offset = n0) (hN : N = n0 + n1) (hz : z.cells.size = N) (hx0 : ev l x0 = v0) (hx1 : ev l x1 = v1) (c0 : v0.cells.size = n0) (c1 : v1.cells.size = n1) :
    (exec (ev l) (.build t #[(0, x0), (1, x1)]) T).run P w = .ok (.value (.agg (v0.cells.toList ++ v1.cells.toList).toArray)) w := by
  subst t0 t1 o1 hN
  have hf := fill_two (z := z.cells.toList) (by simpa using hz) c0 c1
  rw [Array.toArray_toList] at hf
  simp [exec, execOp, Instr.build, run_underlying hu, run_size (hi := h0), run_size (hi := h1), run_zero (hi := hi), hx0, hx1, o0]
  simp at hf
  rw [hf]
  simp
end
end Go.Proofs.E

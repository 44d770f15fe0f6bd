/- More of memory: structs built, results in cells, appends that find no room, that find room. -/
import Derived.Test.YtnkkeehoejmcnaaDoorU
import Derived.Laws.AppendOwn
set_option linter.unusedVariables false
set_option linter.unusedSimpArgs false
namespace Go.Proofs.E
open Go Go.RowKit
section
variable {P : Program} {ops : Array Oper} {Q : Exit → Act → World → Prop} {rest : List Oper} {l : List Value} {w : World} {op : Op} {T : TypeId} {pos : String} {after : Array Edge}
/-- Two results: one that lies in a cell, and one. -/
theorem outc2 {fn : Func} {t s : Nat} {E : TypeId} {R : Value → World → Prop} {b o : Nat} {cs : List Value} {z : Value} {n by_ : Nat} [hr : Row P E] [hi : Inf P E z n by_] (hf : fn.results = #[.cell t E, .tmp s])
    (hx : ev l (.tmp t) = .pointer (some ⟨b, o, none⟩)) (hc : w.rangeAt b o cs) (hn : cs.length = n) (h : R (.tuple #[.agg cs.toArray, ev l (.tmp s)]) w) : bodyPost P fn (Ret R) .ret (fr l) w := by
  subst hn
  obtain ⟨d, h1, h2⟩ := hr.out
  refine ⟨rfl, .tuple #[.agg cs.toArray, ev l (.tmp s)], ?_, _, rfl, h⟩
  have hx' : l.toArray.getD t undef = .pointer (some ⟨b, o, none⟩) := (ev_tmp l t).trans hx
  have hx2 : l[t]?.getD undef = .pointer (some ⟨b, o, none⟩) := by simpa [Array.getD_eq_getD_getElem?] using hx'
  have hs' : l.toArray.getD s undef = ev l (.tmp s) := ev_tmp l s
  have hs2 : l[s]?.getD undef = ev l (.tmp s) := by simpa [Array.getD_eq_getD_getElem?] using hs'
  simp [results, hf, fr, hx2, hs2, asAddr, run_loadVar_mid w b o E cs d hc h1 h2 (info_size hi)]
end
end Go.Proofs.E

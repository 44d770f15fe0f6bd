/- A range over a function, with own memory: the iterator's word and the loop's rule. -/
import Derived.Test.YtnkkeehoejmcnaaDoorK
import Derived.Test.YtnkkeehoejmcnaaDoorIn
set_option linter.unusedVariables false
set_option linter.unusedSimpArgs false
namespace Go.Proofs.E
open Go Go.RowKit
theorem Mem.putObj {O : List Nat} {w0 w : World} {k : Nat} {o o' : Obj} {L : List As} (h : Mem O w0 w (.obj k o :: L)) : Mem O w0 (w.putObj k o') (.obj k o' :: L) :=
  h.put (S := [k]) ⟨rfl, rfl, rfl, by simp [World.putObj], fun j hj hn => World.putObj_heap_other (by simpa using hn)⟩ (fun j hj => show j = k by simpa using hj) (World.putObj_heap_same (Array.getElem?_eq_some_iff.1 h.head).1) (fun j hj => .inl hj)
theorem Mem.newObj {O : List Nat} {w0 w : World} {o : Obj} {L : List As} (h : Mem O w0 w L) : Mem O w0 (w.alloc o) (.obj w.heap.size o :: L) :=
  h.res (Ch.of_below ((Below.refl _ w).alloc (Nat.le_refl _) _)) (World.alloc_heap_new w o) (fun k hk => Nat.le_of_eq (show w.heap.size = k from hk.symm))
end Go.Proofs.E

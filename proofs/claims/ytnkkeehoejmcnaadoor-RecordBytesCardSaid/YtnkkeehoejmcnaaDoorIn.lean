/- Walks inside the rounds of a range over a function. -/
import Derived.Test.YtnkkeehoejmcnaaDoorZ
import Derived.RangeFuncNested
import Derived.RangeFuncBound
import Derived.RangeFuncCalls
import Derived.RangeFuncLeaves
import Derived.TacticsIn
import Derived.OrdersIn
set_option linter.unusedVariables false
set_option linter.unusedSimpArgs false
namespace Go.Proofs.E
open Go Go.RowKit
section
variable {P : Program} {Q : Exit → Act → World → Prop} {r n : Nat} {ops : Array Oper}
variable {l : List Value} {w : World}
/-! ### At the wide fence: a call of yield -/
variable {op : Op} {T : TypeId} {pos : String} {after : Array Edge} {rest : List Oper}
/-! ### With deferred calls at hand -/
theorem put_defers (a : Act) (d : Option Tmp) (v : Value) (ds : List Deferred) : ({ a with defers := ds } : Act).put d v = { a.put d v with defers := ds } := by
  cases d <;> rfl
end
end Go.Proofs.E
namespace Go.Proofs.E
open Go Go.RowKit
/-- Blocks below n lie as they lay, but S's. -/
structure Bw (n : Nat) (S : List Nat) (w w' : World) : Prop where
  os : w'.os = w.os
  tape : w'.tape = w.tape
  output : w'.output = w.output
  size : w.heap.size ≤ w'.heap.size
  block : ∀ k, k < n → k ∉ S → w'.heap[k]? = w.heap[k]?
theorem Bw.then {n : Nat} {S : List Nat} {a b c : World} (h : Bw n S a b) (k : Bw n S b c) : Bw n S a c :=
  ⟨k.os.trans h.os, k.tape.trans h.tape, k.output.trans h.output, Nat.le_trans h.size k.size, fun i hi hS => (k.block i hi hS).trans (h.block i hi hS)⟩
theorem Bw.ch {S : List Nat} {w w' : World} (h : Bw w.heap.size S w w') : Ch S w w' := ⟨h.os, h.tape, h.output, h.size, h.block⟩
theorem Ch.bw {n : Nat} {S : List Nat} {w w' : World} (h : Ch S w w') (hn : n ≤ w.heap.size) : Bw n S w w' := ⟨h.os, h.tape, h.output, h.size, fun k hk hS => h.block k (Nat.lt_of_lt_of_le hk hn) hS⟩
theorem Bw.of_below {n : Nat} {S : List Nat} {w w' : World} (h : Below n w w') : Bw n S w w' := ⟨h.os, h.tape, h.output, h.size, fun k hk _ => h.block k hk⟩
theorem Bw.putObj {n : Nat} {S : List Nat} {w : World} {l : Nat} (o : Obj) (h : n ≤ l) : Bw n S w (w.putObj l o) :=
  ⟨rfl, rfl, rfl, by simp [World.putObj], fun k hk _ => by simp [World.putObj]; exact Array.getElem?_setIfInBounds_ne (by omega)⟩
end Go.Proofs.E
namespace Go.Proofs.E
open Go Go.RowKit
section
variable {P : Program} {l : List Value} {w : World} {T : TypeId}
theorem r_makeFunc {f : Fn} {cs : List Operand} : (exec (ev l) (.makeFunc f #[] cs.toArray) T).run P w = .ok (.value (.func f #[] (cs.map (ev l)).toArray)) w := by
  simp [exec, execOp, Instr.makeFunc]
theorem Blk.put {w : World} {b D : Nat} {cs : List Value} {E : TypeId} (h : Blk w b cs E) (hn : b ≠ D) (o : Obj) : Blk (w.putObj D o) b cs E := by
  unfold Blk at *
  simp [World.putObj]
  rw [Array.getElem?_setIfInBounds_ne (fun e => hn e.symm)]
  exact h
theorem Ch.put (w : World) (D : Nat) (o : Obj) : Ch [D] w (w.putObj D o) := ⟨rfl, rfl, rfl, by simp [World.putObj], fun k hk hn => by
  simp at hn
  simp [World.putObj]
  exact Array.getElem?_setIfInBounds_ne (fun e => hn e.symm)⟩
end
end Go.Proofs.E

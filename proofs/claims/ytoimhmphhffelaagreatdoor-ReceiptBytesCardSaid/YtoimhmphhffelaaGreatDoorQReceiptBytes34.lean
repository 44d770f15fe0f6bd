/- A string turned into bytes; law 17: the hash of a key, both; what a key has by a proof, both.
   Law 17: what a key has by a proof, both: the law's own walk. -/
import Derived.Test.YtoimhmphhffelaaGreatDoorQReceiptBytes33
import Derived.Test.YtoimhmphhffelaaGreatDoorQReceiptBytes28
import Derived.Lib.ConvBytes
set_option linter.unusedVariables false
set_option linter.unusedSimpArgs false
namespace Go.Proofs.E
open Go Go.RowKit
section
variable {P : Program} {ops : Array Oper} {Q : Exit → Act → World → Prop} {rest : List Oper} {l l' : List Value} {O : List Nat} {w0 w : World} {L L' : List As} {T : TypeId} {pos : String} {after : Array Edge}
theorem bytesWorld_rd (w : World) (e : TypeId) (bs : List UInt8) (hb : bs.length ≤ 281474976710656) : Ch [] w (Lib.bytesWorld w e (bst bs)) ∧ tU8.Rd [] (Lib.bytesWorld w e (bst bs)) (.slice (some ⟨w.heap.size, 0, none⟩) bs.length (grownCap w bs.length 0 e)) bs := by
  refine ⟨⟨rfl, rfl, rfl, by rw [Lib.bytesWorld_size]; omega, fun k hk _ => Lib.bytesWorld_at_old w e _ k hk⟩, ?_⟩
  refine ⟨by omega, _, _, rfl, by simpa using grownCap_ge w bs.length 0 e, fun _ => ⟨w.heap.size, 0, rfl, by rw [Lib.bytesWorld_size]; omega, by simp, fun i x hx => ?_⟩⟩
  refine ⟨by rw [Lib.bytesWorld_size]; omega, by simp, [u8v x], rfl, fun j v hj => ?_⟩
  have hi : i < bs.length := (List.getElem?_eq_some_iff.1 hx).1
  cases j with
  | zero =>
    simp at hj
    subst hj
    have := Lib.bytesWorld_cell w e (bst bs) i (by rw [bst_size]; exact hi)
    rw [show 0 + i * tU8.n + 0 = i by show 0 + i * 1 + 0 = i; omega, this, show (bst bs).data.toList = bs from rfl, List.getD_eq_getElem?_getD, hx]
    rfl
  | succ j => simp at hj
/-- A string turned into bytes. -/
theorem kst8 {d : Nat} {x : Operand} {s t e : TypeId} [hs : Und P s .string] [ht : Und P t (.slice e)] [he : Und P e (.int .u8)] (bs : List UInt8) (hM : Mem O w0 w L)
    (h : ∀ w' b c, Ch [] w w' → tU8.Rd [] w' (.slice (some ⟨b, 0, none⟩) bs.length c) bs → Mem O w0 w' L → wpList P ops Q rest (fr (l.set d (.slice (some ⟨b, 0, none⟩) bs.length c))) w')
    (hx : ev l x = .string (bst bs) := by exact rfl) (hb : bs.length ≤ 281474976710656 := by first | decide | omega) :
    wpList P ops Q ({ dst := some d, op := .convert s t x, type := T, pos := pos, after := after, guard := none } :: rest) (fr l) w := by
  have hr := Lib.run_convert_string_bytes (P := P) w s t e (bst bs) hs.out ht.out he.out
  rw [bst_size] at hr
  obtain ⟨hc, hR⟩ := bytesWorld_rd w e bs hb
  exact wl_val (by simp [exec, execOp, hx, hr]) (h _ _ _ hc hR (hM.call hc))
end
end Go.Proofs.E
namespace Go.Proofs.YtoimhmphhffelaaGreatDoor
open Go Go.RowKit Go.Proofs.E
attribute [local irreducible] Go.wpList Go.Code.wp Go.Proofs.E.exec Go.Proofs.E.wpLexG
end Go.Proofs.YtoimhmphhffelaaGreatDoor
set_option linter.unusedVariables false
set_option linter.unusedSimpArgs false
namespace Go.Proofs.YtoimhmphhffelaaGreatDoor
open Go Go.RowKit Go.Proofs.E
attribute [local irreducible] Go.wpList Go.Code.wp Go.Proofs.E.exec Go.Proofs.E.wpLexG
end Go.Proofs.YtoimhmphhffelaaGreatDoor

/- A range over a function, with own memory: the iterator's word and the loop's rule.
   Slices of slices: their raw view; strings of bytes; what is new and read.
   A region that draws its order and calls yield: all that only reads in any order, then the call alone, then one operation more.
   A range over a function with two variables; what comes behind it; results in three cells. -/
import Derived.Test.YtoimhmphhffelaaDoorQQueryBack05
import Derived.Test.YtoimhmphhffelaaDoorQQueryBack06
import Derived.Laws.BytesString
set_option linter.unusedVariables false
set_option linter.unusedSimpArgs false
namespace Go.Proofs.E
open Go Go.RowKit
theorem Mem.putObj {O : List Nat} {w0 w : World} {k : Nat} {o o' : Obj} {L : List As} (h : Mem O w0 w (.obj k o :: L)) : Mem O w0 (w.putObj k o') (.obj k o' :: L) :=
  h.put (S := [k]) ⟨rfl, rfl, rfl, by simp [World.putObj], fun j hj hn => World.putObj_heap_other (by simpa using hn)⟩ (fun j hj => show j = k by simpa using hj) (World.putObj_heap_same (Array.getElem?_eq_some_iff.1 h.head).1) (fun j hj => .inl hj)
theorem Mem.newObj {O : List Nat} {w0 w : World} {o : Obj} {L : List As} (h : Mem O w0 w L) : Mem O w0 (w.alloc o) (.obj w.heap.size o :: L) :=
  h.res (Ch.of_below ((Below.refl _ w).alloc (Nat.le_refl _) _)) (World.alloc_heap_new w o) (fun k hk => Nat.le_of_eq (show w.heap.size = k from hk.symm))
end Go.Proofs.E
set_option linter.unusedVariables false
set_option linter.unusedSimpArgs false
namespace Go.Proofs.E
open Go Go.RowKit
abbrev SlV := Option Addr × Nat × Nat
def slv (x : SlV) : Value := .slice x.1 x.2.1 x.2.2
@[simp] theorem slv_cells (x : SlV) : (slv x).cells = #[slv x] := rfl
@[simp] theorem slv_one (x : SlV) : (slv x).oneCell' = true := rfl
theorem Ty.Rd.slv {α : Type} {t : Ty α} {S : List Nat} {w : World} {v : Value} {xs : List α} (h : t.Rd S w v xs) : ∃ u : SlV, v = E.slv u := let ⟨_, A, cap, hv, _, _⟩ := h; ⟨(A, xs.length, cap), hv⟩
/-! ### What is new and read -/
def As.plain : As → Prop
  | .rd .. => False
  | _ => True
theorem As.free {O O' : List Nat} {n0 n1 : Nat} : ∀ (a : As) {w : World}, a.plain → a.P O n0 w → a.P O' n1 w
  | .cell .., w, _, h => h
  | .row .., w, _, h => h
  | .obj .., w, _, h => h
  | .gen .., w, _, h => h
  | .rd .., w, h, _ => h.elim
section
variable {O : List Nat} {w0 w w' : World} {L L' M : List As} {a c d : As}
/-- What a call handed back, all of it new. -/
theorem Mem.join (h : Mem O w0 w L) (k : Mem [] w w' M) (hp : ∀ a ∈ M, a.plain) : Mem O w0 w' (M ++ L) := by
  have h1 := h.call k.ch
  have hn : ∀ a ∈ M, ∀ j, a.own j → w.heap.size ≤ j := fun a ha j hj => (k.new a ha j hj).resolve_right (by simp)
  refine ⟨h1.ch, fun a ha => ?_, fun a ha j hj => ?_, List.pairwise_append.2 ⟨k.dis, h1.dis, fun a ha c hc j hj hj' => ?_⟩⟩
  · rcases List.mem_append.1 ha with ha | ha
    · exact a.free (hp a ha) (k.all a ha)
    · exact h1.all a ha
  · rcases List.mem_append.1 ha with ha | ha
    · exact .inl (Nat.le_trans h.ch.size (hn a ha j hj))
    · exact h1.new a ha j hj
  · have h2 := hn a ha j hj
    have h3 := c.lt (h.all c hc) j hj'
    omega
variable {α : Type} {t : Ty α} {en : En α} {B B2 : Nat → Prop} {E : TypeId} {v : Value} {u : SlV} {xs : List α} {ps : List (SlV × List α)}
end
theorem Own.le {α : Type} {en : En α} {w : World} {b : Nat} {E : TypeId} {v : Value} {xs : List α} (h : Own en w b E v xs) : xs.length ≤ 9223372036854775807 := by
  rcases h.2 with ⟨_, h0⟩ | ⟨g, cap, cur, rfl, hg, hh, h1, h2, _⟩
  · omega
  · simp only [maxLen] at h2
    omega
theorem Mem.rowRdO {O : List Nat} {w0 w : World} {L L' : List As} {α : Type} {en : En α} {E : TypeId} {v : Value} {xs : List α} (h : Mem O w0 w L) (hp : Pick L (.row en E v xs) L') : (Ty.enc en).Rd [] w v xs := h.rowRd hp (h.row0 hp).le
/-! ### Strings -/
def bst (bs : List UInt8) : ByteArray := ⟨bs.toArray⟩
theorem bst_fold : ∀ (bs : List UInt8) (s : ByteArray), (bs.map fun b => (b.toNat : Int)).foldl (fun r n => r.push (UInt8.ofNat n.toNat)) s = ⟨s.data ++ bs.toArray⟩
  | [], s => by simp
  | b :: bs, s => by
    rw [List.map_cons, List.foldl_cons, bst_fold bs]
    simp [ByteArray.push]
theorem bst_loop (a : List UInt8) : ∀ (k i : Nat) (r : List UInt8), a.length - i = k → ByteArray.toList.loop (bst a) i r = r.reverse ++ a.drop i := by
  intro k
  induction k with
  | zero =>
    intro i r h
    rw [ByteArray.toList.loop, if_neg (by show ¬ i < a.toArray.size; simp; omega), List.drop_eq_nil_of_le (by omega), List.append_nil]
  | succ k ih =>
    intro i r h
    have hi : i < a.length := by omega
    rw [ByteArray.toList.loop, if_pos (show i < (bst a).size from (by simpa using hi : i < a.toArray.size)), ih (i + 1) _ (by omega), List.drop_eq_getElem_cons hi]
    have : (bst a).get! i = a[i] := by
      show a.toArray[i]! = a[i]
      simp [hi]
    rw [this]
    simp
theorem bst_list (a : List UInt8) : (bst a).toList = a := by
  have := bst_loop a _ 0 [] rfl
  simpa [ByteArray.toList] using this
section
variable {P : Program} {l : List Value} {w : World} {T : TypeId}
theorem r_b2s {x : Operand} {t u e : TypeId} {v : Value} {bs : List UInt8} {S : List Nat} [ht : Und P t (.slice e)] [he : Und P e (.int .u8)] [hu : Und P u .string] (hR : tU8.Rd S w v bs) (hx : ev l x = v := by exact rfl) :
    (exec (ev l) (.convert t u x) T).run P w = .ok (.value (.string (bst bs))) w := by
  have key : (Conv.bytesToString v).run P w = .ok (.string (bst bs)) w := by
    by_cases hne : bs = []
    · subst hne
      obtain ⟨A, cap, rfl⟩ := hR.form
      cases A with
      | none => simp [Conv.bytesToString, bst, Sem.run_pure]; rfl
      | some a =>
        have hl : (loadCells a 0).run P w = .ok #[] w := by simpa using run_loadCells_list (P := P) w a [] (by simp)
        have := run_bytesToString (P := P) w a 0 cap [] (by simpa using hl)
        exact this
    · obtain ⟨b, o, cap, rfl, hb, hS, hr⟩ := rowE hR hne
      have hl := run_loadCells_list (P := P) w ⟨b, o, none⟩ (bs.flatMap eU8.f) (fun j v hj => by by_cases hj0 : j = 0 <;> simpa [Addr.add, hj0] using hr j v hj)
      have hf : bs.flatMap eU8.f = (bs.map fun b => (b.toNat : Int)).map (Value.int .u8) := by
        rw [List.map_map]
        exact List.map_eq_flatMap.symm
      rw [hf, List.length_map, List.length_map] at hl
      rw [run_bytesToString (P := P) w ⟨b, o, none⟩ bs.length cap _ hl, bst_fold]
      simp [bst]
  obtain ⟨A, cap, rfl⟩ := hR.form
  have := run_convert_bytes_string (P := P) w t u e A bs.length cap ht.out he.out hu.out
  simp [exec, execOp, hx, this, key]
theorem r_eqst {x y : Operand} {t u : TypeId} {a b : List UInt8} [hU : Und P t .string] (hx : ev l x = .string (bst a) := by exact rfl) (hy : ev l y = .string (bst b) := by exact rfl) : (exec (ev l) (.binOp .eql t x y u) T).run P w = .ok (.value (.bool (decide (a = b)))) w := by
  have : (a == b) = decide (a = b) := by rw [Bool.eq_iff_iff, beq_iff_eq, decide_eq_true_eq]
  simp [exec, execOp, hx, hy, eqGuard, binOp, Op.stringOp, bst_list, this]
theorem r_neqst {x y : Operand} {t u : TypeId} {a b : List UInt8} [hU : Und P t .string] (hx : ev l x = .string (bst a) := by exact rfl) (hy : ev l y = .string (bst b) := by exact rfl) : (exec (ev l) (.binOp .neq t x y u) T).run P w = .ok (.value (.bool (!decide (a = b)))) w := by
  have : (a == b) = decide (a = b) := by rw [Bool.eq_iff_iff, beq_iff_eq, decide_eq_true_eq]
  simp [exec, execOp, hx, hy, eqGuard, binOp, Op.stringOp, bst_list, this]
end
end Go.Proofs.E
set_option linter.unusedVariables false
set_option linter.unusedSimpArgs false
namespace Go.Proofs.E
open Go Go.RowKit
section
variable {P : Program} {ops : Array Oper} {G : World → World → Prop} {Z : Act → World → Prop} {full : Array Bool} {z : Nat}
variable {Q : Exit → Act → World → Prop} {n : Nat}
end
section
variable {P : Program} {Q : Exit → Act → World → Prop} {n : Nat} {O : List Nat} {w0 w : World} {L : List As} {l : List Value}
end
end Go.Proofs.E
set_option linter.unusedVariables false
set_option linter.unusedSimpArgs false
namespace Go.Proofs.E
open Go Go.RowKit
section
variable {P : Program} {Q : Exit → Act → World → Prop} {l : List Value} {w w0 : World} {O : List Nat} {L L1 L2 L3 : List As} {ops : Array Oper} {ds : List Deferred}
variable {R : Value → World → Prop} {fn : Func}
end
end Go.Proofs.E

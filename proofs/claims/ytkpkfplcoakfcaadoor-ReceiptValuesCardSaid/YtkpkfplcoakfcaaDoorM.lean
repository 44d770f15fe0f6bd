/- The engine's memory: what blocks hold, what a change leaves as it was, what a slice reads as. -/
import Derived.Test.YtkpkfplcoakfcaaDoorE
import Derived.Maps.AppendAt
set_option linter.unusedVariables false
set_option linter.unusedSimpArgs false
namespace Go.Proofs.E
open Go Go.RowKit

/-! ### Blocks and changes -/
def Blk (w : World) (b : Nat) (cs : List Value) (E : TypeId) : Prop := w.heap[b]? = some (.cells cs.toArray E (0, 0))
/-- Of the blocks that were there, those of S alone may have turned. -/
structure Ch (S : List Nat) (w w' : World) : Prop where
  os : w'.os = w.os
  tape : w'.tape = w.tape
  output : w'.output = w.output
  size : w.heap.size ≤ w'.heap.size
  block : ∀ k, k < w.heap.size → k ∉ S → w'.heap[k]? = w.heap[k]?
theorem Blk.lt {w : World} {b : Nat} {cs : List Value} {E : TypeId} (h : Blk w b cs E) : b < w.heap.size := (Array.getElem?_eq_some_iff.1 h).1
theorem Ch.refl (S : List Nat) (w : World) : Ch S w w := ⟨rfl, rfl, rfl, Nat.le_refl _, fun _ _ _ => rfl⟩
theorem Ch.trans {S T U : List Nat} {w w1 w2 : World} (h : Ch S w w1) (k : Ch T w1 w2) (hs : ∀ x, x < w.heap.size → x ∈ S → x ∈ U) (ht : ∀ x, x < w.heap.size → x ∈ T → x ∈ U) : Ch U w w2 :=
  ⟨k.os.trans h.os, k.tape.trans h.tape, k.output.trans h.output, Nat.le_trans h.size k.size, fun i hi hu =>
    (k.block i (Nat.lt_of_lt_of_le hi h.size) (fun hx => hu (ht i hi hx))).trans (h.block i hi (fun hx => hu (hs i hi hx)))⟩
theorem Ch.mono {S T : List Nat} {w w' : World} (h : Ch S w w') (hs : ∀ x, x < w.heap.size → x ∈ S → x ∈ T) : Ch T w w' :=
  ⟨h.os, h.tape, h.output, h.size, fun i hi hu => h.block i hi (fun hx => hu (hs i hi hx))⟩
theorem Ch.then {S : List Nat} {w w1 w2 : World} (h : Ch S w w1) (k : Ch S w1 w2) : Ch S w w2 := h.trans k (fun _ _ h => h) (fun _ _ h => h)
theorem Ch.below {w w' : World} (h : Ch [] w w') : Below w.heap.size w w' := ⟨h.os, h.tape, h.output, h.size, fun k hk => h.block k hk (by simp)⟩
theorem Ch.of_below {w w' : World} (h : Below w.heap.size w w') : Ch [] w w' := ⟨h.os, h.tape, h.output, h.size, fun k hk _ => h.block k hk⟩
theorem Blk.ch {S : List Nat} {w w' : World} {b : Nat} {cs : List Value} {E : TypeId} (hb : Blk w b cs E) (h : Ch S w w') (hn : b ∉ S) : Blk w' b cs E := (h.block b hb.lt hn).trans hb
/-- A new block. -/
structure New (w w' : World) (b : Nat) (cs : List Value) (E : TypeId) : Prop where
  at_ : b = w.heap.size
  blk : Blk w' b cs E
  ch : Ch [] w w'
  size : w'.heap.size = b + 1
theorem New.mk_ (w : World) (cs : List Value) (E : TypeId) : New w (w.alloc (.cells cs.toArray E)) w.heap.size cs E :=
  ⟨rfl, heap_alloc_new w _, Ch.of_below ((Below.refl _ w).alloc (Nat.le_refl _) _), by simp⟩
theorem New.mk' (w : World) (cs : Array Value) (E : TypeId) : New w (w.alloc (.cells cs E)) w.heap.size cs.toList E := by
  have := New.mk_ w cs.toList E
  rwa [Array.toArray_toList] at this
/-- Cells written over others. -/
def spl (cs : List Value) (o : Nat) (vs : List Value) : List Value := cs.take o ++ vs ++ cs.drop (o + vs.length)
theorem spl_length {cs : List Value} {o : Nat} {vs : List Value} (h : o + vs.length ≤ cs.length) : (spl cs o vs).length = cs.length := by
  simp [spl]; omega
theorem get_spl {cs : List Value} {o : Nat} {vs : List Value} (h : o + vs.length ≤ cs.length) (i : Nat) : (spl cs o vs)[i]? = if i < o then cs[i]? else if i < o + vs.length then vs[i - o]? else cs[i]? := by
  have ht : (cs.take o).length = o := by rw [List.length_take]; omega
  unfold spl
  by_cases h1 : i < o
  · rw [if_pos h1, List.append_assoc, List.getElem?_append_left (by omega), List.getElem?_take, if_pos h1]
  · rw [if_neg h1]
    by_cases h2 : i < o + vs.length
    · rw [if_pos h2, List.getElem?_append_left (by rw [List.length_append]; omega), List.getElem?_append_right (by omega), ht]
    · rw [if_neg h2, List.getElem?_append_right (by rw [List.length_append]; omega), List.length_append, ht, List.getElem?_drop]
      congr 1
      omega
theorem spl_cons {cs : List Value} {o : Nat} {v : Value} {vs : List Value} (h : o + (v :: vs).length ≤ cs.length) : spl (cs.set o v) (o + 1) vs = spl cs o (v :: vs) := by
  have hl : o + 1 + vs.length ≤ cs.length := by simp at h; omega
  apply List.ext_getElem?
  intro i
  rw [get_spl (by simpa using hl), get_spl h]
  simp only [List.length_cons]
  by_cases h1 : i < o
  · rw [if_pos h1, if_pos (by omega), List.getElem?_set_ne (by omega)]
  · by_cases h2 : i = o
    · subst h2
      rw [if_pos (by omega), if_neg h1, if_pos (by omega), List.getElem?_set_self (by omega), Nat.sub_self]
      rfl
    · rw [if_neg (by omega), if_neg h1]
      by_cases h3 : i < o + 1 + vs.length
      · rw [if_pos h3, if_pos (by omega), show i - o = (i - (o + 1)) + 1 by omega, List.getElem?_cons_succ]
      · rw [if_neg h3, if_neg (by omega), List.getElem?_set_ne (by omega)]
theorem setCells_blk (b : Nat) (E : TypeId) : ∀ (vs : List Value) (o : Nat) (w : World) (cs : List Value), Blk w b cs E → o + vs.length ≤ cs.length →
    Blk (w.setCells b o vs) b (spl cs o vs) E ∧ Ch [b] w (w.setCells b o vs) ∧ (w.setCells b o vs).heap.size = w.heap.size
  | [], o, w, cs, hb, hf => ⟨by simpa [spl, World.setCells] using hb, Ch.refl _ _, rfl⟩
  | v :: vs, o, w, cs, hb, hf => by
    have hb1 : Blk (w.setCell ⟨b, o, none⟩ v) b (cs.set o v) E := by
      have := heap_setCell_same w b o cs.toArray E v hb
      simpa [Blk] using this
    have hch : Ch [b] w (w.setCell ⟨b, o, none⟩ v) := ⟨rfl, rfl, rfl, by simp [World.setCell], fun k hk hn => heap_setCell_other w ⟨b, o, none⟩ k v (by simpa using hn)⟩
    obtain ⟨h1, h2, h3⟩ := setCells_blk b E vs (o + 1) (w.setCell ⟨b, o, none⟩ v) (cs.set o v) hb1 (by simp at hf ⊢; omega)
    rw [spl_cons hf] at h1
    exact ⟨h1, hch.then h2, h3.trans (by simp [World.setCell])⟩
theorem Blk.range {w : World} {b : Nat} {cells : List Value} {E : TypeId} (h : Blk w b cells E) (o n : Nat) : w.rangeAt b o ((cells.drop o).take n) := by
  intro j v hv
  rw [cell_of_row w b (o + j) cells.toArray E (0, 0) h]
  rw [List.getElem?_take] at hv
  split at hv
  · rw [List.getElem?_drop] at hv
    simpa using hv
  · cases hv
theorem Blk.cell {w : World} {b : Nat} {cells : List Value} {E : TypeId} (h : Blk w b cells E) {o : Nat} {v : Value} (hv : cells[o]? = some v) : w.cell? ⟨b, o, none⟩ = some v := by
  rw [cell_of_row w b o cells.toArray E (0, 0) h]
  simpa using hv
theorem Blk.there {w : World} {b : Nat} {cells : List Value} {E : TypeId} (h : Blk w b cells E) {o n : Nat} (hf : o + n ≤ cells.length) : w.there b o n := by
  intro j hj
  refine ⟨?_, frozen_of_row w b (o + j) cells.toArray E h⟩
  rw [cell_of_row w b (o + j) cells.toArray E (0, 0) h]
  simp
  omega
theorem Ch.rangeAt {S : List Nat} {w w' : World} (h : Ch S w w') {b o : Nat} {cs : List Value} (hr : w.rangeAt b o cs) (hb : b < w.heap.size) (hn : b ∉ S) : w'.rangeAt b o cs := fun j v hv =>
  (World.cell?_of_block (w := w) (a := ⟨b, o + j, none⟩) (h.block b hb hn)).trans (hr j v hv)

/-! ### What values read as -/
/-- How values that hold no address are written in cells. -/
structure En (α : Type) where
  f : α → List Value
  n : Nat
  hl : ∀ x, (f x).length = n
  h1 : ∀ x, ∀ u ∈ f x, u.oneCell' = true
structure Ty (α : Type) where
  n : Nat
  R : List Nat → World → α → List Value → Prop
  len : ∀ {S w x cs}, R S w x cs → cs.length = n
  one : ∀ {S w x cs}, R S w x cs → ∀ u ∈ cs, u.oneCell' = true
  mv : ∀ {S S' : List Nat} {w w' : World} {x cs}, Ch S' w w' → (∀ k, k < w.heap.size → k ∈ S' → k ∈ S) → R S w x cs → R S' w' x cs
namespace Ty
/-- A type whose values hold no address. -/
def enc {α : Type} (e : En α) : Ty α where
  n := e.n
  R := fun _ _ x cs => cs = e.f x
  len := fun h => h ▸ e.hl _
  one := fun h => h ▸ e.h1 _
  mv := fun _ _ h => h
/-- The address a holds x. -/
def At {α : Type} (t : Ty α) (S : List Nat) (w : World) (b o : Nat) (x : α) : Prop := b < w.heap.size ∧ b ∉ S ∧ ∃ cs, t.R S w x cs ∧ w.rangeAt b o cs
theorem At.mv {α : Type} {t : Ty α} {S S' : List Nat} {w w' : World} {b o : Nat} {x : α} (h : t.At S w b o x) (hc : Ch S' w w') (hs : ∀ k, k < w.heap.size → k ∈ S' → k ∈ S) : t.At S' w' b o x := by
  obtain ⟨hb, hn, cs, hR, hr⟩ := h
  have hn' : b ∉ S' := fun hx => hn (hs b hb hx)
  exact ⟨Nat.lt_of_lt_of_le hb hc.size, hn', cs, t.mv hc hs hR, hc.rangeAt hr hb hn'⟩
/-- A slice that reads as the list xs, off the blocks of S. -/
def Rd {α : Type} (t : Ty α) (S : List Nat) (w : World) (v : Value) (xs : List α) : Prop :=
  xs.length ≤ 9223372036854775807 ∧ ∃ A cap, v = .slice A xs.length cap ∧ xs.length ≤ cap ∧ (xs ≠ [] → ∃ b o, A = some ⟨b, o, none⟩ ∧ b < w.heap.size ∧ b ∉ S ∧ ∀ i x, xs[i]? = some x → t.At S w b (o + i * t.n) x)
theorem Rd.mv {α : Type} {t : Ty α} {S S' : List Nat} {w w' : World} {v : Value} {xs : List α} (h : t.Rd S w v xs) (hc : Ch S' w w') (hs : ∀ k, k < w.heap.size → k ∈ S' → k ∈ S) : t.Rd S' w' v xs := by
  obtain ⟨hl, A, cap, hv, hcap, hA⟩ := h
  refine ⟨hl, A, cap, hv, hcap, fun hne => ?_⟩
  obtain ⟨b, o, ha, hb, hn, he⟩ := hA hne
  exact ⟨b, o, ha, Nat.lt_of_lt_of_le hb hc.size, fun hx => hn (hs b hb hx), fun i x hx => (he i x hx).mv hc hs⟩
theorem Rd.ch {α : Type} {t : Ty α} {S : List Nat} {w w' : World} {v : Value} {xs : List α} (h : t.Rd S w v xs) (hc : Ch S w w') : t.Rd S w' v xs := h.mv hc fun _ _ h => h
theorem Rd.nil {α : Type} (t : Ty α) (S : List Nat) (w : World) (A : Option Addr) (c : Nat) : t.Rd S w (.slice A 0 c) [] := ⟨by simp, A, c, rfl, by simp, fun h => absurd rfl h⟩
theorem Rd.form {α : Type} {t : Ty α} {S : List Nat} {w : World} {v : Value} {xs : List α} (h : t.Rd S w v xs) : ∃ A cap, v = .slice A xs.length cap := let ⟨_, A, cap, hv, _, _⟩ := h; ⟨A, cap, hv⟩
theorem Rd.le {α : Type} {t : Ty α} {S : List Nat} {w : World} {v : Value} {xs : List α} (h : t.Rd S w v xs) : xs.length ≤ 9223372036854775807 := h.1
/-- Slices as elements and fields. -/
def sl {α : Type} (t : Ty α) : Ty (List α) where
  n := 1
  R := fun S w xs cs => ∃ v, cs = [v] ∧ t.Rd S w v xs
  len := fun ⟨v, h, _⟩ => by rw [h]; rfl
  one := fun ⟨v, h, _, A, c, hv, _, _⟩ => by subst h; subst hv; simp [Value.oneCell']
  mv := fun hc hs ⟨v, h, hr⟩ => ⟨v, h, hr.mv hc hs⟩
/-- Two side by side. -/
def prod {α β : Type} (s : Ty α) (t : Ty β) : Ty (α × β) where
  n := s.n + t.n
  R := fun S w x cs => ∃ c d, cs = c ++ d ∧ s.R S w x.1 c ∧ t.R S w x.2 d
  len := fun ⟨c, d, h, hc, hd⟩ => by rw [h, List.length_append, s.len hc, t.len hd]
  one := fun ⟨c, d, h, hc, hd⟩ u hu => by
    rw [h, List.mem_append] at hu
    exact hu.elim (s.one hc u) (t.one hd u)
  mv := fun hc hs ⟨c, d, h, h1, h2⟩ => ⟨c, d, h, s.mv hc hs h1, t.mv hc hs h2⟩
end Ty
def u8v (b : UInt8) : Value := .int .u8 (b.toNat : Int)
abbrev eInt (k : IntKind) : En Int := { f := fun n => [.int k n], n := 1, hl := fun _ => rfl, h1 := fun _ u hu => by simp at hu; subst hu; rfl }
abbrev eBool : En Bool := { f := fun b => [.bool b], n := 1, hl := fun _ => rfl, h1 := fun _ u hu => by simp at hu; subst hu; rfl }
abbrev eU8 : En UInt8 := { f := fun b => [u8v b], n := 1, hl := fun _ => rfl, h1 := fun _ u hu => by simp at hu; subst hu; rfl }
abbrev tInt (k : IntKind) : Ty Int := Ty.enc (eInt k)
abbrev tBool : Ty Bool := Ty.enc eBool
abbrev tU8 : Ty UInt8 := Ty.enc eU8

/-! ### The operations -/
section
variable {P : Program} {ops : Array Oper} {Q : Exit → Act → World → Prop} {rest : List Oper} {l : List Value} {w : World}
  {T : TypeId} {pos : String} {after : Array Edge}
theorem run_zero {E : TypeId} {z : Value} {n b : Nat} [hi : Inf P E z n b] : (zeroValue E).run P w = .ok z w := by
  obtain ⟨i, h1, h2⟩ := Option.map_eq_some_iff.1 hi.out
  simp only [Prod.mk.injEq] at h2
  simp [zeroValue, typeInfo, program, Sem.run, h1, h2.1]
theorem run_size {E : TypeId} {z : Value} {n b : Nat} [hi : Inf P E z n b] : (sizeOf E).run P w = .ok n w := by
  obtain ⟨i, h1, h2⟩ := Option.map_eq_some_iff.1 hi.out
  simp only [Prod.mk.injEq] at h2
  simp [sizeOf, typeInfo, program, Sem.run, h1, h2.2.1]
theorem info_size {E : TypeId} {z : Value} {n b : Nat} (hi : Inf P E z n b) : (P.info? E).map (·.size) = some n := by
  obtain ⟨i, h1, h2⟩ := Option.map_eq_some_iff.1 hi.out
  simp only [Prod.mk.injEq] at h2
  simp [h1, h2.2.1]
theorem r_alloc {E : TypeId} {z : Value} {n b : Nat} [hi : Inf P E z n b] : (exec (ev l) (.alloc E) T).run P w = .ok (.value (.pointer (some ⟨w.heap.size, 0, none⟩))) (w.alloc (.cells z.cells E)) := by
  have hz := run_zero (w := w) (hi := hi)
  simp [exec, execOp, Instr.alloc, newVar, newRow, newObj, hz, Sem.run]
theorem r_box {E : TypeId} {x : Operand} : (exec (ev l) (.box E x) T).run P w = .ok (.value (.pointer (some ⟨w.heap.size, 0, none⟩))) (w.alloc (.cells (ev l x).cells E)) := by
  simp [exec, execOp, Instr.box, newVar, newRow, newObj, Sem.run]
theorem wl_alloc {d : Nat} {E : TypeId} {z : Value} {n b : Nat} [hi : Inf P E z n b] (h : ∀ w' b, New w w' b z.cells.toList E → wpList P ops Q rest (fr (l.set d (.pointer (some ⟨b, 0, none⟩)))) w') :
    wpList P ops Q ({ dst := some d, op := .alloc E, type := T, pos := pos, after := after, guard := none } :: rest) (fr l) w :=
  wl_val r_alloc (h _ _ (New.mk' w _ E))
theorem wl_box {d : Nat} {E : TypeId} {x : Operand} {v : Value} (hx : ev l x = v) (h : ∀ w' b, New w w' b v.cells.toList E → wpList P ops Q rest (fr (l.set d (.pointer (some ⟨b, 0, none⟩)))) w') :
    wpList P ops Q ({ dst := some d, op := .box E x, type := T, pos := pos, after := after, guard := none } :: rest) (fr l) w := by
  subst hx
  exact wl_val r_box (h _ _ (New.mk' w _ E))
theorem run_isAgg_row {t : TypeId} [hr : Row P t] : (isAgg t).run P w = .ok true w := by
  obtain ⟨d, h1, h2⟩ := hr.out
  unfold isAgg
  rw [Sem.run_bind, run_underlying h1 w]
  cases d <;> simp_all
theorem run_isAgg_one {t : TypeId} [hr : One P t] : (isAgg t).run P w = .ok false w := by
  obtain ⟨d, h1, h2⟩ := hr.out
  unfold isAgg
  rw [Sem.run_bind, run_underlying h1 w]
  cases d <;> simp_all
theorem run_loadVar_one {t : TypeId} {b o : Nat} {v : Value} [hr : One P t] (hc : w.cell? ⟨b, o, none⟩ = some v) : (loadVar t ⟨b, o, none⟩).run P w = .ok v w := by
  unfold loadVar
  rw [Sem.run_bind, run_isAgg_one]
  simp [load, Sem.run, hc]
theorem r_load_one {x : Operand} {t : TypeId} {b o : Nat} {v : Value} [hr : One P t] (hx : ev l x = .pointer (some ⟨b, o, none⟩)) (hc : w.cell? ⟨b, o, none⟩ = some v) :
    (exec (ev l) (.load t x) T).run P w = .ok (.value v) w := by
  simp [exec, execOp, Instr.loadAt, Instr.sureAddr, hx, run_loadVar_one hc]
theorem r_load_row {x : Operand} {t : TypeId} {b o : Nat} {cs : List Value} {z : Value} {n by_ : Nat} [hr : Row P t] [hi : Inf P t z n by_] (hx : ev l x = .pointer (some ⟨b, o, none⟩)) (hc : w.rangeAt b o cs) (hn : cs.length = n) :
    (exec (ev l) (.load t x) T).run P w = .ok (.value (.agg cs.toArray)) w := by
  subst hn
  obtain ⟨d, h1, h2⟩ := hr.out
  simp [exec, execOp, Instr.loadAt, Instr.sureAddr, hx, run_loadVar_mid w b o t cs d hc h1 h2 (info_size hi)]
/-- A load of one cell, a load of a row, of what an address is known to hold. -/
theorem wl_load_one {α : Type} {t : Ty α} {S : List Nat} {d : Nat} {x : Operand} {E : TypeId} {b o : Nat} {z : α} [hr : One P E] (hx : ev l x = .pointer (some ⟨b, o, none⟩)) (hA : t.At S w b o z) (hn : t.n = 1)
    (h : ∀ v, t.R S w z [v] → wpList P ops Q rest (fr (l.set d v)) w) :
    wpList P ops Q ({ dst := some d, op := .load E x, type := T, pos := pos, after := after, guard := none } :: rest) (fr l) w := by
  obtain ⟨hb, hS, cs, hR, hc⟩ := hA
  have hl := t.len hR
  match cs, hl.trans hn with
  | [v], _ =>
    have := hc 0 v rfl
    exact wl_val (r_load_one hx this) (h v hR)
theorem wl_loade_one {α : Type} {en : En α} {S : List Nat} {d : Nat} {x : Operand} {E : TypeId} {b o : Nat} {z : α} {v : Value} [hr : One P E] (hx : ev l x = .pointer (some ⟨b, o, none⟩)) (hA : (Ty.enc en).At S w b o z) (hv : en.f z = [v])
    (h : wpList P ops Q rest (fr (l.set d v)) w) :
    wpList P ops Q ({ dst := some d, op := .load E x, type := T, pos := pos, after := after, guard := none } :: rest) (fr l) w := by
  obtain ⟨hb, hS, cs, hR, hc⟩ := hA
  have hR' : cs = en.f z := hR
  rw [hv] at hR'
  subst hR'
  exact wl_val (r_load_one hx (hc 0 v rfl)) h
theorem wl_loade_row {α : Type} {en : En α} {S : List Nat} {d : Nat} {x : Operand} {E : TypeId} {b o : Nat} {z : α} {zv : Value} {m by_ : Nat} [hr : Row P E] [hi : Inf P E zv m by_] (hx : ev l x = .pointer (some ⟨b, o, none⟩)) (hA : (Ty.enc en).At S w b o z) (hm : en.n = m)
    (h : wpList P ops Q rest (fr (l.set d (.agg (en.f z).toArray))) w) :
    wpList P ops Q ({ dst := some d, op := .load E x, type := T, pos := pos, after := after, guard := none } :: rest) (fr l) w := by
  obtain ⟨hb, hS, cs, hR, hc⟩ := hA
  have hR' : cs = en.f z := hR
  subst hR'
  exact wl_val (r_load_row hx hc ((en.hl z).trans hm)) h
/-- The address of an element. -/
theorem r_indexAddr {x y : Operand} {s e : TypeId} {b o n c : Nat} {k : IntKind} {i : Int} {z : Value} {m by_ : Nat} [hu : Und P s (.slice e)] [hi : Inf P e z m by_]
    (hx : ev l x = .slice (some ⟨b, o, none⟩) n c) (hy : ev l y = .int k i) (h0 : 0 ≤ i) (h1 : i < n) :
    (exec (ev l) (.indexAddr s x y) T).run P w = .ok (.value (.pointer (some ⟨b, o + i.toNat * m, none⟩))) w := by
  simp [exec, execOp, Instr.indexAt, hx, hy, asIntOf, run_underlying hu.out, run_size (hi := hi), h0, h1, Addr.add_mid]
theorem r_indexAddr_arr {x y : Operand} {s e : TypeId} {b o n : Nat} {k : IntKind} {i : Int} {z : Value} {m by_ : Nat} [hu : Und P s (.array n e)] [hi : Inf P e z m by_]
    (hx : ev l x = .pointer (some ⟨b, o, none⟩)) (hy : ev l y = .int k i) (h0 : 0 ≤ i) (h1 : i < n) :
    (exec (ev l) (.indexAddr s x y) T).run P w = .ok (.value (.pointer (some ⟨b, o + i.toNat * m, none⟩))) w := by
  simp [exec, execOp, Instr.indexAt, Instr.sureAddr, hx, hy, asIntOf, run_underlying hu.out, run_size (hi := hi), h0, h1, Addr.add_mid]
theorem wl_index {α : Type} {t : Ty α} {S : List Nat} {d : Nat} {x y : Operand} {s e : TypeId} {v : Value} {xs : List α} {k : IntKind} {i : Int} {z : Value} {m by_ : Nat} [hu : Und P s (.slice e)] [hi : Inf P e z m by_]
    (hx : ev l x = v) (hy : ev l y = .int k i) (hR : t.Rd S w v xs) (hn : t.n = m) (h0 : 0 ≤ i) (h1 : i.toNat < xs.length)
    (h : ∀ b o, t.At S w b o (xs[i.toNat]'h1) → wpList P ops Q rest (fr (l.set d (.pointer (some ⟨b, o, none⟩)))) w) :
    wpList P ops Q ({ dst := some d, op := .indexAddr s x y, type := T, pos := pos, after := after, guard := none } :: rest) (fr l) w := by
  subst hn
  obtain ⟨hl, A, cap, rfl, hcap, hA⟩ := hR
  obtain ⟨b, o, rfl, hb, hS, he⟩ := hA (fun h => by subst h; simp at h1)
  exact wl_val (r_indexAddr hx hy h0 (by omega)) (h _ _ (he _ _ (List.getElem?_eq_getElem h1)))
theorem r_fieldAddr {x : Operand} {s t : TypeId} {f off b o : Nat} {z : Value} {n by_ : Nat} [hf : Fld P s f off t] [hi : Inf P t z n by_] (hx : ev l x = .pointer (some ⟨b, o, none⟩)) (hn : n ≠ 0) :
    (exec (ev l) (.fieldAddr s x f) T).run P w = .ok (.value (.pointer (some ⟨b, o + off, none⟩))) w := by
  obtain ⟨fs, fd, h1, h2, rfl, rfl⟩ := hf.out
  simp [exec, execOp, Instr.fieldAt, Instr.sureAddr, hx, run_underlying h1, h2, fieldPlace, run_size (hi := hi), hn, Addr.add_mid]
/-- Stores into a block of one's own. -/
theorem run_storeVar_blk {E t : TypeId} {b o : Nat} {cells : List Value} {v : Value} {z : Value} {n by_ : Nat} [hi : Inf P t z n by_] (hB : Blk w b cells E) (hf : o + n ≤ cells.length) (hn : v.cells.size = n) (h1 : ∀ u ∈ v.cells.toList, u.oneCell' = true) :
    ∃ w', (storeVar t ⟨b, o, none⟩ v).run P w = .ok () w' ∧ Blk w' b (spl cells o v.cells.toList) E ∧ Ch [b] w w' ∧ w'.heap.size = w.heap.size := by
  obtain ⟨k1, k2, k3⟩ := setCells_blk b E v.cells.toList o w cells hB (by simp [hn]; exact hf)
  refine ⟨_, ?_, k1, k2, k3⟩
  have ht : w.there b o v.cells.toList.length := hB.there (by simp [hn]; exact hf)
  have := run_storeCells_cells (P := P) b o v.cells.toList 0 w (fun j hj => by simpa using (ht j hj).1) (fun j hj => by simpa using (ht j hj).2) (fun u hu => h1 u hu)
  have hs := run_size (P := P) (w := w) (hi := hi)
  simp only [Nat.add_zero] at this
  simp [storeVar, hs, hn, this]
theorem wl_store {E t : TypeId} {x y : Operand} {b o : Nat} {cells : List Value} {v : Value} {z : Value} {n by_ : Nat} [hi : Inf P t z n by_] (hx : ev l x = .pointer (some ⟨b, o, none⟩)) (hy : ev l y = v) (hB : Blk w b cells E) (hf : o + n ≤ cells.length) (hn : v.cells.size = n) (h1 : ∀ u ∈ v.cells.toList, u.oneCell' = true)
    (h : ∀ w', Blk w' b (spl cells o v.cells.toList) E → Ch [b] w w' → w'.heap.size = w.heap.size → wpList P ops Q rest (fr l) w') :
    wpList P ops Q ({ dst := none, op := .store t x y, type := T, pos := pos, after := after, guard := none } :: rest) (fr l) w := by
  obtain ⟨w', k1, k2, k3, k4⟩ := run_storeVar_blk (P := P) (t := t) (o := o) hB hf hn h1
  refine wl_skip (w' := w') ?_ (h w' k2 k3 k4)
  simp [exec, execOp, Instr.storeAt, Instr.sureAddr, hx, hy, k1]
end
/-- The way out, of one result that lies in a cell. -/
theorem outc {P : Program} {l : List Value} {w : World} {fn : Func} {t : Nat} {T : TypeId} {R : Value → World → Prop} {b o : Nat} {cs : List Value} {z : Value} {n by_ : Nat} [hr : Row P T] [hi : Inf P T z n by_] (hf : fn.results = #[.cell t T])
    (hx : ev l (.tmp t) = .pointer (some ⟨b, o, none⟩)) (hc : w.rangeAt b o cs) (hn : cs.length = n) (h : R (.agg cs.toArray) w) : bodyPost P fn (Ret R) .ret (fr l) w := by
  subst hn
  obtain ⟨d, h1, h2⟩ := hr.out
  refine ⟨rfl, .agg cs.toArray, ?_, _, rfl, h⟩
  have hx' : l.toArray.getD t undef = .pointer (some ⟨b, o, none⟩) := (ev_tmp l t).trans hx
  have hx2 : l[t]?.getD undef = .pointer (some ⟨b, o, none⟩) := by simpa [Array.getD_eq_getD_getElem?] using hx'
  simp [results, hf, fr, hx2, asAddr, run_loadVar_mid w b o T cs d hc h1 h2 (info_size hi)]
end Go.Proofs.E

/- The engine's memory: what blocks hold, what a change leaves as it was, what a slice reads as.
   The engine's slices: literals, cuts, appends, make, copy. -/
import Derived.Test.YtoimhmphhffelaaDoorQQueryBack00
import Derived.Maps.AppendAt
set_option linter.unusedVariables false
set_option linter.unusedSimpArgs false
namespace Go.Proofs.E
open Go Go.RowKit

/-! ### Blocks and changes -/
def Blk (w : World) (b : Nat) (cs : List Value) (E : TypeId) : Prop := w.heap[b]? = some (.cells cs.toArray E (0, 0))
/-- Of the blocks that were there, those of S alone may have turned. -/
structure Ch (S : List Nat) (w w' : World) : Prop where
  os : w'.os = w.os
  tape : w'.tape = w.tape
  output : w'.output = w.output
  size : w.heap.size ≤ w'.heap.size
  block : ∀ k, k < w.heap.size → k ∉ S → w'.heap[k]? = w.heap[k]?
theorem Blk.lt {w : World} {b : Nat} {cs : List Value} {E : TypeId} (h : Blk w b cs E) : b < w.heap.size := (Array.getElem?_eq_some_iff.1 h).1
theorem Ch.refl (S : List Nat) (w : World) : Ch S w w := ⟨rfl, rfl, rfl, Nat.le_refl _, fun _ _ _ => rfl⟩
theorem Ch.trans {S T U : List Nat} {w w1 w2 : World} (h : Ch S w w1) (k : Ch T w1 w2) (hs : ∀ x, x < w.heap.size → x ∈ S → x ∈ U) (ht : ∀ x, x < w.heap.size → x ∈ T → x ∈ U) : Ch U w w2 :=
  ⟨k.os.trans h.os, k.tape.trans h.tape, k.output.trans h.output, Nat.le_trans h.size k.size, fun i hi hu =>
    (k.block i (Nat.lt_of_lt_of_le hi h.size) (fun hx => hu (ht i hi hx))).trans (h.block i hi (fun hx => hu (hs i hi hx)))⟩
theorem Ch.mono {S T : List Nat} {w w' : World} (h : Ch S w w') (hs : ∀ x, x < w.heap.size → x ∈ S → x ∈ T) : Ch T w w' :=
  ⟨h.os, h.tape, h.output, h.size, fun i hi hu => h.block i hi (fun hx => hu (hs i hi hx))⟩
theorem Ch.then {S : List Nat} {w w1 w2 : World} (h : Ch S w w1) (k : Ch S w1 w2) : Ch S w w2 := h.trans k (fun _ _ h => h) (fun _ _ h => h)
theorem Ch.below {w w' : World} (h : Ch [] w w') : Below w.heap.size w w' := ⟨h.os, h.tape, h.output, h.size, fun k hk => h.block k hk (by simp)⟩
theorem Ch.of_below {w w' : World} (h : Below w.heap.size w w') : Ch [] w w' := ⟨h.os, h.tape, h.output, h.size, fun k hk _ => h.block k hk⟩
theorem Blk.ch {S : List Nat} {w w' : World} {b : Nat} {cs : List Value} {E : TypeId} (hb : Blk w b cs E) (h : Ch S w w') (hn : b ∉ S) : Blk w' b cs E := (h.block b hb.lt hn).trans hb
/-- A new block. -/
structure New (w w' : World) (b : Nat) (cs : List Value) (E : TypeId) : Prop where
  at_ : b = w.heap.size
  blk : Blk w' b cs E
  ch : Ch [] w w'
  size : w'.heap.size = b + 1
theorem New.mk_ (w : World) (cs : List Value) (E : TypeId) : New w (w.alloc (.cells cs.toArray E)) w.heap.size cs E :=
  ⟨rfl, heap_alloc_new w _, Ch.of_below ((Below.refl _ w).alloc (Nat.le_refl _) _), by simp⟩
theorem New.mk' (w : World) (cs : Array Value) (E : TypeId) : New w (w.alloc (.cells cs E)) w.heap.size cs.toList E := by
  have := New.mk_ w cs.toList E
  rwa [Array.toArray_toList] at this
/-- Cells written over others. -/
def spl (cs : List Value) (o : Nat) (vs : List Value) : List Value := cs.take o ++ vs ++ cs.drop (o + vs.length)
theorem get_spl {cs : List Value} {o : Nat} {vs : List Value} (h : o + vs.length ≤ cs.length) (i : Nat) : (spl cs o vs)[i]? = if i < o then cs[i]? else if i < o + vs.length then vs[i - o]? else cs[i]? := by
  have ht : (cs.take o).length = o := by rw [List.length_take]; omega
  unfold spl
  by_cases h1 : i < o
  · rw [if_pos h1, List.append_assoc, List.getElem?_append_left (by omega), List.getElem?_take, if_pos h1]
  · rw [if_neg h1]
    by_cases h2 : i < o + vs.length
    · rw [if_pos h2, List.getElem?_append_left (by rw [List.length_append]; omega), List.getElem?_append_right (by omega), ht]
    · rw [if_neg h2, List.getElem?_append_right (by rw [List.length_append]; omega), List.length_append, ht, List.getElem?_drop]
      congr 1
      omega
theorem spl_cons {cs : List Value} {o : Nat} {v : Value} {vs : List Value} (h : o + (v :: vs).length ≤ cs.length) : spl (cs.set o v) (o + 1) vs = spl cs o (v :: vs) := by
  have hl : o + 1 + vs.length ≤ cs.length := by simp at h; omega
  apply List.ext_getElem?
  intro i
  rw [get_spl (by simpa using hl), get_spl h]
  simp only [List.length_cons]
  by_cases h1 : i < o
  · rw [if_pos h1, if_pos (by omega), List.getElem?_set_ne (by omega)]
  · by_cases h2 : i = o
    · subst h2
      rw [if_pos (by omega), if_neg h1, if_pos (by omega), List.getElem?_set_self (by omega), Nat.sub_self]
      rfl
    · rw [if_neg (by omega), if_neg h1]
      by_cases h3 : i < o + 1 + vs.length
      · rw [if_pos h3, if_pos (by omega), show i - o = (i - (o + 1)) + 1 by omega, List.getElem?_cons_succ]
      · rw [if_neg h3, if_neg (by omega), List.getElem?_set_ne (by omega)]
theorem setCells_blk (b : Nat) (E : TypeId) : ∀ (vs : List Value) (o : Nat) (w : World) (cs : List Value), Blk w b cs E → o + vs.length ≤ cs.length →
    Blk (w.setCells b o vs) b (spl cs o vs) E ∧ Ch [b] w (w.setCells b o vs) ∧ (w.setCells b o vs).heap.size = w.heap.size
  | [], o, w, cs, hb, hf => ⟨by simpa [spl, World.setCells] using hb, Ch.refl _ _, rfl⟩
  | v :: vs, o, w, cs, hb, hf => by
    have hb1 : Blk (w.setCell ⟨b, o, none⟩ v) b (cs.set o v) E := by
      have := heap_setCell_same w b o cs.toArray E v hb
      simpa [Blk] using this
    have hch : Ch [b] w (w.setCell ⟨b, o, none⟩ v) := ⟨rfl, rfl, rfl, by simp [World.setCell], fun k hk hn => heap_setCell_other w ⟨b, o, none⟩ k v (by simpa using hn)⟩
    obtain ⟨h1, h2, h3⟩ := setCells_blk b E vs (o + 1) (w.setCell ⟨b, o, none⟩ v) (cs.set o v) hb1 (by simp at hf ⊢; omega)
    rw [spl_cons hf] at h1
    exact ⟨h1, hch.then h2, h3.trans (by simp [World.setCell])⟩
theorem Blk.range {w : World} {b : Nat} {cells : List Value} {E : TypeId} (h : Blk w b cells E) (o n : Nat) : w.rangeAt b o ((cells.drop o).take n) := by
  intro j v hv
  rw [cell_of_row w b (o + j) cells.toArray E (0, 0) h]
  rw [List.getElem?_take] at hv
  split at hv
  · rw [List.getElem?_drop] at hv
    simpa using hv
  · cases hv
theorem Blk.cell {w : World} {b : Nat} {cells : List Value} {E : TypeId} (h : Blk w b cells E) {o : Nat} {v : Value} (hv : cells[o]? = some v) : w.cell? ⟨b, o, none⟩ = some v := by
  rw [cell_of_row w b o cells.toArray E (0, 0) h]
  simpa using hv
theorem Blk.there {w : World} {b : Nat} {cells : List Value} {E : TypeId} (h : Blk w b cells E) {o n : Nat} (hf : o + n ≤ cells.length) : w.there b o n := by
  intro j hj
  refine ⟨?_, frozen_of_row w b (o + j) cells.toArray E h⟩
  rw [cell_of_row w b (o + j) cells.toArray E (0, 0) h]
  simp
  omega
theorem Ch.rangeAt {S : List Nat} {w w' : World} (h : Ch S w w') {b o : Nat} {cs : List Value} (hr : w.rangeAt b o cs) (hb : b < w.heap.size) (hn : b ∉ S) : w'.rangeAt b o cs := fun j v hv =>
  (World.cell?_of_block (w := w) (a := ⟨b, o + j, none⟩) (h.block b hb hn)).trans (hr j v hv)

/-! ### What values read as -/
/-- How values that hold no address are written in cells. -/
structure En (α : Type) where
  f : α → List Value
  n : Nat
  hl : ∀ x, (f x).length = n
  h1 : ∀ x, ∀ u ∈ f x, u.oneCell' = true
structure Ty (α : Type) where
  n : Nat
  R : List Nat → World → α → List Value → Prop
  len : ∀ {S w x cs}, R S w x cs → cs.length = n
  one : ∀ {S w x cs}, R S w x cs → ∀ u ∈ cs, u.oneCell' = true
  mv : ∀ {S S' : List Nat} {w w' : World} {x cs}, Ch S' w w' → (∀ k, k < w.heap.size → k ∈ S' → k ∈ S) → R S w x cs → R S' w' x cs
namespace Ty
/-- A type whose values hold no address. -/
def enc {α : Type} (e : En α) : Ty α where
  n := e.n
  R := fun _ _ x cs => cs = e.f x
  len := fun h => h ▸ e.hl _
  one := fun h => h ▸ e.h1 _
  mv := fun _ _ h => h
/-- The address a holds x. -/
def At {α : Type} (t : Ty α) (S : List Nat) (w : World) (b o : Nat) (x : α) : Prop := b < w.heap.size ∧ b ∉ S ∧ ∃ cs, t.R S w x cs ∧ w.rangeAt b o cs
theorem At.mv {α : Type} {t : Ty α} {S S' : List Nat} {w w' : World} {b o : Nat} {x : α} (h : t.At S w b o x) (hc : Ch S' w w') (hs : ∀ k, k < w.heap.size → k ∈ S' → k ∈ S) : t.At S' w' b o x := by
  obtain ⟨hb, hn, cs, hR, hr⟩ := h
  have hn' : b ∉ S' := fun hx => hn (hs b hb hx)
  exact ⟨Nat.lt_of_lt_of_le hb hc.size, hn', cs, t.mv hc hs hR, hc.rangeAt hr hb hn'⟩
/-- A slice that reads as the list xs, off the blocks of S. -/
def Rd {α : Type} (t : Ty α) (S : List Nat) (w : World) (v : Value) (xs : List α) : Prop :=
  xs.length ≤ 9223372036854775807 ∧ ∃ A cap, v = .slice A xs.length cap ∧ xs.length ≤ cap ∧ (xs ≠ [] → ∃ b o, A = some ⟨b, o, none⟩ ∧ b < w.heap.size ∧ b ∉ S ∧ ∀ i x, xs[i]? = some x → t.At S w b (o + i * t.n) x)
theorem Rd.mv {α : Type} {t : Ty α} {S S' : List Nat} {w w' : World} {v : Value} {xs : List α} (h : t.Rd S w v xs) (hc : Ch S' w w') (hs : ∀ k, k < w.heap.size → k ∈ S' → k ∈ S) : t.Rd S' w' v xs := by
  obtain ⟨hl, A, cap, hv, hcap, hA⟩ := h
  refine ⟨hl, A, cap, hv, hcap, fun hne => ?_⟩
  obtain ⟨b, o, ha, hb, hn, he⟩ := hA hne
  exact ⟨b, o, ha, Nat.lt_of_lt_of_le hb hc.size, fun hx => hn (hs b hb hx), fun i x hx => (he i x hx).mv hc hs⟩
theorem Rd.ch {α : Type} {t : Ty α} {S : List Nat} {w w' : World} {v : Value} {xs : List α} (h : t.Rd S w v xs) (hc : Ch S w w') : t.Rd S w' v xs := h.mv hc fun _ _ h => h
theorem Rd.nil {α : Type} (t : Ty α) (S : List Nat) (w : World) (A : Option Addr) (c : Nat) : t.Rd S w (.slice A 0 c) [] := ⟨by simp, A, c, rfl, by simp, fun h => absurd rfl h⟩
theorem Rd.form {α : Type} {t : Ty α} {S : List Nat} {w : World} {v : Value} {xs : List α} (h : t.Rd S w v xs) : ∃ A cap, v = .slice A xs.length cap := let ⟨_, A, cap, hv, _, _⟩ := h; ⟨A, cap, hv⟩
theorem Rd.le {α : Type} {t : Ty α} {S : List Nat} {w : World} {v : Value} {xs : List α} (h : t.Rd S w v xs) : xs.length ≤ 9223372036854775807 := h.1
/-- Slices as elements and fields. -/
def sl {α : Type} (t : Ty α) : Ty (List α) where
  n := 1
  R := fun S w xs cs => ∃ v, cs = [v] ∧ t.Rd S w v xs
  len := fun ⟨v, h, _⟩ => by rw [h]; rfl
  one := fun ⟨v, h, _, A, c, hv, _, _⟩ => by subst h; subst hv; simp [Value.oneCell']
  mv := fun hc hs ⟨v, h, hr⟩ => ⟨v, h, hr.mv hc hs⟩
/-- Two side by side. -/
def prod {α β : Type} (s : Ty α) (t : Ty β) : Ty (α × β) where
  n := s.n + t.n
  R := fun S w x cs => ∃ c d, cs = c ++ d ∧ s.R S w x.1 c ∧ t.R S w x.2 d
  len := fun ⟨c, d, h, hc, hd⟩ => by rw [h, List.length_append, s.len hc, t.len hd]
  one := fun ⟨c, d, h, hc, hd⟩ u hu => by
    rw [h, List.mem_append] at hu
    exact hu.elim (s.one hc u) (t.one hd u)
  mv := fun hc hs ⟨c, d, h, h1, h2⟩ => ⟨c, d, h, s.mv hc hs h1, t.mv hc hs h2⟩
end Ty
def u8v (b : UInt8) : Value := .int .u8 (b.toNat : Int)
abbrev eInt (k : IntKind) : En Int := { f := fun n => [.int k n], n := 1, hl := fun _ => rfl, h1 := fun _ u hu => by simp at hu; subst hu; rfl }
abbrev eBool : En Bool := { f := fun b => [.bool b], n := 1, hl := fun _ => rfl, h1 := fun _ u hu => by simp at hu; subst hu; rfl }
abbrev eStr : En ByteArray := { f := fun s => [.string s], n := 1, hl := fun _ => rfl, h1 := fun _ u hu => by simp at hu; subst hu; rfl }
abbrev eU8 : En UInt8 := { f := fun b => [u8v b], n := 1, hl := fun _ => rfl, h1 := fun _ u hu => by simp at hu; subst hu; rfl }
abbrev tInt (k : IntKind) : Ty Int := Ty.enc (eInt k)
abbrev tBool : Ty Bool := Ty.enc eBool
abbrev tStr : Ty ByteArray := Ty.enc eStr
abbrev tU8 : Ty UInt8 := Ty.enc eU8

/-! ### The operations -/
section
variable {P : Program} {ops : Array Oper} {Q : Exit → Act → World → Prop} {rest : List Oper} {l : List Value} {w : World}
  {T : TypeId} {pos : String} {after : Array Edge}
theorem run_zero {E : TypeId} {z : Value} {n b : Nat} [hi : Inf P E z n b] : (zeroValue E).run P w = .ok z w := by
  obtain ⟨i, h1, h2⟩ := Option.map_eq_some_iff.1 hi.out
  simp only [Prod.mk.injEq] at h2
  simp [zeroValue, typeInfo, program, Sem.run, h1, h2.1]
theorem run_size {E : TypeId} {z : Value} {n b : Nat} [hi : Inf P E z n b] : (sizeOf E).run P w = .ok n w := by
  obtain ⟨i, h1, h2⟩ := Option.map_eq_some_iff.1 hi.out
  simp only [Prod.mk.injEq] at h2
  simp [sizeOf, typeInfo, program, Sem.run, h1, h2.2.1]
theorem info_size {E : TypeId} {z : Value} {n b : Nat} (hi : Inf P E z n b) : (P.info? E).map (·.size) = some n := by
  obtain ⟨i, h1, h2⟩ := Option.map_eq_some_iff.1 hi.out
  simp only [Prod.mk.injEq] at h2
  simp [h1, h2.2.1]
theorem r_alloc {E : TypeId} {z : Value} {n b : Nat} [hi : Inf P E z n b] : (exec (ev l) (.alloc E) T).run P w = .ok (.value (.pointer (some ⟨w.heap.size, 0, none⟩))) (w.alloc (.cells z.cells E)) := by
  have hz := run_zero (w := w) (hi := hi)
  simp [exec, execOp, Instr.alloc, newVar, newRow, newObj, hz, Sem.run]
theorem r_box {E : TypeId} {x : Operand} : (exec (ev l) (.box E x) T).run P w = .ok (.value (.pointer (some ⟨w.heap.size, 0, none⟩))) (w.alloc (.cells (ev l x).cells E)) := by
  simp [exec, execOp, Instr.box, newVar, newRow, newObj, Sem.run]
theorem wl_alloc {d : Nat} {E : TypeId} {z : Value} {n b : Nat} [hi : Inf P E z n b] (h : ∀ w' b, New w w' b z.cells.toList E → wpList P ops Q rest (fr (l.set d (.pointer (some ⟨b, 0, none⟩)))) w') :
    wpList P ops Q ({ dst := some d, op := .alloc E, type := T, pos := pos, after := after, guard := none } :: rest) (fr l) w :=
  wl_val r_alloc (h _ _ (New.mk' w _ E))
theorem wl_box {d : Nat} {E : TypeId} {x : Operand} {v : Value} (hx : ev l x = v) (h : ∀ w' b, New w w' b v.cells.toList E → wpList P ops Q rest (fr (l.set d (.pointer (some ⟨b, 0, none⟩)))) w') :
    wpList P ops Q ({ dst := some d, op := .box E x, type := T, pos := pos, after := after, guard := none } :: rest) (fr l) w := by
  subst hx
  exact wl_val r_box (h _ _ (New.mk' w _ E))
theorem run_isAgg_one {t : TypeId} [hr : One P t] : (isAgg t).run P w = .ok false w := by
  obtain ⟨d, h1, h2⟩ := hr.out
  unfold isAgg
  rw [Sem.run_bind, run_underlying h1 w]
  cases d <;> simp_all
theorem run_loadVar_one {t : TypeId} {b o : Nat} {v : Value} [hr : One P t] (hc : w.cell? ⟨b, o, none⟩ = some v) : (loadVar t ⟨b, o, none⟩).run P w = .ok v w := by
  unfold loadVar
  rw [Sem.run_bind, run_isAgg_one]
  simp [load, Sem.run, hc]
theorem r_load_one {x : Operand} {t : TypeId} {b o : Nat} {v : Value} [hr : One P t] (hx : ev l x = .pointer (some ⟨b, o, none⟩)) (hc : w.cell? ⟨b, o, none⟩ = some v) :
    (exec (ev l) (.load t x) T).run P w = .ok (.value v) w := by
  simp [exec, execOp, Instr.loadAt, Instr.sureAddr, hx, run_loadVar_one hc]
theorem r_load_row {x : Operand} {t : TypeId} {b o : Nat} {cs : List Value} {z : Value} {n by_ : Nat} [hr : Row P t] [hi : Inf P t z n by_] (hx : ev l x = .pointer (some ⟨b, o, none⟩)) (hc : w.rangeAt b o cs) (hn : cs.length = n) :
    (exec (ev l) (.load t x) T).run P w = .ok (.value (.agg cs.toArray)) w := by
  subst hn
  obtain ⟨d, h1, h2⟩ := hr.out
  simp [exec, execOp, Instr.loadAt, Instr.sureAddr, hx, run_loadVar_mid w b o t cs d hc h1 h2 (info_size hi)]
theorem wl_loade_one {α : Type} {en : En α} {S : List Nat} {d : Nat} {x : Operand} {E : TypeId} {b o : Nat} {z : α} {v : Value} [hr : One P E] (hx : ev l x = .pointer (some ⟨b, o, none⟩)) (hA : (Ty.enc en).At S w b o z) (hv : en.f z = [v])
    (h : wpList P ops Q rest (fr (l.set d v)) w) :
    wpList P ops Q ({ dst := some d, op := .load E x, type := T, pos := pos, after := after, guard := none } :: rest) (fr l) w := by
  obtain ⟨hb, hS, cs, hR, hc⟩ := hA
  have hR' : cs = en.f z := hR
  rw [hv] at hR'
  subst hR'
  exact wl_val (r_load_one hx (hc 0 v rfl)) h
theorem wl_loade_row {α : Type} {en : En α} {S : List Nat} {d : Nat} {x : Operand} {E : TypeId} {b o : Nat} {z : α} {zv : Value} {m by_ : Nat} [hr : Row P E] [hi : Inf P E zv m by_] (hx : ev l x = .pointer (some ⟨b, o, none⟩)) (hA : (Ty.enc en).At S w b o z) (hm : en.n = m)
    (h : wpList P ops Q rest (fr (l.set d (.agg (en.f z).toArray))) w) :
    wpList P ops Q ({ dst := some d, op := .load E x, type := T, pos := pos, after := after, guard := none } :: rest) (fr l) w := by
  obtain ⟨hb, hS, cs, hR, hc⟩ := hA
  have hR' : cs = en.f z := hR
  subst hR'
  exact wl_val (r_load_row hx hc ((en.hl z).trans hm)) h
/-- The address of an element. -/
theorem r_indexAddr {x y : Operand} {s e : TypeId} {b o n c : Nat} {k : IntKind} {i : Int} {z : Value} {m by_ : Nat} [hu : Und P s (.slice e)] [hi : Inf P e z m by_]
    (hx : ev l x = .slice (some ⟨b, o, none⟩) n c) (hy : ev l y = .int k i) (h0 : 0 ≤ i) (h1 : i < n) :
    (exec (ev l) (.indexAddr s x y) T).run P w = .ok (.value (.pointer (some ⟨b, o + i.toNat * m, none⟩))) w := by
  simp [exec, execOp, Instr.indexAt, hx, hy, asIntOf, run_underlying hu.out, run_size (hi := hi), h0, h1, Addr.add_mid]
theorem r_indexAddr_arr {x y : Operand} {s e : TypeId} {b o n : Nat} {k : IntKind} {i : Int} {z : Value} {m by_ : Nat} [hu : Und P s (.array n e)] [hi : Inf P e z m by_]
    (hx : ev l x = .pointer (some ⟨b, o, none⟩)) (hy : ev l y = .int k i) (h0 : 0 ≤ i) (h1 : i < n) :
    (exec (ev l) (.indexAddr s x y) T).run P w = .ok (.value (.pointer (some ⟨b, o + i.toNat * m, none⟩))) w := by
  simp [exec, execOp, Instr.indexAt, Instr.sureAddr, hx, hy, asIntOf, run_underlying hu.out, run_size (hi := hi), h0, h1, Addr.add_mid]
theorem r_fieldAddr {x : Operand} {s t : TypeId} {f off b o : Nat} {z : Value} {n by_ : Nat} [hf : Fld P s f off t] [hi : Inf P t z n by_] (hx : ev l x = .pointer (some ⟨b, o, none⟩)) (hn : n ≠ 0) :
    (exec (ev l) (.fieldAddr s x f) T).run P w = .ok (.value (.pointer (some ⟨b, o + off, none⟩))) w := by
  obtain ⟨fs, fd, h1, h2, rfl, rfl⟩ := hf.out
  simp [exec, execOp, Instr.fieldAt, Instr.sureAddr, hx, run_underlying h1, h2, fieldPlace, run_size (hi := hi), hn, Addr.add_mid]
/-- Stores into a block of one's own. -/
theorem run_storeVar_blk {E t : TypeId} {b o : Nat} {cells : List Value} {v : Value} {z : Value} {n by_ : Nat} [hi : Inf P t z n by_] (hB : Blk w b cells E) (hf : o + n ≤ cells.length) (hn : v.cells.size = n) (h1 : ∀ u ∈ v.cells.toList, u.oneCell' = true) :
    ∃ w', (storeVar t ⟨b, o, none⟩ v).run P w = .ok () w' ∧ Blk w' b (spl cells o v.cells.toList) E ∧ Ch [b] w w' ∧ w'.heap.size = w.heap.size := by
  obtain ⟨k1, k2, k3⟩ := setCells_blk b E v.cells.toList o w cells hB (by simp [hn]; exact hf)
  refine ⟨_, ?_, k1, k2, k3⟩
  have ht : w.there b o v.cells.toList.length := hB.there (by simp [hn]; exact hf)
  have := run_storeCells_cells (P := P) b o v.cells.toList 0 w (fun j hj => by simpa using (ht j hj).1) (fun j hj => by simpa using (ht j hj).2) (fun u hu => h1 u hu)
  have hs := run_size (P := P) (w := w) (hi := hi)
  simp only [Nat.add_zero] at this
  simp [storeVar, hs, hn, this]
theorem wl_store {E t : TypeId} {x y : Operand} {b o : Nat} {cells : List Value} {v : Value} {z : Value} {n by_ : Nat} [hi : Inf P t z n by_] (hx : ev l x = .pointer (some ⟨b, o, none⟩)) (hy : ev l y = v) (hB : Blk w b cells E) (hf : o + n ≤ cells.length) (hn : v.cells.size = n) (h1 : ∀ u ∈ v.cells.toList, u.oneCell' = true)
    (h : ∀ w', Blk w' b (spl cells o v.cells.toList) E → Ch [b] w w' → w'.heap.size = w.heap.size → wpList P ops Q rest (fr l) w') :
    wpList P ops Q ({ dst := none, op := .store t x y, type := T, pos := pos, after := after, guard := none } :: rest) (fr l) w := by
  obtain ⟨w', k1, k2, k3, k4⟩ := run_storeVar_blk (P := P) (t := t) (o := o) hB hf hn h1
  refine wl_skip (w' := w') ?_ (h w' k2 k3 k4)
  simp [exec, execOp, Instr.storeAt, Instr.sureAddr, hx, hy, k1]
end
end Go.Proofs.E
set_option linter.unusedVariables false
set_option linter.unusedSimpArgs false
namespace Go.Proofs.E
open Go Go.RowKit

/-! ### Literals -/
theorem foldl_set (o : Nat) : ∀ (vs : List Value) (k : Nat) (cs : List Value), o + k + vs.length ≤ cs.length →
    (vs.zipIdx k).foldl (fun (a : Array Value) (x : Value × Nat) => a.setIfInBounds (o + x.2) x.1) cs.toArray = (spl cs (o + k) vs).toArray
  | [], k, cs, h => by simp [spl]
  | v :: vs, k, cs, h => by
    have h' : o + (k + 1) + vs.length ≤ (cs.set (o + k) v).length := by simp at h ⊢; omega
    have := foldl_set o vs (k + 1) (cs.set (o + k) v) h'
    simp only [List.zipIdx_cons, List.foldl_cons, List.setIfInBounds_toArray]
    rw [this, show o + (k + 1) = o + k + 1 by omega, spl_cons h]
theorem spl_at (A V Z : List Value) (h : V.length ≤ Z.length) : spl (A ++ Z) A.length V = (A ++ V) ++ Z.drop V.length := by
  simp [spl, List.drop_append]
theorem fill_go (m : Nat) : ∀ (vs : List Value) (k : Nat) (A Z : List Value), A.length = k * m → Z.length = vs.length * m → (∀ v ∈ vs, v.cells.size = m) →
    Instr.fill (fun i => some (i * m, m)) (A ++ Z).toArray ((vs.zipIdx k).map fun x => (x.2, x.1)) = some (A ++ vs.flatMap (fun v => v.cells.toList)).toArray
  | [], k, A, Z, hA, hZ, hm => by
    have : Z = [] := List.eq_nil_of_length_eq_zero (by simpa using hZ)
    subst this
    simp [Instr.fill]
  | v :: vs, k, A, Z, hA, hZ, hm => by
    have hv : v.cells.size = m := hm v (by simp)
    have hZ' : m ≤ Z.length := by rw [hZ, List.length_cons, Nat.succ_mul]; omega
    simp only [List.zipIdx_cons, List.map_cons, Instr.fill]
    rw [if_neg (by
      simp only [hv, ne_eq, not_true, decide_false, Bool.false_or, decide_eq_true_eq, List.size_toArray, List.length_append, hA]
      omega)]
    have hf := foldl_set (k * m) v.cells.toList 0 (A ++ Z) (by simp [hv, hA]; omega)
    have he : (v.cells.zipIdx.foldl (fun (cs : Array Value) (x : Value × Nat) => cs.setIfInBounds (k * m + x.2) x.1) (A ++ Z).toArray) = (spl (A ++ Z) (k * m + 0) v.cells.toList).toArray := by
      rw [← hf, ← Array.foldl_toList, Array.toList_zipIdx]
    simp only [Nat.add_zero] at he
    have hsp : spl (A ++ Z) (k * m) v.cells.toList = (A ++ v.cells.toList) ++ Z.drop m := by
      rw [← hA, spl_at A v.cells.toList Z (by simp [hv]; exact hZ')]
      simp [hv]
    rw [hsp] at he
    have ih := fill_go m vs (k + 1) (A ++ v.cells.toList) (Z.drop m) (by simp [hA, hv, Nat.succ_mul]) (by rw [List.length_drop, hZ, List.length_cons, Nat.succ_mul]; omega) (fun u hu => hm u (by simp [hu]))
    rw [List.flatMap_cons, ← List.append_assoc, ← ih]
    exact congrArg (fun a => Instr.fill (fun i => some (i * m, m)) a ((vs.zipIdx (k + 1)).map fun x => (x.2, x.1))) he
section
variable {P : Program} {ops : Array Oper} {Q : Exit → Act → World → Prop} {rest : List Oper} {l : List Value} {w : World}
  {T : TypeId} {pos : String} {after : Array Edge}
theorem inf_parts {E : TypeId} {z : Value} {n b : Nat} (hi : Inf P E z n b) : ∃ i : TypeInfo, P.info? E = some i ∧ i.zero = some z ∧ i.size = n ∧ i.bytes = b := by
  obtain ⟨i, h1, h2⟩ := Option.map_eq_some_iff.1 hi.out
  simp only [Prod.mk.injEq] at h2
  exact ⟨i, h1, h2.1, h2.2.1, h2.2.2⟩
theorem run_buildSlice' {t e : TypeId} {z : Value} {m by_ : Nat} [hu : Und P t (.slice e)] [hi : Inf P e z m by_] (vs : List Value) (hm : ∀ v ∈ vs, v.cells.size = m) (hsmall : vs.length * m ≤ 16777216) :
    (Instr.buildSlice t vs.length ((vs.zipIdx 0).map fun x => (x.2, x.1)).toArray).run P w = .ok (.slice (some ⟨w.heap.size, 0, none⟩) vs.length vs.length) (w.alloc (.cells (vs.flatMap (fun v => v.cells.toList)).toArray e)) := by
  obtain ⟨i, h1, h2, h3, h4⟩ := inf_parts hi
  by_cases h0 : vs.length * m = 0
  · have hf := fill_go m vs 0 [] [] (by simp) (by simp [h0]) hm
    simp only [List.nil_append] at hf
    have hr : (Array.range 0).map (fun x => (default : Value)) = #[] := by simp
    simp [Instr.buildSlice, run_underlying hu.out, run_size (hi := hi), h0, newRow, newObj, Sem.run, hf, hr]
  · have hz0 : ((Array.range (vs.length * m)).map (z.cells[· % z.cells.size]!)).toList.length = vs.length * m := by simp
    have hf := fill_go m vs 0 [] ((Array.range (vs.length * m)).map (z.cells[· % z.cells.size]!)).toList (by simp) hz0 hm
    simp only [List.nil_append, Array.toArray_toList] at hf
    simp [Instr.buildSlice, run_underlying hu.out, run_size (hi := hi), run_zero (hi := hi), h0, show ¬ 16777216 < vs.length * m by omega, newRow, newObj, Sem.run, hf]
theorem wl_buildSlice {d : Nat} {t e : TypeId} {n : Nat} {parts : List (Nat × Operand)} {vs : List Value} {z : Value} {m by_ : Nat} [hu : Und P t (.slice e)] [hi : Inf P e z m by_]
    (hp : (parts.map fun x => (x.1, ev l x.2)) = (vs.zipIdx 0).map fun x => (x.2, x.1)) (hn : vs.length = n) (hm : ∀ v ∈ vs, v.cells.size = m) (hsmall : n * m ≤ 16777216)
    (h : ∀ w' b, New w w' b (vs.flatMap (fun v => v.cells.toList)) e → wpList P ops Q rest (fr (l.set d (.slice (some ⟨b, 0, none⟩) n n))) w') :
    wpList P ops Q ({ dst := some d, op := .buildSlice t n parts.toArray, type := T, pos := pos, after := after, guard := none } :: rest) (fr l) w := by
  subst hn
  refine wl_val ?_ (h _ _ (New.mk_ w _ e))
  have := run_buildSlice' (P := P) (w := w) (t := t) vs hm hsmall
  rw [← hp] at this
  simp only [exec, execOp, List.map_toArray]
  rw [Sem.run_bind, this]
  rfl
end

/-! ### Cuts -/
section
variable {P : Program} {ops : Array Oper} {Q : Exit → Act → World → Prop} {rest : List Oper} {l : List Value} {w : World}
  {T : TypeId} {pos : String} {after : Array Edge}
theorem bnd_none {n c : Nat} {b : Bool} : (Instr.sliceBounds b n c none none none).run P w = .ok (0, n, c) w := by simp [Instr.sliceBounds]
theorem bnd_lo {n c : Nat} {k : IntKind} {i : Int} {b : Bool} (h0 : 0 ≤ i) (h1 : i ≤ n) : (Instr.sliceBounds b n c (some (.int k i)) none none).run P w = .ok (i.toNat, n, c) w := by
  simp [Instr.sliceBounds, Instr.sliceBound, asIntOf, h0, h1]
theorem bnd_hi {n c : Nat} {k : IntKind} {j : Int} {b : Bool} (h0 : 0 ≤ j) (h1 : j ≤ c) : (Instr.sliceBounds b n c none (some (.int k j)) none).run P w = .ok (0, j.toNat, c) w := by
  simp [Instr.sliceBounds, Instr.sliceBound, asIntOf, h0, h1]
theorem bnd_lh {n c : Nat} {k k' : IntKind} {i j : Int} {b : Bool} (h0 : 0 ≤ i) (h2 : i ≤ j) (h1 : j ≤ c) : (Instr.sliceBounds b n c (some (.int k i)) (some (.int k' j)) none).run P w = .ok (i.toNat, j.toNat, c) w := by
  have hj : 0 ≤ j := by omega
  simp [Instr.sliceBounds, Instr.sliceBound, asIntOf, h0, h1, hj]
  intro hc
  omega
/-! The cuts x[i:], x[:j], x[i:j], x[:j:q] of a slice that is read. -/
section
variable {α : Type} {ty : Ty α} {S : List Nat} {d : Nat} {x : Operand} {t e : TypeId} {z : Value} {m by_ : Nat} [hu : Und P t (.slice e)] [hi : Inf P e z m by_] {v : Value} {xs : List α}
include hu hi
end
end

/-! ### Rows of one's own: append -/
section
variable {P : Program} {ops : Array Oper} {Q : Exit → Act → World → Prop} {rest : List Oper} {l : List Value} {w : World}
  {T : TypeId} {pos : String} {after : Array Edge}
theorem Ch.of_grown {w w' : World} {r : Option Nat} (h : w.grownBy w' r) : Ch r.toList w w' :=
  ⟨h.os, h.tape, h.output, h.size, fun k hk hn => h.block k hk (fun e => hn (by rw [← e]; simp))⟩
/-- A row that the call itself makes: its elements hold no address. -/
def Own {α : Type} (en : En α) (w : World) (base : Nat) (E : TypeId) (v : Value) (xs : List α) : Prop := w.ownsRow base E en.n v xs.length (xs.flatMap en.f)
theorem Own.nil {α : Type} (en : En α) (w : World) (base : Nat) (E : TypeId) : Own en w base E (.slice none 0 0) [] := ⟨by simp, .inl ⟨rfl, rfl⟩⟩
theorem Own.ch {α : Type} {en : En α} {w w' : World} {base : Nat} {E : TypeId} {v : Value} {xs : List α} {S : List Nat} (h : Own en w base E v xs) (hc : Ch S w w') (hn : ∀ k, v.ownBlock = some k → k ∉ S) : Own en w' base E v xs := by
  obtain ⟨h1, h2⟩ := h
  refine ⟨h1, ?_⟩
  rcases h2 with h2 | ⟨g, cap, cur, rfl, hg, hh, r⟩
  · exact .inl h2
  · exact .inr ⟨g, cap, cur, rfl, hg, (hc.block g (Array.getElem?_eq_some_iff.1 hh).1 (hn g rfl)).trans hh, r⟩
theorem Own.lt {α : Type} {en : En α} {w : World} {base : Nat} {E : TypeId} {v : Value} {xs : List α} (h : Own en w base E v xs) {k : Nat} (hk : v.ownBlock = some k) : base ≤ k ∧ k < w.heap.size := by
  rcases h.2 with ⟨rfl, _⟩ | ⟨g, cap, cur, rfl, hg, hh, r⟩
  · cases hk
  · have : g = k := by simpa [Value.ownBlock] using hk
    subst this
    exact ⟨hg, (Array.getElem?_eq_some_iff.1 hh).1⟩
theorem flatMap_at {α : Type} {f : α → List Value} {n : Nat} (hf : ∀ x, (f x).length = n) : ∀ (xs : List α) (i : Nat) (x : α), xs[i]? = some x → ∀ j v, (f x)[j]? = some v → (xs.flatMap f)[i * n + j]? = some v
  | [], i, x, h, _, _, _ => by simp at h
  | y :: xs, 0, x, h, j, v, hv => by
    simp only [List.getElem?_cons_zero, Option.some.injEq] at h
    subst h
    have hj := (List.getElem?_eq_some_iff.1 hv).1
    rw [List.flatMap_cons, Nat.zero_mul, Nat.zero_add, List.getElem?_append_left hj]
    exact hv
  | y :: xs, i + 1, x, h, j, v, hv => by
    rw [List.flatMap_cons, List.getElem?_append_right (by rw [hf, Nat.succ_mul]; omega), hf, show (i + 1) * n + j - n = i * n + j by rw [Nat.succ_mul]; omega]
    exact flatMap_at hf xs i x (by simpa using h) j v hv
theorem flatMap_len {α : Type} {f : α → List Value} {n : Nat} (hf : ∀ x, (f x).length = n) (xs : List α) : (xs.flatMap f).length = xs.length * n := by
  induction xs with
  | nil => simp
  | cons x xs ih => rw [List.flatMap_cons, List.length_append, hf, ih, List.length_cons, Nat.succ_mul, Nat.add_comm]
/-- What a row of one's own reads as. -/
theorem Own.rd {α : Type} {en : En α} {w : World} {base : Nat} {E : TypeId} {v : Value} {xs : List α} {S : List Nat} (h : Own en w base E v xs) (hS : ∀ k, v.ownBlock = some k → k ∉ S) (hb : xs.length ≤ 9223372036854775807) :
    (Ty.enc en).Rd S w v xs := by
  refine ⟨hb, ?_⟩
  rcases h.2 with ⟨rfl, h0⟩ | ⟨g, cap, cur, rfl, hg, hh, hc1, hc2, hc3, hc4⟩
  · have := List.eq_nil_of_length_eq_zero h0
    subst this
    exact ⟨none, 0, rfl, by simp, fun h => absurd rfl h⟩
  · refine ⟨_, cap, rfl, hc1, fun hne => ⟨g, 0, rfl, (Array.getElem?_eq_some_iff.1 hh).1, hS g rfl, fun i x hx => ⟨(Array.getElem?_eq_some_iff.1 hh).1, hS g rfl, en.f x, rfl, fun j u hu => ?_⟩⟩⟩
    have ht := flatMap_at en.hl xs i x hx j u hu
    rw [← hc4, List.getElem?_take] at ht
    split at ht
    · rw [cell_of_row w g _ cur E (0, 0) hh]
      simp only [Ty.enc] at *
      rw [Nat.zero_add]
      simpa using ht
    · cases ht
/-- append(v, ys...), ys somewhere in memory. -/
theorem wl_append {α : Type} {en : En α} {n by_ : Nat} {d : Nat} {x y : Operand} {t e : TypeId} {z : Value} [hu : Und P t (.slice e)] [hi : Inf P e z n by_] (hm : en.n = n) (hz : z.cells.size = n) (hn : 0 < n)
    {base : Nat} {v : Value} {xs ys : List α} {b o c : Nat} (hx : ev l x = v) (hO : Own en w base e v xs) (hbase : base ≤ w.heap.size) (hy : ev l y = .slice (some ⟨b, o, none⟩) ys.length c) (hr : w.rangeAt b o (ys.flatMap en.f)) (hb : (xs.length + ys.length) * by_ ≤ 140737488355328) (h63 : xs.length + ys.length ≤ 281474976710656)
    (h : ∀ v' w', Own en w' base e v' (xs ++ ys) → Ch v.ownBlock.toList w w' → (v'.ownBlock = v.ownBlock ∨ v'.ownBlock = some w.heap.size) → wpList P ops Q rest (fr (l.set d v')) w') :
    wpList P ops Q ({ dst := some d, op := .call { callee := .builtin .append, args := #[x, y], argTypes := #[t, t] }, type := T, pos := pos, after := after, guard := none } :: rest) (fr l) w := by
  subst hm
  obtain ⟨i, k1, k2, k3, k4⟩ := inf_parts hi
  obtain ⟨v', w', hrun, hown, hg, _, hat⟩ := run_append_own_at (P := P) w base t T e i z en.n by_ hu.out k1 k2 k3 k4 hz hn v xs.length (xs.flatMap en.f) hO ⟨b, o, none⟩ ys.length c (ys.flatMap en.f) (flatMap_len en.hl ys)
    (fun j u hu => by rw [Addr.add_mid]; exact hr j u hu) (fun u hu => by obtain ⟨q, _, hq⟩ := List.mem_flatMap.1 hu; exact en.h1 q u hq) (by simp only [maxLen]; omega) hb hbase
  refine wl_val ?_ (h v' w' (by unfold Own; rw [List.length_append, List.flatMap_append]; exact hown) (Ch.of_grown hg) hat)
  simp [exec, execOp, resolve, invoke, builtin, hx, hy, hrun]
/-- append(v, a): the literal of one element, and the append behind it. -/
theorem wl_push {α : Type} {en : En α} {n by_ : Nat} {d d1 : Nat} {x y : Operand} {t e : TypeId} {z : Value} [hu : Und P t (.slice e)] [hi : Inf P e z n by_] (hm : en.n = n) (hz : z.cells.size = n) (hn : 0 < n) (hn2 : n ≤ 16777216)
    {T' : TypeId} {pos' : String} {after' : Array Edge} {base : Nat} {v xv : Value} {xs : List α} {a : α} (hx : ev l x = xv) (hy : ∀ u, ev (l.set d1 u) y = v) (hd : ∀ u, ev (l.set d1 u) (.tmp d1) = u) (ha : xv.cells.toList = en.f a) (hO : Own en w base e v xs) (hbase : base ≤ w.heap.size) (hb : (xs.length + 1) * by_ ≤ 140737488355328) (h63 : xs.length + 1 ≤ 281474976710656)
    (h : ∀ u v' w', Own en w' base e v' (xs ++ [a]) → Ch v.ownBlock.toList w w' → (v'.ownBlock = v.ownBlock ∨ ∃ k, v'.ownBlock = some k ∧ w.heap.size ≤ k) → wpList P ops Q rest (fr ((l.set d1 u).set d v')) w') :
    wpList P ops Q ({ dst := some d1, op := .buildSlice t 1 #[(0, x)], type := T', pos := pos', after := after', guard := none } :: { dst := some d, op := .call { callee := .builtin .append, args := #[y, .tmp d1], argTypes := #[t, t] }, type := T, pos := pos, after := after, guard := none } :: rest) (fr l) w := by
  subst hm
  have hcs : xv.cells.size = en.n := by rw [← Array.length_toList, ha, en.hl]
  refine wl_buildSlice (parts := [(0, x)]) (vs := [xv]) (by simp [hx]) rfl (by simpa using hcs) (by omega) ?_
  intro w1 b hN
  have hblk := hN.blk.range 0 en.n
  have hr : w1.rangeAt b 0 ([a].flatMap en.f) := by
    have he : (List.drop 0 ([xv].flatMap (fun v => v.cells.toList))).take en.n = [a].flatMap en.f := by
      simp [ha]
      rw [List.take_of_length_le (by rw [en.hl]; exact Nat.le_refl _)]
    rw [he] at hblk
    exact hblk
  have hO1 : Own en w1 base e v xs := hO.ch hN.ch (by simp)
  refine wl_append rfl hz hn (hy _) hO1 (Nat.le_trans hbase hN.ch.size) (ys := [a]) (hd _) hr hb h63 ?_
  intro v' w' hO' hc hat
  refine h _ v' w' hO' (hN.ch.trans hc (by simp) (fun _ _ h => h)) ?_
  rcases hat with hat | hat
  · exact .inl hat
  · exact .inr ⟨_, hat, hN.ch.size⟩
/-! ### The same, looking for their own proofs -/
end
end Go.Proofs.E

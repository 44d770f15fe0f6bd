/- Rows of rows: copies, made slices, stores of elements. -/
import Derived.Test.YtbecfcnbgeeghaaDoorV
import Derived.Laws.MakeOwn
import Derived.Scope
set_option linter.unusedVariables false
set_option linter.unusedSimpArgs false
namespace Go.Proofs.E
open Go Go.RowKit
theorem flatMap_take {α : Type} {f : α → List Value} {n : Nat} (hf : ∀ x, (f x).length = n) : ∀ (xs : List α) (i : Nat), (xs.flatMap f).take (i * n) = (xs.take i).flatMap f
  | [], i => by simp
  | x :: xs, 0 => by simp
  | x :: xs, i + 1 => by
    rw [List.flatMap_cons, List.take_succ_cons, List.flatMap_cons, List.take_append, hf, Nat.succ_mul, show i * n + n - n = i * n by omega, flatMap_take hf xs i, List.take_of_length_le (by rw [hf]; omega)]
theorem flatMap_drop {α : Type} {f : α → List Value} {n : Nat} (hf : ∀ x, (f x).length = n) : ∀ (xs : List α) (i : Nat), (xs.flatMap f).drop (i * n) = (xs.drop i).flatMap f
  | [], i => by simp
  | x :: xs, 0 => by simp
  | x :: xs, i + 1 => by
    rw [List.flatMap_cons, List.drop_succ_cons, List.drop_append, hf, Nat.succ_mul, show i * n + n - n = i * n by omega, flatMap_drop hf xs i, List.drop_of_length_le (by rw [hf]; omega), List.nil_append]
theorem spl_flat {α : Type} {f : α → List Value} {n : Nat} (hf : ∀ x, (f x).length = n) {xs : List α} {i : Nat} {x : α} (h : i < xs.length) : spl (xs.flatMap f) (i * n) (f x) = (xs.set i x).flatMap f := by
  unfold spl
  rw [flatMap_take hf, hf, show i * n + n = (i + 1) * n by rw [Nat.succ_mul], flatMap_drop hf, List.set_eq_take_append_cons_drop, if_pos h, List.flatMap_append, List.flatMap_cons, List.append_assoc]
theorem range_flat {α : Type} {f : α → List Value} {n : Nat} (hf : ∀ x, (f x).length = n) {w : World} {b : Nat} : ∀ (xs : List α) (o : Nat), (∀ (i : Nat) x, xs[i]? = some x → w.rangeAt b (o + i * n) (f x)) → w.rangeAt b o (xs.flatMap f)
  | [], o, _ => fun j v hv => by simp at hv
  | x :: xs, o, h => fun j v hv => by
    rw [List.flatMap_cons] at hv
    rcases Nat.lt_or_ge j n with hj | hj
    · rw [List.getElem?_append_left (by rw [hf]; exact hj)] at hv
      have := h 0 x rfl j v hv
      simpa using this
    · rw [List.getElem?_append_right (by rw [hf]; exact hj), hf] at hv
      have := range_flat hf xs (o + n) (fun i y hy => by
        have := h (i + 1) y (by simpa using hy)
        rwa [show o + n + i * n = o + (i + 1) * n by rw [Nat.succ_mul]; omega]) (j - n) v hv
      rwa [show o + n + (j - n) = o + j by omega] at this
theorem x_ng {Q : Exit → Act → World → Prop} {a : Act} {w : World} (h : Q .normal a w) : Exit.noGoto Q .normal a w := h
theorem x_ng_ret {Q : Exit → Act → World → Prop} {a : Act} {w : World} (h : Q .ret a w) : Exit.noGoto Q .ret a w := h
theorem x_ng_exit {Q : Exit → Act → World → Prop} {a : Act} {w : World} {i : Nat} (h : Q (.exit i) a w) : Exit.noGoto Q (.exit i) a w := h
/-- A row of elements that is read. -/
theorem rowE {α : Type} {en : En α} {w : World} {S : List Nat} {v : Value} {xs : List α} (h : (Ty.enc en).Rd S w v xs) (hne : xs ≠ []) : ∃ b o cap, v = .slice (some ⟨b, o, none⟩) xs.length cap ∧ b < w.heap.size ∧ b ∉ S ∧ w.rangeAt b o (xs.flatMap en.f) := by
  obtain ⟨_, A, cap, rfl, _, h2⟩ := h
  obtain ⟨b, o, rfl, hb, hS, hat⟩ := h2 hne
  refine ⟨b, o, cap, rfl, hb, hS, range_flat en.hl xs o fun i x hx => ?_⟩
  obtain ⟨_, _, cs, hcs, hr⟩ := hat i x hx
  have hcs' : cs = en.f x := hcs
  subst hcs'
  exact hr
/-- A slice of a block of one's own. -/
theorem Blk.rdE {α : Type} {en : En α} {w : World} {S : List Nat} {b m cap o : Nat} {ys : List α} {E : TypeId} (hB : Blk w b (ys.flatMap en.f) E) (hS : b ∉ S) (hm : o + m ≤ ys.length) (hle : m ≤ cap) (hb : m ≤ 9223372036854775807) : (Ty.enc en).Rd S w (.slice (some ⟨b, o * en.n, none⟩) m cap) ((ys.drop o).take m) := by
  have hl : ((ys.drop o).take m).length = m := by rw [List.length_take, List.length_drop]; omega
  refine ⟨by rw [hl]; exact hb, _, cap, by rw [hl], by rw [hl]; exact hle, fun _ => ⟨b, o * en.n, rfl, hB.lt, hS, fun i x hx => ⟨hB.lt, hS, _, rfl, fun j v hv => ?_⟩⟩⟩
  rw [List.getElem?_take] at hx
  split at hx
  · rw [List.getElem?_drop] at hx
    refine hB.cell ?_
    have := flatMap_at en.hl ys (o + i) x hx j v hv
    show (ys.flatMap en.f)[o * en.n + i * en.n + j]? = _
    rwa [← Nat.add_mul]
  · cases hx
section
variable {P : Program} {ops : Array Oper} {Q : Exit → Act → World → Prop} {rest : List Oper} {l : List Value} {w : World} {op : Op} {T : TypeId} {pos : String} {after : Array Edge}
/-- make(t, n, c). -/
theorem wl_make {d : Nat} {x y : Operand} {t e : TypeId} {z : Value} {m by_ n c : Nat} {k1 k2 : IntKind} [hu : Und P t (.slice e)] [hi : Inf P e z m by_] (hx : ev l x = .int k1 (n : Int)) (hy : ev l y = .int k2 (c : Int)) (hnc : n ≤ c) (hb : by_ * c ≤ 281474976710656) (h63 : c ≤ 9223372036854775807)
    (h : ∀ w' b cs, New w w' b cs e → cs.length = c * m → wpList P ops Q rest (fr (l.set d (.slice (some ⟨b, 0, none⟩) n c))) w') :
    wpList P ops Q ({ dst := some d, op := .makeSlice t x y, type := T, pos := pos, after := after, guard := none } :: rest) (fr l) w := by
  obtain ⟨i, k1', k2', k3, k4⟩ := inf_parts hi
  have hb' : (i.bytes : Int) * (c : Int) ≤ 281474976710656 := by
    rw [k4]
    have h : ((by_ * c : Nat) : Int) ≤ 281474976710656 := by omega
    rwa [Int.natCast_mul] at h
  have hr := run_make (P := P) w t e i z hu.out k1' k2' k1 k2 n c (by omega) (by omega) hb' (by omega)
  simp only [Int.toNat_natCast] at hr
  refine wl_val (w' := w.alloc (.cells (madeCells z.cells (c * i.size)) e)) ?_ (h _ w.heap.size (madeCells z.cells (c * i.size)).toList (New.mk' w _ e) (by rw [Array.length_toList, size_madeCells, k3]))
  simp [exec, execOp, hx, hy, hr]
/-- copy(x, y), of elements of any size, into a block of one's own. -/
theorem r_copyE {x y : Operand} {t e : TypeId} {z : Value} {m by_ b o n c n2 c2 o2 b2 : Nat} {cs cells : List Value} {E : TypeId} [hu : Und P t (.slice e)] [hi : Inf P e z m by_] (hx : ev l x = .slice (some ⟨b, o, none⟩) n c) (hy : ev l y = .slice (some ⟨b2, o2, none⟩) n2 c2)
    (hB : Blk w b cells E) (hn : cs.length = Nat.min n2 n * m) (hr : w.rangeAt b2 o2 cs) (hf : o + cs.length ≤ cells.length) (h1 : ∀ v ∈ cs, v.oneCell' = true) :
    ∃ w', (exec (ev l) (.call { callee := .builtin .copy, args := #[x, y], argTypes := #[t, t] }) T).run P w = .ok (.value (.int .i64 (Nat.min n2 n : Nat))) w' ∧ Blk w' b (spl cells o cs) E ∧ Ch [b] w w' ∧ w'.heap.size = w.heap.size := by
  obtain ⟨i, k1, k2, k3, k4⟩ := inf_parts hi
  obtain ⟨q1, q2, q3⟩ := setCells_blk b E cs o w cells hB hf
  refine ⟨_, ?_, q1, q2, q3⟩
  have ht : w.there b o cs.length := hB.there hf
  have hl := run_loadCells_list (P := P) w ⟨b2, o2, none⟩ cs (fun j v hj => by by_cases hj0 : j = 0 <;> simpa [Addr.add, hj0] using hr j v hj)
  have hst := run_storeCells_cells (P := P) b o cs 0 w (by simpa using fun j hj => (ht j hj).1) (by simpa using fun j hj => (ht j hj).2) h1
  simp only [Nat.add_zero] at hst
  simp [exec, execOp, resolve, invoke, builtin, Builtin.copy_, hx, hy, run_underlying hu.out, Builtin.lenOf, Builtin.firstCells, sizeOf, typeInfo, k1, k3, ← hn, hl, hst, goInt]
/-- copy of all of a slice that is read over a block of one's own. -/
theorem cpE {α : Type} {en : En α} {d : Nat} {x y : Operand} {t e : TypeId} {z yv : Value} {m by_ b c : Nat} {S : List Nat} {xs : List α} {cells : List Value} {E : TypeId} [hu : Und P t (.slice e)] [hi : Inf P e z m by_] (hm : en.n = m) (hx : ev l x = .slice (some ⟨b, 0, none⟩) xs.length c) (hy : ev l y = yv)
    (hB : Blk w b cells E) (hR : (Ty.enc en).Rd S w yv xs) (hl : xs.length * m ≤ cells.length)
    (h : ∀ v w', Blk w' b (xs.flatMap en.f ++ cells.drop (xs.length * m)) E → Ch [b] w w' → w'.heap.size = w.heap.size → wpList P ops Q rest (fr (l.set d v)) w') :
    wpList P ops Q ({ dst := some d, op := .call { callee := .builtin .copy, args := #[x, y], argTypes := #[t, t] }, type := T, pos := pos, after := after, guard := none } :: rest) (fr l) w := by
  subst hm
  by_cases hne : xs = []
  · subst hne
    obtain ⟨A, cap, rfl⟩ := hR.form
    obtain ⟨i, k1, k2, k3, k4⟩ := inf_parts hi
    refine wl_val (w' := w) (v := .int .i64 0) ?_ (h _ w (by simpa using hB) (Ch.refl _ _) rfl)
    have hl : ∀ (x : Addr), (loadCells x 0).run P w = .ok #[] w := fun x => by simpa using run_loadCells_list (P := P) w x [] (by simp)
    cases A <;> simp [exec, execOp, resolve, invoke, builtin, Builtin.copy_, hx, hy, run_underlying hu.out, Builtin.lenOf, Builtin.firstCells, sizeOf, typeInfo, k1, k3, hl, goInt, storeCells]
  · obtain ⟨b2, o2, cap, rfl, hb2, hS, hrow⟩ := rowE hR hne
    have hfl := flatMap_len en.hl xs
    obtain ⟨w', q1, q2, q3, q4⟩ := r_copyE (P := P) (T := T) (l := l) (hu := hu) (hi := hi) hx hy hB (cs := xs.flatMap en.f) (by rw [hfl]; congr 1; exact (Nat.min_self _).symm) hrow (by rw [hfl]; omega) (fun u hu => by obtain ⟨q, _, hq⟩ := List.mem_flatMap.1 hu; exact en.h1 q u hq)
    refine wl_val q1 (h _ w' ?_ q3 q4)
    simpa [spl, hfl] using q2
/-- A store of one element into a block of one's own. -/
theorem stE {α : Type} {en : En α} {x y : Operand} {E t : TypeId} {b o i n by_ : Nat} {ys : List α} {a : α} {z : Value} [hi : Inf P t z n by_] (hm : en.n = n) (hB : Blk w b (ys.flatMap en.f) E) (hx : ev l x = .pointer (some ⟨b, o, none⟩)) (hy : ev l y = .agg (en.f a).toArray) (ho : o = i * n) (hf : i < ys.length)
    (h : ∀ w', Blk w' b ((ys.set i a).flatMap en.f) E → Ch [b] w w' → w'.heap.size = w.heap.size → wpList P ops Q rest (fr l) w') :
    wpList P ops Q ({ dst := none, op := .store t x y, type := T, pos := pos, after := after, guard := none } :: rest) (fr l) w := by
  subst hm ho
  have hfl := flatMap_len en.hl ys
  refine wl_store hx hy hB (by rw [hfl, ← Nat.succ_mul]; exact Nat.mul_le_mul_right _ hf) (by simp [Value.cells, en.hl]) (by simpa [Value.cells] using en.h1 a) fun w' hb hc hs => h w' ?_ hc hs
  have e : (Value.agg (en.f a).toArray).cells.toList = en.f a := by simp [Value.cells]
  rw [e, spl_flat en.hl hf] at hb
  exact hb
/-- x[:j] of a slice whose block is known. -/
theorem r_cut_own {x y : Operand} {t e : TypeId} {z : Value} {m by_ n c b o : Nat} {k : IntKind} {j : Int} [hu : Und P t (.slice e)] [hi : Inf P e z m by_] (hx : ev l x = .slice (some ⟨b, o, none⟩) n c) (hy : ev l y = .int k j) (h0 : 0 ≤ j) (h1 : j ≤ c) :
    (exec (ev l) (.slice t x none (some y) none) T).run P w = .ok (.value (.slice (some ⟨b, o, none⟩) j.toNat c)) w := by
  have := run_cut (P := P) (w := w) (t := t) (e := e) (hu := hu) (hi := hi) (A := some ⟨b, o, none⟩) (bnd_hi (b := true) (n := n) (c := c) (k := k) h0 h1)
  simp [exec, execOp, hx, hy, this, Addr.add]
end
end Go.Proofs.E

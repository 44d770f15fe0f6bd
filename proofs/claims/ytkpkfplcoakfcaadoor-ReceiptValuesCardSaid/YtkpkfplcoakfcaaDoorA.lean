/- The engine's slices: literals, cuts, appends, make, copy. -/
import Derived.Test.YtkpkfplcoakfcaaDoorM
set_option linter.unusedVariables false
set_option linter.unusedSimpArgs false
namespace Go.Proofs.E
open Go Go.RowKit

/-! ### Literals -/
theorem foldl_set (o : Nat) : ∀ (vs : List Value) (k : Nat) (cs : List Value), o + k + vs.length ≤ cs.length →
    (vs.zipIdx k).foldl (fun (a : Array Value) (x : Value × Nat) => a.setIfInBounds (o + x.2) x.1) cs.toArray = (spl cs (o + k) vs).toArray
  | [], k, cs, h => by simp [spl]
  | v :: vs, k, cs, h => by
    have h' : o + (k + 1) + vs.length ≤ (cs.set (o + k) v).length := by simp at h ⊢; omega
    have := foldl_set o vs (k + 1) (cs.set (o + k) v) h'
    simp only [List.zipIdx_cons, List.foldl_cons, List.setIfInBounds_toArray]
    rw [this, show o + (k + 1) = o + k + 1 by omega, spl_cons h]
theorem spl_at (A V Z : List Value) (h : V.length ≤ Z.length) : spl (A ++ Z) A.length V = (A ++ V) ++ Z.drop V.length := by
  simp [spl, List.drop_append]
theorem fill_go (m : Nat) : ∀ (vs : List Value) (k : Nat) (A Z : List Value), A.length = k * m → Z.length = vs.length * m → (∀ v ∈ vs, v.cells.size = m) →
    Instr.fill (fun i => some (i * m, m)) (A ++ Z).toArray ((vs.zipIdx k).map fun x => (x.2, x.1)) = some (A ++ vs.flatMap (fun v => v.cells.toList)).toArray
  | [], k, A, Z, hA, hZ, hm => by
    have : Z = [] := List.eq_nil_of_length_eq_zero (by simpa using hZ)
    subst this
    simp [Instr.fill]
  | v :: vs, k, A, Z, hA, hZ, hm => by
    have hv : v.cells.size = m := hm v (by simp)
    have hZ' : m ≤ Z.length := by rw [hZ, List.length_cons, Nat.succ_mul]; omega
    simp only [List.zipIdx_cons, List.map_cons, Instr.fill]
    rw [if_neg (by
      simp only [hv, ne_eq, not_true, decide_false, Bool.false_or, decide_eq_true_eq, List.size_toArray, List.length_append, hA]
      omega)]
    have hf := foldl_set (k * m) v.cells.toList 0 (A ++ Z) (by simp [hv, hA]; omega)
    have he : (v.cells.zipIdx.foldl (fun (cs : Array Value) (x : Value × Nat) => cs.setIfInBounds (k * m + x.2) x.1) (A ++ Z).toArray) = (spl (A ++ Z) (k * m + 0) v.cells.toList).toArray := by
      rw [← hf, ← Array.foldl_toList, Array.toList_zipIdx]
    simp only [Nat.add_zero] at he
    have hsp : spl (A ++ Z) (k * m) v.cells.toList = (A ++ v.cells.toList) ++ Z.drop m := by
      rw [← hA, spl_at A v.cells.toList Z (by simp [hv]; exact hZ')]
      simp [hv]
    rw [hsp] at he
    have ih := fill_go m vs (k + 1) (A ++ v.cells.toList) (Z.drop m) (by simp [hA, hv, Nat.succ_mul]) (by rw [List.length_drop, hZ, List.length_cons, Nat.succ_mul]; omega) (fun u hu => hm u (by simp [hu]))
    rw [List.flatMap_cons, ← List.append_assoc, ← ih]
    exact congrArg (fun a => Instr.fill (fun i => some (i * m, m)) a ((vs.zipIdx (k + 1)).map fun x => (x.2, x.1))) he
section
variable {P : Program} {ops : Array Oper} {Q : Exit → Act → World → Prop} {rest : List Oper} {l : List Value} {w : World}
  {T : TypeId} {pos : String} {after : Array Edge}
theorem inf_parts {E : TypeId} {z : Value} {n b : Nat} (hi : Inf P E z n b) : ∃ i : TypeInfo, P.info? E = some i ∧ i.zero = some z ∧ i.size = n ∧ i.bytes = b := by
  obtain ⟨i, h1, h2⟩ := Option.map_eq_some_iff.1 hi.out
  simp only [Prod.mk.injEq] at h2
  exact ⟨i, h1, h2.1, h2.2.1, h2.2.2⟩
theorem run_buildSlice' {t e : TypeId} {z : Value} {m by_ : Nat} [hu : Und P t (.slice e)] [hi : Inf P e z m by_] (vs : List Value) (hm : ∀ v ∈ vs, v.cells.size = m) (hsmall : vs.length * m ≤ 16777216) :
    (Instr.buildSlice t vs.length ((vs.zipIdx 0).map fun x => (x.2, x.1)).toArray).run P w = .ok (.slice (some ⟨w.heap.size, 0, none⟩) vs.length vs.length) (w.alloc (.cells (vs.flatMap (fun v => v.cells.toList)).toArray e)) := by
  obtain ⟨i, h1, h2, h3, h4⟩ := inf_parts hi
  by_cases h0 : vs.length * m = 0
  · have hf := fill_go m vs 0 [] [] (by simp) (by simp [h0]) hm
    simp only [List.nil_append] at hf
    have hr : (Array.range 0).map (fun x => (default : Value)) = #[] := by simp
    simp [Instr.buildSlice, run_underlying hu.out, run_size (hi := hi), h0, newRow, newObj, Sem.run, hf, hr]
  · have hz0 : ((Array.range (vs.length * m)).map (z.cells[· % z.cells.size]!)).toList.length = vs.length * m := by simp
    have hf := fill_go m vs 0 [] ((Array.range (vs.length * m)).map (z.cells[· % z.cells.size]!)).toList (by simp) hz0 hm
    simp only [List.nil_append, Array.toArray_toList] at hf
    simp [Instr.buildSlice, run_underlying hu.out, run_size (hi := hi), run_zero (hi := hi), h0, show ¬ 16777216 < vs.length * m by omega, newRow, newObj, Sem.run, hf]
theorem wl_buildSlice {d : Nat} {t e : TypeId} {n : Nat} {parts : List (Nat × Operand)} {vs : List Value} {z : Value} {m by_ : Nat} [hu : Und P t (.slice e)] [hi : Inf P e z m by_]
    (hp : (parts.map fun x => (x.1, ev l x.2)) = (vs.zipIdx 0).map fun x => (x.2, x.1)) (hn : vs.length = n) (hm : ∀ v ∈ vs, v.cells.size = m) (hsmall : n * m ≤ 16777216)
    (h : ∀ w' b, New w w' b (vs.flatMap (fun v => v.cells.toList)) e → wpList P ops Q rest (fr (l.set d (.slice (some ⟨b, 0, none⟩) n n))) w') :
    wpList P ops Q ({ dst := some d, op := .buildSlice t n parts.toArray, type := T, pos := pos, after := after, guard := none } :: rest) (fr l) w := by
  subst hn
  refine wl_val ?_ (h _ _ (New.mk_ w _ e))
  have := run_buildSlice' (P := P) (w := w) (t := t) vs hm hsmall
  rw [← hp] at this
  simp only [exec, execOp, List.map_toArray]
  rw [Sem.run_bind, this]
  rfl
end

/-! ### Cuts -/
section
variable {P : Program} {ops : Array Oper} {Q : Exit → Act → World → Prop} {rest : List Oper} {l : List Value} {w : World}
  {T : TypeId} {pos : String} {after : Array Edge}
theorem run_cut {t e : TypeId} {z : Value} {m by_ : Nat} [hu : Und P t (.slice e)] [hi : Inf P e z m by_] {A : Option Addr} {n c : Nat} {lo hi_ mx : Option Value} {L H M : Nat}
    (hb : (Instr.sliceBounds true n c lo hi_ mx).run P w = .ok (L, H, M) w) :
    (Instr.sliceAt t (.slice A n c) lo hi_ mx).run P w = .ok (.slice (if M = L then A else A.map (·.add (L * m))) (H - L) (M - L)) w := by
  simp [Instr.sliceAt, Instr.slice, run_underlying hu.out, hb, run_size (hi := hi)]
theorem bnd_none {n c : Nat} {b : Bool} : (Instr.sliceBounds b n c none none none).run P w = .ok (0, n, c) w := by simp [Instr.sliceBounds]
theorem bnd_lo {n c : Nat} {k : IntKind} {i : Int} {b : Bool} (h0 : 0 ≤ i) (h1 : i ≤ n) : (Instr.sliceBounds b n c (some (.int k i)) none none).run P w = .ok (i.toNat, n, c) w := by
  simp [Instr.sliceBounds, Instr.sliceBound, asIntOf, h0, h1]
theorem bnd_hi {n c : Nat} {k : IntKind} {j : Int} {b : Bool} (h0 : 0 ≤ j) (h1 : j ≤ c) : (Instr.sliceBounds b n c none (some (.int k j)) none).run P w = .ok (0, j.toNat, c) w := by
  simp [Instr.sliceBounds, Instr.sliceBound, asIntOf, h0, h1]
theorem bnd_lh {n c : Nat} {k k' : IntKind} {i j : Int} {b : Bool} (h0 : 0 ≤ i) (h2 : i ≤ j) (h1 : j ≤ c) : (Instr.sliceBounds b n c (some (.int k i)) (some (.int k' j)) none).run P w = .ok (i.toNat, j.toNat, c) w := by
  have hj : 0 ≤ j := by omega
  simp [Instr.sliceBounds, Instr.sliceBound, asIntOf, h0, h1, hj]
  intro hc
  omega
/-- What a cut of a slice that is read reads as. -/
theorem Ty.Rd.cut {α : Type} {t : Ty α} {S : List Nat} {A : Option Addr} {n c : Nat} {xs : List α} (h : t.Rd S w (.slice A n c) xs) {L H M : Nat} (hL : L ≤ H) (hH : H ≤ xs.length) (hM : H ≤ M) :
    t.Rd S w (.slice (if M = L then A else A.map (·.add (L * t.n))) (H - L) (M - L)) ((xs.take H).drop L) := by
  obtain ⟨hl, A', c', hv, hcap, hA⟩ := h
  injection hv with hv1 hv2 hv3
  subst hv1
  have hlen : ((xs.take H).drop L).length = H - L := by rw [List.length_drop, List.length_take]; omega
  refine ⟨by omega, _, _, by rw [hlen], by rw [hlen]; omega, fun hne => ?_⟩
  have hlt : L < H := by
    rcases Nat.lt_or_ge L H with h | h
    · exact h
    · exact absurd (List.eq_nil_of_length_eq_zero (by omega)) hne
  obtain ⟨b, o, rfl, hb, hS, he⟩ := hA (fun h => by subst h; simp at hH; omega)
  have hne' : M ≠ L := by omega
  refine ⟨b, o + L * t.n, by simp [hne', Addr.add_mid], hb, hS, fun i x hx => ?_⟩
  rw [List.getElem?_drop, List.getElem?_take] at hx
  split at hx
  · have := he (L + i) x hx
    rwa [Nat.add_mul, ← Nat.add_assoc] at this
  · cases hx
/-! The cuts x[i:], x[:j], x[i:j], x[:j:q] of a slice that is read. -/
section
variable {α : Type} {ty : Ty α} {S : List Nat} {d : Nat} {x : Operand} {t e : TypeId} {z : Value} {m by_ : Nat} [hu : Und P t (.slice e)] [hi : Inf P e z m by_] {v : Value} {xs : List α}
include hu hi
theorem wl_cut_lo {y : Operand} {k : IntKind} {i : Int} (hx : ev l x = v) (hR : ty.Rd S w v xs) (hm : ty.n = m) (hy : ev l y = .int k i) (h0 : 0 ≤ i) (h1 : i ≤ xs.length)
    (h : ∀ v', ty.Rd S w v' (xs.drop i.toNat) → wpList P ops Q rest (fr (l.set d v')) w) :
    wpList P ops Q ({ dst := some d, op := .slice t x (some y) none none, type := T, pos := pos, after := after, guard := none } :: rest) (fr l) w := by
  subst hm
  obtain ⟨A, c, rfl⟩ := hR.form
  have hc : xs.length ≤ c := by obtain ⟨_, _, _, hv, h, _⟩ := hR; injection hv; omega
  have := hR.cut (L := i.toNat) (H := xs.length) (M := c) (by omega) (Nat.le_refl _) hc
  rw [List.take_of_length_le (Nat.le_refl _)] at this
  refine wl_val ?_ (h _ this)
  simp [exec, execOp, hx, hy, run_cut (hi := hi) (bnd_lo (b := true) h0 h1)]
end
end

/-! ### Rows of one's own: append -/
section
variable {P : Program} {ops : Array Oper} {Q : Exit → Act → World → Prop} {rest : List Oper} {l : List Value} {w : World}
  {T : TypeId} {pos : String} {after : Array Edge}
theorem Ch.of_grown {w w' : World} {r : Option Nat} (h : w.grownBy w' r) : Ch r.toList w w' :=
  ⟨h.os, h.tape, h.output, h.size, fun k hk hn => h.block k hk (fun e => hn (by rw [← e]; simp))⟩
/-- A row that the call itself makes: its elements hold no address. -/
def Own {α : Type} (en : En α) (w : World) (base : Nat) (E : TypeId) (v : Value) (xs : List α) : Prop := w.ownsRow base E en.n v xs.length (xs.flatMap en.f)
theorem Own.nil {α : Type} (en : En α) (w : World) (base : Nat) (E : TypeId) : Own en w base E (.slice none 0 0) [] := ⟨by simp, .inl ⟨rfl, rfl⟩⟩
theorem Own.ch {α : Type} {en : En α} {w w' : World} {base : Nat} {E : TypeId} {v : Value} {xs : List α} {S : List Nat} (h : Own en w base E v xs) (hc : Ch S w w') (hn : ∀ k, v.ownBlock = some k → k ∉ S) : Own en w' base E v xs := by
  obtain ⟨h1, h2⟩ := h
  refine ⟨h1, ?_⟩
  rcases h2 with h2 | ⟨g, cap, cur, rfl, hg, hh, r⟩
  · exact .inl h2
  · exact .inr ⟨g, cap, cur, rfl, hg, (hc.block g (Array.getElem?_eq_some_iff.1 hh).1 (hn g rfl)).trans hh, r⟩
theorem Own.lt {α : Type} {en : En α} {w : World} {base : Nat} {E : TypeId} {v : Value} {xs : List α} (h : Own en w base E v xs) {k : Nat} (hk : v.ownBlock = some k) : base ≤ k ∧ k < w.heap.size := by
  rcases h.2 with ⟨rfl, _⟩ | ⟨g, cap, cur, rfl, hg, hh, r⟩
  · cases hk
  · have : g = k := by simpa [Value.ownBlock] using hk
    subst this
    exact ⟨hg, (Array.getElem?_eq_some_iff.1 hh).1⟩
theorem flatMap_at {α : Type} {f : α → List Value} {n : Nat} (hf : ∀ x, (f x).length = n) : ∀ (xs : List α) (i : Nat) (x : α), xs[i]? = some x → ∀ j v, (f x)[j]? = some v → (xs.flatMap f)[i * n + j]? = some v
  | [], i, x, h, _, _, _ => by simp at h
  | y :: xs, 0, x, h, j, v, hv => by
    simp only [List.getElem?_cons_zero, Option.some.injEq] at h
    subst h
    have hj := (List.getElem?_eq_some_iff.1 hv).1
    rw [List.flatMap_cons, Nat.zero_mul, Nat.zero_add, List.getElem?_append_left hj]
    exact hv
  | y :: xs, i + 1, x, h, j, v, hv => by
    rw [List.flatMap_cons, List.getElem?_append_right (by rw [hf, Nat.succ_mul]; omega), hf, show (i + 1) * n + j - n = i * n + j by rw [Nat.succ_mul]; omega]
    exact flatMap_at hf xs i x (by simpa using h) j v hv
theorem flatMap_len {α : Type} {f : α → List Value} {n : Nat} (hf : ∀ x, (f x).length = n) (xs : List α) : (xs.flatMap f).length = xs.length * n := by
  induction xs with
  | nil => simp
  | cons x xs ih => rw [List.flatMap_cons, List.length_append, hf, ih, List.length_cons, Nat.succ_mul, Nat.add_comm]
/-- What a row of one's own reads as. -/
theorem Own.rd {α : Type} {en : En α} {w : World} {base : Nat} {E : TypeId} {v : Value} {xs : List α} {S : List Nat} (h : Own en w base E v xs) (hS : ∀ k, v.ownBlock = some k → k ∉ S) (hb : xs.length ≤ 9223372036854775807) :
    (Ty.enc en).Rd S w v xs := by
  refine ⟨hb, ?_⟩
  rcases h.2 with ⟨rfl, h0⟩ | ⟨g, cap, cur, rfl, hg, hh, hc1, hc2, hc3, hc4⟩
  · have := List.eq_nil_of_length_eq_zero h0
    subst this
    exact ⟨none, 0, rfl, by simp, fun h => absurd rfl h⟩
  · refine ⟨_, cap, rfl, hc1, fun hne => ⟨g, 0, rfl, (Array.getElem?_eq_some_iff.1 hh).1, hS g rfl, fun i x hx => ⟨(Array.getElem?_eq_some_iff.1 hh).1, hS g rfl, en.f x, rfl, fun j u hu => ?_⟩⟩⟩
    have ht := flatMap_at en.hl xs i x hx j u hu
    rw [← hc4, List.getElem?_take] at ht
    split at ht
    · rw [cell_of_row w g _ cur E (0, 0) hh]
      simp only [Ty.enc] at *
      rw [Nat.zero_add]
      simpa using ht
    · cases ht
/-- append(v, ys...), ys somewhere in memory. -/
theorem wl_append {α : Type} {en : En α} {n by_ : Nat} {d : Nat} {x y : Operand} {t e : TypeId} {z : Value} [hu : Und P t (.slice e)] [hi : Inf P e z n by_] (hm : en.n = n) (hz : z.cells.size = n) (hn : 0 < n)
    {base : Nat} {v : Value} {xs ys : List α} {b o c : Nat} (hx : ev l x = v) (hO : Own en w base e v xs) (hbase : base ≤ w.heap.size) (hy : ev l y = .slice (some ⟨b, o, none⟩) ys.length c) (hr : w.rangeAt b o (ys.flatMap en.f)) (hb : (xs.length + ys.length) * by_ ≤ 140737488355328) (h63 : xs.length + ys.length ≤ 281474976710656)
    (h : ∀ v' w', Own en w' base e v' (xs ++ ys) → Ch v.ownBlock.toList w w' → (v'.ownBlock = v.ownBlock ∨ v'.ownBlock = some w.heap.size) → wpList P ops Q rest (fr (l.set d v')) w') :
    wpList P ops Q ({ dst := some d, op := .call { callee := .builtin .append, args := #[x, y], argTypes := #[t, t] }, type := T, pos := pos, after := after, guard := none } :: rest) (fr l) w := by
  subst hm
  obtain ⟨i, k1, k2, k3, k4⟩ := inf_parts hi
  obtain ⟨v', w', hrun, hown, hg, _, hat⟩ := run_append_own_at (P := P) w base t T e i z en.n by_ hu.out k1 k2 k3 k4 hz hn v xs.length (xs.flatMap en.f) hO ⟨b, o, none⟩ ys.length c (ys.flatMap en.f) (flatMap_len en.hl ys)
    (fun j u hu => by rw [Addr.add_mid]; exact hr j u hu) (fun u hu => by obtain ⟨q, _, hq⟩ := List.mem_flatMap.1 hu; exact en.h1 q u hq) (by simp only [maxLen]; omega) hb hbase
  refine wl_val ?_ (h v' w' (by unfold Own; rw [List.length_append, List.flatMap_append]; exact hown) (Ch.of_grown hg) hat)
  simp [exec, execOp, resolve, invoke, builtin, hx, hy, hrun]
/-- append(v, a): the literal of one element, and the append behind it. -/
theorem wl_push {α : Type} {en : En α} {n by_ : Nat} {d d1 : Nat} {x y : Operand} {t e : TypeId} {z : Value} [hu : Und P t (.slice e)] [hi : Inf P e z n by_] (hm : en.n = n) (hz : z.cells.size = n) (hn : 0 < n) (hn2 : n ≤ 16777216)
    {T' : TypeId} {pos' : String} {after' : Array Edge} {base : Nat} {v xv : Value} {xs : List α} {a : α} (hx : ev l x = xv) (hy : ∀ u, ev (l.set d1 u) y = v) (hd : ∀ u, ev (l.set d1 u) (.tmp d1) = u) (ha : xv.cells.toList = en.f a) (hO : Own en w base e v xs) (hbase : base ≤ w.heap.size) (hb : (xs.length + 1) * by_ ≤ 140737488355328) (h63 : xs.length + 1 ≤ 281474976710656)
    (h : ∀ u v' w', Own en w' base e v' (xs ++ [a]) → Ch v.ownBlock.toList w w' → (v'.ownBlock = v.ownBlock ∨ ∃ k, v'.ownBlock = some k ∧ w.heap.size ≤ k) → wpList P ops Q rest (fr ((l.set d1 u).set d v')) w') :
    wpList P ops Q ({ dst := some d1, op := .buildSlice t 1 #[(0, x)], type := T', pos := pos', after := after', guard := none } :: { dst := some d, op := .call { callee := .builtin .append, args := #[y, .tmp d1], argTypes := #[t, t] }, type := T, pos := pos, after := after, guard := none } :: rest) (fr l) w := by
  subst hm
  have hcs : xv.cells.size = en.n := by rw [← Array.length_toList, ha, en.hl]
  refine wl_buildSlice (parts := [(0, x)]) (vs := [xv]) (by simp [hx]) rfl (by simpa using hcs) (by omega) ?_
  intro w1 b hN
  have hblk := hN.blk.range 0 en.n
  have hr : w1.rangeAt b 0 ([a].flatMap en.f) := by
    have he : (List.drop 0 ([xv].flatMap (fun v => v.cells.toList))).take en.n = [a].flatMap en.f := by
      simp [ha]
      rw [List.take_of_length_le (by rw [en.hl]; exact Nat.le_refl _)]
    rw [he] at hblk
    exact hblk
  have hO1 : Own en w1 base e v xs := hO.ch hN.ch (by simp)
  refine wl_append rfl hz hn (hy _) hO1 (Nat.le_trans hbase hN.ch.size) (ys := [a]) (hd _) hr hb h63 ?_
  intro v' w' hO' hc hat
  refine h _ v' w' hO' (hN.ch.trans hc (by simp) (fun _ _ h => h)) ?_
  rcases hat with hat | hat
  · exact .inl hat
  · exact .inr ⟨_, hat, hN.ch.size⟩
/-! ### The same, looking for their own proofs -/
theorem ix {α : Type} {t : Ty α} {S : List Nat} {d : Nat} {x y : Operand} {s e : TypeId} {v : Value} {xs : List α} {k : IntKind} {i : Int} {z : Value} {m by_ : Nat} [hu : Und P s (.slice e)] [hi : Inf P e z m by_]
    (hR : t.Rd S w v xs) (h : ∀ b o a, xs[i.toNat]? = some a → t.At S w b o a → wpList P ops Q rest (fr (l.set d (.pointer (some ⟨b, o, none⟩)))) w)
    (hx : ev l x = v := by exact rfl) (hy : ev l y = .int k i := by exact rfl) (hn : t.n = m := by exact rfl) (h0 : 0 ≤ i := by first | omega | simp) (h1 : i.toNat < xs.length := by first | omega | simp | assumption) :
    wpList P ops Q ({ dst := some d, op := .indexAddr s x y, type := T, pos := pos, after := after, guard := none } :: rest) (fr l) w := wl_index hx hy hR hn h0 h1 fun b o hA => h b o _ (List.getElem?_eq_getElem h1) hA
theorem pu {α : Type} {en : En α} {n by_ : Nat} {d d1 : Nat} {x y : Operand} {t e : TypeId} {z : Value} [hu : Und P t (.slice e)] [hi : Inf P e z n by_]
    {T' : TypeId} {pos' : String} {after' : Array Edge} {base : Nat} {v xv : Value} {xs : List α} (a : α) (hO : Own en w base e v xs) (hbase : base ≤ w.heap.size)
    (h : ∀ u v' w', Own en w' base e v' (xs ++ [a]) → Ch v.ownBlock.toList w w' → (v'.ownBlock = v.ownBlock ∨ ∃ k, v'.ownBlock = some k ∧ w.heap.size ≤ k) → wpList P ops Q rest (fr ((l.set d1 u).set d v')) w')
    (hx : ev l x = xv := by exact rfl) (hy : ∀ u, ev (l.set d1 u) y = v := by exact fun _ => rfl) (hd : ∀ u, ev (l.set d1 u) (.tmp d1) = u := by exact fun _ => rfl) (ha : xv.cells.toList = en.f a := by exact rfl)
    (hm : en.n = n := by exact rfl) (hz : z.cells.size = n := by exact rfl) (hn : 0 < n := by decide) (hn2 : n ≤ 16777216 := by decide)
    (hb : (xs.length + 1) * by_ ≤ 140737488355328 := by omega) (h63 : xs.length + 1 ≤ 281474976710656 := by omega) :
    wpList P ops Q ({ dst := some d1, op := .buildSlice t 1 #[(0, x)], type := T', pos := pos', after := after', guard := none } :: { dst := some d, op := .call { callee := .builtin .append, args := #[y, .tmp d1], argTypes := #[t, t] }, type := T, pos := pos, after := after, guard := none } :: rest) (fr l) w :=
  wl_push hm hz hn hn2 hx hy hd ha hO hbase hb h63 h
end
end Go.Proofs.E

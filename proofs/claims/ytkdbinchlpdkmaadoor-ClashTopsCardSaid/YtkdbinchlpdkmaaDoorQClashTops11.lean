/- More of memory: structs built, results in cells, appends that find no room, that find room. -/
import Derived.Test.YtkdbinchlpdkmaaDoorQClashTops03
import Derived.Laws.AppendOwn
set_option linter.unusedVariables false
set_option linter.unusedSimpArgs false
namespace Go.Proofs.E
open Go Go.RowKit
section
variable {P : Program} {ops : Array Oper} {Q : Exit → Act → World → Prop} {rest : List Oper} {l : List Value} {w : World} {op : Op} {T : TypeId} {pos : String} {after : Array Edge}
/-- Two results: one that lies in a cell, and one. -/
theorem outc2 {fn : Func} {t s : Nat} {E : TypeId} {R : Value → World → Prop} {b o : Nat} {cs : List Value} {z : Value} {n by_ : Nat} [hr : Row P E] [hi : Inf P E z n by_] (hf : fn.results = #[.cell t E, .tmp s])
    (hx : ev l (.tmp t) = .pointer (some ⟨b, o, none⟩)) (hc : w.rangeAt b o cs) (hn : cs.length = n) (h : R (.tuple #[.agg cs.toArray, ev l (.tmp s)]) w) : bodyPost P fn (Ret R) .ret (fr l) w := by
  subst hn
  obtain ⟨d, h1, h2⟩ := hr.out
  refine ⟨rfl, .tuple #[.agg cs.toArray, ev l (.tmp s)], ?_, _, rfl, h⟩
  have hx' : l.toArray.getD t undef = .pointer (some ⟨b, o, none⟩) := (ev_tmp l t).trans hx
  have hx2 : l[t]?.getD undef = .pointer (some ⟨b, o, none⟩) := by simpa [Array.getD_eq_getD_getElem?] using hx'
  have hs' : l.toArray.getD s undef = ev l (.tmp s) := ev_tmp l s
  have hs2 : l[s]?.getD undef = ev l (.tmp s) := by simpa [Array.getD_eq_getD_getElem?] using hs'
  simp [results, hf, fr, hx2, hs2, asAddr, run_loadVar_mid w b o E cs d hc h1 h2 (info_size hi)]
/-- A struct of two fields, built. -/
theorem fill_two {n0 n1 : Nat} {v0 v1 : Value} {z : List Value} (hz : z.length = n0 + n1) (h0 : v0.cells.size = n0) (h1 : v1.cells.size = n1) : Instr.fill (fun i => #[(0, n0), (n0, n1)][i]?) z.toArray [(0, v0), (1, v1)] = some (v0.cells.toList ++ v1.cells.toList).toArray := by
  have f0 := foldl_set 0 v0.cells.toList 0 z (by simp [h0]; omega)
  have e0 : (v0.cells.zipIdx.foldl (fun (cs : Array Value) (x : Value × Nat) => cs.setIfInBounds (0 + x.2) x.1) z.toArray) = (spl z 0 v0.cells.toList).toArray := by
    rw [← Array.foldl_toList, Array.toList_zipIdx]
    exact f0
  have l0 : (spl z 0 v0.cells.toList).length = n0 + n1 := by rw [spl_length (by simp [h0]; omega), hz]
  have f1 := foldl_set n0 v1.cells.toList 0 (spl z 0 v0.cells.toList) (by simp [h1]; omega)
  have e1 : (v1.cells.zipIdx.foldl (fun (cs : Array Value) (x : Value × Nat) => cs.setIfInBounds (n0 + x.2) x.1) (spl z 0 v0.cells.toList).toArray) = (spl (spl z 0 v0.cells.toList) n0 v1.cells.toList).toArray := by
    rw [← Array.foldl_toList, Array.toList_zipIdx]
    exact f1
  have es : spl (spl z 0 v0.cells.toList) n0 v1.cells.toList = v0.cells.toList ++ v1.cells.toList := by
    have hl0 : v0.cells.toList.length = n0 := by simpa using h0
    have hl1 : v1.cells.toList.length = n1 := by simpa using h1
    have : spl z 0 v0.cells.toList = v0.cells.toList ++ z.drop n0 := by
      unfold spl
      rw [List.take_zero, List.nil_append, Nat.zero_add, hl0]
    rw [this, ← hl0, spl_at _ _ _ (by rw [List.length_drop]; omega), List.drop_of_length_le (by rw [List.length_drop]; omega), List.append_nil]
  have q0 : (#[(0, n0), (n0, n1)] : Array (Nat × Nat))[0]? = some (0, n0) := rfl
  have q1 : (#[(0, n0), (n0, n1)] : Array (Nat × Nat))[1]? = some (n0, n1) := rfl
  simp only [Instr.fill, q0, q1]
  rw [if_neg (by simp [h0, hz]), e0, if_neg (by simp [h1, l0]), e1, es]
theorem r_build2 {t e0 e1 : TypeId} {x0 x1 : Operand} {v0 v1 z z0 z1 : Value} {f0 f1 : Field} {N n0 n1 by_ b0 b1 : Nat} [hi : Inf P t z N by_] [h0 : Inf P e0 z0 n0 b0] [h1 : Inf P e1 z1 n1 b1] (hu : P.underlying t = some (.struct #[f0, f1]))
    (t0 : f0.type = e0) (t1 : f1.type = e1) (o0 : f0.offset = 0) (o1 : f1.offset = n0) (hN : N = n0 + n1) (hz : z.cells.size = N) (hx0 : ev l x0 = v0) (hx1 : ev l x1 = v1) (c0 : v0.cells.size = n0) (c1 : v1.cells.size = n1) :
    (exec (ev l) (.build t #[(0, x0), (1, x1)]) T).run P w = .ok (.value (.agg (v0.cells.toList ++ v1.cells.toList).toArray)) w := by
  subst t0 t1 o1 hN
  have hf := fill_two (z := z.cells.toList) (by simpa using hz) c0 c1
  rw [Array.toArray_toList] at hf
  simp [exec, execOp, Instr.build, run_underlying hu, run_size (hi := h0), run_size (hi := h1), run_zero (hi := hi), hx0, hx1, o0]
  simp at hf
  rw [hf]
  simp
/-- append(v, ys...) where v has no room. -/
theorem wl_append_full {α : Type} {en : En α} {n by_ : Nat} {d : Nat} {x y : Operand} {t e : TypeId} {z : Value} {S : List Nat} [hu : Und P t (.slice e)] [hi : Inf P e z n by_] (hm : en.n = n) (hz : z.cells.size = n)
    {base : Nat} {A : Option Addr} {xs ys : List α} {b o c : Nat} (hx : ev l x = .slice A xs.length xs.length) (hR : (Ty.enc en).Rd S w (.slice A xs.length xs.length) xs) (hA : xs = [] → ∃ g, A = some ⟨g, 0, none⟩) (hbase : base ≤ w.heap.size) (hne : ys ≠ []) (hy : ev l y = .slice (some ⟨b, o, none⟩) ys.length c) (hr : w.rangeAt b o (ys.flatMap en.f)) (hb : (xs.length + ys.length) * by_ ≤ 140737488355328) (h63 : xs.length + ys.length ≤ 281474976710656)
    (h : ∀ v' w', Own en w' base e v' (xs ++ ys) → Ch [] w w' → v'.ownBlock = some w.heap.size → wpList P ops Q rest (fr (l.set d v')) w') :
    wpList P ops Q ({ dst := some d, op := .call { callee := .builtin .append, args := #[x, y], argTypes := #[t, t] }, type := T, pos := pos, after := after, guard := none } :: rest) (fr l) w := by
  subst hm
  obtain ⟨i, k1, k2, k3, k4⟩ := inf_parts hi
  have hyl : 0 < ys.length := List.length_pos_iff.2 hne
  have hfx := flatMap_len en.hl xs
  have hfy := flatMap_len en.hl ys
  obtain ⟨a, rfl, hcells⟩ : ∃ a, A = some a ∧ ∀ j v, (xs.flatMap en.f)[j]? = some v → w.cell? (a.add j) = some v := by
    by_cases hx0 : xs = []
    · obtain ⟨g, rfl⟩ := hA hx0
      subst hx0
      exact ⟨_, rfl, fun j v hv => by simp at hv⟩
    · obtain ⟨b2, o2, cap, hv, hb2, hS, hrow⟩ := rowE hR hx0
      injection hv with hv1 hv2 hv3
      subst hv1
      exact ⟨_, rfl, fun j v hv => by rw [Addr.add_mid]; exact hrow j v hv⟩
  have hg := run_append_grow (P := P) w t T e i z hu.out k1 k2 a xs.length xs.length (xs.flatMap en.f) (by rw [k3]; exact hfx) hcells ⟨b, o, none⟩ ys.length c (ys.flatMap en.f) (by rw [k3]; exact hfy) (fun j u hu => by rw [Addr.add_mid]; exact hr j u hu) (by omega) (by omega) (growslice_fits (by omega) (by rw [k4]; exact hb))
  refine wl_val (w' := w.drew.alloc (.cells ((xs.flatMap en.f).toArray ++ (ys.flatMap en.f).toArray ++ Builtin.zeroCells z.cells (grownCap w (xs.length + ys.length) xs.length e - (xs.length + ys.length))) e)) ?_ (h (.slice (some ⟨w.heap.size, 0, none⟩) (xs.length + ys.length) (grownCap w (xs.length + ys.length) xs.length e)) _ ?_ (Ch.of_below ⟨rfl, rfl, rfl, by simp, fun k hk => heap_alloc_old w.drew _ hk⟩) rfl)
  · simp [exec, execOp, resolve, invoke, builtin, hx, hy, hg]
  · refine ⟨by rw [List.length_append, List.flatMap_append, List.length_append, hfx, hfy, Nat.add_mul], .inr ⟨w.heap.size, _, _, by rw [List.length_append], hbase, heap_alloc_new w.drew _, ?_, grownCap_le_maxLen w _ _ e (by simp only [maxLen]; omega), ?_, ?_⟩⟩
    · rw [List.length_append]
      exact grownCap_ge w _ _ e
    · have hge := grownCap_ge w (xs.length + ys.length) xs.length e
      simp only [Array.size_append, List.size_toArray, size_zeroCells, hz, hfx, hfy, ← Nat.add_mul]
      congr 1
      omega
    · simp only [Array.toList_append, List.append_assoc]
      rw [← List.append_assoc, List.flatMap_append, List.length_append, Nat.add_mul, ← hfx, ← hfy, ← List.length_append]
      exact List.take_left
end
end Go.Proofs.E

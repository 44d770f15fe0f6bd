/- More of what arguments read as: arrays of what holds no address, structs of two fields. -/
import Derived.Test.YtfldckjkipmibaaDoorOpen
import Derived.Test.YtfldckjkipmibaaDoorTree
set_option linter.unusedVariables false
set_option linter.unusedSimpArgs false
namespace Go.Proofs.E
open Go Go.RowKit Go.ChangeShapes Go.WideShapes
section
variable {H : Type} {enc : TypeId × Value → H} {P : Program} {W : World} {base : Nat} {sp : Nat → Bool} {held : Bool}
theorem chunks {α : Type} {f : α → List Value} {m : Nat} : ∀ (n : Nat) (cs : List Value), cs.length = n * m → (∀ i, i < n → ∃ a, (cs.drop (i * m)).take m = f a) → ∃ xs : List α, xs.length = n ∧ cs = xs.flatMap f
  | 0, cs, hl, _ => ⟨[], rfl, List.eq_nil_of_length_eq_zero (by simpa using hl)⟩
  | n + 1, cs, hl, h => by
    obtain ⟨a, ha⟩ := h 0 (by omega)
    rw [Nat.zero_mul, List.drop_zero] at ha
    rw [Nat.succ_mul] at hl
    obtain ⟨xs, h1, h2⟩ := chunks (f := f) (m := m) n (cs.drop m) (by rw [List.length_drop]; omega) fun i hi => by
      obtain ⟨b, hb⟩ := h (i + 1) (by omega)
      exact ⟨b, by rw [List.drop_drop, show m + i * m = (i + 1) * m by rw [Nat.succ_mul]; omega]; exact hb⟩
    refine ⟨a :: xs, by simp [h1], ?_⟩
    rw [List.flatMap_cons, ← h2, ← ha, List.take_append_drop]
theorem okWide_agg_arr {n : Nat} {e t : TypeId} {r : Reach} {v : Value} (ht : P.underlying t = some (.array n e)) (h : Value.okWide P W r base t v) : ∃ cs, v = .agg cs := by
  unfold Value.okWide at h
  rw [ht] at h
  exact ⟨_, h.choose_spec.1⟩
theorem okWide_agg_struct {fs : Array Field} {t : TypeId} {r : Reach} {v : Value} (ht : P.underlying t = some (.struct fs)) (h : Value.okWide P W r base t v) : ∃ cs, v = .agg cs := by
  unfold Value.okWide at h
  rw [ht] at h
  exact ⟨_, h.choose_spec.1⟩
/-- An array of elements that hold no address. -/
theorem reads_arrE {α : Type} {en : En α} {E e : TypeId} {z ze : Value} {n N m by_ b2 : Nat} [hu : Und P E (.array n e)] [hi : Inf P E z N by_] [hie : Inf P e ze m b2] (hm : en.n = m) (hN : N = n * m) (hr : Reads enc P W base sp held e (Ty.enc en)) {fuel : Nat} {cs : List Value} {x : DataW H × List MemPlace}
    (h : DataW.trod enc P W base sp held fuel E cs = some x) : ∃ xs : List α, xs.length = n ∧ cs = xs.flatMap en.f := by
  subst hm hN
  cases fuel with
  | zero => simp [DataW.trod] at h
  | succ fuel =>
    unfold DataW.trod at h
    rw [hu.out] at h
    simp only at h
    split at h
    · rename_i hl
      rw [cellsOf_inf hi] at hl
      obtain ⟨xs, hx, _⟩ := Option.map_eq_some_iff.1 h
      have hc := cellsOf_inf hie
      refine chunks n cs hl fun i hlt => ?_
      have h1 := mapM_some_get hx i i (by rw [List.getElem?_range hlt])
      have hlen := mapM_some_length hx
      have hlt2 : i < xs.length := by rw [hlen, List.length_range]; exact hlt
      rw [List.getElem?_eq_getElem hlt2, hc] at h1
      obtain ⟨a, ha⟩ := hr _ _ _ h1
      exact ⟨a, ha⟩
    · cases h
theorem reads_int {E : TypeId} {k : IntKind} [hu : Und P E (.int k)] {fuel : Nat} {cs : List Value} {x : DataW H × List MemPlace} (h : DataW.trod enc P W base sp held fuel E cs = some x) : ∃ n : Int, cs = [.int k n] ∧ (Lit.int k n).wf = true := by
  obtain ⟨n, rfl, _, hw⟩ := DataW.trod_int hu.out h
  exact ⟨n, rfl, hw⟩
/-- A struct of two fields. -/
theorem trod_two {E e0 e1 : TypeId} {z z0 z1 : Value} {N n0 n1 by_ b0 b1 : Nat} [hi : Inf P E z N by_] [f0 : Fld P E 0 0 e0] [f1 : Fld P E 1 n0 e1] [h0 : Inf P e0 z0 n0 b0] [h1 : Inf P e1 z1 n1 b1] (hN : N = n0 + n1) {fuel : Nat} {cs : List Value} {x : DataW H × List MemPlace}
    (h : DataW.trod enc P W base sp held fuel E cs = some x) : ∃ fuel' c0 c1 x0 x1, cs = c0 ++ c1 ∧ DataW.trod enc P W base sp held fuel' e0 c0 = some x0 ∧ DataW.trod enc P W base sp held fuel' e1 c1 = some x1 := by
  cases fuel with
  | zero => simp [DataW.trod] at h
  | succ fuel =>
    obtain ⟨fs, fd0, k1, k2, k3, k4⟩ := f0.out
    obtain ⟨fs', fd1, q1, q2, q3, q4⟩ := f1.out
    rw [k1] at q1
    cases q1
    unfold DataW.trod at h
    rw [k1] at h
    simp only at h
    split at h
    · rename_i hl
      rw [cellsOf_inf hi] at hl
      obtain ⟨xs, hx, _⟩ := Option.map_eq_some_iff.1 h
      have hlen := mapM_some_length hx
      have g0 := mapM_some_get hx 0 fd0 (by simpa using k2)
      have g1 := mapM_some_get hx 1 fd1 (by simpa using q2)
      have hs : 1 < xs.length := by
        rw [hlen]
        have := (Array.getElem?_eq_some_iff.1 q2).1
        simpa using this
      rw [List.getElem?_eq_getElem (by omega)] at g0 g1
      rw [k3, k4, cellsOf_inf h0, List.drop_zero] at g0
      rw [q3, q4, cellsOf_inf h1] at g1
      refine ⟨fuel, cs.take n0, (cs.drop n0).take n1, _, _, ?_, g0, g1⟩
      rw [List.take_of_length_le (l := cs.drop n0) (by rw [List.length_drop]; omega), List.take_append_drop]
    · cases h
/-- Numbers of a kind. -/
abbrev Wf (k : IntKind) := { n : Int // (Lit.int k n).wf = true }
abbrev eWf (k : IntKind) : En (Wf k) := { f := fun n => [.int k n.1], n := 1, hl := fun _ => rfl, h1 := fun _ u hu => by simp at hu; subst hu; rfl }
theorem reads_wf {E : TypeId} {k : IntKind} [hu : Und P E (.int k)] : Reads enc P W base sp held E (Ty.enc (eWf k)) := by
  intro fuel cs x h
  obtain ⟨n, rfl, _, hw⟩ := DataW.trod_int hu.out h
  exact ⟨⟨n, hw⟩, rfl⟩
theorem two_of {α : Type} {l : List α} (h : l.length = 2) : ∃ a b, l = [a, b] := by
  match l, h with
  | [a, b], _ => exact ⟨a, b, rfl⟩
end
end Go.Proofs.E

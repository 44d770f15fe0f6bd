/- What an argument that a row opens reads as, with the bounds of its weights. -/
import Derived.Test.YtfldckjkipmibaaDoorOpen2
set_option linter.unusedVariables false
set_option linter.unusedSimpArgs false
namespace Go.Proofs.E
open Go Go.RowKit Go.ChangeShapes Go.WideShapes
section
variable {H : Type} {enc : TypeId × Value → H} {P : Program} {W : World} {base : Nat} {sp : Nat → Bool} {held : Bool}
def ReadsW {α : Type} (enc : TypeId × Value → H) (P : Program) (W : World) (base : Nat) (sp : Nat → Bool) (held : Bool) (E : TypeId) (t : Ty α) (q : α → Prop) : Prop :=
  ∀ fuel cs x, DataW.trod enc P W base sp held fuel E cs = some x → (∀ n ∈ x.1.weights P E, n ≤ reachBytes) → ∃ a : α, t.R [] W a cs ∧ q a
theorem Reads.w {α : Type} {E : TypeId} {t : Ty α} (h : Reads enc P W base sp held E t) : ReadsW enc P W base sp held E t (fun _ => True) := fun fuel cs x hx _ => let ⟨a, ha⟩ := h fuel cs x hx; ⟨a, ha, trivial⟩
theorem weightsAll_mem {e : TypeId} {d : DataW H} : ∀ {l : List (DataW H)} {n : Nat}, d ∈ l → n ∈ d.weights P e → n ∈ DataW.weightsAll P e l
  | [], n, h, _ => by simp at h
  | c :: l, n, h, hn => by
    rw [DataW.weightsAll]
    rcases List.mem_cons.1 h with rfl | h
    · exact List.mem_append.2 (.inl hn)
    · exact List.mem_append.2 (.inr (weightsAll_mem h hn))
/-- A slice. -/
theorem readsW_slice {α : Type} {t : Ty α} {q : α → Prop} {E e : TypeId} {z : Value} {m by_ : Nat} [hu : Und P E (.slice e)] [hi : Inf P e z m by_] (hm : t.n = m) (hm0 : 0 < m) (hr : ReadsW enc P W base sp held e t q) : ReadsW enc P W base sp held E (Ty.sl t) (fun xs => (∀ x ∈ xs, q x) ∧ xs.length * P.bytesOf e ≤ reachBytes) := by
  intro fuel cs x h hw
  subst hm
  cases fuel with
  | zero => simp [DataW.trod] at h
  | succ fuel =>
    unfold DataW.trod at h
    rw [hu.out] at h
    have hc := cellsOf_inf hi
    match cs, h with
    | [.slice none 0 0], h => exact ⟨[], ⟨_, rfl, Ty.Rd.nil _ _ _ _ _⟩, by simp, by simp⟩
    | [.slice (some a) len cap], h =>
      simp only at h
      split at h
      · rename_i hb
        obtain ⟨elems, he, h2⟩ := Option.bind_eq_some_iff.1 h
        obtain ⟨rest, _, rfl⟩ := Option.map_eq_some_iff.1 h2
        unfold DataW.weights at hw
        rw [hu.out] at hw
        simp only [List.length_map] at hw
        have hlen0 := mapM_some_length he
        rw [List.length_range] at hlen0
        have hel : ∀ i, i < len → ∃ x : α, (∃ cs, t.R [] W x cs ∧ W.cells? base (a.add (i * t.n)) t.n = some cs) ∧ q x := by
          intro i hi'
          have h1 := mapM_some_get he i i (by rw [List.getElem?_range hi'])
          have hlen := mapM_some_length he
          have hlt2 : i < elems.length := by rw [hlen, List.length_range]; exact hi'
          rw [List.getElem?_eq_getElem hlt2, hc] at h1
          obtain ⟨ds, hds, hx⟩ := Option.bind_eq_some_iff.1 h1
          obtain ⟨x, hR, hq⟩ := hr _ _ _ hx (fun n hn => hw n (List.mem_cons_of_mem _ (List.mem_append.2 (.inl (weightsAll_mem (List.mem_map_of_mem (List.getElem_mem hlt2)) hn)))))
          exact ⟨x, ⟨ds, hR, hds⟩, hq⟩
        have hxs := list_of hel
        obtain ⟨xs, hl, hxs⟩ := hxs
        have hml : len ≤ 9223372036854775807 := by
          have := hb.2.2
          simp only [maxLen] at this
          omega
        refine ⟨xs, ⟨_, rfl, by omega, some a, cap, by rw [hl], by rw [hl]; exact hb.2.1, fun hne => ?_⟩, fun x hx => ?_, ?_⟩
        case refine_2 =>
          obtain ⟨i, hi⟩ := List.getElem?_of_mem hx
          exact (hxs i x hi).2
        case refine_3 =>
          have := hw _ List.mem_cons_self
          rw [hl]
          rw [hlen0] at this
          exact Nat.le_trans (Nat.mul_le_mul_right _ (by omega)) this
        have hat : ∀ (i : Nat) x, xs[i]? = some x → ∃ cs, t.R [] W x cs ∧ cs.length = t.n ∧ ∀ j v, cs[j]? = some v → W.cell? ((a.add (i * t.n)).add j) = some v := by
          intro i x hx
          obtain ⟨⟨cs, hR, hcs⟩, _⟩ := hxs i x hx
          refine ⟨cs, hR, t.len hR, fun j v hv => ?_⟩
          unfold World.cells? at hcs
          split at hcs
          · have hj : j < t.n := by rw [← t.len hR]; exact (List.getElem?_eq_some_iff.1 hv).1
            have := mapM_some_get hcs j j (by rw [List.getElem?_range hj])
            rw [this, hv]
          · cases hcs
        obtain ⟨b, o, spot⟩ := a
        obtain ⟨x0, hx0⟩ : ∃ x0, xs[0]? = some x0 := ⟨_, List.getElem?_eq_getElem (List.length_pos_iff.2 hne)⟩
        obtain ⟨c0, hR0, hl0, h0⟩ := hat 0 x0 hx0
        obtain ⟨v0, hv0⟩ : ∃ v0, c0[0]? = some v0 := ⟨_, List.getElem?_eq_getElem (by omega)⟩
        have hc0 := h0 0 v0 hv0
        have hspot : spot = none := by simpa [Addr.add] using World.cell?_spot hc0
        subst hspot
        have hblt : b < W.heap.size := by
          unfold World.cell? at hc0
          split at hc0
          · rename_i hh
            have := (Array.getElem?_eq_some_iff.1 hh).1
            simpa [Addr.add] using this
          · cases hc0
        refine ⟨b, o, rfl, hblt, by simp, fun i x hx => ?_⟩
        obtain ⟨cs, hR, _, hc⟩ := hat i x hx
        refine ⟨hblt, by simp, cs, hR, fun j v hv => ?_⟩
        have := hc j v hv
        rwa [add_plain, add_plain] at this
      · cases h
/-- An array of two. -/
theorem readsW_arr2 {α : Type} {t : Ty α} {q : α → Prop} {E e : TypeId} {z ze : Value} {n m by_ b2 : Nat} [hu : Und P E (.array 2 e)] [hi : Inf P E z n by_] [hie : Inf P e ze m b2] (hn : n = 2 * m) (hr : ReadsW enc P W base sp held e t q) {fuel : Nat} {cs : List Value} {x : DataW H × List MemPlace}
    (h : DataW.trod enc P W base sp held fuel E cs = some x) (hw : ∀ k ∈ x.1.weights P E, k ≤ reachBytes) : ∃ a b, cs.length = 2 * m ∧ (t.R [] W a (cs.take m) ∧ q a) ∧ t.R [] W b ((cs.drop m).take m) ∧ q b := by
  cases fuel with
  | zero => simp [DataW.trod] at h
  | succ fuel =>
    unfold DataW.trod at h
    rw [hu.out] at h
    simp only at h
    split at h
    · rename_i hl
      rw [cellsOf_inf hi, hn] at hl
      obtain ⟨xs, hx, rfl⟩ := Option.map_eq_some_iff.1 h
      unfold DataW.weights at hw
      rw [hu.out] at hw
      simp only at hw
      have hc := cellsOf_inf hie
      have hlen := mapM_some_length hx
      rw [List.length_range] at hlen
      have key : ∀ i, i < 2 → ∃ a, t.R [] W a ((cs.drop (i * m)).take m) ∧ q a := fun i hi2 => by
        have h1 := mapM_some_get hx i i (by rw [List.getElem?_range hi2])
        have hlt2 : i < xs.length := by omega
        rw [List.getElem?_eq_getElem hlt2, hc] at h1
        exact hr _ _ _ h1 (fun n hn => hw n (weightsAll_mem (List.mem_map_of_mem (List.getElem_mem hlt2)) hn))
      obtain ⟨a, ha, qa⟩ := key 0 (by omega)
      obtain ⟨b, hb, qb⟩ := key 1 (by omega)
      rw [Nat.zero_mul, List.drop_zero] at ha
      rw [Nat.one_mul] at hb
      exact ⟨a, b, hl, ⟨ha, qa⟩, hb, qb⟩
    · cases h
end
end Go.Proofs.E

/- What an argument that a row opens reads as: from the data's reading to this project's own.
   More of what arguments read as: arrays of what holds no address, structs of two fields.
   What an argument that a row opens reads as, with the bounds of its weights.
   What arguments that a row opens read as: structs of any fields, strings. -/
import Derived.Test.YtoimhmphhffelaaDoorQQueryBack03
import Derived.Test.YtoimhmphhffelaaDoorQQueryBack12
import Derived.ProofKit
import Derived.OpenShut
import Derived.ChangeArms
set_option linter.unusedVariables false
set_option linter.unusedSimpArgs false
namespace Go.Proofs.E
open Go Go.RowKit Go.ChangeShapes Go.WideShapes
section
variable {H : Type} {enc : TypeId × Value → H} {P : Program} {W : World} {base : Nat} {sp : Nat → Bool} {held : Bool}
/-- Whatever cells a type's reading goes through, they are a value of α. -/
def Reads {α : Type} (enc : TypeId × Value → H) (P : Program) (W : World) (base : Nat) (sp : Nat → Bool) (held : Bool) (E : TypeId) (t : Ty α) : Prop :=
  ∀ fuel cs x, DataW.trod enc P W base sp held fuel E cs = some x → ∃ a : α, t.R [] W a cs
theorem reads_bool {E : TypeId} [hu : Und P E .bool] : Reads enc P W base sp held E (Ty.enc eBool) := by
  intro fuel cs x h
  cases fuel with
  | zero => simp [DataW.trod] at h
  | succ fuel =>
    unfold DataW.trod at h
    rw [hu.out] at h
    match cs, h with
    | [.bool b], h => exact ⟨b, rfl⟩
theorem list_of {α : Type} {p : Nat → α → Prop} : ∀ {n : Nat}, (∀ i, i < n → ∃ x, p i x) → ∃ xs : List α, xs.length = n ∧ ∀ (i : Nat) x, xs[i]? = some x → p i x
  | 0, _ => ⟨[], rfl, fun i x hx => by simp at hx⟩
  | n + 1, h => by
    obtain ⟨xs, hl, hxs⟩ := list_of (n := n) fun i hi => h i (by omega)
    obtain ⟨x, hx⟩ := h n (by omega)
    refine ⟨xs ++ [x], by simp [hl], fun i y hy => ?_⟩
    rcases Nat.lt_or_ge i n with hlt | hge
    · rw [List.getElem?_append_left (by omega)] at hy
      exact hxs i y hy
    · rw [List.getElem?_append_right (by omega)] at hy
      have : i = n := by
        have := (List.getElem?_eq_some_iff.1 hy).1
        simp at this
        omega
      subst this
      rw [hl, Nat.sub_self] at hy
      simp only [List.getElem?_cons_zero, Option.some.injEq] at hy
      subst hy
      exact hx
theorem cellsOf_inf {E : TypeId} {z : Value} {n by_ : Nat} (hi : Inf P E z n by_) : P.cellsOf E = n := by
  obtain ⟨i, k1, k2, k3, k4⟩ := inf_parts hi
  simp [Program.cellsOf, k1, k3]
/-- An array of integers: its cells, out of what it reads as. -/
theorem trod_arr_int {k : IntKind} {E e : TypeId} {z ze : Value} {n by_ b2 : Nat} [hu : Und P E (.array n e)] [hi : Inf P E z n by_] [he : Und P e (.int k)] [hie : Inf P e ze 1 b2] {fuel : Nat} {cs : List Value} {ns : List Int} {p : List MemPlace}
    (h : DataW.trod enc P W base sp held fuel E cs = some (.agg (ns.map fun q => .lit (.int k q)), p)) : cs = ns.map (Value.int k) := by
  cases fuel with
  | zero => simp [DataW.trod] at h
  | succ fuel =>
    unfold DataW.trod at h
    rw [hu.out] at h
    simp only at h
    split at h
    · rename_i hl
      rw [cellsOf_inf hi] at hl
      obtain ⟨xs, hx, hxe⟩ := Option.map_eq_some_iff.1 h
      simp only [Prod.mk.injEq, DataW.agg.injEq] at hxe
      have hc := cellsOf_inf hie
      have hlen := mapM_some_length hx
      rw [List.length_range] at hlen
      have hnl : ns.length = n := by
        have := congrArg List.length hxe.1
        simpa [hlen] using this.symm
      apply List.ext_getElem?
      intro i
      by_cases hin : i < n
      · have h1 := mapM_some_get hx i i (by rw [List.getElem?_range hin])
        rw [List.getElem?_eq_getElem (by omega), hc, Nat.mul_one] at h1
        obtain ⟨q, hq, hy, hw⟩ := DataW.trod_int he.out h1
        have h2 : i < cs.length := by omega
        rw [List.drop_eq_getElem_cons h2, List.take_succ_cons, List.take_zero] at hq
        injection hq with hq _
        rw [List.getElem?_eq_getElem h2, hq, List.getElem?_map, List.getElem?_eq_getElem (by omega)]
        have h3 := congrArg (fun l => l[i]?) hxe.1
        simp only [List.getElem?_map] at h3
        rw [List.getElem?_eq_getElem (by omega), List.getElem?_eq_getElem (by omega), hy] at h3
        simp only [Option.map_some, Option.some.injEq, DataW.lit.injEq, Lit.int.injEq, true_and] at h3
        rw [h3]
        rfl
      · rw [List.getElem?_eq_none (by omega), List.getElem?_eq_none (by rw [List.length_map]; omega)]
    · cases h
end
end Go.Proofs.E
set_option linter.unusedVariables false
set_option linter.unusedSimpArgs false
namespace Go.Proofs.E
open Go Go.RowKit Go.ChangeShapes Go.WideShapes
section
variable {H : Type} {enc : TypeId × Value → H} {P : Program} {W : World} {base : Nat} {sp : Nat → Bool} {held : Bool}
theorem okWide_agg_struct {fs : Array Field} {t : TypeId} {r : Reach} {v : Value} (ht : P.underlying t = some (.struct fs)) (h : Value.okWide P W r base t v) : ∃ cs, v = .agg cs := by
  unfold Value.okWide at h
  rw [ht] at h
  exact ⟨_, h.choose_spec.1⟩
theorem reads_int {E : TypeId} {k : IntKind} [hu : Und P E (.int k)] {fuel : Nat} {cs : List Value} {x : DataW H × List MemPlace} (h : DataW.trod enc P W base sp held fuel E cs = some x) : ∃ n : Int, cs = [.int k n] ∧ (Lit.int k n).wf = true := by
  obtain ⟨n, rfl, _, hw⟩ := DataW.trod_int hu.out h
  exact ⟨n, rfl, hw⟩
end
end Go.Proofs.E
set_option linter.unusedVariables false
set_option linter.unusedSimpArgs false
namespace Go.Proofs.E
open Go Go.RowKit Go.ChangeShapes Go.WideShapes
section
variable {H : Type} {enc : TypeId × Value → H} {P : Program} {W : World} {base : Nat} {sp : Nat → Bool} {held : Bool}
def ReadsW {α : Type} (enc : TypeId × Value → H) (P : Program) (W : World) (base : Nat) (sp : Nat → Bool) (held : Bool) (E : TypeId) (t : Ty α) (q : α → Prop) : Prop :=
  ∀ fuel cs x, DataW.trod enc P W base sp held fuel E cs = some x → (∀ n ∈ x.1.weights P E, n ≤ reachBytes) → ∃ a : α, t.R [] W a cs ∧ q a
theorem Reads.w {α : Type} {E : TypeId} {t : Ty α} (h : Reads enc P W base sp held E t) : ReadsW enc P W base sp held E t (fun _ => True) := fun fuel cs x hx _ => let ⟨a, ha⟩ := h fuel cs x hx; ⟨a, ha, trivial⟩
theorem weightsAll_mem {e : TypeId} {d : DataW H} : ∀ {l : List (DataW H)} {n : Nat}, d ∈ l → n ∈ d.weights P e → n ∈ DataW.weightsAll P e l
  | [], n, h, _ => by simp at h
  | c :: l, n, h, hn => by
    rw [DataW.weightsAll]
    rcases List.mem_cons.1 h with rfl | h
    · exact List.mem_append.2 (.inl hn)
    · exact List.mem_append.2 (.inr (weightsAll_mem h hn))
/-- A slice. -/
theorem readsW_slice {α : Type} {t : Ty α} {q : α → Prop} {E e : TypeId} {z : Value} {m by_ : Nat} [hu : Und P E (.slice e)] [hi : Inf P e z m by_] (hm : t.n = m) (hm0 : 0 < m) (hr : ReadsW enc P W base sp held e t q) : ReadsW enc P W base sp held E (Ty.sl t) (fun xs => (∀ x ∈ xs, q x) ∧ xs.length * P.bytesOf e ≤ reachBytes) := by
  intro fuel cs x h hw
  subst hm
  cases fuel with
  | zero => simp [DataW.trod] at h
  | succ fuel =>
    unfold DataW.trod at h
    rw [hu.out] at h
    have hc := cellsOf_inf hi
    match cs, h with
    | [.slice none 0 0], h => exact ⟨[], ⟨_, rfl, Ty.Rd.nil _ _ _ _ _⟩, by simp, by simp⟩
    | [.slice (some a) len cap], h =>
      simp only at h
      split at h
      · rename_i hb
        obtain ⟨elems, he, h2⟩ := Option.bind_eq_some_iff.1 h
        obtain ⟨rest, _, rfl⟩ := Option.map_eq_some_iff.1 h2
        unfold DataW.weights at hw
        rw [hu.out] at hw
        simp only [List.length_map] at hw
        have hlen0 := mapM_some_length he
        rw [List.length_range] at hlen0
        have hel : ∀ i, i < len → ∃ x : α, (∃ cs, t.R [] W x cs ∧ W.cells? base (a.add (i * t.n)) t.n = some cs) ∧ q x := by
          intro i hi'
          have h1 := mapM_some_get he i i (by rw [List.getElem?_range hi'])
          have hlen := mapM_some_length he
          have hlt2 : i < elems.length := by rw [hlen, List.length_range]; exact hi'
          rw [List.getElem?_eq_getElem hlt2, hc] at h1
          obtain ⟨ds, hds, hx⟩ := Option.bind_eq_some_iff.1 h1
          obtain ⟨x, hR, hq⟩ := hr _ _ _ hx (fun n hn => hw n (List.mem_cons_of_mem _ (List.mem_append.2 (.inl (weightsAll_mem (List.mem_map_of_mem (List.getElem_mem hlt2)) hn)))))
          exact ⟨x, ⟨ds, hR, hds⟩, hq⟩
        have hxs := list_of hel
        obtain ⟨xs, hl, hxs⟩ := hxs
        have hml : len ≤ 9223372036854775807 := by
          have := hb.2.2
          simp only [maxLen] at this
          omega
        refine ⟨xs, ⟨_, rfl, by omega, some a, cap, by rw [hl], by rw [hl]; exact hb.2.1, fun hne => ?_⟩, fun x hx => ?_, ?_⟩
        case refine_2 =>
          obtain ⟨i, hi⟩ := List.getElem?_of_mem hx
          exact (hxs i x hi).2
        case refine_3 =>
          have := hw _ List.mem_cons_self
          rw [hl]
          rw [hlen0] at this
          exact Nat.le_trans (Nat.mul_le_mul_right _ (by omega)) this
        have hat : ∀ (i : Nat) x, xs[i]? = some x → ∃ cs, t.R [] W x cs ∧ cs.length = t.n ∧ ∀ j v, cs[j]? = some v → W.cell? ((a.add (i * t.n)).add j) = some v := by
          intro i x hx
          obtain ⟨⟨cs, hR, hcs⟩, _⟩ := hxs i x hx
          refine ⟨cs, hR, t.len hR, fun j v hv => ?_⟩
          unfold World.cells? at hcs
          split at hcs
          · have hj : j < t.n := by rw [← t.len hR]; exact (List.getElem?_eq_some_iff.1 hv).1
            have := mapM_some_get hcs j j (by rw [List.getElem?_range hj])
            rw [this, hv]
          · cases hcs
        obtain ⟨b, o, spot⟩ := a
        obtain ⟨x0, hx0⟩ : ∃ x0, xs[0]? = some x0 := ⟨_, List.getElem?_eq_getElem (List.length_pos_iff.2 hne)⟩
        obtain ⟨c0, hR0, hl0, h0⟩ := hat 0 x0 hx0
        obtain ⟨v0, hv0⟩ : ∃ v0, c0[0]? = some v0 := ⟨_, List.getElem?_eq_getElem (by omega)⟩
        have hc0 := h0 0 v0 hv0
        have hspot : spot = none := by simpa [Addr.add] using World.cell?_spot hc0
        subst hspot
        have hblt : b < W.heap.size := by
          unfold World.cell? at hc0
          split at hc0
          · rename_i hh
            have := (Array.getElem?_eq_some_iff.1 hh).1
            simpa [Addr.add] using this
          · cases hc0
        refine ⟨b, o, rfl, hblt, by simp, fun i x hx => ?_⟩
        obtain ⟨cs, hR, _, hc⟩ := hat i x hx
        refine ⟨hblt, by simp, cs, hR, fun j v hv => ?_⟩
        have := hc j v hv
        rwa [add_plain, add_plain] at this
      · cases h
end
end Go.Proofs.E
set_option linter.unusedVariables false
set_option linter.unusedSimpArgs false
namespace Go.Proofs.E
open Go Go.RowKit Go.ChangeShapes Go.WideShapes
section
variable {H : Type} {enc : TypeId × Value → H} {P : Program} {W : World} {base : Nat} {sp : Nat → Bool} {held : Bool}
/-- The fields from o on. -/
def ReadsFs {α : Type} (enc : TypeId × Value → H) (P : Program) (W : World) (base : Nat) (sp : Nat → Bool) (held : Bool) (fs : List Field) (o : Nat) (t : Ty α) (q : α → Prop) : Prop :=
  ∀ fuel (cs : List Value) (xs : List (DataW H × List MemPlace)), fs.mapM (fun f => DataW.trod enc P W base sp held fuel f.type ((cs.drop f.offset).take (P.cellsOf f.type))) = some xs →
    (∀ n ∈ DataW.weightsEach P (fs.map (·.type)) (xs.map (·.1)), n ≤ reachBytes) → cs.length = o + t.n → ∃ a, t.R [] W a (cs.drop o) ∧ q a
theorem ReadsFs.one {α : Type} {f : Field} {o : Nat} {t : Ty α} {q : α → Prop} {z : Value} {m by_ : Nat} (ho : f.offset = o) (h : ReadsW enc P W base sp held f.type t q) [hi : Inf P f.type z m by_] (hm : t.n = m := by exact rfl) : ReadsFs enc P W base sp held [f] o t q := by
  intro fuel cs xs hx hw hl
  subst ho hm
  simp only [List.mapM_cons, List.mapM_nil, Option.bind_eq_bind, Option.pure_def] at hx
  obtain ⟨x, hx1, hx2⟩ := Option.bind_eq_some_iff.1 hx
  simp at hx2
  subst hx2
  rw [cellsOf_inf hi] at hx1
  obtain ⟨a, ha, hq⟩ := h _ _ _ hx1 (fun n hn => hw n (by simp [DataW.weightsEach, hn]))
  rw [List.take_of_length_le (by rw [List.length_drop]; omega)] at ha
  exact ⟨a, ha, hq⟩
theorem ReadsFs.cons {α β : Type} {f : Field} {fs : List Field} {o : Nat} {t : Ty α} {u : Ty β} {q : α → Prop} {r : β → Prop} {z : Value} {m by_ : Nat} (ho : f.offset = o) (h : ReadsW enc P W base sp held f.type t q) (hs : ReadsFs enc P W base sp held fs (o + t.n) u r) [hi : Inf P f.type z m by_] (hm : t.n = m := by exact rfl) :
    ReadsFs enc P W base sp held (f :: fs) o (t.prod u) (fun x => q x.1 ∧ r x.2) := by
  intro fuel cs xs hx hw hl
  subst ho hm
  simp only [List.mapM_cons, Option.bind_eq_bind, Option.pure_def] at hx
  obtain ⟨x, hx1, hx2⟩ := Option.bind_eq_some_iff.1 hx
  obtain ⟨ys, hy, hx3⟩ := Option.bind_eq_some_iff.1 hx2
  simp only [Option.some.injEq] at hx3
  subst hx3
  rw [cellsOf_inf hi] at hx1
  have hl' : cs.length = f.offset + (t.n + u.n) := hl
  obtain ⟨a, ha, hq⟩ := h _ _ _ hx1 (fun n hn => hw n (by simp [DataW.weightsEach, hn]))
  obtain ⟨b, hb, hr⟩ := hs _ cs ys hy (fun n hn => hw n (by simp only [List.map_cons, DataW.weightsEach]; exact List.mem_append.2 (.inr hn))) (by omega)
  refine ⟨(a, b), ⟨_, _, ?_, ha, hb⟩, hq, hr⟩
  rw [← List.drop_drop, List.take_append_drop]
theorem readsW_struct {α : Type} {E : TypeId} {fs : Array Field} {t : Ty α} {q : α → Prop} {z : Value} {m by_ : Nat} (hu : P.underlying E = some (.struct fs)) (h : ReadsFs enc P W base sp held fs.toList 0 t q) [hi : Inf P E z m by_] (hm : t.n = m := by exact rfl) : ReadsW enc P W base sp held E t q := by
  intro fuel cs x hx hw
  subst hm
  cases fuel with
  | zero => simp [DataW.trod] at hx
  | succ fuel =>
    unfold DataW.trod at hx
    rw [hu] at hx
    simp only at hx
    split at hx
    · rename_i hl
      rw [cellsOf_inf hi] at hl
      obtain ⟨xs, hx1, rfl⟩ := Option.map_eq_some_iff.1 hx
      unfold DataW.weights at hw
      rw [hu] at hw
      simp only at hw
      obtain ⟨a, ha, hq⟩ := h fuel cs xs hx1 hw (by omega)
      rw [List.drop_zero] at ha
      exact ⟨a, ha, hq⟩
    · cases hx
theorem ReadsW.map {α β : Type} {E : TypeId} {t : Ty α} {u : Ty β} {q : α → Prop} {r : β → Prop} (h : ReadsW enc P W base sp held E t q) (f : ∀ a cs, t.R [] W a cs → q a → ∃ b, u.R [] W b cs ∧ r b) : ReadsW enc P W base sp held E u r := fun fuel cs x hx hw =>
  let ⟨a, ha, hq⟩ := h fuel cs x hx hw
  f a cs ha hq
theorem rw_int {E : TypeId} {k : IntKind} [hu : Und P E (.int k)] : ReadsW enc P W base sp held E (tInt k) (fun n => (Lit.int k n).wf = true) := fun fuel cs x hx _ =>
  let ⟨n, h1, h2⟩ := reads_int (hu := hu) hx
  ⟨n, h1, h2⟩
theorem rw_bool {E : TypeId} [hu : Und P E .bool] : ReadsW enc P W base sp held E tBool (fun _ => True) := (reads_bool (hu := hu)).w
theorem rw_str {E : TypeId} [hu : Und P E .string] : ReadsW enc P W base sp held E tStr (fun s => s.size ≤ reachBytes) := fun fuel cs x hx hw => by
  obtain ⟨s, rfl, rfl, h⟩ := DataW.trod_string hu.out hx
  refine ⟨s, rfl, ?_⟩
  have := hw s.data.toList.length (by simp [DataW.weights])
  simpa using this
end
end Go.Proofs.E
namespace Go.Proofs.YtoimhmphhffelaaDoor
open Go Go.RowKit Go.Proofs.E
section
variable {H : Type} {enc : TypeId × Value → H} {W : World}
abbrev RW {α : Type} (enc : TypeId × Value → H) (W : World) (E : TypeId) (t : Ty α) (q : α → Prop) : Prop := ReadsW enc Tryd.prog W 0 (fun _ => true) true E t q
end
end Go.Proofs.YtoimhmphhffelaaDoor

/- What an argument that a row opens reads as: from the data's reading to this project's own. -/
import Derived.Test.YtfldckjkipmibaaDoorU
import Derived.ProofKit
import Derived.OpenShut
set_option linter.unusedVariables false
set_option linter.unusedSimpArgs false
namespace Go.Proofs.E
open Go Go.RowKit Go.ChangeShapes Go.WideShapes
section
variable {H : Type} {enc : TypeId × Value → H} {P : Program} {W : World} {base : Nat} {sp : Nat → Bool} {held : Bool}
/-- Whatever cells a type's reading goes through, they are a value of α. -/
def Reads {α : Type} (enc : TypeId × Value → H) (P : Program) (W : World) (base : Nat) (sp : Nat → Bool) (held : Bool) (E : TypeId) (t : Ty α) : Prop :=
  ∀ fuel cs x, DataW.trod enc P W base sp held fuel E cs = some x → ∃ a : α, t.R [] W a cs
theorem u8_of_wf {n : Int} (h : (Lit.int .u8 n).wf = true) : ∃ b : UInt8, Value.int .u8 n = u8v b := by
  have := bounds_u8 h
  refine ⟨UInt8.ofNat n.toNat, ?_⟩
  unfold u8v
  congr 1
  rw [UInt8.toNat_ofNat']
  omega
theorem reads_u8 {E : TypeId} [hu : Und P E (.int .u8)] : Reads enc P W base sp held E (Ty.enc eU8) := by
  intro fuel cs x h
  obtain ⟨n, rfl, _, hw⟩ := DataW.trod_int hu.out h
  obtain ⟨b, hb⟩ := u8_of_wf hw
  exact ⟨b, by rw [hb]; rfl⟩
theorem reads_bool {E : TypeId} [hu : Und P E .bool] : Reads enc P W base sp held E (Ty.enc eBool) := by
  intro fuel cs x h
  cases fuel with
  | zero => simp [DataW.trod] at h
  | succ fuel =>
    unfold DataW.trod at h
    rw [hu.out] at h
    match cs, h with
    | [.bool b], h => exact ⟨b, rfl⟩
theorem all_map {α : Type} {f : α → Value} : ∀ {cs : List Value}, (∀ (i : Nat) v, cs[i]? = some v → ∃ a, v = f a) → ∃ as : List α, cs = as.map f
  | [], _ => ⟨[], rfl⟩
  | v :: cs, h => by
    obtain ⟨a, rfl⟩ := h 0 v rfl
    obtain ⟨as, rfl⟩ := all_map (cs := cs) fun i u hu => h (i + 1) u (by simpa using hu)
    exact ⟨a :: as, rfl⟩
theorem list_of {α : Type} {p : Nat → α → Prop} : ∀ {n : Nat}, (∀ i, i < n → ∃ x, p i x) → ∃ xs : List α, xs.length = n ∧ ∀ (i : Nat) x, xs[i]? = some x → p i x
  | 0, _ => ⟨[], rfl, fun i x hx => by simp at hx⟩
  | n + 1, h => by
    obtain ⟨xs, hl, hxs⟩ := list_of (n := n) fun i hi => h i (by omega)
    obtain ⟨x, hx⟩ := h n (by omega)
    refine ⟨xs ++ [x], by simp [hl], fun i y hy => ?_⟩
    rcases Nat.lt_or_ge i n with hlt | hge
    · rw [List.getElem?_append_left (by omega)] at hy
      exact hxs i y hy
    · rw [List.getElem?_append_right (by omega)] at hy
      have : i = n := by
        have := (List.getElem?_eq_some_iff.1 hy).1
        simp at this
        omega
      subst this
      rw [hl, Nat.sub_self] at hy
      simp only [List.getElem?_cons_zero, Option.some.injEq] at hy
      subst hy
      exact hx
theorem cellsOf_inf {E : TypeId} {z : Value} {n by_ : Nat} (hi : Inf P E z n by_) : P.cellsOf E = n := by
  obtain ⟨i, k1, k2, k3, k4⟩ := inf_parts hi
  simp [Program.cellsOf, k1, k3]
/-- An array of bytes. -/
theorem reads_arr8 {E e : TypeId} {z ze : Value} {n m by_ b2 : Nat} [hu : Und P E (.array n e)] [hi : Inf P E z n by_] [he : Und P e (.int .u8)] [hie : Inf P e ze 1 b2] {fuel : Nat} {cs : List Value} {x : DataW H × List MemPlace}
    (h : DataW.trod enc P W base sp held fuel E cs = some x) : ∃ bs : List UInt8, bs.length = n ∧ cs = bs.map u8v := by
  cases fuel with
  | zero => simp [DataW.trod] at h
  | succ fuel =>
    unfold DataW.trod at h
    rw [hu.out] at h
    simp only at h
    split at h
    · rename_i hl
      rw [cellsOf_inf hi] at hl
      obtain ⟨xs, hx, _⟩ := Option.map_eq_some_iff.1 h
      have hc := cellsOf_inf hie
      obtain ⟨bs, rfl⟩ := all_map (f := u8v) (cs := cs) fun i v hv => by
        have hlt : i < n := by rw [← hl]; exact (List.getElem?_eq_some_iff.1 hv).1
        have h1 := mapM_some_get hx i i (by rw [List.getElem?_range hlt])
        have hlen := mapM_some_length hx
        have hlt2 : i < xs.length := by rw [hlen, List.length_range]; exact hlt
        rw [List.getElem?_eq_getElem hlt2, hc, Nat.mul_one] at h1
        obtain ⟨q, hq, _, hw⟩ := DataW.trod_int he.out h1
        have hd : (cs.drop i).take 1 = [v] := by
          have h2 : i < cs.length := (List.getElem?_eq_some_iff.1 hv).1
          rw [List.drop_eq_getElem_cons h2, List.take_succ_cons, List.take_zero]
          rw [List.getElem?_eq_getElem h2] at hv
          rw [Option.some.inj hv]
        rw [hd] at hq
        obtain ⟨b, hb⟩ := u8_of_wf hw
        injection hq with hq _
        exact ⟨b, hq.trans hb⟩
      exact ⟨bs, by simpa using hl, rfl⟩
    · cases h
/-- A slice. -/
theorem reads_slice {α : Type} {t : Ty α} {E e : TypeId} {z : Value} {m by_ : Nat} [hu : Und P E (.slice e)] [hi : Inf P e z m by_] (hm : t.n = m) (hm0 : 0 < m) (hr : Reads enc P W base sp held e t) : Reads enc P W base sp held E (Ty.sl t) := by
  intro fuel cs x h
  subst hm
  cases fuel with
  | zero => simp [DataW.trod] at h
  | succ fuel =>
    unfold DataW.trod at h
    rw [hu.out] at h
    have hc := cellsOf_inf hi
    match cs, h with
    | [.slice none 0 0], h => exact ⟨[], _, rfl, Ty.Rd.nil _ _ _ _ _⟩
    | [.slice (some a) len cap], h =>
      simp only at h
      split at h
      · rename_i hb
        obtain ⟨elems, he, _⟩ := Option.bind_eq_some_iff.1 h
        have hel : ∀ i, i < len → ∃ x : α, ∃ cs, t.R [] W x cs ∧ W.cells? base (a.add (i * t.n)) t.n = some cs := by
          intro i hi'
          have h1 := mapM_some_get he i i (by rw [List.getElem?_range hi'])
          have hlen := mapM_some_length he
          have hlt2 : i < elems.length := by rw [hlen, List.length_range]; exact hi'
          rw [List.getElem?_eq_getElem hlt2, hc] at h1
          obtain ⟨ds, hds, hx⟩ := Option.bind_eq_some_iff.1 h1
          obtain ⟨x, hR⟩ := hr _ _ _ hx
          exact ⟨x, ds, hR, hds⟩
        have hxs := list_of hel
        obtain ⟨xs, hl, hxs⟩ := hxs
        have hml : len ≤ 9223372036854775807 := by
          have := hb.2.2
          simp only [maxLen] at this
          omega
        refine ⟨xs, _, rfl, by omega, some a, cap, by rw [hl], by rw [hl]; exact hb.2.1, fun hne => ?_⟩
        have hat : ∀ (i : Nat) x, xs[i]? = some x → ∃ cs, t.R [] W x cs ∧ cs.length = t.n ∧ ∀ j v, cs[j]? = some v → W.cell? ((a.add (i * t.n)).add j) = some v := by
          intro i x hx
          obtain ⟨cs, hR, hcs⟩ := hxs i x hx
          refine ⟨cs, hR, t.len hR, fun j v hv => ?_⟩
          unfold World.cells? at hcs
          split at hcs
          · have hj : j < t.n := by rw [← t.len hR]; exact (List.getElem?_eq_some_iff.1 hv).1
            have := mapM_some_get hcs j j (by rw [List.getElem?_range hj])
            rw [this, hv]
          · cases hcs
        obtain ⟨b, o, spot⟩ := a
        obtain ⟨x0, hx0⟩ : ∃ x0, xs[0]? = some x0 := ⟨_, List.getElem?_eq_getElem (List.length_pos_iff.2 hne)⟩
        obtain ⟨c0, hR0, hl0, h0⟩ := hat 0 x0 hx0
        obtain ⟨v0, hv0⟩ : ∃ v0, c0[0]? = some v0 := ⟨_, List.getElem?_eq_getElem (by omega)⟩
        have hc0 := h0 0 v0 hv0
        have hspot : spot = none := by simpa [Addr.add] using World.cell?_spot hc0
        subst hspot
        have hblt : b < W.heap.size := by
          unfold World.cell? at hc0
          split at hc0
          · rename_i hh
            have := (Array.getElem?_eq_some_iff.1 hh).1
            simpa [Addr.add] using this
          · cases hc0
        refine ⟨b, o, rfl, hblt, by simp, fun i x hx => ?_⟩
        obtain ⟨cs, hR, _, hc⟩ := hat i x hx
        refine ⟨hblt, by simp, cs, hR, fun j v hv => ?_⟩
        have := hc j v hv
        rwa [add_plain, add_plain] at this
      · cases h
/-- An array of integers: its cells, out of what it reads as. -/
theorem trod_arr_int {k : IntKind} {E e : TypeId} {z ze : Value} {n by_ b2 : Nat} [hu : Und P E (.array n e)] [hi : Inf P E z n by_] [he : Und P e (.int k)] [hie : Inf P e ze 1 b2] {fuel : Nat} {cs : List Value} {ns : List Int} {p : List MemPlace}
    (h : DataW.trod enc P W base sp held fuel E cs = some (.agg (ns.map fun q => .lit (.int k q)), p)) : cs = ns.map (Value.int k) := by
  cases fuel with
  | zero => simp [DataW.trod] at h
  | succ fuel =>
    unfold DataW.trod at h
    rw [hu.out] at h
    simp only at h
    split at h
    · rename_i hl
      rw [cellsOf_inf hi] at hl
      obtain ⟨xs, hx, hxe⟩ := Option.map_eq_some_iff.1 h
      simp only [Prod.mk.injEq, DataW.agg.injEq] at hxe
      have hc := cellsOf_inf hie
      have hlen := mapM_some_length hx
      rw [List.length_range] at hlen
      have hnl : ns.length = n := by
        have := congrArg List.length hxe.1
        simpa [hlen] using this.symm
      apply List.ext_getElem?
      intro i
      by_cases hin : i < n
      · have h1 := mapM_some_get hx i i (by rw [List.getElem?_range hin])
        rw [List.getElem?_eq_getElem (by omega), hc, Nat.mul_one] at h1
        obtain ⟨q, hq, hy, hw⟩ := DataW.trod_int he.out h1
        have h2 : i < cs.length := by omega
        rw [List.drop_eq_getElem_cons h2, List.take_succ_cons, List.take_zero] at hq
        injection hq with hq _
        rw [List.getElem?_eq_getElem h2, hq, List.getElem?_map, List.getElem?_eq_getElem (by omega)]
        have h3 := congrArg (fun l => l[i]?) hxe.1
        simp only [List.getElem?_map] at h3
        rw [List.getElem?_eq_getElem (by omega), List.getElem?_eq_getElem (by omega), hy] at h3
        simp only [Option.map_some, Option.some.injEq, DataW.lit.injEq, Lit.int.injEq, true_and] at h3
        rw [h3]
        rfl
      · rw [List.getElem?_eq_none (by omega), List.getElem?_eq_none (by rw [List.length_map]; omega)]
    · cases h
end
end Go.Proofs.E

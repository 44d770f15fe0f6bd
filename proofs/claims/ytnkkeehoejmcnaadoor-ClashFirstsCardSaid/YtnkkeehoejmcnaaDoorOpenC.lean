/- What law 20's arguments read as: proofs of keys, pairs. -/
import Derived.Test.YtnkkeehoejmcnaaDoorOpenH
import Derived.Test.YtnkkeehoejmcnaaDoorClashUps
set_option linter.unusedVariables false
set_option linter.unusedSimpArgs false
namespace Go.Proofs.YtnkkeehoejmcnaaDoor
open Go Go.RowKit Go.Proofs.E
section
variable {H : Type} {enc : TypeId × Value → H} {W : World}
abbrev tSt : Ty (Int × Hs) := Ty.prod (tInt .i64) (Ty.enc eH)
theorem rw_step : RW enc W 72 (Ty.enc eSt) (fun _ => True) :=
  (readsW_struct (t := tSt) Tryd.underlying72 (.cons rfl rw_int (.one rfl rw_hash))).map
    (fun a cs h q => ⟨a, by obtain ⟨c, d, rfl, h1, h2⟩ := h; rw [show c = _ from h1, show d = _ from h2]; rfl, trivial⟩)
theorem rw_steps : RW enc W 39 (Ty.sl (Ty.enc eSt)) (fun xs => xs.length ≤ 1099511627776000) :=
  (readsW_slice (E := 39) (e := 72) (t := Ty.enc eSt) rfl (by decide) rw_step).map (fun a cs h q => ⟨a, h, by
    have := q.2
    rw [show Tryd.prog.bytesOf 72 = 40 by kernel_rfl] at this
    have : reachBytes = 140737488351232 := rfl
    omega⟩)
abbrev tPf : Ty (List (Int × Hs) × Bool × Hs × Hs) := Ty.prod (Ty.sl (Ty.enc eSt)) (Ty.prod tBool (Ty.prod (Ty.enc eH) (Ty.enc eH)))
theorem rw_proof : RW enc W 41 tPf (fun x => x.1.length ≤ 1099511627776000) :=
  (readsW_struct (t := tPf) Tryd.underlying41 (.cons rfl rw_steps (.cons rfl rw_bool
    (.cons rfl rw_hash (.one rfl rw_hash))))).map (fun a cs h q => ⟨a, h, q.1⟩)
theorem tPf_out {w : World} {x : List (Int × Hs) × Bool × Hs × Hs} {cs : List Value} (h : tPf.R [] w x cs) : ∃ sp, cs = pC sp x.2.1 x.2.2.1 x.2.2.2 ∧ (Ty.enc eSt).Rd [] w sp x.1 := by
  obtain ⟨c, d, rfl, ⟨sp, h1, h2⟩, c2, d2, rfl, h3, c3, d3, rfl, h4, h5⟩ := h
  rw [h1, show c2 = _ from h3, show c3 = _ from h4, show d3 = _ from h5]
  exact ⟨sp, rfl, h2⟩
abbrev tPr : Ty (Hs × List (Int × Hs) × Bool × Hs × Hs) := Ty.prod (Ty.enc eH) tPf
theorem rw_pair : RW enc W 43 tPr (fun x => x.2.1.length ≤ 1099511627776000) :=
  (readsW_struct (t := tPr) Tryd.underlying43 (.cons rfl rw_hash (.one rfl rw_proof))).map (fun a cs h q => ⟨a, h, q.2⟩)
theorem tPr_out {w : World} {x : Hs × List (Int × Hs) × Bool × Hs × Hs} {cs : List Value} (h : tPr.R [] w x cs) : ∃ sp, cs = prC x.1 sp x.2.2.1 x.2.2.2.1 x.2.2.2.2 ∧ (Ty.enc eSt).Rd [] w sp x.2.1 := by
  obtain ⟨c, d, rfl, h1, h2⟩ := h
  obtain ⟨sp, rfl, h3⟩ := tPf_out h2
  rw [show c = _ from h1]
  exact ⟨sp, rfl, h3⟩
theorem pr2_out {fuel : Nat} {cs : List Value} {x : Go.DataW H × List Go.MemPlace} (h : Go.DataW.trod enc Tryd.prog W 0 (fun _ => true) true fuel 75 cs = some x) (hw : ∀ n ∈ x.1.weights Tryd.prog 75, n ≤ Go.reachBytes) :
    ∃ (a b : Hs × List (Int × Hs) × Bool × Hs × Hs) (sp sq : Value), cs = prC a.1 sp a.2.2.1 a.2.2.2.1 a.2.2.2.2 ++ prC b.1 sq b.2.2.1 b.2.2.2.1 b.2.2.2.2 ∧ (Ty.enc eSt).Rd [] W sp a.2.1 ∧ (Ty.enc eSt).Rd [] W sq b.2.1 ∧ a.2.1.length ≤ 1099511627776000 ∧ b.2.1.length ≤ 1099511627776000 := by
  obtain ⟨a, b, hl, ⟨ha, qa⟩, hb, qb⟩ := readsW_arr2 (m := 98) (E := 75) (e := 43) rfl rw_pair h hw
  obtain ⟨sp, h1, h2⟩ := tPr_out ha
  obtain ⟨sq, h3, h4⟩ := tPr_out hb
  refine ⟨a, b, sp, sq, ?_, h2, h4, qa, qb⟩
  rw [← h1, ← h3, List.take_of_length_le (l := cs.drop 98) (by rw [List.length_drop]; omega), List.take_append_drop]
end
end Go.Proofs.YtnkkeehoejmcnaaDoor

/- What law 30's arguments read as: claims, facts. -/
import Derived.Test.YtkdbinchlpdkmaaDoorQGro10
import Derived.Test.YtkdbinchlpdkmaaDoorQGro30
set_option linter.unusedVariables false
set_option linter.unusedSimpArgs false
namespace Go.Proofs.E
open Go Go.RowKit
/-- The elements' own values, whatever they hold. -/
theorem Ty.Rd.rawF {α β : Type} {t : Ty α} {e : En β} {S : List Nat} {w : World} {v : Value} {xs : List α} {Q : α → β → Prop} (hn : t.n = e.n) (f : ∀ a cs, t.R S w a cs → ∃ b, cs = e.f b ∧ Q a b) (h : t.Rd S w v xs) :
    ∃ ps : List (β × α), ps.map (·.2) = xs ∧ (Ty.enc e).Rd S w v (ps.map (·.1)) ∧ ∀ p ∈ ps, Q p.2 p.1 := by
  obtain ⟨hl, A, cap, rfl, hcap, hA⟩ := h
  by_cases hne : xs = []
  · subst hne
    exact ⟨[], rfl, ⟨by simp, A, cap, rfl, by simp, fun h => absurd rfl h⟩, by simp⟩
  · obtain ⟨b, o, rfl, hb, hbn, he⟩ := hA hne
    obtain ⟨ps, hpl, hps⟩ : ∃ ps : List (β × α), ps.length = xs.length ∧ ∀ (i : Nat) p, ps[i]? = some p → xs[i]? = some p.2 ∧ Q p.2 p.1 ∧ w.rangeAt b (o + i * t.n) (e.f p.1) := list_ofS fun i hi => by
      obtain ⟨_, _, cs, hR, hr⟩ := he i _ (List.getElem?_eq_getElem hi)
      obtain ⟨y, rfl, hQ⟩ := f _ _ hR
      exact ⟨(y, xs[i]), List.getElem?_eq_getElem hi, hQ, hr⟩
    refine ⟨ps, List.ext_getElem? fun i => ?_, ⟨by simpa [hpl] using hl, some ⟨b, o, none⟩, cap, by simp [hpl], by simpa [hpl] using hcap, fun _ => ⟨b, o, rfl, hb, hbn, fun i x hx => ?_⟩⟩, fun p hp => ?_⟩
    · rw [List.getElem?_map]
      by_cases hi : i < xs.length
      · rw [List.getElem?_eq_getElem (l := ps) (by omega), (hps i _ (List.getElem?_eq_getElem (by omega))).1]
        rfl
      · rw [List.getElem?_eq_none (by omega), List.getElem?_eq_none (by omega)]
        rfl
    · rw [List.getElem?_map] at hx
      obtain ⟨p, hp, rfl⟩ := Option.map_eq_some_iff.1 hx
      refine ⟨hb, hbn, _, rfl, ?_⟩
      have := (hps i p hp).2.2
      rw [hn] at this
      exact this
    · obtain ⟨i, hi⟩ := List.getElem?_of_mem hp
      exact (hps i p hi).2.1
theorem three_of {α : Type} {l : List α} (h : l.length = 3) : ∃ a b c, l = [a, b, c] := by
  match l, h with
  | [a, b, c], _ => exact ⟨a, b, c, rfl⟩
end Go.Proofs.E
namespace Go.Proofs.YtkdbinchlpdkmaaDoor
open Go Go.RowKit Go.Proofs.E
section
variable {H : Type} {enc : TypeId × Value → H} {W : World}
abbrev tCl : Ty (List UInt8 × List Hs) := Ty.prod (Ty.sl tU8) (Ty.sl (Ty.enc eH))
theorem rw_claim : RW enc W 58 tCl (fun x => x.1.length ≤ reachBytes ∧ x.2.length * 32 ≤ reachBytes) :=
  (readsW_struct (t := tCl) Tryd.underlying58 (.cons rfl rw_bytes (.one rfl rw_hashes))).map (fun a cs h q => ⟨a, h, q.1, q.2⟩)
theorem tCl_out {w : World} {x : List UInt8 × List Hs} {cs : List Value} (h : tCl.R [] w x cs) : ∃ ul up : SlV, cs = [slv ul, slv up] ∧ tU8.Rd [] w (slv ul) x.1 ∧ (Ty.enc eH).Rd [] w (slv up) x.2 := by
  obtain ⟨c, d, rfl, ⟨v, h1, hR⟩, v2, h2, hR2⟩ := h
  obtain ⟨ul, rfl⟩ := hR.slv
  obtain ⟨up, rfl⟩ := hR2.slv
  exact ⟨ul, up, by rw [h1, h2]; rfl, hR, hR2⟩
theorem cl2_out {fuel : Nat} {cs : List Value} {x : Go.DataW H × List Go.MemPlace} (h : Go.DataW.trod enc Tryd.prog W 0 (fun _ => true) true fuel 79 cs = some x) (hw : ∀ n ∈ x.1.weights Tryd.prog 79, n ≤ Go.reachBytes) :
    ∃ (a b : List UInt8 × List Hs) (ula upa ulb upb : SlV), cs = [slv ula, slv upa, slv ulb, slv upb] ∧ tU8.Rd [] W (slv ula) a.1 ∧ (Ty.enc eH).Rd [] W (slv upa) a.2 ∧ tU8.Rd [] W (slv ulb) b.1 ∧ (Ty.enc eH).Rd [] W (slv upb) b.2 := by
  obtain ⟨a, b, hl, ⟨ha, qa⟩, hb, qb⟩ := readsW_arr2 (m := 2) (E := 79) (e := 58) rfl rw_claim h hw
  obtain ⟨ula, upa, h1, h2, h3⟩ := tCl_out ha
  obtain ⟨ulb, upb, h4, h5, h6⟩ := tCl_out hb
  refine ⟨a, b, ula, upa, ulb, upb, ?_, h2, h3, h5, h6⟩
  have e : cs = cs.take 2 ++ (cs.drop 2).take 2 := by
    rw [List.take_of_length_le (l := cs.drop 2) (by rw [List.length_drop]; omega), List.take_append_drop]
  rw [e, h1, h4]
  rfl
abbrev tFc : Ty (Int × Int × Hs × List UInt8) := Ty.prod (tInt .i64) (Ty.prod (tInt .i64) (Ty.prod (Ty.enc eH) (Ty.sl tU8)))
theorem rw_fact : RW enc W 74 tFc (fun x => x.2.2.2.length ≤ reachBytes) :=
  (readsW_struct (t := tFc) Tryd.underlying74 (.cons rfl rw_int (.cons rfl rw_int (.cons rfl rw_hash (.one rfl rw_bytes))))).map (fun a cs h q => ⟨a, h, q.2.2.2⟩)
theorem rw_facts : RW enc W 60 (Ty.sl tFc) (fun xs => ∀ x ∈ xs, x.2.2.2.length ≤ reachBytes) :=
  (readsW_slice (E := 60) (e := 74) (t := tFc) rfl (by decide) rw_fact).map (fun a cs h q => ⟨a, h, q.1⟩)
theorem facts_out {w : World} {v : Value} {xs : List (Int × Int × Hs × List UInt8)} (h : tFc.Rd [] w v xs) (q : ∀ x ∈ xs, x.2.2.2.length ≤ reachBytes) :
    ∃ fs : List (Fv × List UInt8), (Ty.enc eFv).Rd [] w v (fs.map (·.1)) ∧ (∀ f ∈ fs, tU8.Rd [] w (slv f.1.2.2.2) f.2) ∧ ∀ f ∈ fs, f.2.length ≤ 140737488355328 := by
  obtain ⟨ps, hps, hE, hQ⟩ := h.rawF (e := eFv) (Q := fun a b => tU8.Rd [] w (slv b.2.2.2) a.2.2.2) rfl (fun a cs h => by
    obtain ⟨c, d, rfl, h1, c2, d2, rfl, h2, c3, d3, rfl, h3, v, h4, h5⟩ := h
    obtain ⟨u, rfl⟩ := h5.slv
    refine ⟨(a.1, a.2.1, a.2.2.1, u), ?_, h5⟩
    rw [show c = _ from h1, show c2 = _ from h2, show c3 = _ from h3, h4]
    rfl)
  refine ⟨ps.map (fun p => (p.1, p.2.2.2.2)), ?_, fun f hf => ?_, fun f hf => ?_⟩
  · rw [List.map_map]
    exact hE
  · obtain ⟨p, hp, rfl⟩ := List.mem_map.1 hf
    exact hQ p hp
  · obtain ⟨p, hp, rfl⟩ := List.mem_map.1 hf
    have h6 := q p.2 (by rw [← hps]; exact List.mem_map_of_mem hp)
    have : reachBytes = 140737488351232 := rfl
    show p.2.2.2.2.length ≤ _
    omega
end
end Go.Proofs.YtkdbinchlpdkmaaDoor

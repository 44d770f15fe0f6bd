/- What law 16's arguments read as: records. -/
import Derived.Test.YtoimhmphhffelaaGreatDoorQReceiptBytes41
import Derived.Test.YtoimhmphhffelaaGreatDoorQReceiptBytes13
set_option linter.unusedVariables false
set_option linter.unusedSimpArgs false
namespace Go.Proofs.E
open Go Go.RowKit
/-- The elements' own values, whatever they hold. -/
theorem Ty.Rd.rawG {α β : Type} {t : Ty α} {e : En β} {S : List Nat} {w : World} {v : Value} {xs : List α} {Q : α → β → Prop} (hn : t.n = e.n) (f : ∀ a cs, t.R S w a cs → ∃ b, cs = e.f b ∧ Q a b) (h : t.Rd S w v xs) :
    ∃ ps : List (β × α), ps.map (·.2) = xs ∧ (Ty.enc e).Rd S w v (ps.map (·.1)) ∧ ∀ p ∈ ps, Q p.2 p.1 := by
  obtain ⟨hl, A, cap, rfl, hcap, hA⟩ := h
  by_cases hne : xs = []
  · subst hne
    exact ⟨[], rfl, ⟨by simp, A, cap, rfl, by simp, fun h => absurd rfl h⟩, by simp⟩
  · obtain ⟨b, o, rfl, hb, hbn, he⟩ := hA hne
    obtain ⟨ps, hpl, hps⟩ : ∃ ps : List (β × α), ps.length = xs.length ∧ ∀ (i : Nat) p, ps[i]? = some p → xs[i]? = some p.2 ∧ Q p.2 p.1 ∧ w.rangeAt b (o + i * t.n) (e.f p.1) := list_ofS fun i hi => by
      obtain ⟨_, _, cs, hR, hr⟩ := he i _ (List.getElem?_eq_getElem hi)
      obtain ⟨y, rfl, hQ⟩ := f _ _ hR
      exact ⟨(y, xs[i]), List.getElem?_eq_getElem hi, hQ, hr⟩
    refine ⟨ps, List.ext_getElem? fun i => ?_, ⟨by simpa [hpl] using hl, some ⟨b, o, none⟩, cap, by simp [hpl], by simpa [hpl] using hcap, fun _ => ⟨b, o, rfl, hb, hbn, fun i x hx => ?_⟩⟩, fun p hp => ?_⟩
    · rw [List.getElem?_map]
      by_cases hi : i < xs.length
      · rw [List.getElem?_eq_getElem (l := ps) (by omega), (hps i _ (List.getElem?_eq_getElem (by omega))).1]
        rfl
      · rw [List.getElem?_eq_none (by omega), List.getElem?_eq_none (by omega)]
        rfl
    · rw [List.getElem?_map] at hx
      obtain ⟨p, hp, rfl⟩ := Option.map_eq_some_iff.1 hx
      refine ⟨hb, hbn, _, rfl, ?_⟩
      have := (hps i p hp).2.2
      rw [hn] at this
      exact this
    · obtain ⟨i, hi⟩ := List.getElem?_of_mem hp
      exact (hps i p hi).2.1
end Go.Proofs.E
namespace Go.Proofs.YtoimhmphhffelaaGreatDoor
open Go Go.RowKit Go.Proofs.E
section
variable {H : Type} {enc : TypeId × Value → H} {W : World}
theorem arr_len (s : ByteArray) : s.data.toList.length = s.size := rfl
theorem rw_pr : RW enc W 70 (Ty.enc ePr) (fun p => p.1.length ≤ 140737488355328 ∧ p.2.1.length ≤ 140737488355328) :=
  (readsW_struct (t := Ty.prod tStr (Ty.prod tStr tBool)) Tryz.underlying70 (.cons rfl rw_str (.cons rfl rw_str (.one rfl rw_bool)))).map
    (fun a cs h q => ⟨(a.1.data.toList, a.2.1.data.toList, a.2.2), by
      obtain ⟨c, d, rfl, h1, c2, d2, rfl, h2, h3⟩ := h
      rw [show c = _ from h1, show c2 = _ from h2, show d2 = _ from h3]
      show _ = _
      simp [bst_of], by
      have : reachBytes = 140737488351232 := rfl
      have h1 := q.1
      have h2 := q.2.1
      simp only [arr_len]
      omega⟩)
theorem rw_prs : RW enc W 23 (Ty.sl (Ty.enc ePr)) (fun xs => ShortL xs) :=
  (readsW_slice (E := 23) (e := 70) (t := Ty.enc ePr) rfl (by decide) rw_pr).map (fun a cs h q => ⟨a, h, q.1⟩)
abbrev tRd : Ty (Bool × ByteArray × ByteArray × List Pr) := Ty.prod tBool (Ty.prod tStr (Ty.prod tStr (Ty.sl (Ty.enc ePr))))
theorem rw_rd : RW enc W 135 tRd (fun x => x.2.1.size ≤ 140737488355328 ∧ x.2.2.1.size ≤ 140737488355328 ∧ ShortL x.2.2.2) :=
  (readsW_struct (t := tRd) Tryz.underlying135 (.cons rfl rw_bool (.cons rfl rw_str (.cons rfl rw_str (.one rfl rw_prs))))).map (fun a cs h q => ⟨a, h, by
    have : reachBytes = 140737488351232 := rfl
    exact ⟨by have := q.2.1; omega, by have := q.2.2.1; omega, q.2.2.2⟩⟩)
theorem rw_rds : RW enc W 22 (Ty.sl tRd) (fun xs => ∀ x ∈ xs, x.2.1.size ≤ 140737488355328 ∧ x.2.2.1.size ≤ 140737488355328 ∧ ShortL x.2.2.2) :=
  (readsW_slice (E := 22) (e := 135) (t := tRd) rfl (by decide) rw_rd).map (fun a cs h q => ⟨a, h, q.1⟩)
abbrev RecD := Int × Int × Bool × List (Bool × ByteArray × ByteArray × List Pr) × List Pr
abbrev tRec : Ty RecD := Ty.prod (tInt .i64) (Ty.prod (tInt .i64) (Ty.prod tBool (Ty.prod (Ty.sl tRd) (Ty.sl (Ty.enc ePr)))))
theorem rw_record : RW enc W 25 tRec (fun x => (∀ y ∈ x.2.2.2.1, y.2.1.size ≤ 140737488355328 ∧ y.2.2.1.size ≤ 140737488355328 ∧ ShortL y.2.2.2) ∧ ShortL x.2.2.2.2) :=
  (readsW_struct (t := tRec) Tryz.underlying25 (.cons rfl rw_int (.cons rfl rw_int (.cons rfl rw_bool (.cons rfl rw_rds (.one rfl rw_prs)))))).map (fun a cs h q => ⟨a, h, q.2.2.2⟩)
theorem tRec_out {w : World} {x : RecD} {cs : List Value} (h : tRec.R [] w x cs) (q : (∀ y ∈ x.2.2.2.1, y.2.1.size ≤ 140737488355328 ∧ y.2.2.1.size ≤ 140737488355328 ∧ ShortL y.2.2.2) ∧ ShortL x.2.2.2.2) :
    ∃ (ses snap : Int) (strict : Bool) (vr vw : Value) (us : List (RR × List Pr)) (wz : List Pr), cs = rC ses snap strict vr vw ∧ RecM w vr vw us wz ∧ ShortR us ∧ ShortL wz := by
  obtain ⟨ses, snap, strict, xs, wz⟩ := x
  obtain ⟨c, d, rfl, h1, c2, d2, rfl, h2, c3, d3, rfl, h3, c4, d4, rfl, ⟨vr, h4, hR⟩, vw, h5, hW⟩ := h
  obtain ⟨ps, hps, hE, hQ⟩ := hR.rawG (e := eRr) (Q := fun a b => a.1 = b.1 ∧ a.2.1 = bst b.2.1 ∧ a.2.2.1 = bst b.2.2.1 ∧ (Ty.enc ePr).Rd [] w (slv b.2.2.2) a.2.2.2) rfl (fun a cs h => by
    obtain ⟨c, d, rfl, h1, c2, d2, rfl, h2, c3, d3, rfl, h3, v, h4, h5⟩ := h
    obtain ⟨u, rfl⟩ := h5.slv
    refine ⟨(a.1, a.2.1.data.toList, a.2.2.1.data.toList, u), ?_, rfl, (bst_of _).symm, (bst_of _).symm, h5⟩
    rw [show c = _ from h1, show c2 = _ from h2, show c3 = _ from h3, h4]
    simp [bst_of])
  refine ⟨ses, snap, strict, vr, vw, ps.map (fun p => (p.1, p.2.2.2.2)), wz, ?_, ⟨?_, ?_, hW⟩, ?_, q.2⟩
  · rw [show c = _ from h1, show c2 = _ from h2, show c3 = _ from h3, h4, h5]
    rfl
  · rw [List.map_map]
    exact hE
  · intro u hu
    obtain ⟨p, hp, rfl⟩ := List.mem_map.1 hu
    exact (hQ p hp).2.2.2
  · intro u hu
    obtain ⟨p, hp, rfl⟩ := List.mem_map.1 hu
    have h6 := q.1 p.2 (by rw [← hps]; exact List.mem_map_of_mem hp)
    obtain ⟨_, e1, e2, _⟩ := hQ p hp
    rw [e1, e2, bst_size, bst_size] at h6
    exact h6
end
end Go.Proofs.YtoimhmphhffelaaGreatDoor

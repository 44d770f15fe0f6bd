/- What a slice of records reads as. -/
import Derived.Test.YtkdbinchlpdkmaaDoorQReceiptHolds15
import Derived.Test.YtkdbinchlpdkmaaDoorQReceiptHolds34
set_option linter.unusedVariables false
set_option linter.unusedSimpArgs false
namespace Go.Proofs.YtkdbinchlpdkmaaDoor
open Go Go.RowKit Go.Proofs.E
theorem pick_all {α β : Type} {P : α → β → Prop} : ∀ l : List α, (∀ a ∈ l, ∃ b, P a b) → ∃ m : List (α × β), m.map (·.1) = l ∧ ∀ x ∈ m, P x.1 x.2
  | [], _ => ⟨[], rfl, fun _ h => by cases h⟩
  | a :: l, h => by
    obtain ⟨b, hb⟩ := h a (by simp)
    obtain ⟨m, hm, hP⟩ := pick_all l (fun x hx => h x (by simp [hx]))
    refine ⟨(a, b) :: m, by rw [List.map_cons, hm], fun x hx => ?_⟩
    rcases List.mem_cons.1 hx with rfl | hx
    · exact hb
    · exact hP x hx
/-- What a record's writes and reads must keep to. -/
abbrev RecQ (x : RecD) : Prop := (∀ y ∈ x.2.2.2.1, y.2.1.size ≤ 140737488355328 ∧ y.2.2.1.size ≤ 140737488355328 ∧ ShortL y.2.2.2) ∧ ShortL x.2.2.2.2
theorem recV_out {w : World} {x : RecD} {cs : List Value} (h : tRec.R [] w x cs) :
    ∃ b : RV, cs = eRec.f b ∧ ∃ y : List (RR × List Pr) × List Pr, RecM w (slv b.2.2.2.1) (slv b.2.2.2.2) y.1 y.2 ∧ (RecQ x → ShortR y.1 ∧ ShortL y.2) := by
  obtain ⟨ses, snap, strict, xs, wz⟩ := x
  obtain ⟨c, d, rfl, h1, c2, d2, rfl, h2, c3, d3, rfl, h3, c4, d4, rfl, ⟨vr, h4, hR⟩, vw, h5, hW⟩ := h
  obtain ⟨u1, rfl⟩ := hR.slv
  obtain ⟨u2, rfl⟩ := hW.slv
  obtain ⟨ps, hps, hE, hQ⟩ := hR.rawG (e := eRr) (Q := fun a b => a.1 = b.1 ∧ a.2.1 = bst b.2.1 ∧ a.2.2.1 = bst b.2.2.1 ∧ (Ty.enc ePr).Rd [] w (slv b.2.2.2) a.2.2.2) rfl (fun a cs h => by
    obtain ⟨c, d, rfl, h1, c2, d2, rfl, h2, c3, d3, rfl, h3, v, h4, h5⟩ := h
    obtain ⟨u, rfl⟩ := h5.slv
    refine ⟨(a.1, a.2.1.data.toList, a.2.2.1.data.toList, u), ?_, rfl, (bst_of _).symm, (bst_of _).symm, h5⟩
    rw [show c = _ from h1, show c2 = _ from h2, show c3 = _ from h3, h4]
    simp [bst_of])
  refine ⟨(ses, snap, strict, u1, u2), ?_, (ps.map (fun p => (p.1, p.2.2.2.2)), wz), ⟨?_, ?_, hW⟩, fun q => ⟨?_, q.2⟩⟩
  · rw [show c = _ from h1, show c2 = _ from h2, show c3 = _ from h3, h4, h5]
    rfl
  · rw [List.map_map]
    exact hE
  · intro u hu
    obtain ⟨p, hp, rfl⟩ := List.mem_map.1 hu
    exact (hQ p hp).2.2.2
  · intro u hu
    obtain ⟨p, hp, rfl⟩ := List.mem_map.1 hu
    have h6 := q.1 p.2 (by rw [← hps]; exact List.mem_map_of_mem hp)
    obtain ⟨_, e1, e2, _⟩ := hQ p hp
    rw [e1, e2, bst_size, bst_size] at h6
    exact h6
theorem recs_out {w : World} {v : Value} {xs : List RecD} (h : tRec.Rd [] w v xs) (q : ∀ x ∈ xs, RecQ x) : ∃ rs : List RT, RecsM w v rs := by
  obtain ⟨ps, hps, hE, hQ⟩ := h.rawG (e := eRec) (Q := fun a b => ∃ y : List (RR × List Pr) × List Pr, RecM w (slv b.2.2.2.1) (slv b.2.2.2.2) y.1 y.2 ∧ (RecQ a → ShortR y.1 ∧ ShortL y.2)) rfl (fun a cs h => by
    obtain ⟨b, hb, y, hy⟩ := recV_out h
    exact ⟨b, hb, y, hy⟩)
  obtain ⟨m, hm, hP⟩ := pick_all ps hQ
  refine ⟨m.map (fun x => (x.1.1, x.2.1, x.2.2)), ?_, fun r hr => ?_, fun r hr => ?_⟩
  · rw [List.map_map]
    rw [← hm, List.map_map] at hE
    exact hE
  · obtain ⟨x, hx, rfl⟩ := List.mem_map.1 hr
    exact (hP x hx).1
  · obtain ⟨x, hx, rfl⟩ := List.mem_map.1 hr
    exact (hP x hx).2 (q x.1.2 (by rw [← hps, ← hm]; exact List.mem_map_of_mem (List.mem_map_of_mem hx)))
section
variable {H : Type} {enc : TypeId × Value → H} {W : World}
theorem rw_records : RW enc W 89 (Ty.sl tRec) (fun xs => ∀ x ∈ xs, RecQ x) :=
  (readsW_slice (E := 89) (e := 93) (t := tRec) rfl (by decide) rw_record).map (fun a cs h q => ⟨a, h, q.1⟩)
end
theorem receiptHolds_v (vl : Value) (rs : List RT) (I J : Nat) (ses snap : Int) (strict : Bool) (vr vw : Value) (us : List (RR × List Pr)) (wz : List Pr) (w0 : World) (hK : Laid w0) (hI : I < 2 ^ 64) (hJ : J < 2 ^ 64) (hL : RecsM w0 vl rs) (hA : RecM w0 vr vw us wz) (hk : ShortR us) (hb : ShortL wz) :
    Calls Tryd.prog 10 #[vl, .agg #[.int .u64 (I : Int), .int .u64 (J : Int)], .agg (rC ses snap strict vr vw).toArray] w0 (Ret fun u w' => u = .bool true ∧ Ch [] w0 w') := by
  obtain ⟨uvr, rfl⟩ := hA.r.slv
  obtain ⟨uvw, rfl⟩ := hA.w.slv
  exact receiptHolds_any vl rs I J ses snap strict uvr uvw us wz w0 hK hI hJ hL hA hk hb
end Go.Proofs.YtkdbinchlpdkmaaDoor

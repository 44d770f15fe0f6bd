/- What law 34's arguments read as: queries. -/
import Derived.Test.YtoimhmphhffelaaDoorQQueryBack25
import Derived.Test.YtoimhmphhffelaaDoorQQueryBack22
set_option linter.unusedVariables false
set_option linter.unusedSimpArgs false
namespace Go.Proofs.YtoimhmphhffelaaDoor
open Go Go.RowKit Go.Proofs.E
section
variable {H : Type} {enc : TypeId × Value → H} {W : World}
theorem arr_lenQ (s : ByteArray) : s.data.toList.length = s.size := rfl
theorem rw_ts : RW enc W 34 (Ty.enc eTs) (fun t => t.2.2.length ≤ 140737488355328) :=
  (readsW_struct (t := Ty.prod (tInt .i64) (Ty.prod (tInt .i64) tStr)) Tryd.underlying34 (.cons rfl rw_int (.cons rfl rw_int (.one rfl rw_str)))).map
    (fun a cs h q => ⟨(a.1, a.2.1, a.2.2.data.toList), by
      obtain ⟨c, d, rfl, h1, c2, d2, rfl, h2, h3⟩ := h
      rw [show c = _ from h1, show c2 = _ from h2, show d2 = _ from h3]
      show _ = _
      simp [bst_of], by
      have : reachBytes = 140737488351232 := rfl
      have h1 := q.2.2
      simp only [arr_lenQ]
      omega⟩)
theorem rw_tss : RW enc W 22 (Ty.sl (Ty.enc eTs)) (fun xs => ∀ t ∈ xs, t.2.2.length ≤ 140737488355328) :=
  (readsW_slice (E := 22) (e := 34) (t := Ty.enc eTs) rfl (by decide) rw_ts).map (fun a cs h q => ⟨a, h, q.1⟩)
abbrev QryD := Int × ByteArray × ByteArray × List TsV × Bool × Int × Int × Bool
abbrev tQry : Ty QryD := Ty.prod (tInt .i64) (Ty.prod tStr (Ty.prod tStr (Ty.prod (Ty.sl (Ty.enc eTs)) (Ty.prod tBool (Ty.prod (tInt .i64) (Ty.prod (tInt .i64) tBool))))))
theorem rw_query : RW enc W 24 tQry (fun x => x.2.1.size ≤ 140737488355328 ∧ x.2.2.1.size ≤ 140737488355328 ∧ ∀ t ∈ x.2.2.2.1, t.2.2.length ≤ 140737488355328) :=
  (readsW_struct (t := tQry) Tryd.underlying24 (.cons rfl rw_int (.cons rfl rw_str (.cons rfl rw_str (.cons rfl rw_tss (.cons rfl rw_bool (.cons rfl rw_int (.cons rfl rw_int (.one rfl rw_bool))))))))).map (fun a cs h q => ⟨a, h, by
    have : reachBytes = 140737488351232 := rfl
    exact ⟨by have := q.2.1; omega, by have := q.2.2.1; omega, q.2.2.2.1⟩⟩)
theorem tQry_out {w : World} {x : QryD} {cs : List Value} (h : tQry.R [] w x cs) (hq : x.2.1.size ≤ 140737488355328 ∧ x.2.2.1.size ≤ 140737488355328 ∧ ∀ t ∈ x.2.2.2.1, t.2.2.length ≤ 140737488355328) :
    ∃ (q : QryV) (vt : Value), cs = qV q vt ∧ (Ty.enc eTs).Rd [] w vt q.ts ∧ q.fr.length ≤ 140737488355328 ∧ q.to_.length ≤ 140737488355328 ∧ ∀ t ∈ q.ts, t.2.2.length ≤ 140737488355328 := by
  obtain ⟨a, f, t, ts, b, s, l, c⟩ := x
  obtain ⟨c1, d1, rfl, h1, c2, d2, rfl, h2, c3, d3, rfl, h3, c4, d4, rfl, ⟨vt, h4, hR⟩, c5, d5, rfl, h5, c6, d6, rfl, h6, c7, d7, rfl, h7, h8⟩ := h
  refine ⟨⟨a, f.data.toList, t.data.toList, ts, b, s, l, c⟩, vt, ?_, hR, hq.1, hq.2.1, hq.2.2⟩
  rw [show c1 = _ from h1, show c2 = _ from h2, show c3 = _ from h3, h4, show c5 = _ from h5, show c6 = _ from h6, show c7 = _ from h7, show d7 = _ from h8]
  simp [bst_of, qV]
end
end Go.Proofs.YtoimhmphhffelaaDoor

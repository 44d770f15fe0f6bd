/- What law 17's arguments read as: receipts, digests. -/
import Derived.Test.YtoimhmphhffelaaGreatDoorQReceiptBytes42
import Derived.Test.YtoimhmphhffelaaGreatDoorQReceiptBytes43
import Derived.Test.YtoimhmphhffelaaGreatDoorQReceiptBytes28
set_option linter.unusedVariables false
set_option linter.unusedSimpArgs false
namespace Go.Proofs.YtoimhmphhffelaaGreatDoor
open Go Go.RowKit Go.Proofs.E
section
variable {H : Type} {enc : TypeId × Value → H} {W : World}
abbrev RecQ (x : RecD) : Prop := (∀ y ∈ x.2.2.2.1, y.2.1.size ≤ 140737488355328 ∧ y.2.2.1.size ≤ 140737488355328 ∧ ShortL y.2.2.2) ∧ ShortL x.2.2.2.2
abbrev tDig : Ty (Int × Hs × Hs) := Ty.prod (tInt .i64) (Ty.prod (Ty.enc eH) (Ty.enc eH))
theorem rw_digest : RW enc W 30 tDig (fun _ => True) :=
  (readsW_struct (t := tDig) Tryz.underlying30 (.cons rfl rw_int (.cons rfl rw_hash (.one rfl rw_hash)))).map (fun a cs h q => ⟨a, h, trivial⟩)
abbrev RctD := Int × RecD × List Hs × Int × Hs × Hs
abbrev tRct : Ty RctD := Ty.prod (tInt .i64) (Ty.prod tRec (Ty.prod (Ty.sl (Ty.enc eH)) tDig))
theorem rw_receipt : RW enc W 32 tRct (fun x => RecQ x.2.1) :=
  (readsW_struct (t := tRct) Tryz.underlying32 (.cons rfl rw_int (.cons rfl rw_record (.cons rfl rw_hashes (.one rfl rw_digest))))).map (fun a cs h q => ⟨a, h, q.2.1⟩)
theorem tRct_out {w : World} {x : RctD} {cs : List Value} (h : tRct.R [] w x cs) (q : RecQ x.2.1) :
    ∃ (a ses snap : Int) (strict : Bool) (vr vw vp : Value) (size : Int) (lg mp : Hs) (us : List (RR × List Pr)) (wz : List Pr) (path : List Hs), cs = tC a ses snap strict vr vw vp size lg mp ∧ RctM w vr vw vp us wz path ∧ ShortR us ∧ ShortL wz := by
  obtain ⟨a, r, path, size, lg, mp⟩ := x
  obtain ⟨c, d, rfl, h1, c2, d2, rfl, h2, c3, d3, rfl, ⟨vp, h3, hP⟩, c4, d4, rfl, h4, c5, d5, rfl, h5, h6⟩ := h
  obtain ⟨ses, snap, strict, vr, vw, us, wz, rfl, hm, hk, hb⟩ := tRec_out h2 q
  refine ⟨a, ses, snap, strict, vr, vw, vp, size, lg, mp, us, wz, path, ?_, ⟨hm, hP⟩, hk, hb⟩
  rw [show c = _ from h1, h3, show c4 = _ from h4, show c5 = _ from h5, show d5 = _ from h6]
  rfl
end
end Go.Proofs.YtoimhmphhffelaaGreatDoor

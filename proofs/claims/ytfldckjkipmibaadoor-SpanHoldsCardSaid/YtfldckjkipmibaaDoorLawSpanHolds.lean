/-
  For all leaves and places: what is shown of leaves side by side is accepted under the root of all, with a side more it is not; the call returns true.
  No condition beyond the row's own.
-/
import Derived.Test.YtfldckjkipmibaaDoorRows
import Derived.Test.YtfldckjkipmibaaDoorSpanH
import Derived.Test.YtfldckjkipmibaaDoorRoot
import Derived.Test.YtfldckjkipmibaaDoorRRoot
import Derived.Test.YtfldckjkipmibaaDoorLaidK
import Derived.Test.YtfldckjkipmibaaDoorOpen2
import Derived.WalkKit
import Derived.ProofKit
import Derived.OpenShut
import Derived.Below
import Derived.SizedLaws
namespace Go.Proofs.YtfldckjkipmibaaDoor.spanHolds
open Go.ChangeShapes Go.WideShapes Go.ChangeAt Go.RowKit Go.Proofs.E
set_option linter.unusedVariables false
theorem laidOut : laidOutB Tryd.prog = true := by kernel_rfl
theorem own : ownKnob Tryd.prog.godebug = none := by kernel_rfl
def inp0 : Input := ⟨#[], #[.slice none 0 0, .agg #[.int .u64 0, .int .u64 0]], []⟩
theorem row2 (os : Os) : ((laidWorld os).forCall (fun _ _ => 0) inp0).memory.heap[0]? = some (.cells (K256.map v32).toArray 136 (0, 0)) := by kernel_rfl
set_option maxRecDepth 100000 in
theorem lifted (os : Os) (started : os.Started) (H : Type) (enc : TypeId × Value → H) :
    ReturnsInHanded {} Tryd.checked os 6 .any (fun w args => (Rows.spanHoldsSpec.pre enc Tryd.prog Tryd.f6 [] false w args ∧ laidMet Tryd.prog [("indenture/sha.rounds", Rows.laid_indenture_sha_rounds)] w) ∧ sizedMet enc Tryd.prog Tryd.f6 (OpenSpec.ofChange Rows.spanHoldsSpec) false w args)
      (Rows.spanHoldsSpec.post enc Tryd.prog Tryd.f6 false true false false) := by
  refine returnsInHanded_of_change_and (C := Tryd.checked) (X := fun w _ => laidMet Tryd.prog [("indenture/sha.rounds", Rows.laid_indenture_sha_rounds)] w) (fun _ _ _ hh h => h.of_heap hh) own started (by kernel_rfl) Tryd.func6
    (ChangeSpec.witness_at (enc := enc) (C := Tryd.checked) (os := os) (X := fun w _ => laidMet Tryd.prog [("indenture/sha.rounds", Rows.laid_indenture_sha_rounds)] w) false (laidWorld os) inp0.args 8 rfl (by kernel_rfl) (by kernel_rfl) (by kernel_rfl) (by kernel_rfl) (by kernel_rfl)
      ⟨_, ⟨0, 136, cellsK, 8, [], [], by kernel_rfl, by kernel_rfl, by kernel_rfl, by kernel_rfl, rfl, rfl⟩, by decide +kernel, fun b off h => by
        obtain ⟨i, hi, hbo⟩ := MemPlace.mem_row.1 (by simpa using h)
        injection hbo with hb ho
        subst hb
        exact ⟨⟨_, _, row2 os⟩, fun u v hc => absurd hc (noIface k_noIface (row2 os) u v)⟩⟩) ?_
  intro W base args ds gs before hval0 hW _ _ hL _
  have hval : ∀ (j : Nat) t v, Tryd.f6.params[j]? = some t → args[j]? = some v → Value.okWide Tryd.prog W .any base t v := hval0
  have hW' := hW
  obtain ⟨p, q, hA0, hV, rfl, hfz, hnd⟩ := hW
  have hA : DataW.TrodAll enc Tryd.prog W 0 (fun _ => true) true Tryd.f6.params.toList args.toList ds p := hA0
  rw [Tryd.params6] at hA hval
  obtain ⟨v0, vs0, d0, ds0, p0, q0, hargs, rfl, rfl, h0, r0⟩ := trodAll_cons hA
  obtain ⟨v1, vs1, d1, ds1, p1, q1, rfl, rfl, rfl, h1, r1⟩ := trodAll_cons r0
  obtain ⟨rfl, rfl, rfl⟩ := trodAll_nil r1
  obtain rfl : args = #[v0, v1] := by cases args; simp_all
  obtain ⟨rfl, rfl⟩ := trodVars_none hV
  clear hA0 hval0
  have hre : Reads enc Tryd.prog W 0 (fun _ => true) true 29 (Ty.enc eH) := fun fuel cs x h => by
    obtain ⟨bs, hl, hc⟩ := reads_arr8 (m := 0) (E := 29) (e := 5) h
    exact ⟨⟨bs, hl⟩, hc⟩
  have hlt0 : ∀ x ∈ p0, x.block < W.heap.size := fun x hx => by simpa using hW'.lt x (by simp [hx])
  obtain ⟨ad0, len0, cap0, rfl⟩ := okWide_slice Tryd.underlying22 (hval 0 22 v0 rfl rfl)
  obtain ⟨fuel0, hf0⟩ := id h0
  obtain ⟨xs0, u0, hu0, hRd0⟩ := reads_slice (E := 22) (e := 29) (t := Ty.enc eH) rfl (by decide) hre _ _ _ hf0
  obtain rfl : Value.slice ad0 len0 cap0 = u0 := by simpa [Value.cells] using hu0
  have hlt1 : ∀ x ∈ p1, x.block < W.heap.size := fun x hx => by simpa using hW'.lt x (by simp [hx])
  obtain ⟨cs1, rfl⟩ := okWide_agg_arr Tryd.underlying37 (hval 1 37 v1 rfl rfl)
  obtain ⟨fuel1, hf1⟩ := id h1
  obtain ⟨ns1, hl1, hcs1⟩ := reads_arrE (en := eWf .u64) (E := 37) (e := 23) (m := 1) rfl (by decide) reads_wf hf1
  obtain rfl : cs1 = (ns1.flatMap (eWf .u64).f).toArray := by
    apply Array.ext'
    simpa [Value.cells] using hcs1
  obtain ⟨na1, nb1, rfl⟩ := two_of hl1
  obtain ⟨za1, wa1⟩ := na1
  have hba1 := bounds_u64 wa1
  obtain ⟨Na1, rfl⟩ := Int.eq_ofNat_of_zero_le hba1.1
  have hNa1 : Na1 < 2 ^ 64 := by omega
  obtain ⟨zb1, wb1⟩ := nb1
  have hbb1 := bounds_u64 wb1
  obtain ⟨Nb1, rfl⟩ := Int.eq_ofNat_of_zero_le hbb1.1
  have hNb1 : Nb1 < 2 ^ 64 := by omega
  have LK := laid_of hL
  refine ((sholds_any _ xs0 Na1 Nb1 W LK hNa1 hNb1 hRd0)).mono fun e W' ⟨v, he, hv, hc⟩ => ?_
  subst hv
  subst he
  exact ⟨_, rfl, _, _, _, [], _, [], hW', trodAll_mk1 (shut_bool Tryd.underlying4 _), (trodAll_cons_mk (Below.trod laidOut (by kernel_rfl) (of_decide_eq_true (by kernel_rfl)) h0 hc.below hlt0) (trodAll_cons_mk (Below.trod laidOut (by kernel_rfl) (of_decide_eq_true (by kernel_rfl)) h1 hc.below hlt1) trodAll_mk0)), rfl, hc.below.frame _, fun h => by cases h⟩
theorem over : Rows.spanHoldsRow.holds Tryd.pinned (OpenSpec.ofChange Rows.spanHoldsSpec) :=
  OpenClaim.holds_of_wide 6 Tryd.f6 rfl rfl rfl rfl rfl rfl rfl ⟨rfl, rfl, rfl, rfl, rfl⟩ rfl rfl rfl rfl rfl (by kernel_rfl) Tryd.func6 (by kernel_rfl)
    (of_decide_eq_true (by kernel_rfl)) (by unfold Func.isWrapper; first | (rw [if_pos (by decide +kernel)]; kernel_rfl) | (rw [if_neg (by decide +kernel)]; exact ⟨rfl, rfl⟩))
    (fun os started H enc _ => lifted os started H enc)
end Go.Proofs.YtfldckjkipmibaaDoor.spanHolds

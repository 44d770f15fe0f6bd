/-
  For all leaves and places: of one leaf there are just the hashes of its path, though in another order; the call returns true.
  No condition beyond the row's own.
-/
import Derived.Test.YtfldckjkipmibaaDoorRows
import Derived.Test.YtfldckjkipmibaaDoorSpanO
import Derived.Test.YtfldckjkipmibaaDoorRoot
import Derived.Test.YtfldckjkipmibaaDoorRRoot
import Derived.Test.YtfldckjkipmibaaDoorLaidK
import Derived.Test.YtfldckjkipmibaaDoorOpen2
import Derived.WalkKit
import Derived.ProofKit
import Derived.OpenShut
import Derived.Below
import Derived.SizedLaws
namespace Go.Proofs.YtfldckjkipmibaaDoor.spanOnes
open Go.ChangeShapes Go.WideShapes Go.ChangeAt Go.RowKit Go.Proofs.E
set_option linter.unusedVariables false
theorem laidOut : laidOutB Tryd.prog = true := by kernel_rfl
theorem own : ownKnob Tryd.prog.godebug = none := by kernel_rfl
def inp0 : Input := ⟨#[], #[.slice none 0 0, .int .u64 0], []⟩
theorem row2 (os : Os) : ((laidWorld os).forCall (fun _ _ => 0) inp0).memory.heap[0]? = some (.cells (K256.map v32).toArray 136 (0, 0)) := by kernel_rfl
set_option maxRecDepth 100000 in
theorem lifted (os : Os) (started : os.Started) (H : Type) (enc : TypeId × Value → H) :
    ReturnsInHanded {} Tryd.checked os 3 .any (fun w args => (Rows.spanOnesSpec.pre enc Tryd.prog Tryd.f3 [] false w args ∧ laidMet Tryd.prog [("indenture/sha.rounds", Rows.laid_indenture_sha_rounds)] w) ∧ sizedMet enc Tryd.prog Tryd.f3 (OpenSpec.ofChange Rows.spanOnesSpec) false w args)
      (Rows.spanOnesSpec.post enc Tryd.prog Tryd.f3 false true false false) := by
  refine returnsInHanded_of_change_and (C := Tryd.checked) (X := fun w _ => laidMet Tryd.prog [("indenture/sha.rounds", Rows.laid_indenture_sha_rounds)] w) (fun _ _ _ hh h => h.of_heap hh) own started (by kernel_rfl) Tryd.func3
    (ChangeSpec.witness_at (enc := enc) (C := Tryd.checked) (os := os) (X := fun w _ => laidMet Tryd.prog [("indenture/sha.rounds", Rows.laid_indenture_sha_rounds)] w) false (laidWorld os) inp0.args 8 rfl (by kernel_rfl) (by kernel_rfl) (by kernel_rfl) (by kernel_rfl) (by kernel_rfl)
      ⟨_, ⟨0, 136, cellsK, 8, [], [], by kernel_rfl, by kernel_rfl, by kernel_rfl, by kernel_rfl, rfl, rfl⟩, by decide +kernel, fun b off h => by
        obtain ⟨i, hi, hbo⟩ := MemPlace.mem_row.1 (by simpa using h)
        injection hbo with hb ho
        subst hb
        exact ⟨⟨_, _, row2 os⟩, fun u v hc => absurd hc (noIface k_noIface (row2 os) u v)⟩⟩) ?_
  intro W base args ds gs before hval0 hW _ _ hL _
  have hval : ∀ (j : Nat) t v, Tryd.f3.params[j]? = some t → args[j]? = some v → Value.okWide Tryd.prog W .any base t v := hval0
  have hW' := hW
  obtain ⟨p, q, hA0, hV, rfl, hfz, hnd⟩ := hW
  have hA : DataW.TrodAll enc Tryd.prog W 0 (fun _ => true) true Tryd.f3.params.toList args.toList ds p := hA0
  rw [Tryd.params3] at hA hval
  obtain ⟨v0, vs0, d0, ds0, p0, q0, hargs, rfl, rfl, h0, r0⟩ := trodAll_cons hA
  obtain ⟨v1, vs1, d1, ds1, p1, q1, rfl, rfl, rfl, h1, r1⟩ := trodAll_cons r0
  obtain ⟨rfl, rfl, rfl⟩ := trodAll_nil r1
  obtain rfl : args = #[v0, v1] := by cases args; simp_all
  obtain ⟨rfl, rfl⟩ := trodVars_none hV
  clear hA0 hval0
  have hre : Reads enc Tryd.prog W 0 (fun _ => true) true 29 (Ty.enc eH) := fun fuel cs x h => by
    obtain ⟨bs, hl, hc⟩ := reads_arr8 (m := 0) (E := 29) (e := 5) h
    exact ⟨⟨bs, hl⟩, hc⟩
  have hlt0 : ∀ x ∈ p0, x.block < W.heap.size := fun x hx => by simpa using hW'.lt x (by simp [hx])
  obtain ⟨ad0, len0, cap0, rfl⟩ := okWide_slice Tryd.underlying22 (hval 0 22 v0 rfl rfl)
  obtain ⟨fuel0, hf0⟩ := id h0
  obtain ⟨xs0, u0, hu0, hRd0⟩ := reads_slice (E := 22) (e := 29) (t := Ty.enc eH) rfl (by decide) hre _ _ _ hf0
  obtain rfl : Value.slice ad0 len0 cap0 = u0 := by simpa [Value.cells] using hu0
  obtain ⟨a1, rfl, rfl, rfl, w1⟩ := open_int Tryd.underlying23 (hval 1 23 v1 rfl rfl) h1
  have hb1 := bounds_u64 w1
  obtain ⟨N1, rfl⟩ := Int.eq_ofNat_of_zero_le hb1.1
  have hN1 : N1 < 2 ^ 64 := by omega
  have LK := laid_of hL
  refine ((sones_any _ xs0 N1 W LK hN1 hRd0)).mono fun e W' ⟨v, he, hv, hc⟩ => ?_
  subst hv
  subst he
  exact ⟨_, rfl, _, _, _, [], _, [], hW', trodAll_mk1 (shut_bool Tryd.underlying4 _), (trodAll_cons_mk (Below.trod laidOut (by kernel_rfl) (of_decide_eq_true (by kernel_rfl)) h0 hc.below hlt0) (trodAll_cons_mk (shut_int Tryd.underlying23 w1) trodAll_mk0)), rfl, hc.below.frame _, fun h => by cases h⟩
theorem over : Rows.spanOnesRow.holds Tryd.pinned (OpenSpec.ofChange Rows.spanOnesSpec) :=
  OpenClaim.holds_of_wide 3 Tryd.f3 rfl rfl rfl rfl rfl rfl rfl ⟨rfl, rfl, rfl, rfl, rfl⟩ rfl rfl rfl rfl rfl (by kernel_rfl) Tryd.func3 (by kernel_rfl)
    (of_decide_eq_true (by kernel_rfl)) (by unfold Func.isWrapper; first | (rw [if_pos (by decide +kernel)]; kernel_rfl) | (rw [if_neg (by decide +kernel)]; exact ⟨rfl, rfl⟩))
    (fun os started H enc _ => lifted os started H enc)
end Go.Proofs.YtfldckjkipmibaaDoor.spanOnes

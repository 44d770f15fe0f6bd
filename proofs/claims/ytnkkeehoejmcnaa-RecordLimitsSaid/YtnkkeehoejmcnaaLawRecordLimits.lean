/-
  A record of just as many bytes as may be may be, one of more may not; a session, a snapshot, a key out of bounds may not.
  No condition beyond the row's own.
-/
import Derived.Test.YtnkkeehoejmcnaaRows
import Derived.Test.YtnkkeehoejmcnaaRecLim
import Derived.Test.YtnkkeehoejmcnaaOpenR
import Derived.WalkKit
import Derived.ProofKit
import Derived.OpenShut
import Derived.Below
import Derived.SizedLaws
namespace Go.Proofs.Ytnkkeehoejmcnaa.recordLimits
open Go.ChangeShapes Go.WideShapes Go.ChangeAt Go.RowKit Go.Proofs.E
set_option linter.unusedVariables false
set_option linter.unusedSimpArgs false
theorem laidOut : laidOutB Try.prog = true := by kernel_rfl
theorem own : ownKnob Try.prog.godebug = none := by kernel_rfl
def inp0 : Input := ⟨#[], #[.agg #[.int .i64 0, .int .i64 0, .bool false, .slice none 0 0, .slice none 0 0], .int .u64 0], []⟩
set_option maxRecDepth 100000 in
theorem lifted (os : Os) (started : os.Started) (H : Type) (enc : TypeId × Value → H) :
    ReturnsInHanded {} Try.checked os 6 .any (Rows.recordLimitsSpec.pre6 enc Try.prog Try.f6 Rows.recordLimitsRow.domain false) (Rows.recordLimitsSpec.post enc Try.prog Try.f6 false true false false) := by
  refine returnsInHanded_of_change_sized (C := Try.checked) own started (by kernel_rfl) Try.func6
    (ChangeSpec.witness6 (enc := enc) (C := Try.checked) false ⟨#[], #[.agg #[.int .i64 0, .int .i64 0, .bool false, .slice none 0 0, .slice none 0 0], .int .u64 0], []⟩ 8 (by kernel_rfl) (by kernel_rfl) (by kernel_rfl) (by kernel_rfl)) ?_
  intro W base args ds gs before hval0 hW _ hwt _
  have hval : ∀ (j : Nat) t v, Try.f6.params[j]? = some t → args[j]? = some v → Value.okWide Try.prog W .any base t v := hval0
  have hW' := hW
  obtain ⟨p, q, hA0, hV, rfl, hfz, hnd⟩ := hW
  have hA : DataW.TrodAll enc Try.prog W 0 (fun _ => true) true Try.f6.params.toList args.toList ds p := hA0
  rw [Try.params6] at hA hval hwt
  obtain ⟨v0, vs0, d0, ds0, p0, q0, hargs, rfl, rfl, h0, r0⟩ := trodAll_cons hA
  obtain ⟨v1, vs1, d1, ds1, p1, q1, rfl, rfl, rfl, h1, r1⟩ := trodAll_cons r0
  obtain ⟨rfl, rfl, rfl⟩ := trodAll_nil r1
  obtain rfl : args = #[v0, v1] := by cases args; simp_all
  obtain ⟨rfl, rfl⟩ := trodVars_none hV
  clear hA0 hval0
  have hw0 : ∀ n ∈ DataW.weights Try.prog 25 d0, n ≤ reachBytes := fun n hn => by
    have hn : n ∈ DataW.weights Try.checked.prog 25 d0 := hn
    have := List.all_eq_true.1 hwt n (by simp [DataW.weightsEach, hn])
    simpa using this
  have hw1 : ∀ n ∈ DataW.weights Try.prog 42 d1, n ≤ reachBytes := fun n hn => by
    have hn : n ∈ DataW.weights Try.checked.prog 42 d1 := hn
    have := List.all_eq_true.1 hwt n (by simp [DataW.weightsEach, hn])
    simpa using this
  have hr8 : reachBytes = 140737488351232 := rfl
  have hb8 : Program.bytesOf Try.prog 5 = 1 := by kernel_rfl
  have rw8 := readsW_slice (enc := enc) (P := Try.prog) (W := W) (base := 0) (sp := fun _ => true) (held := true) (E := 34) (e := 5) (t := Ty.enc eU8) rfl (by decide) reads_u8.w
  have hlt0 : ∀ x ∈ p0, x.block < W.heap.size := fun x hx => by simpa using hW'.lt x (by simp [hx])
  obtain ⟨cs0, rfl⟩ := okWide_agg_struct Try.underlying25 (hval 0 25 v0 rfl rfl)
  obtain ⟨fuel0, hf0⟩ := id h0
  obtain ⟨a0, hR0, q0⟩ := rw_record _ _ _ hf0 hw0
  obtain ⟨ses0, snap0, strict0, vr0, vw0, us0, wz0, hc0, hm0, hk0, hb0⟩ := tRec_out hR0 q0
  obtain rfl : cs0 = (rC ses0 snap0 strict0 vr0 vw0).toArray := Array.ext' hc0
  obtain ⟨a1, rfl, rfl, rfl, w1⟩ := open_int Try.underlying42 (hval 1 42 v1 rfl rfl) h1
  have hb1 := bounds_u64 w1
  obtain ⟨N1, rfl⟩ := Int.eq_ofNat_of_zero_le hb1.1
  have hN1 : N1 < 2 ^ 64 := by omega
  refine (recordLimits_any ses0 snap0 strict0 vr0 vw0 us0 wz0 N1 W hm0 hk0 hb0 hN1).mono fun e W' ⟨v, he, hv, hc⟩ => ?_
  subst hv
  subst he
  exact ⟨_, rfl, _, _, _, [], _, [], hW', trodAll_mk1 (shut_bool Try.underlying4 _), (trodAll_cons_mk (Below.trod laidOut (by kernel_rfl) (of_decide_eq_true (by kernel_rfl)) h0 hc.below hlt0) (trodAll_cons_mk (shut_int Try.underlying42 w1) trodAll_mk0)), rfl, hc.below.frame _, fun h => by cases h⟩
theorem over : Rows.recordLimitsRow.holds Try.pinned (OpenSpec.ofChange Rows.recordLimitsSpec) :=
  OpenClaim.holds_of_wide 6 Try.f6 rfl rfl rfl rfl rfl rfl rfl ⟨rfl, rfl, rfl, rfl, rfl⟩ rfl rfl rfl rfl rfl (by kernel_rfl) Try.func6 (by kernel_rfl)
    (of_decide_eq_true (by kernel_rfl)) (by unfold Func.isWrapper; first | (rw [if_pos (by decide +kernel)]; kernel_rfl) | (rw [if_neg (by decide +kernel)]; exact ⟨rfl, rfl⟩))
    (fun os started H enc _ => lifted os started H enc)
end Go.Proofs.Ytnkkeehoejmcnaa.recordLimits
namespace Go.Proofs.Ytnkkeehoejmcnaa
theorem recordLimits_holds : Rows.RecordLimitsSaid := recordLimits.over
#print axioms recordLimits_holds
end Go.Proofs.Ytnkkeehoejmcnaa

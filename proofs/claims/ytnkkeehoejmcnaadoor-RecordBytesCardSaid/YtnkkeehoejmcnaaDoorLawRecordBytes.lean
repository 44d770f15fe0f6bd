/-
  Whether any record may be, its bytes, its leaf, and whether any two are alike.
  No condition beyond the row's own.
-/
import Derived.Test.YtnkkeehoejmcnaaDoorRows
import Derived.Test.YtnkkeehoejmcnaaDoorRecBytes
import Derived.Test.YtnkkeehoejmcnaaDoorOpenR
import Derived.Test.YtnkkeehoejmcnaaDoorLaidK
import Derived.Test.YtnkkeehoejmcnaaDoorOpen
import Derived.WalkKit
import Derived.ProofKit
import Derived.OpenShut
import Derived.Below
import Derived.SizedLaws
namespace Go.Proofs.YtnkkeehoejmcnaaDoor.recordBytes
open Go.ChangeShapes Go.WideShapes Go.ChangeAt Go.RowKit Go.Proofs.E
set_option linter.unusedVariables false
set_option linter.unusedSimpArgs false
theorem laidOut : laidOutB Tryd.prog = true := by kernel_rfl
theorem own : ownKnob Tryd.prog.godebug = none := by kernel_rfl
def inp0 : Input := ⟨#[], #[.agg #[.int .i64 0, .int .i64 0, .bool false, .slice none 0 0, .slice none 0 0], .agg #[.int .i64 0, .int .i64 0, .bool false, .slice none 0 0, .slice none 0 0]], []⟩
theorem row2 (os : Os) : ((laidWorld os).forCall (fun _ _ => 0) inp0).memory.heap[0]? = some (.cells (K256.map v32).toArray 209 (0, 0)) := by kernel_rfl
set_option maxRecDepth 100000 in
theorem lifted (os : Os) (started : os.Started) (H : Type) (enc : TypeId × Value → H) :
    ReturnsInHanded {} Tryd.checked os 3 .any (fun w args => (Rows.recordBytesSpec.pre enc Tryd.prog Tryd.f3 [] false w args ∧ laidMet Tryd.prog [("indenture/sha.rounds", Rows.laid_indenture_sha_rounds)] w) ∧ sizedMet enc Tryd.prog Tryd.f3 (OpenSpec.ofChange Rows.recordBytesSpec) false w args)
      (Rows.recordBytesSpec.post enc Tryd.prog Tryd.f3 false true false false) := by
  refine returnsInHanded_of_change_and (C := Tryd.checked) (X := fun w _ => laidMet Tryd.prog [("indenture/sha.rounds", Rows.laid_indenture_sha_rounds)] w) (fun _ _ _ hh h => h.of_heap hh) own started (by kernel_rfl) Tryd.func3
    (ChangeSpec.witness_at (enc := enc) (C := Tryd.checked) (os := os) (X := fun w _ => laidMet Tryd.prog [("indenture/sha.rounds", Rows.laid_indenture_sha_rounds)] w) false (laidWorld os) inp0.args 8 rfl (by kernel_rfl) (by kernel_rfl) (by kernel_rfl) (by kernel_rfl) (by kernel_rfl)
      ⟨_, ⟨0, 209, cellsK, 8, [], [], by kernel_rfl, by kernel_rfl, by kernel_rfl, by kernel_rfl, rfl, rfl⟩, by decide +kernel, fun b off h => by
        obtain ⟨i, hi, hbo⟩ := MemPlace.mem_row.1 (by simpa using h)
        injection hbo with hb ho
        subst hb
        exact ⟨⟨_, _, row2 os⟩, fun u v hc => absurd hc (noIface k_noIface (row2 os) u v)⟩⟩) ?_
  intro W base args ds gs before hval0 hW _ hwt hL _
  have hval : ∀ (j : Nat) t v, Tryd.f3.params[j]? = some t → args[j]? = some v → Value.okWide Tryd.prog W .any base t v := hval0
  have hW' := hW
  obtain ⟨p, q, hA0, hV, rfl, hfz, hnd⟩ := hW
  have hA : DataW.TrodAll enc Tryd.prog W 0 (fun _ => true) true Tryd.f3.params.toList args.toList ds p := hA0
  rw [Tryd.params3] at hA hval hwt
  obtain ⟨v0, vs0, d0, ds0, p0, q0, hargs, rfl, rfl, h0, r0⟩ := trodAll_cons hA
  obtain ⟨v1, vs1, d1, ds1, p1, q1, rfl, rfl, rfl, h1, r1⟩ := trodAll_cons r0
  obtain ⟨rfl, rfl, rfl⟩ := trodAll_nil r1
  obtain rfl : args = #[v0, v1] := by cases args; simp_all
  obtain ⟨rfl, rfl⟩ := trodVars_none hV
  clear hA0 hval0
  have hw0 : ∀ n ∈ DataW.weights Tryd.prog 25 d0, n ≤ reachBytes := fun n hn => by
    have hn : n ∈ DataW.weights Tryd.checked.prog 25 d0 := hn
    have := List.all_eq_true.1 hwt n (by simp [DataW.weightsEach, hn])
    simpa using this
  have hw1 : ∀ n ∈ DataW.weights Tryd.prog 25 d1, n ≤ reachBytes := fun n hn => by
    have hn : n ∈ DataW.weights Tryd.checked.prog 25 d1 := hn
    have := List.all_eq_true.1 hwt n (by simp [DataW.weightsEach, hn])
    simpa using this
  have hr8 : reachBytes = 140737488351232 := rfl
  have hb8 : Program.bytesOf Tryd.prog 5 = 1 := by kernel_rfl
  have rw8 := readsW_slice (enc := enc) (P := Tryd.prog) (W := W) (base := 0) (sp := fun _ => true) (held := true) (E := 28) (e := 5) (t := Ty.enc eU8) rfl (by decide) reads_u8.w
  have hlt0 : ∀ x ∈ p0, x.block < W.heap.size := fun x hx => by simpa using hW'.lt x (by simp [hx])
  obtain ⟨cs0, rfl⟩ := okWide_agg_struct Tryd.underlying25 (hval 0 25 v0 rfl rfl)
  obtain ⟨fuel0, hf0⟩ := id h0
  obtain ⟨a0, hR0, q0⟩ := rw_record _ _ _ hf0 hw0
  obtain ⟨ses0, snap0, strict0, vr0, vw0, us0, wz0, hc0, hm0, hk0, hb0⟩ := tRec_out hR0 q0
  obtain rfl : cs0 = (rC ses0 snap0 strict0 vr0 vw0).toArray := Array.ext' hc0
  have hlt1 : ∀ x ∈ p1, x.block < W.heap.size := fun x hx => by simpa using hW'.lt x (by simp [hx])
  obtain ⟨cs1, rfl⟩ := okWide_agg_struct Tryd.underlying25 (hval 1 25 v1 rfl rfl)
  obtain ⟨fuel1, hf1⟩ := id h1
  obtain ⟨a1, hR1, q1⟩ := rw_record _ _ _ hf1 hw1
  obtain ⟨ses1, snap1, strict1, vr1, vw1, us1, wz1, hc1, hm1, hk1, hb1⟩ := tRec_out hR1 q1
  obtain rfl : cs1 = (rC ses1 snap1 strict1 vr1 vw1).toArray := Array.ext' hc1
  have LK := laid_of hL
  refine (recordBytes_any ses0 snap0 strict0 vr0 vw0 us0 wz0 ses1 snap1 strict1 vr1 vw1 us1 wz1 W LK hm0 hm1 hk0 hb0 hk1 hb1).mono fun e W' ⟨v, he, hv, hc⟩ => ?_
  subst hv
  subst he
  exact ⟨_, rfl, _, _, _, [], _, [], hW', trodAll_mk1 (shut_bool Tryd.underlying4 _), (trodAll_cons_mk (Below.trod laidOut (by kernel_rfl) (of_decide_eq_true (by kernel_rfl)) h0 hc.below hlt0) (trodAll_cons_mk (Below.trod laidOut (by kernel_rfl) (of_decide_eq_true (by kernel_rfl)) h1 hc.below hlt1) trodAll_mk0)), rfl, hc.below.frame _, fun h => by cases h⟩
theorem over : Rows.recordBytesRow.holds Tryd.pinned (OpenSpec.ofChange Rows.recordBytesSpec) :=
  OpenClaim.holds_of_wide 3 Tryd.f3 rfl rfl rfl rfl rfl rfl rfl ⟨rfl, rfl, rfl, rfl, rfl⟩ rfl rfl rfl rfl rfl (by kernel_rfl) Tryd.func3 (by kernel_rfl)
    (of_decide_eq_true (by kernel_rfl)) (by unfold Func.isWrapper; first | (rw [if_pos (by decide +kernel)]; kernel_rfl) | (rw [if_neg (by decide +kernel)]; exact ⟨rfl, rfl⟩))
    (fun os started H enc _ => lifted os started H enc)
end Go.Proofs.YtnkkeehoejmcnaaDoor.recordBytes

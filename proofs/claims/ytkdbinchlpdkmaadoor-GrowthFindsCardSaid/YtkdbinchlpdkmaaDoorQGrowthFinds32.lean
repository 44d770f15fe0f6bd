/- If growth is accepted for the roots that two different leaves at one place lead to, two inputs of one hash are told; what is told is that.
  No condition beyond the row's own. -/
import Derived.Test.YtkdbinchlpdkmaaDoorRows
import Derived.Test.YtkdbinchlpdkmaaDoorQGrowthFinds30
import Derived.Test.YtkdbinchlpdkmaaDoorQGrowthFinds29
import Derived.Test.YtkdbinchlpdkmaaDoorQGrowthFinds31
import Derived.Test.YtkdbinchlpdkmaaDoorQGrowthFinds05
import Derived.WalkKit
import Derived.ProofKit
import Derived.OpenShut
import Derived.Below
import Derived.SizedLaws
namespace Go.Proofs.YtkdbinchlpdkmaaDoor.growthFinds
open Go.ChangeShapes Go.WideShapes Go.ChangeAt Go.RowKit Go.Proofs.E
set_option linter.unusedVariables false
set_option linter.unusedSimpArgs false
theorem laidOut : laidOutB Tryd.prog = true := by kernel_rfl
theorem own : ownKnob Tryd.prog.godebug = none := by kernel_rfl
def inp0 : Input := ⟨#[], #[.agg #[.int .i64 0, .int .i64 0, .int .i64 0], .agg #[.slice none 0 0, .slice none 0 0, .slice none 0 0, .slice none 0 0], .slice none 0 0], []⟩
theorem row2 (os : Os) : ((laidWorld os).forCall (fun _ _ => 0) inp0).memory.heap[0]? = some (.cells (K256.map v32).toArray 185 (0, 0)) := by kernel_rfl
set_option maxRecDepth 100000 in
theorem lifted (os : Os) (started : os.Started) (H : Type) (enc : TypeId × Value → H) :
    ReturnsInHanded {} Tryd.checked os 9 .any (fun w args => (Rows.growthFindsSpec.pre enc Tryd.prog Tryd.f9 [] false w args ∧ laidMet Tryd.prog [("indenture/sha.rounds", Rows.laid_indenture_sha_rounds)] w) ∧ sizedMet enc Tryd.prog Tryd.f9 (OpenSpec.ofChange Rows.growthFindsSpec) false w args)
      (Rows.growthFindsSpec.post enc Tryd.prog Tryd.f9 false true false false) := by
  refine returnsInHanded_of_change_and (C := Tryd.checked) (X := fun w _ => laidMet Tryd.prog [("indenture/sha.rounds", Rows.laid_indenture_sha_rounds)] w) (fun _ _ _ hh h => h.of_heap hh) own started (by kernel_rfl) Tryd.func9
    (ChangeSpec.witness_at (enc := enc) (C := Tryd.checked) (os := os) (X := fun w _ => laidMet Tryd.prog [("indenture/sha.rounds", Rows.laid_indenture_sha_rounds)] w) false (laidWorld os) inp0.args 8 rfl (by kernel_rfl) (by kernel_rfl) (by kernel_rfl) (by kernel_rfl) (by kernel_rfl)
      ⟨_, ⟨0, 185, cellsK, 8, [], [], by kernel_rfl, by kernel_rfl, by kernel_rfl, by kernel_rfl, rfl, rfl⟩, by decide +kernel, fun b off h => by
        obtain ⟨i, hi, hbo⟩ := MemPlace.mem_row.1 (by simpa using h)
        injection hbo with hb ho
        subst hb
        exact ⟨⟨_, _, row2 os⟩, fun u v hc => absurd hc (noIface k_noIface (row2 os) u v)⟩⟩) ?_
  intro W base args ds gs before hval0 hW _ hwt hL _
  have hval : ∀ (j : Nat) t v, Tryd.f9.params[j]? = some t → args[j]? = some v → Value.okWide Tryd.prog W .any base t v := hval0
  have hW' := hW
  obtain ⟨p, q, hA0, hV, rfl, hfz, hnd⟩ := hW
  have hA : DataW.TrodAll enc Tryd.prog W 0 (fun _ => true) true Tryd.f9.params.toList args.toList ds p := hA0
  rw [Tryd.params9] at hA hval hwt
  obtain ⟨v0, vs0, d0, ds0, p0, q0, hargs, rfl, rfl, h0, r0⟩ := trodAll_cons hA
  obtain ⟨v1, vs1, d1, ds1, p1, q1, rfl, rfl, rfl, h1, r1⟩ := trodAll_cons r0
  obtain ⟨v2, vs2, d2, ds2, p2, q2, rfl, rfl, rfl, h2, r2⟩ := trodAll_cons r1
  obtain ⟨rfl, rfl, rfl⟩ := trodAll_nil r2
  obtain rfl : args = #[v0, v1, v2] := by cases args; simp_all
  obtain ⟨rfl, rfl⟩ := trodVars_none hV
  clear hA0 hval0
  have hw0 : ∀ n ∈ DataW.weights Tryd.prog 56 d0, n ≤ reachBytes := fun n hn => by
    have hn : n ∈ DataW.weights Tryd.checked.prog 56 d0 := hn
    have := List.all_eq_true.1 hwt n (by simp [DataW.weightsEach, hn])
    simpa using this
  have hw1 : ∀ n ∈ DataW.weights Tryd.prog 79 d1, n ≤ reachBytes := fun n hn => by
    have hn : n ∈ DataW.weights Tryd.checked.prog 79 d1 := hn
    have := List.all_eq_true.1 hwt n (by simp [DataW.weightsEach, hn])
    simpa using this
  have hw2 : ∀ n ∈ DataW.weights Tryd.prog 27 d2, n ≤ reachBytes := fun n hn => by
    have hn : n ∈ DataW.weights Tryd.checked.prog 27 d2 := hn
    have := List.all_eq_true.1 hwt n (by simp [DataW.weightsEach, hn])
    simpa using this
  have hr8 : reachBytes = 140737488351232 := rfl
  have hb8 : Program.bytesOf Tryd.prog 5 = 1 := by kernel_rfl
  have rw8 := readsW_slice (enc := enc) (P := Tryd.prog) (W := W) (base := 0) (sp := fun _ => true) (held := true) (E := 28) (e := 5) (t := Ty.enc eU8) rfl (by decide) reads_u8.w
  have hre : Reads enc Tryd.prog W 0 (fun _ => true) true 30 (Ty.enc eH) := fun fuel cs x h => by
    obtain ⟨bs, hl, hc⟩ := reads_arr8 (m := 0) (E := 30) (e := 5) h
    exact ⟨⟨bs, hl⟩, hc⟩
  have hlt0 : ∀ x ∈ p0, x.block < W.heap.size := fun x hx => by simpa using hW'.lt x (by simp [hx])
  obtain ⟨cs0, rfl⟩ := okWide_agg_arr Tryd.underlying56 (hval 0 56 v0 rfl rfl)
  obtain ⟨fuel0, hf0⟩ := id h0
  obtain ⟨ns0, hl0, hcs0⟩ := reads_arrE (en := eWf .i64) (E := 56) (e := 3) (m := 1) rfl (by decide) reads_wf hf0
  obtain rfl : cs0 = (ns0.flatMap (eWf .i64).f).toArray := by
    apply Array.ext'
    simpa [Value.cells] using hcs0
  obtain ⟨na0, nb0, nc0, rfl⟩ := three_of hl0
  have hlt1 : ∀ x ∈ p1, x.block < W.heap.size := fun x hx => by simpa using hW'.lt x (by simp [hx])
  obtain ⟨cs1, rfl⟩ := okWide_agg_arr Tryd.underlying79 (hval 1 79 v1 rfl rfl)
  obtain ⟨fuel1, hf1⟩ := id h1
  obtain ⟨ca1, cb1, ula1, upa1, ulb1, upb1, hc1, hla1, hpa1, hlb1, hpb1⟩ := cl2_out hf1 hw1
  obtain rfl : cs1 = #[slv ula1, slv upa1, slv ulb1, slv upb1] := Array.ext' hc1
  have hlt2 : ∀ x ∈ p2, x.block < W.heap.size := fun x hx => by simpa using hW'.lt x (by simp [hx])
  obtain ⟨ad2, len2, cap2, rfl⟩ := okWide_slice Tryd.underlying27 (hval 2 27 v2 rfl rfl)
  obtain ⟨fuel2, hf2⟩ := id h2
  obtain ⟨xs2, u2, hu2, hRd2⟩ := reads_slice (E := 27) (e := 30) (t := Ty.enc eH) rfl (by decide) hre _ _ _ hf2
  obtain rfl : Value.slice ad2 len2 cap2 = u2 := by simpa [Value.cells] using hu2
  have LK := laid_of hL
  refine (growthFinds_any na0.1 nb0.1 nc0.1 ula1 upa1 ulb1 upb1 (ad2, len2, cap2) ca1.1 ca1.2 cb1.1 cb1.2 xs2 W LK hla1 hpa1 hlb1 hpb1 hRd2).mono fun e W' ⟨v, he, hv, hc⟩ => ?_
  subst hv
  subst he
  exact ⟨_, rfl, _, _, _, [], _, [], hW', trodAll_mk1 (shut_bool Tryd.underlying4 _), (trodAll_cons_mk (Below.trod laidOut (by kernel_rfl) (of_decide_eq_true (by kernel_rfl)) h0 hc.below hlt0) (trodAll_cons_mk (Below.trod laidOut (by kernel_rfl) (of_decide_eq_true (by kernel_rfl)) h1 hc.below hlt1) (trodAll_cons_mk (Below.trod laidOut (by kernel_rfl) (of_decide_eq_true (by kernel_rfl)) h2 hc.below hlt2) trodAll_mk0))), rfl, hc.below.frame _, fun h => by cases h⟩
theorem over : Rows.growthFindsRow.holds Tryd.pinned (OpenSpec.ofChange Rows.growthFindsSpec) :=
  OpenClaim.holds_of_wide 9 Tryd.f9 rfl rfl rfl rfl rfl rfl rfl ⟨rfl, rfl, rfl, rfl, rfl⟩ rfl rfl rfl rfl rfl (by kernel_rfl) Tryd.func9 (by kernel_rfl)
    (of_decide_eq_true (by kernel_rfl)) (by unfold Func.isWrapper; first | (rw [if_pos (by decide +kernel)]; kernel_rfl) | (rw [if_neg (by decide +kernel)]; exact ⟨rfl, rfl⟩))
    (fun os started H enc _ => lifted os started H enc)
end Go.Proofs.YtkdbinchlpdkmaaDoor.growthFinds

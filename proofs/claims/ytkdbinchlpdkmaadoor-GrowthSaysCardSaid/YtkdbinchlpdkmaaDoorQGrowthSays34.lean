/- What is told of a path and of growth that are made of the leaves says the root of the leaves that it speaks of, and of the first leaves too.
  No condition beyond the row's own. -/
import Derived.Test.YtkdbinchlpdkmaaDoorRows
import Derived.Test.YtkdbinchlpdkmaaDoorQGrowthSays31
import Derived.Test.YtkdbinchlpdkmaaDoorQGrowthSays33
import Derived.Test.YtkdbinchlpdkmaaDoorQGrowthSays32
import Derived.WalkKit
import Derived.ProofKit
import Derived.OpenShut
import Derived.Below
import Derived.SizedLaws
namespace Go.Proofs.YtkdbinchlpdkmaaDoor.growthSays
open Go.ChangeShapes Go.WideShapes Go.ChangeAt Go.RowKit Go.Proofs.E
set_option linter.unusedVariables false
set_option linter.unusedSimpArgs false
theorem laidOut : laidOutB Tryd.prog = true := by kernel_rfl
theorem own : ownKnob Tryd.prog.godebug = none := by kernel_rfl
def inp0 : Input := ⟨#[], #[.slice none 0 0, .agg #[.int .u64 0, .int .u64 0], .slice none 0 0], []⟩
theorem row2 (os : Os) : ((laidWorld os).forCall (fun _ _ => 0) inp0).memory.heap[0]? = some (.cells (K256.map v32).toArray 185 (0, 0)) := by kernel_rfl
set_option maxRecDepth 100000 in
theorem lifted (os : Os) (started : os.Started) (H : Type) (enc : TypeId × Value → H) :
    ReturnsInHanded {} Tryd.checked os 8 .any (fun w args => (Rows.growthSaysSpec.pre enc Tryd.prog Tryd.f8 [] false w args ∧ laidMet Tryd.prog [("indenture/sha.rounds", Rows.laid_indenture_sha_rounds)] w) ∧ sizedMet enc Tryd.prog Tryd.f8 (OpenSpec.ofChange Rows.growthSaysSpec) false w args)
      (Rows.growthSaysSpec.post enc Tryd.prog Tryd.f8 false true false false) := by
  refine returnsInHanded_of_change_and (C := Tryd.checked) (X := fun w _ => laidMet Tryd.prog [("indenture/sha.rounds", Rows.laid_indenture_sha_rounds)] w) (fun _ _ _ hh h => h.of_heap hh) own started (by kernel_rfl) Tryd.func8
    (ChangeSpec.witness_at (enc := enc) (C := Tryd.checked) (os := os) (X := fun w _ => laidMet Tryd.prog [("indenture/sha.rounds", Rows.laid_indenture_sha_rounds)] w) false (laidWorld os) inp0.args 8 rfl (by kernel_rfl) (by kernel_rfl) (by kernel_rfl) (by kernel_rfl) (by kernel_rfl)
      ⟨_, ⟨0, 185, cellsK, 8, [], [], by kernel_rfl, by kernel_rfl, by kernel_rfl, by kernel_rfl, rfl, rfl⟩, by decide +kernel, fun b off h => by
        obtain ⟨i, hi, hbo⟩ := MemPlace.mem_row.1 (by simpa using h)
        injection hbo with hb ho
        subst hb
        exact ⟨⟨_, _, row2 os⟩, fun u v hc => absurd hc (noIface k_noIface (row2 os) u v)⟩⟩) ?_
  intro W base args ds gs before hval0 hW _ hwt hL _
  have hval : ∀ (j : Nat) t v, Tryd.f8.params[j]? = some t → args[j]? = some v → Value.okWide Tryd.prog W .any base t v := hval0
  have hW' := hW
  obtain ⟨p, q, hA0, hV, rfl, hfz, hnd⟩ := hW
  have hA : DataW.TrodAll enc Tryd.prog W 0 (fun _ => true) true Tryd.f8.params.toList args.toList ds p := hA0
  rw [Tryd.params8] at hA hval hwt
  obtain ⟨v0, vs0, d0, ds0, p0, q0, hargs, rfl, rfl, h0, r0⟩ := trodAll_cons hA
  obtain ⟨v1, vs1, d1, ds1, p1, q1, rfl, rfl, rfl, h1, r1⟩ := trodAll_cons r0
  obtain ⟨v2, vs2, d2, ds2, p2, q2, rfl, rfl, rfl, h2, r2⟩ := trodAll_cons r1
  obtain ⟨rfl, rfl, rfl⟩ := trodAll_nil r2
  obtain rfl : args = #[v0, v1, v2] := by cases args; simp_all
  obtain ⟨rfl, rfl⟩ := trodVars_none hV
  clear hA0 hval0
  have hre : Reads enc Tryd.prog W 0 (fun _ => true) true 30 (Ty.enc eH) := fun fuel cs x h => by
    obtain ⟨bs, hl, hc⟩ := reads_arr8 (m := 0) (E := 30) (e := 5) h
    exact ⟨⟨bs, hl⟩, hc⟩
  have hlt0 : ∀ x ∈ p0, x.block < W.heap.size := fun x hx => by simpa using hW'.lt x (by simp [hx])
  obtain ⟨ad0, len0, cap0, rfl⟩ := okWide_slice Tryd.underlying27 (hval 0 27 v0 rfl rfl)
  obtain ⟨fuel0, hf0⟩ := id h0
  obtain ⟨xs0, u0, hu0, hRd0⟩ := reads_slice (E := 27) (e := 30) (t := Ty.enc eH) rfl (by decide) hre _ _ _ hf0
  obtain rfl : Value.slice ad0 len0 cap0 = u0 := by simpa [Value.cells] using hu0
  have hlt1 : ∀ x ∈ p1, x.block < W.heap.size := fun x hx => by simpa using hW'.lt x (by simp [hx])
  obtain ⟨cs1, rfl⟩ := okWide_agg_arr Tryd.underlying84 (hval 1 84 v1 rfl rfl)
  obtain ⟨fuel1, hf1⟩ := id h1
  obtain ⟨ns1, hl1, hcs1⟩ := reads_arrE (en := eWf .u64) (E := 84) (e := 23) (m := 1) rfl (by decide) reads_wf hf1
  obtain rfl : cs1 = (ns1.flatMap (eWf .u64).f).toArray := by
    apply Array.ext'
    simpa [Value.cells] using hcs1
  obtain ⟨na1, nb1, rfl⟩ := two_of hl1
  obtain ⟨za1, wa1⟩ := na1
  have hba1 := bounds_u64 wa1
  obtain ⟨Na1, rfl⟩ := Int.eq_ofNat_of_zero_le hba1.1
  have hNa1 : Na1 < 2 ^ 64 := by omega
  obtain ⟨zb1, wb1⟩ := nb1
  have hbb1 := bounds_u64 wb1
  obtain ⟨Nb1, rfl⟩ := Int.eq_ofNat_of_zero_le hbb1.1
  have hNb1 : Nb1 < 2 ^ 64 := by omega
  have hlt2 : ∀ x ∈ p2, x.block < W.heap.size := fun x hx => by simpa using hW'.lt x (by simp [hx])
  obtain ⟨ad2, len2, cap2, rfl⟩ := okWide_slice Tryd.underlying28 (hval 2 28 v2 rfl rfl)
  obtain ⟨fuel2, hf2⟩ := id h2
  obtain ⟨bs2, u2, hu2, hRb2⟩ := reads_slice (E := 28) (e := 5) (t := Ty.enc eU8) rfl (by decide) reads_u8 _ _ _ hf2
  obtain rfl : Value.slice ad2 len2 cap2 = u2 := by simpa [Value.cells] using hu2
  have LK := laid_of hL
  refine (growthSays_any (.slice ad0 len0 cap0) xs0 Na1 Nb1 (ad2, len2, cap2) bs2 W LK hNa1 hNb1 hRd0 hRb2).mono fun e W' ⟨v, he, hv, hc⟩ => ?_
  subst hv
  subst he
  exact ⟨_, rfl, _, _, _, [], _, [], hW', trodAll_mk1 (shut_bool Tryd.underlying4 _), (trodAll_cons_mk (Below.trod laidOut (by kernel_rfl) (of_decide_eq_true (by kernel_rfl)) h0 hc.below hlt0) (trodAll_cons_mk (Below.trod laidOut (by kernel_rfl) (of_decide_eq_true (by kernel_rfl)) h1 hc.below hlt1) (trodAll_cons_mk (Below.trod laidOut (by kernel_rfl) (of_decide_eq_true (by kernel_rfl)) h2 hc.below hlt2) trodAll_mk0))), rfl, hc.below.frame _, fun h => by cases h⟩
theorem over : Rows.growthSaysRow.holds Tryd.pinned (OpenSpec.ofChange Rows.growthSaysSpec) :=
  OpenClaim.holds_of_wide 8 Tryd.f8 rfl rfl rfl rfl rfl rfl rfl ⟨rfl, rfl, rfl, rfl, rfl⟩ rfl rfl rfl rfl rfl (by kernel_rfl) Tryd.func8 (by kernel_rfl)
    (of_decide_eq_true (by kernel_rfl)) (by unfold Func.isWrapper; first | (rw [if_pos (by decide +kernel)]; kernel_rfl) | (rw [if_neg (by decide +kernel)]; exact ⟨rfl, rfl⟩))
    (fun os started H enc _ => lifted os started H enc)
end Go.Proofs.YtkdbinchlpdkmaaDoor.growthSays

/- What the inputs on a way lead to is the root: of any leaves, and of any map.
  No condition beyond the row's own. -/
import Derived.Test.YtkdbinchlpdkmaaDoorRows
import Derived.Test.YtkdbinchlpdkmaaDoorQClashTops33
import Derived.Test.YtkdbinchlpdkmaaDoorQClashTops34
import Derived.Test.YtkdbinchlpdkmaaDoorQClashTops05
import Derived.WalkKit
import Derived.ProofKit
import Derived.OpenShut
import Derived.Below
import Derived.SizedLaws
namespace Go.Proofs.YtkdbinchlpdkmaaDoor.clashTops
open Go.ChangeShapes Go.WideShapes Go.ChangeAt Go.RowKit Go.Proofs.E
set_option linter.unusedVariables false
set_option linter.unusedSimpArgs false
theorem laidOut : laidOutB Tryd.prog = true := by kernel_rfl
theorem own : ownKnob Tryd.prog.godebug = none := by kernel_rfl
def inp0 : Input := ⟨#[], #[.slice none 0 0, .int .u64 0, .slice none 0 0], []⟩
theorem row2 (os : Os) : ((laidWorld os).forCall (fun _ _ => 0) inp0).memory.heap[0]? = some (.cells (K256.map v32).toArray 185 (0, 0)) := by kernel_rfl
set_option maxRecDepth 100000 in
theorem lifted (os : Os) (started : os.Started) (H : Type) (enc : TypeId × Value → H) :
    ReturnsInHanded {} Tryd.checked os 3 .any (fun w args => (Rows.clashTopsSpec.pre enc Tryd.prog Tryd.f3 [] false w args ∧ laidMet Tryd.prog [("indenture/sha.rounds", Rows.laid_indenture_sha_rounds)] w) ∧ sizedMet enc Tryd.prog Tryd.f3 (OpenSpec.ofChange Rows.clashTopsSpec) false w args)
      (Rows.clashTopsSpec.post enc Tryd.prog Tryd.f3 false true false false) := by
  refine returnsInHanded_of_change_and (C := Tryd.checked) (X := fun w _ => laidMet Tryd.prog [("indenture/sha.rounds", Rows.laid_indenture_sha_rounds)] w) (fun _ _ _ hh h => h.of_heap hh) own started (by kernel_rfl) Tryd.func3
    (ChangeSpec.witness_at (enc := enc) (C := Tryd.checked) (os := os) (X := fun w _ => laidMet Tryd.prog [("indenture/sha.rounds", Rows.laid_indenture_sha_rounds)] w) false (laidWorld os) inp0.args 8 rfl (by kernel_rfl) (by kernel_rfl) (by kernel_rfl) (by kernel_rfl) (by kernel_rfl)
      ⟨_, ⟨0, 185, cellsK, 8, [], [], by kernel_rfl, by kernel_rfl, by kernel_rfl, by kernel_rfl, rfl, rfl⟩, by decide +kernel, fun b off h => by
        obtain ⟨i, hi, hbo⟩ := MemPlace.mem_row.1 (by simpa using h)
        injection hbo with hb ho
        subst hb
        exact ⟨⟨_, _, row2 os⟩, fun u v hc => absurd hc (noIface k_noIface (row2 os) u v)⟩⟩) ?_
  intro W base args ds gs before hval0 hW _ hwt hL _
  have hval : ∀ (j : Nat) t v, Tryd.f3.params[j]? = some t → args[j]? = some v → Value.okWide Tryd.prog W .any base t v := hval0
  have hW' := hW
  obtain ⟨p, q, hA0, hV, rfl, hfz, hnd⟩ := hW
  have hA : DataW.TrodAll enc Tryd.prog W 0 (fun _ => true) true Tryd.f3.params.toList args.toList ds p := hA0
  rw [Tryd.params3] at hA hval hwt
  obtain ⟨v0, vs0, d0, ds0, p0, q0, hargs, rfl, rfl, h0, r0⟩ := trodAll_cons hA
  obtain ⟨v1, vs1, d1, ds1, p1, q1, rfl, rfl, rfl, h1, r1⟩ := trodAll_cons r0
  obtain ⟨v2, vs2, d2, ds2, p2, q2, rfl, rfl, rfl, h2, r2⟩ := trodAll_cons r1
  obtain ⟨rfl, rfl, rfl⟩ := trodAll_nil r2
  obtain rfl : args = #[v0, v1, v2] := by cases args; simp_all
  obtain ⟨rfl, rfl⟩ := trodVars_none hV
  clear hA0 hval0
  have hw0 : ∀ n ∈ DataW.weights Tryd.prog 22 d0, n ≤ reachBytes := fun n hn => by
    have hn : n ∈ DataW.weights Tryd.checked.prog 22 d0 := hn
    have := List.all_eq_true.1 hwt n (by simp [DataW.weightsEach, hn])
    simpa using this
  have hw1 : ∀ n ∈ DataW.weights Tryd.prog 23 d1, n ≤ reachBytes := fun n hn => by
    have hn : n ∈ DataW.weights Tryd.checked.prog 23 d1 := hn
    have := List.all_eq_true.1 hwt n (by simp [DataW.weightsEach, hn])
    simpa using this
  have hw2 : ∀ n ∈ DataW.weights Tryd.prog 24 d2, n ≤ reachBytes := fun n hn => by
    have hn : n ∈ DataW.weights Tryd.checked.prog 24 d2 := hn
    have := List.all_eq_true.1 hwt n (by simp [DataW.weightsEach, hn])
    simpa using this
  have hr8 : reachBytes = 140737488351232 := rfl
  have hb8 : Program.bytesOf Tryd.prog 5 = 1 := by kernel_rfl
  have rw8 := readsW_slice (enc := enc) (P := Tryd.prog) (W := W) (base := 0) (sp := fun _ => true) (held := true) (E := 28) (e := 5) (t := Ty.enc eU8) rfl (by decide) reads_u8.w
  have hlt0 : ∀ x ∈ p0, x.block < W.heap.size := fun x hx => by simpa using hW'.lt x (by simp [hx])
  obtain ⟨ad0, len0, cap0, rfl⟩ := okWide_slice Tryd.underlying22 (hval 0 22 v0 rfl rfl)
  obtain ⟨fuel0, hf0⟩ := id h0
  obtain ⟨xs0, ⟨u0, hu0, hRd0⟩, qs0, _⟩ := readsW_slice (E := 22) (e := 28) rfl (by decide) rw8 _ _ _ hf0 hw0
  obtain rfl : Value.slice ad0 len0 cap0 = u0 := by simpa [Value.cells] using hu0
  obtain ⟨a1, rfl, rfl, rfl, w1⟩ := open_int Tryd.underlying23 (hval 1 23 v1 rfl rfl) h1
  have hb1 := bounds_u64 w1
  obtain ⟨N1, rfl⟩ := Int.eq_ofNat_of_zero_le hb1.1
  have hN1 : N1 < 2 ^ 64 := by omega
  have hlt2 : ∀ x ∈ p2, x.block < W.heap.size := fun x hx => by simpa using hW'.lt x (by simp [hx])
  obtain ⟨ad2, len2, cap2, rfl⟩ := okWide_slice Tryd.underlying24 (hval 2 24 v2 rfl rfl)
  obtain ⟨fuel2, hf2⟩ := id h2
  obtain ⟨xs2, ⟨u2, hu2, hRd2⟩, qs2⟩ := rw_items _ _ _ hf2 hw2
  obtain rfl : Value.slice ad2 len2 cap2 = u2 := by simpa [Value.cells] using hu2
  have LK := laid_of hL
  refine (clashTops_any (.slice ad0 len0 cap0) xs0 N1 (.slice ad2 len2 cap2) xs2 W LK hN1 hRd0 (fun x hx => by have := (qs0 x hx).2; rw [hb8, hr8] at this; omega) hRd2).mono fun e W' ⟨v, he, hv, hc⟩ => ?_
  subst hv
  subst he
  exact ⟨_, rfl, _, _, _, [], _, [], hW', trodAll_mk1 (shut_bool Tryd.underlying4 _), (trodAll_cons_mk (Below.trod laidOut (by kernel_rfl) (of_decide_eq_true (by kernel_rfl)) h0 hc.below hlt0) (trodAll_cons_mk (shut_int Tryd.underlying23 w1) (trodAll_cons_mk (Below.trod laidOut (by kernel_rfl) (of_decide_eq_true (by kernel_rfl)) h2 hc.below hlt2) trodAll_mk0))), rfl, hc.below.frame _, fun h => by cases h⟩
theorem over : Rows.clashTopsRow.holds Tryd.pinned (OpenSpec.ofChange Rows.clashTopsSpec) :=
  OpenClaim.holds_of_wide 3 Tryd.f3 rfl rfl rfl rfl rfl rfl rfl ⟨rfl, rfl, rfl, rfl, rfl⟩ rfl rfl rfl rfl rfl (by kernel_rfl) Tryd.func3 (by kernel_rfl)
    (of_decide_eq_true (by kernel_rfl)) (by unfold Func.isWrapper; first | (rw [if_pos (by decide +kernel)]; kernel_rfl) | (rw [if_neg (by decide +kernel)]; exact ⟨rfl, rfl⟩))
    (fun os started H enc _ => lifted os started H enc)
end Go.Proofs.YtkdbinchlpdkmaaDoor.clashTops

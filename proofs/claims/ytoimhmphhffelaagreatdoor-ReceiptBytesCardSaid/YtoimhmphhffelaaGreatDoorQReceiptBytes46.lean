/- What both Reads make of any bytes is alike; the bytes of a receipt, and whether two are alike, are told alike by both.
  No condition beyond the row's own. -/
import Derived.Test.YtoimhmphhffelaaGreatDoorRows
import Derived.Test.YtoimhmphhffelaaGreatDoorQReceiptBytes40
import Derived.Test.YtoimhmphhffelaaGreatDoorQReceiptBytes44
import Derived.Test.YtoimhmphhffelaaGreatDoorQReceiptBytes45
import Derived.Test.YtoimhmphhffelaaGreatDoorQReceiptBytes41
import Derived.WalkKit
import Derived.ProofKit
import Derived.OpenShut
import Derived.Below
import Derived.SizedLaws
namespace Go.Proofs.YtoimhmphhffelaaGreatDoor.receiptBytes
open Go.ChangeShapes Go.WideShapes Go.ChangeAt Go.RowKit Go.Proofs.E
set_option linter.unusedVariables false
set_option linter.unusedSimpArgs false
theorem laidOut : laidOutB Tryz.prog = true := by kernel_rfl
theorem own : ownKnob Tryz.prog.godebug = none := by kernel_rfl
def inp0 : Input := ⟨#[], #[.agg ([Value.int .i64 0, .int .i64 0, .int .i64 0, .bool false, .slice none 0 0, .slice none 0 0, .slice none 0 0, .int .i64 0] ++ List.replicate 64 (Value.int .u8 0)).toArray, .agg ([Value.int .i64 0, .int .i64 0, .int .i64 0, .bool false, .slice none 0 0, .slice none 0 0, .slice none 0 0, .int .i64 0] ++ List.replicate 64 (Value.int .u8 0)).toArray, .slice none 0 0], []⟩
theorem row2 (os : Os) : ((laidWorld os).forCall (fun _ _ => 0) inp0).memory.heap[10]? = some (.cells (K256.map v32).toArray 246 (0, 0)) := by kernel_rfl
set_option maxRecDepth 100000 in
theorem lifted (os : Os) (started : os.Started) (H : Type) (enc : TypeId × Value → H) :
    ReturnsInHanded {} Tryz.checked os 3 .any (fun w args => (Rows.receiptBytesSpec.pre enc Tryz.prog Tryz.f3 [] false w args ∧ laidMet Tryz.prog [("indenture/sha.rounds", Rows.laid_indenture_sha_rounds)] w) ∧ sizedMet enc Tryz.prog Tryz.f3 (OpenSpec.ofChange Rows.receiptBytesSpec) false w args)
      (Rows.receiptBytesSpec.post enc Tryz.prog Tryz.f3 false true false false) := by
  refine returnsInHanded_of_change_and (C := Tryz.checked) (X := fun w _ => laidMet Tryz.prog [("indenture/sha.rounds", Rows.laid_indenture_sha_rounds)] w) (fun _ _ _ hh h => h.of_heap hh) own started (by kernel_rfl) Tryz.func3
    (ChangeSpec.witness_at (enc := enc) (C := Tryz.checked) (os := os) (X := fun w _ => laidMet Tryz.prog [("indenture/sha.rounds", Rows.laid_indenture_sha_rounds)] w) false (laidWorld os) inp0.args 8 rfl (by kernel_rfl) (by kernel_rfl) (by kernel_rfl) (by kernel_rfl) (by kernel_rfl)
      ⟨_, ⟨10, 246, cellsK, 8, [], [], by kernel_rfl, by kernel_rfl, by kernel_rfl, by kernel_rfl, rfl, rfl⟩, by decide +kernel, fun b off h => by
        obtain ⟨i, hi, hbo⟩ := MemPlace.mem_row.1 (by simpa using h)
        injection hbo with hb ho
        subst hb
        exact ⟨⟨_, _, row2 os⟩, fun u v hc => absurd hc (noIface k_noIface (row2 os) u v)⟩⟩) ?_
  intro W base args ds gs before hval0 hW _ hwt hL _
  have hval : ∀ (j : Nat) t v, Tryz.f3.params[j]? = some t → args[j]? = some v → Value.okWide Tryz.prog W .any base t v := hval0
  have hW' := hW
  obtain ⟨p, q, hA0, hV, rfl, hfz, hnd⟩ := hW
  have hA : DataW.TrodAll enc Tryz.prog W 0 (fun _ => true) true Tryz.f3.params.toList args.toList ds p := hA0
  rw [Tryz.params3] at hA hval hwt
  obtain ⟨v0, vs0, d0, ds0, p0, q0, hargs, rfl, rfl, h0, r0⟩ := trodAll_cons hA
  obtain ⟨v1, vs1, d1, ds1, p1, q1, rfl, rfl, rfl, h1, r1⟩ := trodAll_cons r0
  obtain ⟨v2, vs2, d2, ds2, p2, q2, rfl, rfl, rfl, h2, r2⟩ := trodAll_cons r1
  obtain ⟨rfl, rfl, rfl⟩ := trodAll_nil r2
  obtain rfl : args = #[v0, v1, v2] := by cases args; simp_all
  obtain ⟨rfl, rfl⟩ := trodVars_none hV
  clear hA0 hval0
  have hw0 : ∀ n ∈ DataW.weights Tryz.prog 32 d0, n ≤ reachBytes := fun n hn => by
    have hn : n ∈ DataW.weights Tryz.checked.prog 32 d0 := hn
    have := List.all_eq_true.1 hwt n (by simp [DataW.weightsEach, hn])
    simpa using this
  have hw1 : ∀ n ∈ DataW.weights Tryz.prog 32 d1, n ≤ reachBytes := fun n hn => by
    have hn : n ∈ DataW.weights Tryz.checked.prog 32 d1 := hn
    have := List.all_eq_true.1 hwt n (by simp [DataW.weightsEach, hn])
    simpa using this
  have hw2 : ∀ n ∈ DataW.weights Tryz.prog 33 d2, n ≤ reachBytes := fun n hn => by
    have hn : n ∈ DataW.weights Tryz.checked.prog 33 d2 := hn
    have := List.all_eq_true.1 hwt n (by simp [DataW.weightsEach, hn])
    simpa using this
  have hr8 : reachBytes = 140737488351232 := rfl
  have hb8 : Program.bytesOf Tryz.prog 5 = 1 := by kernel_rfl
  have rw8 := readsW_slice (enc := enc) (P := Tryz.prog) (W := W) (base := 0) (sp := fun _ => true) (held := true) (E := 33) (e := 5) (t := Ty.enc eU8) rfl (by decide) reads_u8.w
  have hlt0 : ∀ x ∈ p0, x.block < W.heap.size := fun x hx => by simpa using hW'.lt x (by simp [hx])
  obtain ⟨cs0, rfl⟩ := okWide_agg_struct Tryz.underlying32 (hval 0 32 v0 rfl rfl)
  obtain ⟨fuel0, hf0⟩ := id h0
  obtain ⟨a0, hR0, q0⟩ := rw_receipt _ _ _ hf0 hw0
  obtain ⟨ra0, ses0, snap0, strict0, vr0, vw0, vp0, size0, lg0, mp0, us0, wz0, path0, hc0, hm0, hk0, hb0⟩ := tRct_out hR0 q0
  obtain rfl : cs0 = (tC ra0 ses0 snap0 strict0 vr0 vw0 vp0 size0 lg0 mp0).toArray := Array.ext' hc0
  have hlt1 : ∀ x ∈ p1, x.block < W.heap.size := fun x hx => by simpa using hW'.lt x (by simp [hx])
  obtain ⟨cs1, rfl⟩ := okWide_agg_struct Tryz.underlying32 (hval 1 32 v1 rfl rfl)
  obtain ⟨fuel1, hf1⟩ := id h1
  obtain ⟨a1, hR1, q1⟩ := rw_receipt _ _ _ hf1 hw1
  obtain ⟨ra1, ses1, snap1, strict1, vr1, vw1, vp1, size1, lg1, mp1, us1, wz1, path1, hc1, hm1, hk1, hb1⟩ := tRct_out hR1 q1
  obtain rfl : cs1 = (tC ra1 ses1 snap1 strict1 vr1 vw1 vp1 size1 lg1 mp1).toArray := Array.ext' hc1
  have hlt2 : ∀ x ∈ p2, x.block < W.heap.size := fun x hx => by simpa using hW'.lt x (by simp [hx])
  obtain ⟨ad2, len2, cap2, rfl⟩ := okWide_slice Tryz.underlying33 (hval 2 33 v2 rfl rfl)
  obtain ⟨fuel2, hf2⟩ := id h2
  obtain ⟨bs2, u2, hu2, hRb2⟩ := reads_slice (E := 33) (e := 5) (t := Ty.enc eU8) rfl (by decide) reads_u8 _ _ _ hf2
  obtain rfl : Value.slice ad2 len2 cap2 = u2 := by simpa [Value.cells] using hu2
  have LK := laid_of hL
  refine (receiptBytes_any ra0 ses0 snap0 strict0 _ _ _ size0 lg0 mp0 us0 wz0 path0 ra1 ses1 snap1 strict1 _ _ _ size1 lg1 mp1 us1 wz1 path1 _ bs2 W LK hm0 hk0 hb0 hm1 hk1 hb1 hRb2).mono fun e W' ⟨v, he, hv, hc⟩ => ?_
  subst hv
  subst he
  exact ⟨_, rfl, _, _, _, [], _, [], hW', trodAll_mk1 (shut_bool Tryz.underlying4 _), (trodAll_cons_mk (Below.trod laidOut (by kernel_rfl) (of_decide_eq_true (by kernel_rfl)) h0 hc.below hlt0) (trodAll_cons_mk (Below.trod laidOut (by kernel_rfl) (of_decide_eq_true (by kernel_rfl)) h1 hc.below hlt1) (trodAll_cons_mk (Below.trod laidOut (by kernel_rfl) (of_decide_eq_true (by kernel_rfl)) h2 hc.below hlt2) trodAll_mk0))), rfl, hc.below.frame _, fun h => by cases h⟩
theorem over : Rows.receiptBytesRow.holds Tryz.pinned (OpenSpec.ofChange Rows.receiptBytesSpec) :=
  OpenClaim.holds_of_wide 3 Tryz.f3 rfl rfl rfl rfl rfl rfl rfl ⟨rfl, rfl, rfl, rfl, rfl⟩ rfl rfl rfl rfl rfl (by kernel_rfl) Tryz.func3 (by kernel_rfl)
    (of_decide_eq_true (by kernel_rfl)) (by unfold Func.isWrapper; first | (rw [if_pos (by decide +kernel)]; kernel_rfl) | (rw [if_neg (by decide +kernel)]; exact ⟨rfl, rfl⟩))
    (fun os started H enc _ => lifted os started H enc)
end Go.Proofs.YtoimhmphhffelaaGreatDoor.receiptBytes

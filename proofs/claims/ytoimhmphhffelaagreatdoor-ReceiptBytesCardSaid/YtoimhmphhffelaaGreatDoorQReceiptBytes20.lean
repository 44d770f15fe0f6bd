/- Walks: peaks that may be, the program's and the reference's.
   Walks: one leaf more, the program's.
   Walks: the root of peaks, the program's and the reference's.
   Walks: one leaf more, the reference's.
   Walks: the peaks of leaves, the program's and the reference's; the very same hashes? -/
import Derived.Test.YtoimhmphhffelaaGreatDoorQReceiptBytes19
import Derived.Test.YtoimhmphhffelaaGreatDoorQReceiptBytes04
import Derived.Test.YtoimhmphhffelaaGreatDoorQReceiptBytes18
import Derived.Test.YtoimhmphhffelaaGreatDoorQReceiptBytes14
set_option linter.unusedVariables false
set_option linter.unusedSimpArgs false
namespace Go.Proofs.YtoimhmphhffelaaGreatDoor
open Go Go.RowKit Go.Proofs.E
attribute [local irreducible] Go.wpList Go.Code.wp Go.Proofs.E.exec Go.Proofs.E.wpLexG
end Go.Proofs.YtoimhmphhffelaaGreatDoor
set_option linter.unusedVariables false
set_option linter.unusedSimpArgs false
namespace Go.Proofs.E
open Go Go.RowKit
end Go.Proofs.E
namespace Go.Proofs.YtoimhmphhffelaaGreatDoor
open Go Go.RowKit Go.Proofs.E
attribute [local irreducible] Go.wpList Go.Code.wp Go.Proofs.E.exec Go.Proofs.E.wpLexG
end Go.Proofs.YtoimhmphhffelaaGreatDoor
set_option linter.unusedVariables false
set_option linter.unusedSimpArgs false
namespace Go.Proofs.YtoimhmphhffelaaGreatDoor
open Go Go.RowKit Go.Proofs.E
attribute [local irreducible] Go.wpList Go.Code.wp Go.Proofs.E.exec Go.Proofs.E.wpLexG
end Go.Proofs.YtoimhmphhffelaaGreatDoor
set_option linter.unusedVariables false
set_option linter.unusedSimpArgs false
namespace Go.Proofs.E
open Go Go.RowKit
section
variable {P : Program} {ops : Array Oper} {Q : Exit → Act → World → Prop} {rest : List Oper} {l : List Value} {w : World} {op : Op} {T : TypeId} {pos : String} {after : Array Edge}
end
end Go.Proofs.E
namespace Go.Proofs.YtoimhmphhffelaaGreatDoor
open Go Go.RowKit Go.Proofs.E
attribute [local irreducible] Go.wpList Go.Code.wp Go.Proofs.E.exec Go.Proofs.E.wpLexG
end Go.Proofs.YtoimhmphhffelaaGreatDoor
set_option linter.unusedVariables false
set_option linter.unusedSimpArgs false
namespace Go.Proofs.YtoimhmphhffelaaGreatDoor
open Go Go.RowKit Go.Proofs.E
attribute [local irreducible] Go.wpList Go.Code.wp Go.Proofs.E.exec Go.Proofs.E.wpLexG
/-! ### The very same hashes? -/
set_option maxHeartbeats 8000000 in
theorem same09_any (v1 v2 : Value) (xs ys : List Hs) (w : World) (hR1 : (Ty.enc eH).Rd [] w v1 xs) (hR2 : (Ty.enc eH).Rd [] w v2 ys) :
    Calls Tryz.prog 57 #[v1, v2] w (Ret fun u w' => u = .bool (decide (xs = ys)) ∧ Ch [] w w') := by
  refine enter [v1, v2, undef, undef, undef, undef, undef, undef, undef, undef, undef, undef, undef, undef, undef, undef, undef, undef, undef, undef, undef, undef, undef, undef, undef, undef] Tryz.func57 rfl rfl ?_
  have hle1 := hR1.le
  have hle2 := hR2.le
  obtain ⟨A1, c1, rfl⟩ := hR1.form
  obtain ⟨A2, c2, rfl⟩ := hR2.form
  (try refine wk ?_)
  refine c_cond rfl (fun hne => ?_) (fun heq => ?_)
  · (try refine wk ?_)
    have hf : ¬ xs = ys := fun e => hne (by rw [e])
    refine out1 rfl ⟨?_, Ch.refl _ _⟩
    rw [decide_eq_false hf]
    rfl
  · have hll : xs.length = ys.length := by omega
    (try refine wk ?_)
    
    refine c_loop (fun k l w' => ∃ (i : Nat), (∃ jj : Nat → Value, l = [.slice A1 xs.length c1, .slice A2 ys.length c2, jj 2, jj 3, jj 4, jj 5, jj 6, jj 7, jj 8, jj 9, jj 10, jj 11, .int .i64 (xs.length : Int), .int .i64 (i : Int), jj 14, jj 15, jj 16, jj 17, jj 18, jj 19, jj 20, jj 21, jj 22, jj 23, jj 24, jj 25]) ∧ k + i = xs.length ∧ Ch [] w w' ∧ xs.take i = ys.take i) xs.length
      ⟨0, exj rfl, rfl, Ch.refl _ _, rfl⟩ ?_
    rintro k l w1 ⟨i, ⟨jj, rfl⟩, hki, hc1, htk⟩
    (try refine wk ?_)
    refine c_cond rfl (fun hi => ?_) (fun hi => ?_)
    · (try refine wk ?_)
      refine c_draw [] (by kernel_rfl) (by kernel_rfl) (fun w4 hc4 hs4 => ?_)
      (try refine wkg ?_)
      (try ((with_reducible apply is_gg); first | refine gtg ?_ | refine gfg ?_ | refine gug ?_)); refine ixg ((hR1.ch hc1).ch hc4) (fun b5 o5 x5 hx5 hA5 => ?_)
      rw [Int.toNat_natCast] at hx5
      (try ((with_reducible apply is_gg); first | refine gtg ?_ | refine gfg ?_ | refine gug ?_)); refine ldrg hA5 ?_
      (try refine wkg ?_)
      (try ((with_reducible apply is_gg); first | refine gtg ?_ | refine gfg ?_ | refine gug ?_)); refine ixg ((hR2.ch hc1).ch hc4) (fun b6 o6 x6 hx6 hA6 => ?_)
      rw [Int.toNat_natCast] at hx6
      (try ((with_reducible apply is_gg); first | refine gtg ?_ | refine gfg ?_ | refine gug ?_)); refine ldrg hA6 ?_
      refine wg_val (fun _ _ => r_neq8 (n := 32) (a := x5.1) (b := x6.1) Tryz.eqGuardType28 rfl rfl x5.2 x6.2) ?_
      (try refine wkg ?_)
      intro w5 hc5
      (try refine wk ?_)
      refine c_condb rfl (fun hb => ?_) (fun hb => ?_)
      · (try refine wk ?_)
        refine out1 rfl ⟨?_, (hc1.then hc4).then hc5⟩
        have hne : x5 ≠ x6 := fun e => by
          rw [e] at hb
          simp at hb
        have hf : ¬ xs = ys := fun e => hne (by
          rw [e, hx6] at hx5
          exact (Option.some.inj hx5).symm)
        rw [decide_eq_false hf]
        rfl
      · have hx56 : x5 = x6 := by
          have : x5.1 = x6.1 := by simpa using hb
          exact Subtype.ext this
        (try refine wk ?_)
        refine x_goes (k - 1) rfl (by omega) ⟨i + 1, exj rfl, by omega, (hc1.then hc4).then hc5, ?_⟩
        rw [List.take_add_one, List.take_add_one, htk, hx5, hx6, hx56]
    · (try refine wk ?_)
      refine out1 rfl ⟨?_, hc1⟩
      have hxy : xs = ys := by
        rw [List.take_of_length_le (by omega), List.take_of_length_le (by omega)] at htk
        exact htk
      rw [decide_eq_true hxy]
      rfl
end Go.Proofs.YtoimhmphhffelaaGreatDoor

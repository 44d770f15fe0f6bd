/- Walk: the law RecordLimits. -/
import Derived.Test.YtnkkeehoejmcnaaRd
import Derived.Test.YtnkkeehoejmcnaaLr
set_option linter.unusedVariables false
set_option linter.unusedSimpArgs false
namespace Go.Proofs.E
open Go Go.RowKit
section
variable {P : Program} {ops : Array Oper} {Q : Exit → Act → World → Prop} {rest : List Oper} {l l' : List Value} {O : List Nat} {w0 w : World} {L L' : List As} {T : TypeId} {pos : String} {after : Array Edge}
theorem made8 (n : Nat) : (madeCells #[Value.int .u8 0] (n * 1)).toList = (List.replicate n (0 : UInt8)).flatMap eU8.f := by
  have h1 : (List.replicate n (0 : UInt8)).flatMap eU8.f = List.replicate n (Value.int .u8 0) := by
    induction n with
    | zero => rfl
    | succ n ih => rw [List.replicate_succ, List.flatMap_cons, ih, List.replicate_succ]; rfl
  rw [h1]
  apply List.ext_getElem
  · rw [Array.length_toList, size_madeCells, List.length_replicate, Nat.mul_one]
  · intro i h h'
    simp [madeCells, Nat.mod_one]
/-- make([]byte, n). -/
theorem kms8 {d : Nat} {x y : Operand} {t e : TypeId} {by_ : Nat} {k1 k2 : IntKind} [hu : Und P t (.slice e)] [hi : Inf P e (.int .u8 0) 1 by_] (n : Nat) (hM : Mem O w0 w L)
    (h : ∀ w' b, Ch [] w w' → Mem O w0 w' (.row eU8 e (.slice (some ⟨b, 0, none⟩) n n) (List.replicate n 0) :: L) → wpList P ops Q rest (fr (l.set d (.slice (some ⟨b, 0, none⟩) n n))) w')
    (hx : ev l x = .int k1 (n : Int) := by exact rfl) (hy : ev l y = .int k2 (n : Int) := by exact rfl) (hb : by_ * n ≤ 281474976710656 := by first | decide | omega) (h63 : n ≤ 281474976710656 := by first | decide | omega) :
    wpList P ops Q ({ dst := some d, op := .makeSlice t x y, type := T, pos := pos, after := after, guard := none } :: rest) (fr l) w := by
  obtain ⟨i, k1', k2', k3, k4⟩ := inf_parts hi
  have hb' : (i.bytes : Int) * (n : Int) ≤ 281474976710656 := by
    rw [k4]
    have h : ((by_ * n : Nat) : Int) ≤ 281474976710656 := by omega
    rwa [Int.natCast_mul] at h
  have hr := run_make (P := P) w t e i (.int .u8 0) hu.out k1' k2' k1 k2 n n (by omega) (by omega) hb' (by omega)
  simp only [Int.toNat_natCast] at hr
  have hN : New w (w.alloc (.cells (madeCells #[Value.int .u8 0] (n * 1)) e)) w.heap.size (madeCells #[Value.int .u8 0] (n * 1)).toList e := New.mk' w _ e
  refine wl_val (w' := w.alloc (.cells (madeCells #[Value.int .u8 0] (n * 1)) e)) ?_ (h _ w.heap.size hN.ch (hM.got hN.ch (Own.of_new hN (made8 n) (Nat.le_refl _) (by rw [List.length_replicate]; omega) (List.length_replicate ..))))
  have hz : (Value.int .u8 0).cells = #[Value.int .u8 0] := rfl
  rw [k3, hz] at hr
  simp [exec, execOp, hx, hy, hr]
/-- A whole block stored, with what turned. -/
theorem kstwC {x y : Operand} {E t : TypeId} {b n by_ : Nat} {cs vs : List Value} {z : Value} [hi : Inf P t z n by_] (hM : Mem O w0 w L) (h : ∀ w', Ch [b] w w' → Mem O w0 w' (.cell b vs E :: L') → wpList P ops Q rest (fr l) w')
    (hx : ev l x = .pointer (some ⟨b, 0, none⟩) := by exact rfl) (hp : Pick L (.cell b cs E) L' := by (repeat (first | exact Go.Proofs.E.Pick.here | apply Go.Proofs.E.Pick.there))) (hy : ev l y = .agg vs.toArray := by exact rfl) (hln : vs.length = n := by (first | exact rfl | (simp; done) | (simp only [List.length_map]; exact Subtype.property (p := fun a : List UInt8 => a.length = 32) _))) (hf : cs.length = n := by (first | exact rfl | (simp; done) | (simp only [List.length_map]; exact Subtype.property (p := fun a : List UInt8 => a.length = 32) _)))
    (h1 : ∀ u ∈ vs, u.oneCell' = true := by first | exact Go.Proofs.E.one_u8 | (simp [Value.oneCell']; done) | (intro u hu; simp at hu; rcases hu with rfl | rfl | rfl <;> rfl)) :
    wpList P ops Q ({ dst := none, op := .store t x y, type := T, pos := pos, after := after, guard := none } :: rest) (fr l) w :=
  stbw (hM.blk hp) hx hy hln hf h1 fun w' hB hc _ => h w' hc ((hM.pick hp).set hB hc)
end
end Go.Proofs.E
namespace Go.Proofs.Ytnkkeehoejmcnaa
open Go Go.RowKit Go.Proofs.E
attribute [local irreducible] Go.wpList Go.Code.wp Go.Proofs.E.exec Go.Proofs.E.wpLexG
def limP (i : Nat) : Pr := ([UInt8.ofNat (97 + i)], List.replicate 256 0, false)
def limW (k : Nat) : List Pr := (List.range k).map limP
theorem limW_succ (k : Nat) : limW (k + 1) = limW k ++ [limP k] := by
  unfold limW
  rw [List.range_succ, List.map_append]
  rfl
theorem limW_len (k : Nat) : (limW k).length = k := by simp [limW]
theorem limW_take (k n : Nat) (h : k ≤ n) : limW k = (limW n).take k := by
  unfold limW
  rw [← List.map_take, List.take_range, Nat.min_eq_left h]
theorem goodL_take : ∀ (k : Nat) (q : Option Bs) (l : List Pr), goodL q l = true → goodL q (l.take k) = true
  | 0, q, l, _ => by cases q <;> rfl
  | k + 1, q, [], _ => by cases q <;> rfl
  | k + 1, q, p :: r, h => by
    rw [List.take_succ_cons, goodL_cons]
    rw [goodL_cons, Bool.and_eq_true, Bool.and_eq_true] at h
    rw [h.1, h.2.1, goodL_take k _ _ h.2.2]
    rfl
theorem limW_good34 : goodL none (limW 34) = true := by decide +kernel
theorem limW_good {k : Nat} (h : k ≤ 34) : goodL none (limW k) = true := by
  rw [limW_take k 34 h]
  exact goodL_take _ _ _ limW_good34
theorem limW_right {k : Nat} (h : k ≤ 34) : rightB 1 0 [] (limW k) = true := by
  rw [right_yes]
  · rfl
  · exact ⟨by decide, by decide, by decide, by decide, by decide, by rw [limW_len]; omega, limW_good h⟩
theorem limW_bytes (k : Nat) : 256 * k ≤ ((limW k).flatMap writeB).length := by
  induction k with
  | zero => exact Nat.zero_le _
  | succ k ih =>
    rw [limW_succ, List.flatMap_append, List.length_append, List.flatMap_cons, List.flatMap_nil, List.append_nil]
    have : 256 ≤ (writeB (limP k)).length := by
      unfold writeB limP strB
      simp only [List.length_append, List.length_replicate]
      rw [if_neg (by simp)]
      simp only [List.length_append, List.length_replicate]
      omega
    omega
theorem limB_len (k : Nat) : 256 * k ≤ (recB 1 0 false [] (limW k)).length := by
  have := limW_bytes k
  unfold recB
  simp only [List.length_append]
  omega
theorem limW_short (k : Nat) : ShortL (limW k) := by
  intro p hp
  obtain ⟨i, _, rfl⟩ := List.mem_map.1 hp
  exact ⟨by show 1 ≤ _; decide, by show (List.replicate 256 (0 : UInt8)).length ≤ _; rw [List.length_replicate]; decide⟩
theorem recGood_nine {snap : Int} {strict : Bool} {us : List (RR × List Pr)} {wz : List Pr} : recGood 9 snap strict us wz = false := by
  unfold recGood
  rw [right_no (by omega), Bool.false_and]
theorem recGood_neg {ses : Int} {strict : Bool} {us : List (RR × List Pr)} {wz : List Pr} : recGood ses (-1) strict us wz = false := by
  unfold recGood
  rw [right_no (by omega), Bool.false_and]
theorem recGood_empty {ses snap : Int} {strict : Bool} {us : List (RR × List Pr)} {wz : List Pr} : recGood ses snap strict us (wz ++ [([], [], false)]) = false := by
  unfold recGood
  rw [right_no, Bool.false_and]
  rintro ⟨_, _, _, _, _, _, h⟩
  have := goodL_all _ _ h ([], [], false) (by simp)
  exact absurd this (by decide)
set_option maxHeartbeats 32000000 in
theorem recordLimits_any (ses snap : Int) (strict : Bool) (vr vw : Value) (us : List (RR × List Pr)) (wz : List Pr) (N : Nat) (w0 : World) (hA : RecM w0 vr vw us wz) (hk : ShortR us) (hb : ShortL wz) (hN : N < 2 ^ 64) :
    Calls Try.prog 6 #[.agg (rC ses snap strict vr vw).toArray, .int .u64 (N : Int)] w0 (Ret fun u w' => u = .bool true ∧ Ch [] w0 w') := by
  have hM := Mem.start w0
  obtain ⟨A, c, rfl⟩ := hA.r.form
  obtain ⟨A2, c2, rfl⟩ := hA.w.form
  simp only [List.length_map] at hA ⊢
  refine enter [.agg (rC ses snap strict (.slice A us.length c) (.slice A2 wz.length c2)).toArray, .int .u64 (N : Int), undef, undef, undef, undef, undef, undef, undef, undef, undef, undef, undef, undef, undef, undef, undef, undef, undef, undef, undef, undef, undef, undef, undef, undef, undef, undef, undef, undef, undef, undef, undef, undef, undef, undef, undef, undef, undef, undef, undef, undef, undef, undef, undef, undef, undef, undef, undef, undef, undef, undef, undef, undef, undef, undef, undef, undef, undef, undef, undef, undef, undef, undef, undef, undef, undef, undef, undef, undef, undef, undef, undef, undef, undef, undef, undef, undef, undef, undef, undef, undef, undef, undef, undef, undef, undef, undef, undef, undef, undef, undef, undef, undef, undef, undef, undef, undef, undef, undef, undef, undef, undef] Try.func6 rfl rfl ?_
  repeat (first | ((with_reducible apply is_ld); first | refine kld hM ?_ | refine kldw hM ?_ | refine kle hM ?_ | refine klew hM ?_) | ((with_reducible apply is_sto); first | (refine kst hM ?_; intro w hM) | (refine kstw hM ?_; intro w hM)) | ((with_reducible apply is_st); refine su ?_) | ((with_reducible apply is_gd); first | refine gt ?_ | refine gf ?_ | refine gu ?_) | ((with_reducible apply is_en); refine en ?_) | (with_reducible apply c_region) | refine ws ?_ | refine x_block_other (by decide) ?_)
  refine kbx hM (fun w b2 hM => ?_)
  have hM : Mem [] w0 w [.cell b2 (rC ses snap strict (.slice A us.length c) (.slice A2 wz.length c2)) 25] := hM
  repeat ((fail_if_success (with_reducible apply Go.Proofs.E.is_dst (d := 15))); first | ((with_reducible apply is_ld); first | refine kld hM ?_ | refine kldw hM ?_ | refine kle hM ?_ | refine klew hM ?_) | ((with_reducible apply is_sto); first | (refine kst hM ?_; intro w hM) | (refine kstw hM ?_; intro w hM)) | ((with_reducible apply is_st); refine su ?_) | ((with_reducible apply is_gd); first | refine gt ?_ | refine gf ?_ | refine gu ?_) | ((with_reducible apply is_en); refine en ?_) | (with_reducible apply c_region) | refine ws ?_ | refine x_block_other (by decide) ?_)
  (try ((with_reducible apply is_gd); first | refine gt ?_ | refine gf ?_ | refine gu ?_)); refine wl_val (r_remN N 10 rfl rfl (by decide) rfl rfl) ?_
  have hkl := Nat.mod_lt N (show 0 < 10 by decide)
  generalize N % 10 = r at hkl ⊢
  repeat (first | ((with_reducible apply is_ld); first | refine kld hM ?_ | refine kldw hM ?_ | refine kle hM ?_ | refine klew hM ?_) | ((with_reducible apply is_sto); first | (refine kst hM ?_; intro w hM) | (refine kstw hM ?_; intro w hM)) | ((with_reducible apply is_st); refine su ?_) | ((with_reducible apply is_gd); first | refine gt ?_ | refine gf ?_ | refine gu ?_) | ((with_reducible apply is_en); refine en ?_) | (with_reducible apply c_region) | refine ws ?_ | refine x_block_other (by decide) ?_)
  rw [show (25 : Int) + (r : Int) = ((25 + r : Nat) : Int) by omega]
  obtain ⟨k, hkk⟩ : ∃ k, k = 25 + r := ⟨_, rfl⟩
  rw [← hkk]
  have hk34 : k ≤ 34 := by omega
  clear hkk hkl
  repeat (first | ((with_reducible apply is_ld); first | refine kld hM ?_ | refine kldw hM ?_ | refine kle hM ?_ | refine klew hM ?_) | ((with_reducible apply is_sto); first | (refine kst hM ?_; intro w hM) | (refine kstw hM ?_; intro w hM)) | ((with_reducible apply is_st); refine su ?_) | ((with_reducible apply is_gd); first | refine gt ?_ | refine gf ?_ | refine gu ?_) | ((with_reducible apply is_en); refine en ?_) | (with_reducible apply c_region) | refine ws ?_ | refine x_block_other (by decide) ?_)
  (try ((with_reducible apply is_gd); first | refine gt ?_ | refine gf ?_ | refine gu ?_)); refine wl_val (r_bldS (vs := [(0, .int .i64 1)]) (rC 1 0 false (.slice none 0 0) (.slice none 0 0)) (z := rC 0 0 false (.slice none 0 0) (.slice none 0 0)) (place := (#[(0, 1), (1, 1), (2, 1), (3, 1), (4, 1)][·]?)) (by intro ps; kernel_rfl) rfl (.cons rfl rfl (by simp) (.nil rfl))) ?_
  refine kal hM (fun w b6 hM => ?_)
  refine kstw (vs := rC 1 0 false (.slice none 0 0) (.slice none 0 0)) hM (fun w hM => ?_)
  repeat (first | ((with_reducible apply is_ld); first | refine kld hM ?_ | refine kldw hM ?_ | refine kle hM ?_ | refine klew hM ?_) | ((with_reducible apply is_sto); first | (refine kst hM ?_; intro w hM) | (refine kstw hM ?_; intro w hM)) | ((with_reducible apply is_st); refine su ?_) | ((with_reducible apply is_gd); first | refine gt ?_ | refine gf ?_ | refine gu ?_) | ((with_reducible apply is_en); refine en ?_) | (with_reducible apply c_region) | refine ws ?_ | refine x_block_other (by decide) ?_)
  have hM0 : Mem [] w0 w [.cell b6 (rC 1 0 false (.slice none 0 0) (.slice none 0 0)) 25, .row ePr 32 (.slice none 0 0) (limW 0), .cell b2 (rC ses snap strict (.slice A us.length c) (.slice A2 wz.length c2)) 25] := (hM.nilRow ePr 32).sub (by (repeat constructor))
  clear hM
  
  
  refine c_loopJ (fun n l w => ∃ (i : Nat) (vw : Value), (∃ jj : Nat → Value, l = [jj 0, .int .u64 (N : Int), .pointer (some ⟨b2, 0, none⟩), jj 3, .bool false, .int .i64 (k : Int), .pointer (some ⟨b6, 0, none⟩), .int .i64 (i : Int), jj 8, jj 9, jj 10, jj 11, jj 12, jj 13, jj 14, jj 15, jj 16, jj 17, jj 18, jj 19, jj 20, jj 21, jj 22, jj 23, jj 24, jj 25, jj 26, jj 27, jj 28, jj 29, jj 30, jj 31, jj 32, jj 33, jj 34, jj 35, jj 36, jj 37, jj 38, jj 39, jj 40, jj 41, jj 42, jj 43, jj 44, jj 45, jj 46, jj 47, jj 48, jj 49, jj 50, jj 51, jj 52, jj 53, jj 54, jj 55, jj 56, jj 57, jj 58, jj 59, jj 60, jj 61, jj 62, jj 63, jj 64, jj 65, jj 66, jj 67, jj 68, jj 69, jj 70, jj 71, jj 72, jj 73, jj 74, jj 75, jj 76, jj 77, jj 78, jj 79, jj 80, jj 81, jj 82, jj 83, jj 84, jj 85, jj 86, jj 87, jj 88, jj 89, jj 90, jj 91, jj 92, jj 93, jj 94, jj 95, jj 96, jj 97, jj 98, jj 99, jj 100, jj 101, jj 102]) ∧ n + i = k ∧ Mem [] w0 w [.cell b6 (rC 1 0 false (.slice none 0 0) vw) 25, .row ePr 32 vw (limW i), .cell b2 (rC ses snap strict (.slice A us.length c) (.slice A2 wz.length c2)) 25])
    (fun l w => ∃ (vw : Value), (∃ jj : Nat → Value, l = [jj 0, .int .u64 (N : Int), .pointer (some ⟨b2, 0, none⟩), jj 3, .bool false, .int .i64 (k : Int), .pointer (some ⟨b6, 0, none⟩), jj 7, jj 8, jj 9, jj 10, jj 11, jj 12, jj 13, jj 14, jj 15, jj 16, jj 17, jj 18, jj 19, jj 20, jj 21, jj 22, jj 23, jj 24, jj 25, jj 26, jj 27, jj 28, jj 29, jj 30, jj 31, jj 32, jj 33, jj 34, jj 35, jj 36, jj 37, jj 38, jj 39, jj 40, jj 41, jj 42, jj 43, jj 44, jj 45, jj 46, jj 47, jj 48, jj 49, jj 50, jj 51, jj 52, jj 53, jj 54, jj 55, jj 56, jj 57, jj 58, jj 59, jj 60, jj 61, jj 62, jj 63, jj 64, jj 65, jj 66, jj 67, jj 68, jj 69, jj 70, jj 71, jj 72, jj 73, jj 74, jj 75, jj 76, jj 77, jj 78, jj 79, jj 80, jj 81, jj 82, jj 83, jj 84, jj 85, jj 86, jj 87, jj 88, jj 89, jj 90, jj 91, jj 92, jj 93, jj 94, jj 95, jj 96, jj 97, jj 98, jj 99, jj 100, jj 101, jj 102]) ∧ Mem [] w0 w [.cell b6 (rC 1 0 false (.slice none 0 0) vw) 25, .row ePr 32 vw (limW k), .cell b2 (rC ses snap strict (.slice A us.length c) (.slice A2 wz.length c2)) 25]) k
    ⟨0, _, exj rfl, rfl, hM0⟩ ?_ ?_
  · clear hM0
    rintro n l w ⟨i, vw, ⟨jj, rfl⟩, hni, hM⟩
    repeat (first | ((with_reducible apply is_ld); first | refine kld hM ?_ | refine kldw hM ?_ | refine kle hM ?_ | refine klew hM ?_) | ((with_reducible apply is_sto); first | (refine kst hM ?_; intro w hM) | (refine kstw hM ?_; intro w hM)) | ((with_reducible apply is_st); refine su ?_) | ((with_reducible apply is_gd); first | refine gt ?_ | refine gf ?_ | refine gu ?_) | ((with_reducible apply is_en); refine en ?_) | (with_reducible apply c_region) | refine ws ?_ | refine x_block_other (by decide) ?_)
    refine c_cond rfl (fun hi => ?_) (fun hi => ?_)
    · have hil : i < k := by omega
      obtain ⟨A1, c1, rfl, _⟩ := Own.form (hM.row (v := vw) (xs := limW i) (by (repeat constructor)))
      have hlen := limW_len i
      repeat (first | ((with_reducible apply is_ld); first | refine kld hM ?_ | refine kldw hM ?_ | refine kle hM ?_ | refine klew hM ?_) | ((with_reducible apply is_sto); first | (refine kst hM ?_; intro w hM) | (refine kstw hM ?_; intro w hM)) | ((with_reducible apply is_st); refine su ?_) | ((with_reducible apply is_gd); first | refine gt ?_ | refine gf ?_ | refine gu ?_) | ((with_reducible apply is_en); refine en ?_) | refine ws ?_ | refine x_block_other (by decide) ?_)
      refine c_ordY ([11, 13], [2]) [] (by kernel_rfl) (by kernel_rfl) (by kernel_rfl) (fun w hc hs => ?_)
      have hM := hM.call hc
      have hl6 := Blk.lt (hM.blk (b := b6) (by (repeat constructor)))
      (first | refine yn 0 rfl ?_ | refine ynt 0 rfl ?_ | refine ynff 0 rfl ?_)
      refine ynl 1 rfl (hM.blk (b := b6) (by (repeat constructor))) (by omega) (by simp) rfl rfl ?_
      (first | refine yn 2 rfl ?_ | refine ynt 2 rfl ?_ | refine ynff 2 rfl ?_); (first | refine yn 3 rfl ?_ | refine ynt 3 rfl ?_ | refine ynff 3 rfl ?_); (first | refine yn 4 rfl ?_ | refine ynt 4 rfl ?_ | refine ynff 4 rfl ?_)
      have h256 : 97 + i < 256 := by omega
      rw [show (97 : Int) + (i : Int) = ((UInt8.ofNat (97 + i)).toNat : Int) by
        rw [UInt8.toNat_ofNat_of_lt' h256]
        omega]
      refine wy_cont (X := Nat × Nat) (fun x N w => Mem [] w0 w [.cell b6 (rC 1 0 false (.slice none 0 0) (.slice A1 (limW i).length c1)) 25, .row ePr 32 (.slice A1 (limW i).length c1) (limW i), .cell b2 (rC ses snap strict (.slice A us.length c) (.slice A2 wz.length c2)) 25])
        (fun x l => ((((l.set 29 (.slice (some ⟨x.1, 0, none⟩) 1 1)).set 30 (.string (bst [UInt8.ofNat (97 + i)]))).set 31 (.slice (some ⟨x.2, 0, none⟩) 256 256)).set 32 (.string (bst (List.replicate 256 0)))).set 33 (.agg (ePr.f (limP i)).toArray)) #[true, true, true, true, true, true, true, true, true, true, false, false, false, false] (fuel := 4) (fun hkk => ?_) ?_
      · skip
        refine yk2 5 7 hM (by kernel_rfl) rfl rfl (fun w h0 hM => ?_) (fun w h0 hM => ?_)
        · skip
          refine kbsC (en := eU8) (vs := [u8v (UInt8.ofNat (97 + i))]) [UInt8.ofNat (97 + i)] hM (fun w b29 hc hM => ?_) (hm := by intro v hv; simp at hv; subst hv; rfl)
          refine x_wy (.inl (hc.gy h0)) rfl ?_
          refine yk2 6 7 hM (by kernel_rfl) rfl rfl (fun w h0 hM => ?_) (fun w h0 hM => ?_)
          · skip
            refine wl_val (r_b2s (hM.rowRdO (en := eU8) (v := .slice (some ⟨b29, 0, none⟩) 1 1) (xs := [UInt8.ofNat (97 + i)]) (by (repeat constructor)))) ?_
            have hc := Ch.refl [] w
            refine x_wy (.inl (hc.gy h0)) rfl ?_
            refine yk1 7 hM (by kernel_rfl) rfl (fun w h0 hM => ?_)
            refine kms8 256 hM (fun w b31 hc hM => ?_)
            refine x_wy (.inl (hc.gy h0)) rfl ?_
            refine yk1 8 hM (by kernel_rfl) rfl (fun w h0 hM => ?_)
            refine wl_val (r_b2s (hM.rowRdO (en := eU8) (v := .slice (some ⟨b31, 0, none⟩) 256 256) (xs := List.replicate 256 0) (by (repeat constructor)))) ?_
            have hc := Ch.refl [] w
            refine x_wy (.inl (hc.gy h0)) rfl ?_
            refine ynp 9 rfl (by kernel_rfl) (by kernel_rfl) (fun _ => r_bldS (vs := [(0, .string (bst [UInt8.ofNat (97 + i)])), (1, .string (bst (List.replicate 256 0)))]) (ePr.f (limP i)) (z := [.string (bst []), .string (bst []), .bool false]) (place := (#[(0, 1), (1, 1), (2, 1)][·]?)) (by intro ps; kernel_rfl) rfl (.cons rfl rfl (by simp) (.cons rfl rfl (by simp [spl, Value.cells]) (.nil rfl)))) rfl ?_
            exact hkk (b29, b31) _ _ _ (by kernel_rfl) rfl (hM.sub (by (repeat constructor)))
          · skip
            refine kms8 256 hM (fun w b31 hc hM => ?_)
            refine x_wy (.inl (hc.gy h0)) rfl ?_
            refine yk2 6 8 hM (by kernel_rfl) rfl rfl (fun w h0 hM => ?_) (fun w h0 hM => ?_)
            · skip
              refine wl_val (r_b2s (hM.rowRdO (en := eU8) (v := .slice (some ⟨b29, 0, none⟩) 1 1) (xs := [UInt8.ofNat (97 + i)]) (by (repeat constructor)))) ?_
              have hc := Ch.refl [] w
              refine x_wy (.inl (hc.gy h0)) rfl ?_
              refine yk1 8 hM (by kernel_rfl) rfl (fun w h0 hM => ?_)
              refine wl_val (r_b2s (hM.rowRdO (en := eU8) (v := .slice (some ⟨b31, 0, none⟩) 256 256) (xs := List.replicate 256 0) (by (repeat constructor)))) ?_
              have hc := Ch.refl [] w
              refine x_wy (.inl (hc.gy h0)) rfl ?_
              refine ynp 9 rfl (by kernel_rfl) (by kernel_rfl) (fun _ => r_bldS (vs := [(0, .string (bst [UInt8.ofNat (97 + i)])), (1, .string (bst (List.replicate 256 0)))]) (ePr.f (limP i)) (z := [.string (bst []), .string (bst []), .bool false]) (place := (#[(0, 1), (1, 1), (2, 1)][·]?)) (by intro ps; kernel_rfl) rfl (.cons rfl rfl (by simp) (.cons rfl rfl (by simp [spl, Value.cells]) (.nil rfl)))) rfl ?_
              exact hkk (b29, b31) _ _ _ (by kernel_rfl) rfl (hM.sub (by (repeat constructor)))
            · skip
              refine wl_val (r_b2s (hM.rowRdO (en := eU8) (v := .slice (some ⟨b31, 0, none⟩) 256 256) (xs := List.replicate 256 0) (by (repeat constructor)))) ?_
              have hc := Ch.refl [] w
              refine x_wy (.inl (hc.gy h0)) rfl ?_
              refine yk1 6 hM (by kernel_rfl) rfl (fun w h0 hM => ?_)
              refine wl_val (r_b2s (hM.rowRdO (en := eU8) (v := .slice (some ⟨b29, 0, none⟩) 1 1) (xs := [UInt8.ofNat (97 + i)]) (by (repeat constructor)))) ?_
              have hc := Ch.refl [] w
              refine x_wy (.inl (hc.gy h0)) rfl ?_
              refine ynp 9 rfl (by kernel_rfl) (by kernel_rfl) (fun _ => r_bldS (vs := [(0, .string (bst [UInt8.ofNat (97 + i)])), (1, .string (bst (List.replicate 256 0)))]) (ePr.f (limP i)) (z := [.string (bst []), .string (bst []), .bool false]) (place := (#[(0, 1), (1, 1), (2, 1)][·]?)) (by intro ps; kernel_rfl) rfl (.cons rfl rfl (by simp) (.cons rfl rfl (by simp [spl, Value.cells]) (.nil rfl)))) rfl ?_
              exact hkk (b29, b31) _ _ _ (by kernel_rfl) rfl (hM.sub (by (repeat constructor)))
        · skip
          refine kms8 256 hM (fun w b31 hc hM => ?_)
          refine x_wy (.inl (hc.gy h0)) rfl ?_
          refine yk2 5 8 hM (by kernel_rfl) rfl rfl (fun w h0 hM => ?_) (fun w h0 hM => ?_)
          · skip
            refine kbsC (en := eU8) (vs := [u8v (UInt8.ofNat (97 + i))]) [UInt8.ofNat (97 + i)] hM (fun w b29 hc hM => ?_) (hm := by intro v hv; simp at hv; subst hv; rfl)
            refine x_wy (.inl (hc.gy h0)) rfl ?_
            refine yk2 6 8 hM (by kernel_rfl) rfl rfl (fun w h0 hM => ?_) (fun w h0 hM => ?_)
            · skip
              refine wl_val (r_b2s (hM.rowRdO (en := eU8) (v := .slice (some ⟨b29, 0, none⟩) 1 1) (xs := [UInt8.ofNat (97 + i)]) (by (repeat constructor)))) ?_
              have hc := Ch.refl [] w
              refine x_wy (.inl (hc.gy h0)) rfl ?_
              refine yk1 8 hM (by kernel_rfl) rfl (fun w h0 hM => ?_)
              refine wl_val (r_b2s (hM.rowRdO (en := eU8) (v := .slice (some ⟨b31, 0, none⟩) 256 256) (xs := List.replicate 256 0) (by (repeat constructor)))) ?_
              have hc := Ch.refl [] w
              refine x_wy (.inl (hc.gy h0)) rfl ?_
              refine ynp 9 rfl (by kernel_rfl) (by kernel_rfl) (fun _ => r_bldS (vs := [(0, .string (bst [UInt8.ofNat (97 + i)])), (1, .string (bst (List.replicate 256 0)))]) (ePr.f (limP i)) (z := [.string (bst []), .string (bst []), .bool false]) (place := (#[(0, 1), (1, 1), (2, 1)][·]?)) (by intro ps; kernel_rfl) rfl (.cons rfl rfl (by simp) (.cons rfl rfl (by simp [spl, Value.cells]) (.nil rfl)))) rfl ?_
              exact hkk (b29, b31) _ _ _ (by kernel_rfl) rfl (hM.sub (by (repeat constructor)))
            · skip
              refine wl_val (r_b2s (hM.rowRdO (en := eU8) (v := .slice (some ⟨b31, 0, none⟩) 256 256) (xs := List.replicate 256 0) (by (repeat constructor)))) ?_
              have hc := Ch.refl [] w
              refine x_wy (.inl (hc.gy h0)) rfl ?_
              refine yk1 6 hM (by kernel_rfl) rfl (fun w h0 hM => ?_)
              refine wl_val (r_b2s (hM.rowRdO (en := eU8) (v := .slice (some ⟨b29, 0, none⟩) 1 1) (xs := [UInt8.ofNat (97 + i)]) (by (repeat constructor)))) ?_
              have hc := Ch.refl [] w
              refine x_wy (.inl (hc.gy h0)) rfl ?_
              refine ynp 9 rfl (by kernel_rfl) (by kernel_rfl) (fun _ => r_bldS (vs := [(0, .string (bst [UInt8.ofNat (97 + i)])), (1, .string (bst (List.replicate 256 0)))]) (ePr.f (limP i)) (z := [.string (bst []), .string (bst []), .bool false]) (place := (#[(0, 1), (1, 1), (2, 1)][·]?)) (by intro ps; kernel_rfl) rfl (.cons rfl rfl (by simp) (.cons rfl rfl (by simp [spl, Value.cells]) (.nil rfl)))) rfl ?_
              exact hkk (b29, b31) _ _ _ (by kernel_rfl) rfl (hM.sub (by (repeat constructor)))
          · skip
            refine wl_val (r_b2s (hM.rowRdO (en := eU8) (v := .slice (some ⟨b31, 0, none⟩) 256 256) (xs := List.replicate 256 0) (by (repeat constructor)))) ?_
            have hc := Ch.refl [] w
            refine x_wy (.inl (hc.gy h0)) rfl ?_
            refine yk1 5 hM (by kernel_rfl) rfl (fun w h0 hM => ?_)
            refine kbsC (en := eU8) (vs := [u8v (UInt8.ofNat (97 + i))]) [UInt8.ofNat (97 + i)] hM (fun w b29 hc hM => ?_) (hm := by intro v hv; simp at hv; subst hv; rfl)
            refine x_wy (.inl (hc.gy h0)) rfl ?_
            refine yk1 6 hM (by kernel_rfl) rfl (fun w h0 hM => ?_)
            refine wl_val (r_b2s (hM.rowRdO (en := eU8) (v := .slice (some ⟨b29, 0, none⟩) 1 1) (xs := [UInt8.ofNat (97 + i)]) (by (repeat constructor)))) ?_
            have hc := Ch.refl [] w
            refine x_wy (.inl (hc.gy h0)) rfl ?_
            refine ynp 9 rfl (by kernel_rfl) (by kernel_rfl) (fun _ => r_bldS (vs := [(0, .string (bst [UInt8.ofNat (97 + i)])), (1, .string (bst (List.replicate 256 0)))]) (ePr.f (limP i)) (z := [.string (bst []), .string (bst []), .bool false]) (place := (#[(0, 1), (1, 1), (2, 1)][·]?)) (by intro ps; kernel_rfl) rfl (.cons rfl rfl (by simp) (.cons rfl rfl (by simp [spl, Value.cells]) (.nil rfl)))) rfl ?_
            exact hkk (b29, b31) _ _ _ (by kernel_rfl) rfl (hM.sub (by (repeat constructor)))
      clear hM
      rintro ⟨b29, b31⟩ w hM
      refine wy_nf ?_
      refine yk1 10 hM (by kernel_rfl) rfl (fun w h0 hM => ?_)
      refine kbsC (en := ePr) (vs := [.agg (ePr.f (limP i)).toArray]) [limP i] hM (fun w b hc hM => ?_) (hxs := by simp [Value.cells])
      refine x_wy (.inl (hc.gy h0)) rfl ?_
      refine yk1 11 hM (by kernel_rfl) rfl (fun w h0 hM => ?_)
      have hR1 := hM.rowRdO (en := ePr) (v := .slice (some ⟨b, 0, none⟩) 1 1) (xs := [limP i]) (by (repeat constructor))
      refine kapC (en := ePr) (v := .slice A1 (limW i).length c1) (xs := limW i) (ys := [limP i]) hM hR1 (fun v7 w hs hM => ?_) (hb := by simp; omega) (h63 := by simp; omega)
      rw [← limW_succ] at hM
      refine x_wy (.inr ⟨by decide, Nat.le_trans h0 hs⟩) rfl ?_
      obtain ⟨A7, c7, rfl, _⟩ := Own.form (hM.row (v := v7) (xs := limW (i + 1)) (by (repeat constructor)))
      (first | refine yn 12 rfl ?_ | refine ynt 12 rfl ?_ | refine ynff 12 rfl ?_)
      refine yk1 13 hM (by kernel_rfl) rfl (fun w h0 hM => ?_)
      refine kstC hM (fun w hc hM => ?_)
      refine x_wy (.inr ⟨by decide, Nat.le_trans h0 hc.size⟩) rfl ?_
      refine wy_done (by kernel_rfl) (fun w hc => ?_)
      have hM := hM.call hc
      repeat (first | ((with_reducible apply is_ld); first | refine kld hM ?_ | refine kldw hM ?_ | refine kle hM ?_ | refine klew hM ?_) | ((with_reducible apply is_sto); first | (refine kst hM ?_; intro w hM) | (refine kstw hM ?_; intro w hM)) | ((with_reducible apply is_st); refine su ?_) | ((with_reducible apply is_gd); first | refine gt ?_ | refine gf ?_ | refine gu ?_) | ((with_reducible apply is_en); refine en ?_) | (with_reducible apply c_region) | refine ws ?_ | refine x_block_other (by decide) ?_)
      exact x_goes (n - 1) rfl (by omega) ⟨i + 1, _, exj rfl, by omega, hM.sub (by (repeat constructor))⟩
    · have hik : i = k := by omega
      subst hik
      repeat (first | ((with_reducible apply is_ld); first | refine kld hM ?_ | refine kldw hM ?_ | refine kle hM ?_ | refine klew hM ?_) | ((with_reducible apply is_sto); first | (refine kst hM ?_; intro w hM) | (refine kstw hM ?_; intro w hM)) | ((with_reducible apply is_st); refine su ?_) | ((with_reducible apply is_gd); first | refine gt ?_ | refine gf ?_ | refine gu ?_) | ((with_reducible apply is_en); refine en ?_) | (with_reducible apply c_region) | refine ws ?_ | refine x_block_other (by decide) ?_)
      exact outJ ⟨vw, exj rfl, hM⟩
  · clear hM0
    rintro l w ⟨vw, ⟨jj, rfl⟩, hM⟩
    obtain ⟨A1, c1, rfl, _⟩ := Own.form (hM.row (v := vw) (xs := limW k) (by (repeat constructor)))
    repeat (first | ((with_reducible apply is_ld); first | refine kld hM ?_ | refine kldw hM ?_ | refine kle hM ?_ | refine klew hM ?_) | ((with_reducible apply is_sto); first | (refine kst hM ?_; intro w hM) | (refine kstw hM ?_; intro w hM)) | ((with_reducible apply is_st); refine su ?_) | ((with_reducible apply is_gd); first | refine gt ?_ | refine gf ?_ | refine gu ?_) | ((with_reducible apply is_en); refine en ?_) | (with_reducible apply c_region) | refine ws ?_ | refine x_block_other (by decide) ?_)
    have hX : ∀ {w}, Mem [] w0 w [.cell b6 (rC 1 0 false (.slice none 0 0) (.slice A1 (limW k).length c1)) 25, .row ePr 32 (.slice A1 (limW k).length c1) (limW k), .cell b2 (rC ses snap strict (.slice A us.length c) (.slice A2 wz.length c2)) 25] → RecM w (.slice none 0 0) (.slice A1 (limW k).length c1) [] (limW k) := fun hM => ⟨Ty.Rd.nil _ _ _ _ _, (by simp), hM.rowRdO (en := ePr) (v := .slice A1 (limW k).length c1) (xs := limW k) (by (repeat constructor))⟩
    have hX1 := hX hM
    have hsx := limW_short k
    refine kcr hM (recBytes_any 1 0 false _ _ [] (limW k) _ hX1.r hX1.u hX1.w (by intro u hu; cases hu) hsx) (fun v8 w hM => ?_)
    have hright := limW_right hk34
    have hcb : bytesB 1 0 false [] (limW k) = recB 1 0 false [] (limW k) := by
      unfold bytesB
      rw [if_pos hright]
      rfl
    have hgood : recGood 1 0 false [] (limW k) = decide (((recB 1 0 false [] (limW k)).length : Int) ≤ 8192) := by
      unfold recGood
      rw [hright, Bool.true_and]
      exact decide_eq_decide.2 (by show (recB 1 0 false [] (limW k)).length ≤ 8192 ↔ _; omega)
    have hlb := limB_len k
    have hub := recB_len (ses := 1) (snap := 0) (strict := false) (us := []) (wz := limW k) (by decide) (by decide) (right_small hright)
    have herr : decide (errR (readZ (recB 1 0 false [] (limW k))) = 0) = decide (((recB 1 0 false [] (limW k)).length : Int) ≤ 8192) := by
      by_cases q : (recB 1 0 false [] (limW k)).length ≤ 8192
      · have h1 : goodV (1, 0, false, [], limW k) = true := by
          refine (recGood_V (ses := 1) (snap := 0) (strict := false) (us := []) (wz := limW k)).symm.trans ?_
          show recGood 1 0 false [] (limW k) = true
          rw [hgood, decide_eq_true (by omega)]
        have h2 := readZ_comp h1
        rw [recD_undat] at h2
        have h3 : readZ (recB 1 0 false [] (limW k)) = some (1, 0, false, [], limW k) := h2
        rw [h3, decide_eq_true (by omega : ((recB 1 0 false [] (limW k)).length : Int) ≤ 8192)]
        rfl
      · rw [readZ_long (by omega), decide_eq_false (by omega : ¬ ((recB 1 0 false [] (limW k)).length : Int) ≤ 8192)]
        rfl
    rw [hcb] at hM
    generalize recB 1 0 false [] (limW k) = cb at hM hgood hlb hub herr
    clear hcb
    obtain ⟨A8, c8, rfl, _⟩ := Own.form (hM.row (v := v8) (xs := cb) (by (repeat constructor)))
    repeat (first | ((with_reducible apply is_ld); first | refine kld hM ?_ | refine kldw hM ?_ | refine kle hM ?_ | refine klew hM ?_) | ((with_reducible apply is_sto); first | (refine kst hM ?_; intro w hM) | (refine kstw hM ?_; intro w hM)) | ((with_reducible apply is_st); refine su ?_) | ((with_reducible apply is_gd); first | refine gt ?_ | refine gf ?_ | refine gu ?_) | ((with_reducible apply is_en); refine en ?_) | (with_reducible apply c_region) | refine ws ?_ | refine x_block_other (by decide) ?_)
    refine ca (recRead_any _ cb _ (hM.rowRdO (en := eU8) (v := .slice A8 cb.length c8) (by (repeat constructor)))) ?_
    rintro _ w1 ⟨vr1, vw1, us1, rfl, hd1, hK1⟩
    have hm1 := rows_recM hK1
    obtain ⟨Ar1, cr1, rfl⟩ := hm1.r.form
    obtain ⟨Aw1, cw1, rfl⟩ := hm1.w.form
    clear hm1
    have hM := hM.call hK1.ch
    clear hK1
    obtain ⟨⟨ses1, snap1, strict1, ds1, wz1⟩, hrs⟩ : ∃ x, resR (readZ cb) = x := ⟨_, rfl⟩
    rw [hrs] at hd1 ⊢
    simp only at hd1 ⊢
    generalize errR (readZ cb) = e1 at herr ⊢
    repeat (first | ((with_reducible apply is_ld); first | refine kld hM ?_ | refine kldw hM ?_ | refine kle hM ?_ | refine klew hM ?_) | ((with_reducible apply is_sto); first | (refine kst hM ?_; intro w hM) | (refine kstw hM ?_; intro w hM)) | ((with_reducible apply is_st); refine su ?_) | ((with_reducible apply is_gd); first | refine gt ?_ | refine gf ?_ | refine gu ?_) | ((with_reducible apply is_en); refine en ?_) | (with_reducible apply c_region) | refine ws ?_ | refine x_block_other (by decide) ?_)
    refine kal hM (fun w b9 hM => ?_)
    refine kstw (vs := rC ses1 snap1 strict1 (.slice Ar1 (us1.map (fun u : RR × List Pr => u.1)).length cr1) (.slice Aw1 wz1.length cw1)) hM (fun w hM => ?_)
    repeat (first | ((with_reducible apply is_ld); first | refine kld hM ?_ | refine kldw hM ?_ | refine kle hM ?_ | refine klew hM ?_) | ((with_reducible apply is_sto); first | (refine kst hM ?_; intro w hM) | (refine kstw hM ?_; intro w hM)) | ((with_reducible apply is_st); refine su ?_) | ((with_reducible apply is_gd); first | refine gt ?_ | refine gf ?_ | refine gu ?_) | ((with_reducible apply is_en); refine en ?_) | (with_reducible apply c_region) | refine ws ?_ | refine x_block_other (by decide) ?_)
    have hX2 := hX (hM.sub (by (repeat constructor)))
    refine kca hM (recGood_any 1 0 false _ _ [] (limW k) _ hX2.r hX2.u hX2.w (by intro u hu; cases hu) hsx) (fun w hM => ?_)
    rw [hgood]
    repeat (first | ((with_reducible apply is_ld); first | refine kld hM ?_ | refine kldw hM ?_ | refine kle hM ?_ | refine klew hM ?_) | ((with_reducible apply is_sto); first | (refine kst hM ?_; intro w hM) | (refine kstw hM ?_; intro w hM)) | ((with_reducible apply is_st); refine su ?_) | ((with_reducible apply is_gd); first | refine gt ?_ | refine gf ?_ | refine gu ?_) | ((with_reducible apply is_en); refine en ?_) | (with_reducible apply c_region) | refine ws ?_ | refine x_block_other (by decide) ?_)
    (try ((with_reducible apply is_gd); first | refine gt ?_ | refine gf ?_ | refine gu ?_)); refine wl_val (r_neqbs (a := decide ((cb.length : Int) ≤ 8192)) rfl rfl) ?_
    repeat (first | ((with_reducible apply is_ld); first | refine kld hM ?_ | refine kldw hM ?_ | refine kle hM ?_ | refine klew hM ?_) | ((with_reducible apply is_sto); first | (refine kst hM ?_; intro w hM) | (refine kstw hM ?_; intro w hM)) | ((with_reducible apply is_st); refine su ?_) | ((with_reducible apply is_gd); first | refine gt ?_ | refine gf ?_ | refine gu ?_) | ((with_reducible apply is_en); refine en ?_) | (with_reducible apply c_region) | refine ws ?_ | refine x_block_other (by decide) ?_)
    rw [herr]
    (try ((with_reducible apply is_gd); first | refine gt ?_ | refine gf ?_ | refine gu ?_)); refine wl_val (r_neqbs (a := decide ((cb.length : Int) ≤ 8192)) rfl rfl) ?_
    repeat (first | ((with_reducible apply is_ld); first | refine kld hM ?_ | refine kldw hM ?_ | refine kle hM ?_ | refine klew hM ?_) | ((with_reducible apply is_sto); first | (refine kst hM ?_; intro w hM) | (refine kstw hM ?_; intro w hM)) | ((with_reducible apply is_st); refine su ?_) | ((with_reducible apply is_gd); first | refine gt ?_ | refine gf ?_ | refine gu ?_) | ((with_reducible apply is_en); refine en ?_) | (with_reducible apply c_region) | refine ws ?_ | refine x_block_other (by decide) ?_)
    rw [decide_eq_false (by omega : ¬ ((cb.length : Int) < 256 * (k : Int)))]
    repeat (first | ((with_reducible apply is_ld); first | refine kld hM ?_ | refine kldw hM ?_ | refine kle hM ?_ | refine klew hM ?_) | ((with_reducible apply is_sto); first | (refine kst hM ?_; intro w hM) | (refine kstw hM ?_; intro w hM)) | ((with_reducible apply is_st); refine su ?_) | ((with_reducible apply is_gd); first | refine gt ?_ | refine gf ?_ | refine gu ?_) | ((with_reducible apply is_en); refine en ?_) | (with_reducible apply c_region) | refine ws ?_ | refine x_block_other (by decide) ?_)
    refine c_condb rfl (fun h => by cases h) (fun _ => ?_)
    clear hgood herr
    repeat (first | ((with_reducible apply is_ld); first | refine kld hM ?_ | refine kldw hM ?_ | refine kle hM ?_ | refine klew hM ?_) | ((with_reducible apply is_sto); first | (refine kst hM ?_; intro w hM) | (refine kstw hM ?_; intro w hM)) | ((with_reducible apply is_st); refine su ?_) | ((with_reducible apply is_gd); first | refine gt ?_ | refine gf ?_ | refine gu ?_) | ((with_reducible apply is_en); refine en ?_) | (with_reducible apply c_region) | refine ws ?_ | refine x_block_other (by decide) ?_)
    have hA1 := hA.ch hM.ch
    refine ca (light_any ses snap strict _ _ us wz _ hA1 hk hb) ?_
    rintro _ w2 ⟨⟨l1, rfl, hl1⟩, hc⟩
    have hM := hM.call hc
    cases l1 with
    | false =>
      repeat (first | ((with_reducible apply is_ld); first | refine kld hM ?_ | refine kldw hM ?_ | refine kle hM ?_ | refine klew hM ?_) | ((with_reducible apply is_sto); first | (refine kst hM ?_; intro w hM) | (refine kstw hM ?_; intro w hM)) | ((with_reducible apply is_st); refine su ?_) | ((with_reducible apply is_gd); first | refine gt ?_ | refine gf ?_ | refine gu ?_) | ((with_reducible apply is_en); refine en ?_) | (with_reducible apply c_region) | refine ws ?_ | refine x_block_other (by decide) ?_)
      refine c_condb rfl (fun _ => ?_) (fun h => by cases h)
      repeat (first | ((with_reducible apply is_ld); first | refine kld hM ?_ | refine kldw hM ?_ | refine kle hM ?_ | refine klew hM ?_) | ((with_reducible apply is_sto); first | (refine kst hM ?_; intro w hM) | (refine kstw hM ?_; intro w hM)) | ((with_reducible apply is_st); refine su ?_) | ((with_reducible apply is_gd); first | refine gt ?_ | refine gf ?_ | refine gu ?_) | ((with_reducible apply is_en); refine en ?_) | (with_reducible apply c_region) | refine ws ?_ | refine x_block_other (by decide) ?_)
      refine kca hM (lives_any _) (fun w hM => ?_)
      repeat (first | ((with_reducible apply is_ld); first | refine kld hM ?_ | refine kldw hM ?_ | refine kle hM ?_ | refine klew hM ?_) | ((with_reducible apply is_sto); first | (refine kst hM ?_; intro w hM) | (refine kstw hM ?_; intro w hM)) | ((with_reducible apply is_st); refine su ?_) | ((with_reducible apply is_gd); first | refine gt ?_ | refine gf ?_ | refine gu ?_) | ((with_reducible apply is_en); refine en ?_) | (with_reducible apply c_region) | refine ws ?_ | refine x_block_other (by decide) ?_)
      exact out1 rfl ⟨rfl, hM.ch⟩
    | true =>
    have hL := hl1 rfl
    repeat (first | ((with_reducible apply is_ld); first | refine kld hM ?_ | refine kldw hM ?_ | refine kle hM ?_ | refine klew hM ?_) | ((with_reducible apply is_sto); first | (refine kst hM ?_; intro w hM) | (refine kstw hM ?_; intro w hM)) | ((with_reducible apply is_st); refine su ?_) | ((with_reducible apply is_gd); first | refine gt ?_ | refine gf ?_ | refine gu ?_) | ((with_reducible apply is_en); refine en ?_) | (with_reducible apply c_region) | refine ws ?_ | refine x_block_other (by decide) ?_)
    have hA2 := hA.ch hM.ch
    (try ((with_reducible apply is_gd); first | refine gt ?_ | refine gf ?_ | refine gu ?_)); refine kca hM (recGood_any ses snap strict _ _ us wz _ hA2.r hA2.u hA2.w hk hb) (fun w hM => ?_)
    cases hg : recGood ses snap strict us wz with
    | false =>
      repeat (first | ((with_reducible apply is_ld); first | refine kld hM ?_ | refine kldw hM ?_ | refine kle hM ?_ | refine klew hM ?_) | ((with_reducible apply is_sto); first | (refine kst hM ?_; intro w hM) | (refine kstw hM ?_; intro w hM)) | ((with_reducible apply is_st); refine su ?_) | ((with_reducible apply is_gd); first | refine gt ?_ | refine gf ?_ | refine gu ?_) | ((with_reducible apply is_en); refine en ?_) | (with_reducible apply c_region) | refine ws ?_ | refine x_block_other (by decide) ?_)
      refine c_condb rfl (fun _ => ?_) (fun h => by cases h)
      repeat (first | ((with_reducible apply is_ld); first | refine kld hM ?_ | refine kldw hM ?_ | refine kle hM ?_ | refine klew hM ?_) | ((with_reducible apply is_sto); first | (refine kst hM ?_; intro w hM) | (refine kstw hM ?_; intro w hM)) | ((with_reducible apply is_st); refine su ?_) | ((with_reducible apply is_gd); first | refine gt ?_ | refine gf ?_ | refine gu ?_) | ((with_reducible apply is_en); refine en ?_) | (with_reducible apply c_region) | refine ws ?_ | refine x_block_other (by decide) ?_)
      refine kca hM (lives_any _) (fun w hM => ?_)
      repeat (first | ((with_reducible apply is_ld); first | refine kld hM ?_ | refine kldw hM ?_ | refine kle hM ?_ | refine klew hM ?_) | ((with_reducible apply is_sto); first | (refine kst hM ?_; intro w hM) | (refine kstw hM ?_; intro w hM)) | ((with_reducible apply is_st); refine su ?_) | ((with_reducible apply is_gd); first | refine gt ?_ | refine gf ?_ | refine gu ?_) | ((with_reducible apply is_en); refine en ?_) | (with_reducible apply c_region) | refine ws ?_ | refine x_block_other (by decide) ?_)
      exact out1 rfl ⟨rfl, hM.ch⟩
    | true =>
    repeat (first | ((with_reducible apply is_ld); first | refine kld hM ?_ | refine kldw hM ?_ | refine kle hM ?_ | refine klew hM ?_) | ((with_reducible apply is_sto); first | (refine kst hM ?_; intro w hM) | (refine kstw hM ?_; intro w hM)) | ((with_reducible apply is_st); refine su ?_) | ((with_reducible apply is_gd); first | refine gt ?_ | refine gf ?_ | refine gu ?_) | ((with_reducible apply is_en); refine en ?_) | (with_reducible apply c_region) | refine ws ?_ | refine x_block_other (by decide) ?_)
    refine c_condb rfl (fun h => by cases h) (fun _ => ?_)
    have hM : Mem [] w0 w [.cell b2 (rC ses snap strict (.slice A us.length c) (.slice A2 wz.length c2)) 25] := hM.sub (by (repeat constructor))
    repeat (first | ((with_reducible apply is_ld); first | refine kld hM ?_ | refine kldw hM ?_ | refine kle hM ?_ | refine klew hM ?_) | ((with_reducible apply is_sto); first | (refine kst hM ?_; intro w hM) | (refine kstw hM ?_; intro w hM)) | ((with_reducible apply is_st); refine su ?_) | ((with_reducible apply is_gd); first | refine gt ?_ | refine gf ?_ | refine gu ?_) | ((with_reducible apply is_en); refine en ?_) | refine ws ?_ | refine x_block_other (by decide) ?_)
    refine c_ordY ([], []) [] (by kernel_rfl) (by kernel_rfl) (by kernel_rfl) (fun w hc hs => ?_)
    have hM := hM.call hc
    have hl2 := Blk.lt (hM.blk (b := b2) (by (repeat constructor)))
    refine ynlr 0 rfl (hM.blk (b := b2) (by (repeat constructor))) (by omega) (by simp) rfl rfl rfl ?_
    refine ynlr 1 rfl (hM.blk (b := b2) (by (repeat constructor))) (by omega) (by simp) rfl rfl rfl ?_
    refine ynlr 2 rfl (hM.blk (b := b2) (by (repeat constructor))) (by omega) (by simp) rfl rfl rfl ?_
    refine wy_cont (X := Nat × Nat × Nat) (fun x N w => (N ≤ x.1 ∧ N ≤ x.2.1 ∧ N ≤ x.2.2) ∧ Mem [] w0 w [.cell x.1 (rC 0 0 false (.slice none 0 0) (.slice none 0 0)) 25, .cell x.2.1 (rC 0 0 false (.slice none 0 0) (.slice none 0 0)) 25, .cell x.2.2 (rC 0 0 false (.slice none 0 0) (.slice none 0 0)) 25, .cell b2 (rC ses snap strict (.slice A us.length c) (.slice A2 wz.length c2)) 25])
      (fun x l => ((l.set 11 (.pointer (some ⟨x.1, 0, none⟩))).set 12 (.pointer (some ⟨x.2.1, 0, none⟩))).set 13 (.pointer (some ⟨x.2.2, 0, none⟩))) #[true, true, true, true, true, true, false, false, false] (fuel := 3) (fun hkk => ?_) ?_
    · skip
      refine yk3 3 4 5 hM (by kernel_rfl) rfl rfl rfl (fun w h0 hM => ?_) (fun w h0 hM => ?_) (fun w h0 hM => ?_)
      · skip
        refine kalN hM (fun w b11 hb11 hc hM => ?_)
        have hb11 := Nat.le_trans h0 hb11
        refine x_wy (.inl (hc.gy h0)) rfl ?_
        refine yk2 4 5 hM (by kernel_rfl) rfl rfl (fun w h0 hM => ?_) (fun w h0 hM => ?_)
        · skip
          refine kalN hM (fun w b12 hb12 hc hM => ?_)
          have hb12 := Nat.le_trans h0 hb12
          refine x_wy (.inl (hc.gy h0)) rfl ?_
          refine yk1 5 hM (by kernel_rfl) rfl (fun w h0 hM => ?_)
          refine kalN hM (fun w b13 hb13 hc hM => ?_)
          have hb13 := Nat.le_trans h0 hb13
          refine x_wy (.inl (hc.gy h0)) rfl ?_
          exact hkk (b11, b12, b13) _ _ _ (by kernel_rfl) rfl ⟨⟨hb11, hb12, hb13⟩, hM.sub (by (repeat constructor))⟩
        · skip
          refine kalN hM (fun w b13 hb13 hc hM => ?_)
          have hb13 := Nat.le_trans h0 hb13
          refine x_wy (.inl (hc.gy h0)) rfl ?_
          refine yk1 4 hM (by kernel_rfl) rfl (fun w h0 hM => ?_)
          refine kalN hM (fun w b12 hb12 hc hM => ?_)
          have hb12 := Nat.le_trans h0 hb12
          refine x_wy (.inl (hc.gy h0)) rfl ?_
          exact hkk (b11, b12, b13) _ _ _ (by kernel_rfl) rfl ⟨⟨hb11, hb12, hb13⟩, hM.sub (by (repeat constructor))⟩
      · skip
        refine kalN hM (fun w b12 hb12 hc hM => ?_)
        have hb12 := Nat.le_trans h0 hb12
        refine x_wy (.inl (hc.gy h0)) rfl ?_
        refine yk2 3 5 hM (by kernel_rfl) rfl rfl (fun w h0 hM => ?_) (fun w h0 hM => ?_)
        · skip
          refine kalN hM (fun w b11 hb11 hc hM => ?_)
          have hb11 := Nat.le_trans h0 hb11
          refine x_wy (.inl (hc.gy h0)) rfl ?_
          refine yk1 5 hM (by kernel_rfl) rfl (fun w h0 hM => ?_)
          refine kalN hM (fun w b13 hb13 hc hM => ?_)
          have hb13 := Nat.le_trans h0 hb13
          refine x_wy (.inl (hc.gy h0)) rfl ?_
          exact hkk (b11, b12, b13) _ _ _ (by kernel_rfl) rfl ⟨⟨hb11, hb12, hb13⟩, hM.sub (by (repeat constructor))⟩
        · skip
          refine kalN hM (fun w b13 hb13 hc hM => ?_)
          have hb13 := Nat.le_trans h0 hb13
          refine x_wy (.inl (hc.gy h0)) rfl ?_
          refine yk1 3 hM (by kernel_rfl) rfl (fun w h0 hM => ?_)
          refine kalN hM (fun w b11 hb11 hc hM => ?_)
          have hb11 := Nat.le_trans h0 hb11
          refine x_wy (.inl (hc.gy h0)) rfl ?_
          exact hkk (b11, b12, b13) _ _ _ (by kernel_rfl) rfl ⟨⟨hb11, hb12, hb13⟩, hM.sub (by (repeat constructor))⟩
      · skip
        refine kalN hM (fun w b13 hb13 hc hM => ?_)
        have hb13 := Nat.le_trans h0 hb13
        refine x_wy (.inl (hc.gy h0)) rfl ?_
        refine yk2 3 4 hM (by kernel_rfl) rfl rfl (fun w h0 hM => ?_) (fun w h0 hM => ?_)
        · skip
          refine kalN hM (fun w b11 hb11 hc hM => ?_)
          have hb11 := Nat.le_trans h0 hb11
          refine x_wy (.inl (hc.gy h0)) rfl ?_
          refine yk1 4 hM (by kernel_rfl) rfl (fun w h0 hM => ?_)
          refine kalN hM (fun w b12 hb12 hc hM => ?_)
          have hb12 := Nat.le_trans h0 hb12
          refine x_wy (.inl (hc.gy h0)) rfl ?_
          exact hkk (b11, b12, b13) _ _ _ (by kernel_rfl) rfl ⟨⟨hb11, hb12, hb13⟩, hM.sub (by (repeat constructor))⟩
        · skip
          refine kalN hM (fun w b12 hb12 hc hM => ?_)
          have hb12 := Nat.le_trans h0 hb12
          refine x_wy (.inl (hc.gy h0)) rfl ?_
          refine yk1 3 hM (by kernel_rfl) rfl (fun w h0 hM => ?_)
          refine kalN hM (fun w b11 hb11 hc hM => ?_)
          have hb11 := Nat.le_trans h0 hb11
          refine x_wy (.inl (hc.gy h0)) rfl ?_
          exact hkk (b11, b12, b13) _ _ _ (by kernel_rfl) rfl ⟨⟨hb11, hb12, hb13⟩, hM.sub (by (repeat constructor))⟩
    clear hM
    rintro ⟨b11, b12, b13⟩ w ⟨⟨hb11, hb12, hb13⟩, hM⟩
    simp only at hb11 hb12 hb13 hM
    refine wy_nf ?_
    refine yk1 6 hM (by kernel_rfl) rfl (fun w h0 hM => ?_)
    refine kstwC (vs := rC ses snap strict (.slice A us.length c) (.slice A2 wz.length c2)) hM (fun w hc hM => ?_)
    refine x_wy (.inl (hc.bwn h0 (.inl hb11))) rfl ?_
    refine yk1 7 hM (by kernel_rfl) rfl (fun w h0 hM => ?_)
    refine kstwC (vs := rC ses snap strict (.slice A us.length c) (.slice A2 wz.length c2)) hM (fun w hc hM => ?_)
    refine x_wy (.inl (hc.bwn h0 (.inl hb12))) rfl ?_
    refine yk1 8 hM (by kernel_rfl) rfl (fun w h0 hM => ?_)
    refine kstwC (vs := rC ses snap strict (.slice A us.length c) (.slice A2 wz.length c2)) hM (fun w hc hM => ?_)
    refine x_wy (.inl (hc.bwn h0 (.inl hb13))) rfl ?_
    refine wy_done (by kernel_rfl) (fun w hc => ?_)
    have hM := hM.call hc
    repeat (first | ((with_reducible apply is_ld); first | refine kld hM ?_ | refine kldw hM ?_ | refine kle hM ?_ | refine klew hM ?_) | ((with_reducible apply is_sto); first | (refine kst hM ?_; intro w hM) | (refine kstw hM ?_; intro w hM)) | ((with_reducible apply is_st); refine su ?_) | ((with_reducible apply is_gd); first | refine gt ?_ | refine gf ?_ | refine gu ?_) | ((with_reducible apply is_en); refine en ?_) | (with_reducible apply c_region) | refine ws ?_ | refine x_block_other (by decide) ?_)
    have hw100 := hL.2.1
    refine kbs (en := ePr) (vs := []) [] hM (fun w b79 hM => ?_)
    repeat (first | ((with_reducible apply is_ld); first | refine kld hM ?_ | refine kldw hM ?_ | refine kle hM ?_ | refine klew hM ?_) | ((with_reducible apply is_sto); first | (refine kst hM ?_; intro w hM) | (refine kstw hM ?_; intro w hM)) | ((with_reducible apply is_st); refine su ?_) | ((with_reducible apply is_gd); first | refine gt ?_ | refine gf ?_ | refine gu ?_) | ((with_reducible apply is_en); refine en ?_) | (with_reducible apply c_region) | refine ws ?_ | refine x_block_other (by decide) ?_)
    refine kap (en := ePr) (xs := []) (ys := wz) hM (hA.ch hM.ch).w (fun v82 w hM => ?_) (hb := by simp; omega) (h63 := by simp; omega)
    rw [List.nil_append] at hM
    obtain ⟨A82, c82, rfl, _⟩ := Own.form (hM.row (v := v82) (xs := wz) (by (repeat constructor)))
    repeat (first | ((with_reducible apply is_ld); first | refine kld hM ?_ | refine kldw hM ?_ | refine kle hM ?_ | refine klew hM ?_) | ((with_reducible apply is_sto); first | (refine kst hM ?_; intro w hM) | (refine kstw hM ?_; intro w hM)) | ((with_reducible apply is_st); refine su ?_) | ((with_reducible apply is_gd); first | refine gt ?_ | refine gf ?_ | refine gu ?_) | ((with_reducible apply is_en); refine en ?_) | (with_reducible apply c_region) | refine ws ?_ | refine x_block_other (by decide) ?_)
    (try ((with_reducible apply is_gd); first | refine gt ?_ | refine gf ?_ | refine gu ?_)); refine wl_val (r_bldS (vs := []) (ePr.f ([], [], false)) (z := [.string (bst []), .string (bst []), .bool false]) (place := (#[(0, 1), (1, 1), (2, 1)][·]?)) (by intro ps; kernel_rfl) rfl (.nil rfl)) ?_
    refine kpu (en := ePr) ([], [], false) hM (fun _ v85 w hM => ?_)
    obtain ⟨A85, c85, rfl, _⟩ := Own.form (hM.row (v := v85) (xs := wz ++ [([], [], false)]) (by (repeat constructor)))
    repeat (first | ((with_reducible apply is_ld); first | refine kld hM ?_ | refine kldw hM ?_ | refine kle hM ?_ | refine klew hM ?_) | ((with_reducible apply is_sto); first | (refine kst hM ?_; intro w hM) | (refine kstw hM ?_; intro w hM)) | ((with_reducible apply is_st); refine su ?_) | ((with_reducible apply is_gd); first | refine gt ?_ | refine gf ?_ | refine gu ?_) | ((with_reducible apply is_en); refine en ?_) | (with_reducible apply c_region) | refine ws ?_ | refine x_block_other (by decide) ?_)
    have hA3 := hA.ch hM.ch
    refine kca hM (recGood_any 9 snap strict _ _ us wz _ hA3.r hA3.u hA3.w hk hb) (fun w hM => ?_)
    rw [recGood_nine]
    repeat (first | ((with_reducible apply is_ld); first | refine kld hM ?_ | refine kldw hM ?_ | refine kle hM ?_ | refine klew hM ?_) | ((with_reducible apply is_sto); first | (refine kst hM ?_; intro w hM) | (refine kstw hM ?_; intro w hM)) | ((with_reducible apply is_st); refine su ?_) | ((with_reducible apply is_gd); first | refine gt ?_ | refine gf ?_ | refine gu ?_) | ((with_reducible apply is_en); refine en ?_) | (with_reducible apply c_region) | refine ws ?_ | refine x_block_other (by decide) ?_)
    have hA4 := hA.ch hM.ch
    (try ((with_reducible apply is_gd); first | refine gt ?_ | refine gf ?_ | refine gu ?_)); refine kca hM (recGood_any ses (-1) strict _ _ us wz _ hA4.r hA4.u hA4.w hk hb) (fun w hM => ?_)
    rw [recGood_neg]
    repeat (first | ((with_reducible apply is_ld); first | refine kld hM ?_ | refine kldw hM ?_ | refine kle hM ?_ | refine klew hM ?_) | ((with_reducible apply is_sto); first | (refine kst hM ?_; intro w hM) | (refine kstw hM ?_; intro w hM)) | ((with_reducible apply is_st); refine su ?_) | ((with_reducible apply is_gd); first | refine gt ?_ | refine gf ?_ | refine gu ?_) | ((with_reducible apply is_en); refine en ?_) | (with_reducible apply c_region) | refine ws ?_ | refine x_block_other (by decide) ?_)
    have hA5 := hA.ch hM.ch
    (try ((with_reducible apply is_gd); first | refine gt ?_ | refine gf ?_ | refine gu ?_)); refine kca hM (recGood_any ses snap strict _ _ us (wz ++ [([], [], false)]) _ hA5.r hA5.u (hM.rowRdO (en := ePr) (v := .slice A85 (wz ++ [([], [], false)]).length c85) (by (repeat constructor))) hk (by
      intro p hp
      rcases List.mem_append.1 hp with hp | hp
      · exact hb p hp
      · rw [List.mem_singleton.1 hp]
        exact ⟨by decide, by decide⟩)) (fun w hM => ?_)
    rw [recGood_empty]
    repeat (first | ((with_reducible apply is_ld); first | refine kld hM ?_ | refine kldw hM ?_ | refine kle hM ?_ | refine klew hM ?_) | ((with_reducible apply is_sto); first | (refine kst hM ?_; intro w hM) | (refine kstw hM ?_; intro w hM)) | ((with_reducible apply is_st); refine su ?_) | ((with_reducible apply is_gd); first | refine gt ?_ | refine gf ?_ | refine gu ?_) | ((with_reducible apply is_en); refine en ?_) | (with_reducible apply c_region) | refine ws ?_ | refine x_block_other (by decide) ?_)
    (try ((with_reducible apply is_gd); first | refine gt ?_ | refine gf ?_ | refine gu ?_)); refine kca hM (lives_any _) (fun w hM => ?_)
    repeat (first | ((with_reducible apply is_ld); first | refine kld hM ?_ | refine kldw hM ?_ | refine kle hM ?_ | refine klew hM ?_) | ((with_reducible apply is_sto); first | (refine kst hM ?_; intro w hM) | (refine kstw hM ?_; intro w hM)) | ((with_reducible apply is_st); refine su ?_) | ((with_reducible apply is_gd); first | refine gt ?_ | refine gf ?_ | refine gu ?_) | ((with_reducible apply is_en); refine en ?_) | (with_reducible apply c_region) | refine ws ?_ | refine x_block_other (by decide) ?_)
    exact out1 rfl ⟨rfl, hM.ch⟩
end Go.Proofs.Ytnkkeehoejmcnaa

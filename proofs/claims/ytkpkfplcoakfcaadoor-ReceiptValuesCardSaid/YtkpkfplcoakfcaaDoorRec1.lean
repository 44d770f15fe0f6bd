/- Walks: a record's bytes, both. -/
import Derived.Test.YtkpkfplcoakfcaaDoorPack
set_option linter.unusedVariables false
set_option linter.unusedSimpArgs false
namespace Go.Proofs.YtkpkfplcoakfcaaDoor
open Go Go.RowKit Go.Proofs.E
attribute [local irreducible] Go.wpList Go.Code.wp Go.Proofs.E.exec Go.Proofs.E.wpLexG
abbrev Bs := List UInt8
abbrev Pr := Bs × Bs × Bool
abbrev ePr : En Pr := { f := fun p => [.string (bst p.1), .string (bst p.2.1), .bool p.2.2], n := 3, hl := fun _ => rfl, h1 := fun _ u hu => by simp at hu; rcases hu with rfl | rfl | rfl <;> rfl }
abbrev RR := Bool × Bs × Bs × SlV
abbrev eRr : En RR := { f := fun r => [.bool r.1, .string (bst r.2.1), .string (bst r.2.2.1), slv r.2.2.2], n := 4, hl := fun _ => rfl, h1 := fun _ u hu => by simp at hu; rcases hu with rfl | rfl | rfl | rfl <;> rfl }
abbrev eNat : En Nat := { f := fun n => [.int .i64 (n : Int)], n := 1, hl := fun _ => rfl, h1 := fun _ u hu => by simp at hu; subst hu; rfl }
abbrev rC (ses snap : Int) (strict : Bool) (vr vw : Value) : List Value := [.int .i64 ses, .int .i64 snap, .bool strict, vr, vw]
def pairB (p : Pr) : Bs := strB p.1 ++ strB p.2.1
def readB (u : RR × List Pr) : Bs := flagB u.1.1 ++ (strB u.1.2.1 ++ ((if u.1.1 = true then strB u.1.2.2.1 else []) ++ (numB u.2.length ++ u.2.flatMap pairB)))
def writeB (p : Pr) : Bs := strB p.1 ++ (flagB p.2.2 ++ (if p.2.2 = true then [] else strB p.2.1))
def recB (ses snap : Nat) (strict : Bool) (us : List (RR × List Pr)) (wz : List Pr) : Bs :=
  numB ses ++ (numB snap ++ (flagB strict ++ (numB us.length ++ (us.flatMap readB ++ (numB wz.length ++ wz.flatMap writeB)))))
def SmallP (p : Pr) : Prop := p.1.length ≤ 300 ∧ p.2.1.length ≤ 300
def SmallR (us : List (RR × List Pr)) (wz : List Pr) : Prop :=
  us.length ≤ 100 ∧ wz.length ≤ 100 ∧ (∀ u ∈ us, u.1.2.1.length ≤ 300 ∧ u.1.2.2.1.length ≤ 300 ∧ u.2.length ≤ 300 ∧ ∀ p ∈ u.2, SmallP p) ∧ ∀ p ∈ wz, SmallP p
theorem flat_le {α : Type} {f : α → Bs} {C : Nat} : ∀ (l : List α), (∀ x ∈ l, (f x).length ≤ C) → (l.flatMap f).length ≤ l.length * C
  | [], _ => by simp
  | x :: l, h => by
    have h1 := h x (by simp)
    have h2 := flat_le l (fun y hy => h y (by simp [hy]))
    rw [List.flatMap_cons, List.length_append, List.length_cons, Nat.succ_mul]
    omega
theorem strB_len {s : Bs} (h : s.length ≤ 300) : (strB s).length ≤ 309 := by
  unfold strB
  have := numB_len (n := s.length) (by omega)
  rw [List.length_append]
  omega
theorem pairB_len {p : Pr} (h : SmallP p) : (pairB p).length ≤ 618 := by
  unfold pairB
  have h1 := strB_len h.1
  have h2 := strB_len h.2
  rw [List.length_append]
  omega
theorem flagB_len (f : Bool) : (flagB f).length = 1 := rfl
theorem writeB_len {p : Pr} (h : SmallP p) : (writeB p).length ≤ 619 := by
  unfold writeB
  have h1 := strB_len h.1
  have h2 := strB_len h.2
  rw [List.length_append, List.length_append, flagB_len]
  split
  · simp
    omega
  · omega
theorem readB_len {u : RR × List Pr} (h : u.1.2.1.length ≤ 300 ∧ u.1.2.2.1.length ≤ 300 ∧ u.2.length ≤ 300 ∧ ∀ p ∈ u.2, SmallP p) : (readB u).length ≤ 186500 := by
  unfold readB
  have h1 := strB_len h.1
  have h2 := strB_len h.2.1
  have h3 := numB_len (n := u.2.length) (by omega)
  have h4 := flat_le (f := pairB) (C := 618) u.2 (fun p hp => pairB_len (h.2.2.2 p hp))
  have h5 : u.2.length * 618 ≤ 300 * 618 := Nat.mul_le_mul_right _ h.2.2.1
  rw [List.length_append, List.length_append, List.length_append, List.length_append, flagB_len]
  split
  · omega
  · simp only [List.length_nil]
    omega
theorem take_flat {α : Type} {f : α → Bs} {l : List α} {j : Nat} {x : α} (h : l[j]? = some x) : (l.take (j + 1)).flatMap f = (l.take j).flatMap f ++ f x := by
  rw [List.take_add_one, h, List.flatMap_append]
  simp
theorem take_le {α : Type} {f : α → Bs} {l : List α} {C N : Nat} (j : Nat) (h : ∀ x ∈ l, (f x).length ≤ C) (hN : l.length ≤ N) : ((l.take j).flatMap f).length ≤ N * C := by
  have h1 := flat_le (f := f) (C := C) (l.take j) (fun x hx => h x (List.mem_of_mem_take hx))
  have h2 : (l.take j).length ≤ l.length := by rw [List.length_take]; omega
  exact Nat.le_trans h1 (Nat.mul_le_mul_right _ (by omega))
set_option maxHeartbeats 4000000 in
theorem nums_any {bs : Bs} (v vx : Value) (xs : List Nat) (w0 : World) (hR : tU8.Rd [] w0 v bs) (hX : (Ty.enc eNat).Rd [] w0 vx xs) (hb : bs.length ≤ 70368744000000) (hx : ∀ x ∈ xs, x < 2 ^ 63) (hl : xs.length ≤ 10) (h0 : 0 < xs.length) :
    Calls Tryd.prog 100 #[v, vx] w0 (Ret fun u w' => Ch [] w0 w' ∧ Go.Proofs.E.Own eU8 w' w0.heap.size 5 u (bs ++ xs.flatMap numB)) := by
  have hM := Mem.start w0
  obtain ⟨A, c, rfl⟩ := hX.form
  refine enter [v, .slice A xs.length c, undef, undef, undef, undef, undef, undef, undef, undef, undef, undef, undef, undef, undef, undef, undef, undef, undef] Tryd.func100 rfl rfl ?_
  repeat (first | ((with_reducible apply is_ld); first | refine kld hM ?_ | refine kldw hM ?_ | refine kle hM ?_ | refine klew hM ?_) | ((with_reducible apply is_sto); first | (refine kst hM ?_; intro w hM) | (refine kstw hM ?_; intro w hM)) | ((with_reducible apply is_st); refine su ?_) | ((with_reducible apply is_gd); first | refine gt ?_ | refine gf ?_ | refine gu ?_) | ((with_reducible apply is_en); refine en ?_) | (with_reducible apply c_region) | refine ws ?_ | refine x_block_other (by decide) ?_)
  
  refine c_loop (fun n l w => ∃ (j : Nat) (v' : Value) (L : List As), (∃ jj : Nat → Value, l = [v', jj 1, jj 2, jj 3, jj 4, jj 5, jj 6, .slice A xs.length c, .int .i64 (xs.length : Int), .int .i64 (j : Int), jj 10, jj 11, jj 12, jj 13, jj 14, jj 15, jj 16, jj 17, jj 18]) ∧ n + j = xs.length ∧ Mem [] w0 w L ∧ tU8.Rd [] w v' (bs ++ (xs.take j).flatMap numB) ∧ (j = 0 ∧ v' = v ∨ ∃ L', L = .row eU8 5 v' (bs ++ (xs.take j).flatMap numB) :: L')) xs.length
    ⟨0, v, [], exj rfl, rfl, hM, by simpa using hR, .inl ⟨rfl, rfl⟩⟩ ?_
  clear hM
  rintro n l w ⟨j, v', L, ⟨jj, rfl⟩, hnj, hM, hR', hL⟩
  have hbl := take_le (f := numB) (l := xs) (C := 9) (N := 10) j (fun x hx' => numB_len (Nat.lt_of_lt_of_le (hx x hx') (by decide))) hl
  repeat (first | ((with_reducible apply is_ld); first | refine kld hM ?_ | refine kldw hM ?_ | refine kle hM ?_ | refine klew hM ?_) | ((with_reducible apply is_sto); first | (refine kst hM ?_; intro w hM) | (refine kstw hM ?_; intro w hM)) | ((with_reducible apply is_st); refine su ?_) | ((with_reducible apply is_gd); first | refine gt ?_ | refine gf ?_ | refine gu ?_) | ((with_reducible apply is_en); refine en ?_) | (with_reducible apply c_region) | refine ws ?_ | refine x_block_other (by decide) ?_)
  refine c_cond rfl (fun hj => ?_) (fun hj => ?_)
  · repeat (first | ((with_reducible apply is_ld); first | refine kld hM ?_ | refine kldw hM ?_ | refine kle hM ?_ | refine klew hM ?_) | ((with_reducible apply is_sto); first | (refine kst hM ?_; intro w hM) | (refine kstw hM ?_; intro w hM)) | ((with_reducible apply is_st); refine su ?_) | ((with_reducible apply is_gd); first | refine gt ?_ | refine gf ?_ | refine gu ?_) | ((with_reducible apply is_en); refine en ?_) | (with_reducible apply c_region) | refine ws ?_ | refine x_block_other (by decide) ?_)
    refine kix hX (fun b o x hx' hA => ?_)
    rw [Int.toNat_natCast] at hx'
    have hxx := hx x (List.mem_of_getElem? hx')
    refine kat hM hA ?_
    repeat (first | ((with_reducible apply is_ld); first | refine kld hM ?_ | refine kldw hM ?_ | refine kle hM ?_ | refine klew hM ?_) | ((with_reducible apply is_sto); first | (refine kst hM ?_; intro w hM) | (refine kstw hM ?_; intro w hM)) | ((with_reducible apply is_st); refine su ?_) | ((with_reducible apply is_gd); first | refine gt ?_ | refine gf ?_ | refine gu ?_) | ((with_reducible apply is_en); refine en ?_) | (with_reducible apply c_region) | refine ws ?_ | refine x_block_other (by decide) ?_)
    refine kcr hM (num_any v' x w hR' (by rw [List.length_append]; omega) (by omega)) (fun v16 w hM => ?_)
    repeat (first | ((with_reducible apply is_ld); first | refine kld hM ?_ | refine kldw hM ?_ | refine kle hM ?_ | refine klew hM ?_) | ((with_reducible apply is_sto); first | (refine kst hM ?_; intro w hM) | (refine kstw hM ?_; intro w hM)) | ((with_reducible apply is_st); refine su ?_) | ((with_reducible apply is_gd); first | refine gt ?_ | refine gf ?_ | refine gu ?_) | ((with_reducible apply is_en); refine en ?_) | (with_reducible apply c_region) | refine ws ?_ | refine x_block_other (by decide) ?_)
    rw [List.append_assoc, ← take_flat hx'] at hM
    exact x_goes (n - 1) rfl (by omega) ⟨j + 1, v16, _, exj rfl, by omega, hM, hM.rowRdO (by (repeat constructor)), .inr ⟨_, rfl⟩⟩
  · rw [List.take_of_length_le (by omega)] at hR' hL
    repeat (first | ((with_reducible apply is_ld); first | refine kld hM ?_ | refine kldw hM ?_ | refine kle hM ?_ | refine klew hM ?_) | ((with_reducible apply is_sto); first | (refine kst hM ?_; intro w hM) | (refine kstw hM ?_; intro w hM)) | ((with_reducible apply is_st); refine su ?_) | ((with_reducible apply is_gd); first | refine gt ?_ | refine gf ?_ | refine gu ?_) | ((with_reducible apply is_en); refine en ?_) | (with_reducible apply c_region) | refine ws ?_ | refine x_block_other (by decide) ?_)
    rcases hL with ⟨h, _⟩ | ⟨L', rfl⟩
    · omega
    · exact out1 rfl ⟨hM.ch, hM.row (v := v') (by (repeat constructor))⟩
set_option maxHeartbeats 4000000 in
theorem texts_any {bs : Bs} (v vx : Value) (xs : List Bs) (w0 : World) (hR : tU8.Rd [] w0 v bs) (hX : (Ty.enc eBs).Rd [] w0 vx xs) (hb : bs.length ≤ 70368744000000) (hx : ∀ x ∈ xs, x.length ≤ 300) (hl : xs.length ≤ 10) (h0 : 0 < xs.length) :
    Calls Tryd.prog 101 #[v, vx] w0 (Ret fun u w' => Ch [] w0 w' ∧ Go.Proofs.E.Own eU8 w' w0.heap.size 5 u (bs ++ xs.flatMap strB)) := by
  have hM := Mem.start w0
  obtain ⟨A, c, rfl⟩ := hX.form
  refine enter [v, .slice A xs.length c, undef, undef, undef, undef, undef, undef, undef, undef, undef, undef, undef, undef, undef, undef, undef, undef] Tryd.func101 rfl rfl ?_
  repeat (first | ((with_reducible apply is_ld); first | refine kld hM ?_ | refine kldw hM ?_ | refine kle hM ?_ | refine klew hM ?_) | ((with_reducible apply is_sto); first | (refine kst hM ?_; intro w hM) | (refine kstw hM ?_; intro w hM)) | ((with_reducible apply is_st); refine su ?_) | ((with_reducible apply is_gd); first | refine gt ?_ | refine gf ?_ | refine gu ?_) | ((with_reducible apply is_en); refine en ?_) | (with_reducible apply c_region) | refine ws ?_ | refine x_block_other (by decide) ?_)
  
  refine c_loop (fun n l w => ∃ (j : Nat) (v' : Value) (L : List As), (∃ jj : Nat → Value, l = [v', jj 1, jj 2, jj 3, jj 4, jj 5, jj 6, .slice A xs.length c, .int .i64 (xs.length : Int), .int .i64 (j : Int), jj 10, jj 11, jj 12, jj 13, jj 14, jj 15, jj 16, jj 17]) ∧ n + j = xs.length ∧ Mem [] w0 w L ∧ tU8.Rd [] w v' (bs ++ (xs.take j).flatMap strB) ∧ (j = 0 ∧ v' = v ∨ ∃ L', L = .row eU8 5 v' (bs ++ (xs.take j).flatMap strB) :: L')) xs.length
    ⟨0, v, [], exj rfl, rfl, hM, by simpa using hR, .inl ⟨rfl, rfl⟩⟩ ?_
  clear hM
  rintro n l w ⟨j, v', L, ⟨jj, rfl⟩, hnj, hM, hR', hL⟩
  have hbl := take_le (f := strB) (l := xs) (C := 309) (N := 10) j (fun x hx' => strB_len (hx x hx')) hl
  repeat (first | ((with_reducible apply is_ld); first | refine kld hM ?_ | refine kldw hM ?_ | refine kle hM ?_ | refine klew hM ?_) | ((with_reducible apply is_sto); first | (refine kst hM ?_; intro w hM) | (refine kstw hM ?_; intro w hM)) | ((with_reducible apply is_st); refine su ?_) | ((with_reducible apply is_gd); first | refine gt ?_ | refine gf ?_ | refine gu ?_) | ((with_reducible apply is_en); refine en ?_) | (with_reducible apply c_region) | refine ws ?_ | refine x_block_other (by decide) ?_)
  refine c_cond rfl (fun hj => ?_) (fun hj => ?_)
  · repeat (first | ((with_reducible apply is_ld); first | refine kld hM ?_ | refine kldw hM ?_ | refine kle hM ?_ | refine klew hM ?_) | ((with_reducible apply is_sto); first | (refine kst hM ?_; intro w hM) | (refine kstw hM ?_; intro w hM)) | ((with_reducible apply is_st); refine su ?_) | ((with_reducible apply is_gd); first | refine gt ?_ | refine gf ?_ | refine gu ?_) | ((with_reducible apply is_en); refine en ?_) | (with_reducible apply c_region) | refine ws ?_ | refine x_block_other (by decide) ?_)
    refine kix hX (fun b o x hx' hA => ?_)
    rw [Int.toNat_natCast] at hx'
    have hxx := hx x (List.mem_of_getElem? hx')
    refine kat hM hA ?_
    repeat (first | ((with_reducible apply is_ld); first | refine kld hM ?_ | refine kldw hM ?_ | refine kle hM ?_ | refine klew hM ?_) | ((with_reducible apply is_sto); first | (refine kst hM ?_; intro w hM) | (refine kstw hM ?_; intro w hM)) | ((with_reducible apply is_st); refine su ?_) | ((with_reducible apply is_gd); first | refine gt ?_ | refine gf ?_ | refine gu ?_) | ((with_reducible apply is_en); refine en ?_) | (with_reducible apply c_region) | refine ws ?_ | refine x_block_other (by decide) ?_)
    refine kcr hM (str_any v' x w hR' (by rw [List.length_append]; omega) (by omega)) (fun v16 w hM => ?_)
    repeat (first | ((with_reducible apply is_ld); first | refine kld hM ?_ | refine kldw hM ?_ | refine kle hM ?_ | refine klew hM ?_) | ((with_reducible apply is_sto); first | (refine kst hM ?_; intro w hM) | (refine kstw hM ?_; intro w hM)) | ((with_reducible apply is_st); refine su ?_) | ((with_reducible apply is_gd); first | refine gt ?_ | refine gf ?_ | refine gu ?_) | ((with_reducible apply is_en); refine en ?_) | (with_reducible apply c_region) | refine ws ?_ | refine x_block_other (by decide) ?_)
    rw [List.append_assoc, ← take_flat hx'] at hM
    exact x_goes (n - 1) rfl (by omega) ⟨j + 1, v16, _, exj rfl, by omega, hM, hM.rowRdO (by (repeat constructor)), .inr ⟨_, rfl⟩⟩
  · rw [List.take_of_length_le (by omega)] at hR' hL
    repeat (first | ((with_reducible apply is_ld); first | refine kld hM ?_ | refine kldw hM ?_ | refine kle hM ?_ | refine klew hM ?_) | ((with_reducible apply is_sto); first | (refine kst hM ?_; intro w hM) | (refine kstw hM ?_; intro w hM)) | ((with_reducible apply is_st); refine su ?_) | ((with_reducible apply is_gd); first | refine gt ?_ | refine gf ?_ | refine gu ?_) | ((with_reducible apply is_en); refine en ?_) | (with_reducible apply c_region) | refine ws ?_ | refine x_block_other (by decide) ?_)
    rcases hL with ⟨h, _⟩ | ⟨L', rfl⟩
    · omega
    · exact out1 rfl ⟨hM.ch, hM.row (v := v') (by (repeat constructor))⟩
set_option maxRecDepth 100000 in
set_option maxHeartbeats 32000000 in
theorem written_any (ses snap : Nat) (strict : Bool) (vr vw : Value) (us : List (RR × List Pr)) (wz : List Pr) (w0 : World) (hR : (Ty.enc eRr).Rd [] w0 vr (us.map (fun u : RR × List Pr => u.1))) (hU : ∀ u ∈ us, (Ty.enc ePr).Rd [] w0 (slv u.1.2.2.2) u.2) (hW : (Ty.enc ePr).Rd [] w0 vw wz) (hS : SmallR us wz) (h1 : ses < 2 ^ 63) (h2 : snap < 2 ^ 63) :
    Calls Tryd.prog 67 #[.agg (rC ses snap strict vr vw).toArray] w0 (Ret fun u w' => Ch [] w0 w' ∧ Go.Proofs.E.Own eU8 w' w0.heap.size 5 u (recB ses snap strict us wz)) := by
  have hM := Mem.start w0
  obtain ⟨A, c, rfl⟩ := hR.form
  obtain ⟨A2, c2, rfl⟩ := hW.form
  obtain ⟨hs1, hs2, hs3, hs4⟩ := hS
  simp only [List.length_map] at hR ⊢
  have n1 := numB_len (n := ses) (by omega)
  have n2 := numB_len (n := snap) (by omega)
  have n3 := numB_len (n := us.length) (by omega)
  have n4 := numB_len (n := wz.length) (by omega)
  refine enter [.agg (rC ses snap strict (.slice A us.length c) (.slice A2 wz.length c2)).toArray, undef, undef, undef, undef, undef, undef, undef, undef, undef, undef, undef, undef, undef, undef, undef, undef, undef, undef, undef, undef, undef, undef, undef, undef, undef, undef, undef, undef, undef, undef, undef, undef, undef, undef, undef, undef, undef, undef, undef, undef, undef, undef, undef, undef, undef, undef, undef, undef, undef, undef, undef, undef, undef, undef, undef, undef, undef, undef, undef, undef, undef, undef, undef, undef, undef, undef, undef, undef, undef, undef, undef, undef, undef, undef, undef, undef, undef, undef, undef, undef, undef, undef, undef, undef, undef, undef, undef, undef, undef, undef, undef, undef, undef, undef, undef, undef, undef, undef, undef] Tryd.func67 rfl rfl ?_
  repeat (first | ((with_reducible apply is_ld); first | refine kld hM ?_ | refine kldw hM ?_ | refine kle hM ?_ | refine klew hM ?_) | ((with_reducible apply is_sto); first | (refine kst hM ?_; intro w hM) | (refine kstw hM ?_; intro w hM)) | ((with_reducible apply is_st); refine su ?_) | ((with_reducible apply is_gd); first | refine gt ?_ | refine gf ?_ | refine gu ?_) | ((with_reducible apply is_en); refine en ?_) | (with_reducible apply c_region) | refine ws ?_ | refine x_block_other (by decide) ?_)
  refine kbx hM (fun w b1 hM => ?_)
  have hM : Mem [] w0 w [.cell b1 (rC ses snap strict (.slice A us.length c) (.slice A2 wz.length c2)) 25] := hM
  repeat (first | ((with_reducible apply is_ld); first | refine kld hM ?_ | refine kldw hM ?_ | refine kle hM ?_ | refine klew hM ?_) | ((with_reducible apply is_sto); first | (refine kst hM ?_; intro w hM) | (refine kstw hM ?_; intro w hM)) | ((with_reducible apply is_st); refine su ?_) | ((with_reducible apply is_gd); first | refine gt ?_ | refine gf ?_ | refine gu ?_) | ((with_reducible apply is_en); refine en ?_) | (with_reducible apply c_region) | refine ws ?_ | refine x_block_other (by decide) ?_)
  refine c_ordY ([], []) [] (by kernel_rfl) (by kernel_rfl) (by kernel_rfl) (fun w hc hs => ?_)
  have hM := hM.call hc
  have hl1 := Blk.lt (hM.blk (b := b1) (by (repeat constructor)))
  (first | refine yn 0 rfl ?_ | refine ynt 0 rfl ?_ | refine ynff 0 rfl ?_)
  refine ynl 1 rfl (hM.blk (b := b1) (by (repeat constructor))) (by omega) (by simp) rfl rfl ?_
  (first | refine yn 2 rfl ?_ | refine ynt 2 rfl ?_ | refine ynff 2 rfl ?_)
  refine ynl 3 rfl (hM.blk (b := b1) (by (repeat constructor))) (by omega) (by simp) rfl rfl ?_
  (first | refine yn 6 rfl ?_ | refine ynt 6 rfl ?_ | refine ynff 6 rfl ?_)
  refine ynl 7 rfl (hM.blk (b := b1) (by (repeat constructor))) (by omega) (by simp) rfl rfl ?_
  refine yk1 4 hM (by kernel_rfl) rfl (fun w h0 hM => ?_)
  refine kbsC (en := eNat) (vs := [.int .i64 (ses : Int), .int .i64 (snap : Int)]) [ses, snap] hM (fun w b14 hc hM => ?_)
  refine x_wy (.inl (hc.gy h0)) rfl ?_
  refine yk1 5 hM (by kernel_rfl) rfl (fun w h0 hM => ?_)
  refine ca (nums_any (.slice none 0 0) _ [ses, snap] w (Ty.Rd.nil _ _ _ _ _) (hM.rowRdO (en := eNat) (xs := [ses, snap]) (by (repeat constructor))) (by simp) (by simp; omega) (by simp) (by simp)) ?_
  rintro v15 w2 ⟨hc, hO⟩
  have hM := hM.got hc hO
  rw [show ([] : Bs) ++ [ses, snap].flatMap numB = numB ses ++ numB snap by simp] at hM
  refine x_wy (.inl (hc.gy h0)) rfl ?_
  refine yk1 8 hM (by kernel_rfl) rfl (fun w h0 hM => ?_)
  refine ca (flag_any v15 strict w (hM.rowRdO (en := eU8) (by (repeat constructor))) (by rw [List.length_append]; omega)) ?_
  rintro v18 w2 ⟨hc, hO⟩
  have hM := hM.got hc hO
  refine x_wy (.inl (hc.gy h0)) rfl ?_
  (first | refine yn 9 rfl ?_ | refine ynt 9 rfl ?_ | refine ynff 9 rfl ?_)
  refine wy_done (by kernel_rfl) (fun w hc => ?_)
  have hM := hM.call hc
  repeat (first | ((with_reducible apply is_ld); first | refine kld hM ?_ | refine kldw hM ?_ | refine kle hM ?_ | refine klew hM ?_) | ((with_reducible apply is_sto); first | (refine kst hM ?_; intro w hM) | (refine kstw hM ?_; intro w hM)) | ((with_reducible apply is_st); refine su ?_) | ((with_reducible apply is_gd); first | refine gt ?_ | refine gf ?_ | refine gu ?_) | ((with_reducible apply is_en); refine en ?_) | (with_reducible apply c_region) | refine ws ?_ | refine x_block_other (by decide) ?_)
  refine kbs (en := eNat) (vs := [.int .i64 (us.length : Int)]) [us.length] hM (fun w b23 hM => ?_)
  refine ca (nums_any v18 _ [us.length] w (hM.rowRdO (en := eU8) (v := v18) (by (repeat constructor))) (hM.rowRdO (en := eNat) (xs := [us.length]) (by (repeat constructor))) (by rw [List.length_append, List.length_append, flagB_len]; omega) (by simp; omega) (by simp) (by simp)) ?_
  rintro v24 w2 ⟨hc, hO⟩
  have hM := hM.got hc hO
  obtain ⟨pre, hpre⟩ : ∃ pre, numB ses ++ numB snap ++ flagB strict ++ [us.length].flatMap numB = pre := ⟨_, rfl⟩
  have hpl : pre.length ≤ 40 := by
    rw [← hpre]
    simp only [List.length_append, flagB_len, List.flatMap_cons, List.flatMap_nil, List.length_nil]
    omega
  rw [hpre] at hM
  have hM := hM.sub (M := [.row eU8 5 v24 pre, .cell b1 (rC ses snap strict (.slice A us.length c) (.slice A2 wz.length c2)) 25]) (by (repeat constructor))
  repeat (first | ((with_reducible apply is_ld); first | refine kld hM ?_ | refine kldw hM ?_ | refine kle hM ?_ | refine klew hM ?_) | ((with_reducible apply is_sto); first | (refine kst hM ?_; intro w hM) | (refine kstw hM ?_; intro w hM)) | ((with_reducible apply is_st); refine su ?_) | ((with_reducible apply is_gd); first | refine gt ?_ | refine gf ?_ | refine gu ?_) | ((with_reducible apply is_en); refine en ?_) | (with_reducible apply c_region) | refine ws ?_ | refine x_block_other (by decide) ?_)
  
  refine c_loop (fun n l w => ∃ (j : Nat) (v : Value), (∃ jj : Nat → Value, l = [jj 0, .pointer (some ⟨b1, 0, none⟩), .slice none 0 0, v, jj 4, jj 5, jj 6, jj 7, jj 8, jj 9, jj 10, jj 11, jj 12, jj 13, jj 14, jj 15, jj 16, jj 17, jj 18, jj 19, jj 20, jj 21, jj 22, jj 23, jj 24, jj 25, .slice A us.length c, .int .i64 (us.length : Int), .int .i64 (j : Int), jj 29, jj 30, jj 31, jj 32, jj 33, jj 34, jj 35, jj 36, jj 37, jj 38, jj 39, jj 40, jj 41, jj 42, jj 43, jj 44, jj 45, jj 46, jj 47, jj 48, jj 49, jj 50, jj 51, jj 52, jj 53, jj 54, jj 55, jj 56, jj 57, jj 58, jj 59, jj 60, jj 61, jj 62, jj 63, jj 64, jj 65, jj 66, jj 67, jj 68, jj 69, jj 70, jj 71, jj 72, jj 73, jj 74, jj 75, jj 76, jj 77, jj 78, jj 79, jj 80, jj 81, jj 82, jj 83, jj 84, jj 85, jj 86, jj 87, jj 88, jj 89, jj 90, jj 91, jj 92, jj 93, jj 94, jj 95, jj 96, jj 97, jj 98, jj 99]) ∧ n + j = us.length ∧ Mem [] w0 w [.row eU8 5 v (pre ++ (us.take j).flatMap readB), .cell b1 (rC ses snap strict (.slice A us.length c) (.slice A2 wz.length c2)) 25]) us.length
    ⟨0, v24, exj rfl, rfl, by simpa using hM⟩ ?_
  clear hM
  rintro n l w ⟨j, v, ⟨jj, rfl⟩, hnj, hM⟩
  have hbl := take_le (f := readB) (l := us) (C := 186500) (N := 100) j (fun u hu => readB_len (hs3 u hu)) hs1
  repeat (first | ((with_reducible apply is_ld); first | refine kld hM ?_ | refine kldw hM ?_ | refine kle hM ?_ | refine klew hM ?_) | ((with_reducible apply is_sto); first | (refine kst hM ?_; intro w hM) | (refine kstw hM ?_; intro w hM)) | ((with_reducible apply is_st); refine su ?_) | ((with_reducible apply is_gd); first | refine gt ?_ | refine gf ?_ | refine gu ?_) | ((with_reducible apply is_en); refine en ?_) | (with_reducible apply c_region) | refine ws ?_ | refine x_block_other (by decide) ?_)
  refine c_cond rfl (fun hj => ?_) (fun hj => ?_)
  · repeat (first | ((with_reducible apply is_ld); first | refine kld hM ?_ | refine kldw hM ?_ | refine kle hM ?_ | refine klew hM ?_) | ((with_reducible apply is_sto); first | (refine kst hM ?_; intro w hM) | (refine kstw hM ?_; intro w hM)) | ((with_reducible apply is_st); refine su ?_) | ((with_reducible apply is_gd); first | refine gt ?_ | refine gf ?_ | refine gu ?_) | ((with_reducible apply is_en); refine en ?_) | (with_reducible apply c_region) | refine ws ?_ | refine x_block_other (by decide) ?_)
    refine kix hR (fun b o x hx hA => ?_) (h1 := by simp; omega)
    rw [Int.toNat_natCast, List.getElem?_map] at hx
    obtain ⟨u, hu, rfl⟩ := Option.map_eq_some_iff.1 hx
    have hum := List.mem_of_getElem? hu
    obtain ⟨⟨sc, key, to, vp⟩, ps⟩ := u
    have hsu := hs3 _ hum
    have hps := hU _ hum
    simp only at hsu hps hA
    have hvl : vp.2.1 = ps.length := by
      obtain ⟨A, c, h⟩ := hps.form
      unfold slv at h
      injection h
    obtain ⟨A3, n3, c3⟩ := vp
    simp only at hvl
    subst hvl
    have hpn := numB_len (n := ps.length) (by omega)
    have hkl := strB_len hsu.1
    have htl := strB_len hsu.2.1
    refine katr hM hA ?_
    refine kal hM (fun w b5 hM => ?_)
    refine kstw (vs := eRr.f (sc, key, to, (A3, ps.length, c3))) hM (fun w hM => ?_) (h1 := eRr.h1 (sc, key, to, (A3, ps.length, c3)))
    repeat (first | ((with_reducible apply is_ld); first | refine kld hM ?_ | refine kldw hM ?_ | refine kle hM ?_ | refine klew hM ?_) | ((with_reducible apply is_sto); first | (refine kst hM ?_; intro w hM) | (refine kstw hM ?_; intro w hM)) | ((with_reducible apply is_st); refine su ?_) | ((with_reducible apply is_gd); first | refine gt ?_ | refine gf ?_ | refine gu ?_) | ((with_reducible apply is_en); refine en ?_) | (with_reducible apply c_region) | refine ws ?_ | refine x_block_other (by decide) ?_)
    refine c_ordY ([], []) [] (by kernel_rfl) (by kernel_rfl) (by kernel_rfl) (fun w hc hs => ?_)
    have hM := hM.call hc
    have hl5 := Blk.lt (hM.blk (b := b5) (by (repeat constructor)))
    (first | refine yn 0 rfl ?_ | refine ynt 0 rfl ?_ | refine ynff 0 rfl ?_); (first | refine yn 1 rfl ?_ | refine ynt 1 rfl ?_ | refine ynff 1 rfl ?_)
    refine ynl 2 rfl (hM.blk (b := b5) (by (repeat constructor))) (by omega) (by simp) rfl rfl ?_
    (first | refine yn 4 rfl ?_ | refine ynt 4 rfl ?_ | refine ynff 4 rfl ?_)
    refine ynl 5 rfl (hM.blk (b := b5) (by (repeat constructor))) (by omega) (by simp) rfl rfl ?_
    refine wy_cont (X := Value × Nat) (fun x N w => Mem [] w0 w [.row eU8 5 x.1 (pre ++ (us.take j).flatMap readB ++ flagB sc), .row eBs 9 (.slice (some ⟨x.2, 0, none⟩) 1 1) [key], .cell b5 (eRr.f (sc, key, to, (A3, ps.length, c3))) 76, .cell b1 (rC ses snap strict (.slice A us.length c) (.slice A2 wz.length c2)) 25])
      (fun x l => (l.set 35 x.1).set 38 (.slice (some ⟨x.2, 0, none⟩) 1 1)) #[true, true, true, true, true, true, true, false, false] (fuel := 2) (fun hk => ?_) ?_
    · skip
      refine yk2 3 6 hM (by kernel_rfl) rfl rfl (fun w h0 hM => ?_) (fun w h0 hM => ?_)
      · skip
        refine ca (flag_any v sc w (hM.rowRdO (en := eU8) (v := v) (by (repeat constructor))) (by rw [List.length_append]; omega)) ?_
        rintro v35 w2 ⟨hc, hO⟩
        have hM := hM.got hc hO
        refine x_wy (.inl (hc.gy h0)) rfl ?_
        refine yk1 6 hM (by kernel_rfl) rfl (fun w h0 hM => ?_)
        refine kbsC (en := eBs) (vs := [.string (bst key)]) [key] hM (fun w b38 hc hM => ?_)
        refine x_wy (.inl (hc.gy h0)) rfl ?_
        exact hk (v35, b38) _ _ _ (by kernel_rfl) rfl (hM.sub (by (repeat constructor)))
      · skip
        refine kbsC (en := eBs) (vs := [.string (bst key)]) [key] hM (fun w b38 hc hM => ?_)
        refine x_wy (.inl (hc.gy h0)) rfl ?_
        refine yk1 3 hM (by kernel_rfl) rfl (fun w h0 hM => ?_)
        refine ca (flag_any v sc w (hM.rowRdO (en := eU8) (v := v) (by (repeat constructor))) (by rw [List.length_append]; omega)) ?_
        rintro v35 w2 ⟨hc, hO⟩
        have hM := hM.got hc hO
        refine x_wy (.inl (hc.gy h0)) rfl ?_
        exact hk (v35, b38) _ _ _ (by kernel_rfl) rfl (hM.sub (by (repeat constructor)))
    clear hM
    rintro ⟨v35, b38⟩ w hM
    simp only at hM
    refine wy_nf ?_
    refine yk1 7 hM (by kernel_rfl) rfl (fun w h0 hM => ?_)
    refine ca (texts_any v35 _ [key] w (hM.rowRdO (en := eU8) (v := v35) (by (repeat constructor))) (hM.rowRdO (en := eBs) (xs := [key]) (by (repeat constructor))) (by rw [List.length_append, List.length_append, flagB_len]; omega) (by simpa using hsu.1) (by simp) (by simp)) ?_
    rintro v39 w2 ⟨hc, hO⟩
    have hM := hM.got hc hO
    rw [show [key].flatMap strB = strB key by simp] at hM
    refine x_wy (.inl (hc.gy h0)) rfl ?_
    (first | refine yn 8 rfl ?_ | refine ynt 8 rfl ?_ | refine ynff 8 rfl ?_)
    refine wy_done (by kernel_rfl) (fun w hc => ?_)
    have hM := hM.call hc
    have hM := hM.sub (M := [.row eU8 5 v39 (pre ++ (us.take j).flatMap readB ++ flagB sc ++ strB key), .cell b5 (eRr.f (sc, key, to, (A3, ps.length, c3))) 76, .cell b1 (rC ses snap strict (.slice A us.length c) (.slice A2 wz.length c2)) 25]) (by (repeat constructor))
    repeat (first | ((with_reducible apply is_ld); first | refine kld hM ?_ | refine kldw hM ?_ | refine kle hM ?_ | refine klew hM ?_) | ((with_reducible apply is_sto); first | (refine kst hM ?_; intro w hM) | (refine kstw hM ?_; intro w hM)) | ((with_reducible apply is_st); refine su ?_) | ((with_reducible apply is_gd); first | refine gt ?_ | refine gf ?_ | refine gu ?_) | ((with_reducible apply is_en); refine en ?_) | (with_reducible apply c_region) | refine ws ?_ | refine x_block_other (by decide) ?_)
    cases sc with
    | true =>
      refine c_condb rfl (fun _ => ?_) (fun h => by cases h)
      repeat (first | ((with_reducible apply is_ld); first | refine kld hM ?_ | refine kldw hM ?_ | refine kle hM ?_ | refine klew hM ?_) | ((with_reducible apply is_sto); first | (refine kst hM ?_; intro w hM) | (refine kstw hM ?_; intro w hM)) | ((with_reducible apply is_st); refine su ?_) | ((with_reducible apply is_gd); first | refine gt ?_ | refine gf ?_ | refine gu ?_) | ((with_reducible apply is_en); refine en ?_) | (with_reducible apply c_region) | refine ws ?_ | refine x_block_other (by decide) ?_)
      refine kbs (en := eBs) (vs := [.string (bst to)]) [to] hM (fun w b45 hM => ?_)
      refine ca (texts_any v39 _ [to] w (hM.rowRdO (en := eU8) (v := v39) (by (repeat constructor))) (hM.rowRdO (en := eBs) (xs := [to]) (by (repeat constructor))) (by simp only [List.length_append, flagB_len]; omega) (by simpa using hsu.2.1) (by simp) (by simp)) ?_
      rintro v46 w2 ⟨hc, hO⟩
      have hM := hM.got hc hO
      rw [show [to].flatMap strB = strB to by simp] at hM
      repeat (first | ((with_reducible apply is_ld); first | refine kld hM ?_ | refine kldw hM ?_ | refine kle hM ?_ | refine klew hM ?_) | ((with_reducible apply is_sto); first | (refine kst hM ?_; intro w hM) | (refine kstw hM ?_; intro w hM)) | ((with_reducible apply is_st); refine su ?_) | ((with_reducible apply is_gd); first | refine gt ?_ | refine gf ?_ | refine gu ?_) | ((with_reducible apply is_en); refine en ?_) | (with_reducible apply c_region) | refine ws ?_ | refine x_block_other (by decide) ?_)
      refine kbs (en := eNat) (vs := [.int .i64 (ps.length : Int)]) [ps.length] hM (fun w b51 hM => ?_)
      refine ca (nums_any v46 _ [ps.length] w (hM.rowRdO (en := eU8) (v := v46) (by (repeat constructor))) (hM.rowRdO (en := eNat) (xs := [ps.length]) (by (repeat constructor))) (by simp only [List.length_append, flagB_len]; omega) (by simp; omega) (by simp) (by simp)) ?_
      rintro v52 w2 ⟨hc, hO⟩
      have hM := hM.got hc hO
      rw [show [ps.length].flatMap numB = numB ps.length by simp] at hM
      obtain ⟨Q, hQ⟩ : ∃ Q, pre ++ (us.take j).flatMap readB ++ flagB true ++ strB key ++ strB to ++ numB ps.length = Q := ⟨_, rfl⟩
      have hQl : Q.length ≤ 18651000 := by
        rw [← hQ]
        simp only [List.length_append, flagB_len]
        omega
      rw [hQ] at hM
      have hM := hM.sub (M := [.row eU8 5 v52 Q, .cell b5 (eRr.f (true, key, to, (A3, ps.length, c3))) 76, .cell b1 (rC ses snap strict (.slice A us.length c) (.slice A2 wz.length c2)) 25]) (by (repeat constructor))
      repeat (first | ((with_reducible apply is_ld); first | refine kld hM ?_ | refine kldw hM ?_ | refine kle hM ?_ | refine klew hM ?_) | ((with_reducible apply is_sto); first | (refine kst hM ?_; intro w hM) | (refine kstw hM ?_; intro w hM)) | ((with_reducible apply is_st); refine su ?_) | ((with_reducible apply is_gd); first | refine gt ?_ | refine gf ?_ | refine gu ?_) | ((with_reducible apply is_en); refine en ?_) | (with_reducible apply c_region) | refine ws ?_ | refine x_block_other (by decide) ?_)
      
      refine c_loop (fun n l w => ∃ (i : Nat) (v : Value), (∃ jj : Nat → Value, l = [jj 0, .pointer (some ⟨b1, 0, none⟩), .slice none 0 0, v, jj 4, .pointer (some ⟨b5, 0, none⟩), jj 6, jj 7, jj 8, jj 9, jj 10, jj 11, jj 12, jj 13, jj 14, jj 15, jj 16, jj 17, jj 18, jj 19, jj 20, jj 21, jj 22, jj 23, jj 24, jj 25, .slice A us.length c, .int .i64 (us.length : Int), .int .i64 (j : Int), jj 29, jj 30, jj 31, jj 32, jj 33, jj 34, jj 35, jj 36, jj 37, jj 38, jj 39, jj 40, jj 41, jj 42, jj 43, jj 44, jj 45, jj 46, jj 47, jj 48, jj 49, jj 50, jj 51, jj 52, jj 53, .slice A3 ps.length c3, .int .i64 (ps.length : Int), .int .i64 (i : Int), jj 57, jj 58, jj 59, jj 60, jj 61, jj 62, jj 63, jj 64, jj 65, jj 66, jj 67, jj 68, jj 69, jj 70, jj 71, jj 72, jj 73, jj 74, jj 75, jj 76, jj 77, jj 78, jj 79, jj 80, jj 81, jj 82, jj 83, jj 84, jj 85, jj 86, jj 87, jj 88, jj 89, jj 90, jj 91, jj 92, jj 93, jj 94, jj 95, jj 96, jj 97, jj 98, jj 99]) ∧ n + i = ps.length ∧ Mem [] w0 w [.row eU8 5 v (Q ++ (ps.take i).flatMap pairB), .cell b5 (eRr.f (true, key, to, (A3, ps.length, c3))) 76, .cell b1 (rC ses snap strict (.slice A us.length c) (.slice A2 wz.length c2)) 25]) ps.length
        ⟨0, v52, exj rfl, rfl, by simpa using hM⟩ ?_
      clear hM
      rintro n2 l w ⟨i, v, ⟨jj, rfl⟩, hni, hM⟩
      have hpl := take_le (f := pairB) (l := ps) (C := 618) (N := 300) i (fun p hp => pairB_len (hsu.2.2.2 p hp)) hsu.2.2.1
      repeat (first | ((with_reducible apply is_ld); first | refine kld hM ?_ | refine kldw hM ?_ | refine kle hM ?_ | refine klew hM ?_) | ((with_reducible apply is_sto); first | (refine kst hM ?_; intro w hM) | (refine kstw hM ?_; intro w hM)) | ((with_reducible apply is_st); refine su ?_) | ((with_reducible apply is_gd); first | refine gt ?_ | refine gf ?_ | refine gu ?_) | ((with_reducible apply is_en); refine en ?_) | (with_reducible apply c_region) | refine ws ?_ | refine x_block_other (by decide) ?_)
      refine c_cond rfl (fun hi => ?_) (fun hi => ?_)
      · repeat (first | ((with_reducible apply is_ld); first | refine kld hM ?_ | refine kldw hM ?_ | refine kle hM ?_ | refine klew hM ?_) | ((with_reducible apply is_sto); first | (refine kst hM ?_; intro w hM) | (refine kstw hM ?_; intro w hM)) | ((with_reducible apply is_st); refine su ?_) | ((with_reducible apply is_gd); first | refine gt ?_ | refine gf ?_ | refine gu ?_) | ((with_reducible apply is_en); refine en ?_) | (with_reducible apply c_region) | refine ws ?_ | refine x_block_other (by decide) ?_)
        refine kix hps (fun b o p hp hA => ?_)
        rw [Int.toNat_natCast] at hp
        have hsp := hsu.2.2.2 p (List.mem_of_getElem? hp)
        obtain ⟨pk, pv, pd⟩ := p
        have hk1 : (strB pk).length ≤ 309 := strB_len hsp.1
        have hv1 : (strB pv).length ≤ 309 := strB_len hsp.2
        refine katr hM hA ?_
        refine kal hM (fun w b7 hM => ?_)
        refine kstw (vs := ePr.f (pk, pv, pd)) hM (fun w hM => ?_) (h1 := ePr.h1 (pk, pv, pd))
        repeat (first | ((with_reducible apply is_ld); first | refine kld hM ?_ | refine kldw hM ?_ | refine kle hM ?_ | refine klew hM ?_) | ((with_reducible apply is_sto); first | (refine kst hM ?_; intro w hM) | (refine kstw hM ?_; intro w hM)) | ((with_reducible apply is_st); refine su ?_) | ((with_reducible apply is_gd); first | refine gt ?_ | refine gf ?_ | refine gu ?_) | ((with_reducible apply is_en); refine en ?_) | (with_reducible apply c_region) | refine ws ?_ | refine x_block_other (by decide) ?_)
        refine kbs (en := eBs) (vs := [.string (bst pk), .string (bst pv)]) [pk, pv] hM (fun w b65 hM => ?_)
        refine ca (texts_any v _ [pk, pv] w (hM.rowRdO (en := eU8) (v := v) (by (repeat constructor))) (hM.rowRdO (en := eBs) (xs := [pk, pv]) (by (repeat constructor))) (by rw [List.length_append]; omega) (by simp; exact hsp) (by simp) (by simp)) ?_
        rintro v66 w2 ⟨hc, hO⟩
        have hM := hM.got hc hO
        rw [show [pk, pv].flatMap strB = pairB (pk, pv, pd) by simp [pairB]] at hM
        repeat (first | ((with_reducible apply is_ld); first | refine kld hM ?_ | refine kldw hM ?_ | refine kle hM ?_ | refine klew hM ?_) | ((with_reducible apply is_sto); first | (refine kst hM ?_; intro w hM) | (refine kstw hM ?_; intro w hM)) | ((with_reducible apply is_st); refine su ?_) | ((with_reducible apply is_gd); first | refine gt ?_ | refine gf ?_ | refine gu ?_) | ((with_reducible apply is_en); refine en ?_) | (with_reducible apply c_region) | refine ws ?_ | refine x_block_other (by decide) ?_)
        rw [List.append_assoc, ← take_flat hp] at hM
        exact x_goes (n2 - 1) rfl (by omega) ⟨i + 1, v66, exj rfl, by omega, hM.sub (by (repeat constructor))⟩
      · rw [List.take_of_length_le (by omega)] at hM
        repeat (first | ((with_reducible apply is_ld); first | refine kld hM ?_ | refine kldw hM ?_ | refine kle hM ?_ | refine klew hM ?_) | ((with_reducible apply is_sto); first | (refine kst hM ?_; intro w hM) | (refine kstw hM ?_; intro w hM)) | ((with_reducible apply is_st); refine su ?_) | ((with_reducible apply is_gd); first | refine gt ?_ | refine gf ?_ | refine gu ?_) | ((with_reducible apply is_en); refine en ?_) | (with_reducible apply c_region) | refine ws ?_ | refine x_block_other (by decide) ?_)
        have he : Q ++ ps.flatMap pairB = pre ++ (us.take (j + 1)).flatMap readB := by
          rw [take_flat hu, ← hQ]
          simp [readB, List.append_assoc]
        rw [he] at hM
        exact x_goes (n - 1) rfl (by omega) ⟨j + 1, v, exj rfl, by omega, hM.sub (by (repeat constructor))⟩
    | false =>
      refine c_condb rfl (fun h => by cases h) (fun _ => ?_)
      repeat (first | ((with_reducible apply is_ld); first | refine kld hM ?_ | refine kldw hM ?_ | refine kle hM ?_ | refine klew hM ?_) | ((with_reducible apply is_sto); first | (refine kst hM ?_; intro w hM) | (refine kstw hM ?_; intro w hM)) | ((with_reducible apply is_st); refine su ?_) | ((with_reducible apply is_gd); first | refine gt ?_ | refine gf ?_ | refine gu ?_) | ((with_reducible apply is_en); refine en ?_) | (with_reducible apply c_region) | refine ws ?_ | refine x_block_other (by decide) ?_)
      refine kbs (en := eNat) (vs := [.int .i64 (ps.length : Int)]) [ps.length] hM (fun w b51 hM => ?_)
      refine ca (nums_any v39 _ [ps.length] w (hM.rowRdO (en := eU8) (v := v39) (by (repeat constructor))) (hM.rowRdO (en := eNat) (xs := [ps.length]) (by (repeat constructor))) (by simp only [List.length_append, flagB_len]; omega) (by simp; omega) (by simp) (by simp)) ?_
      rintro v52 w2 ⟨hc, hO⟩
      have hM := hM.got hc hO
      rw [show [ps.length].flatMap numB = numB ps.length by simp] at hM
      obtain ⟨Q, hQ⟩ : ∃ Q, pre ++ (us.take j).flatMap readB ++ flagB false ++ strB key ++ numB ps.length = Q := ⟨_, rfl⟩
      have hQl : Q.length ≤ 18651000 := by
        rw [← hQ]
        simp only [List.length_append, flagB_len]
        omega
      rw [hQ] at hM
      have hM := hM.sub (M := [.row eU8 5 v52 Q, .cell b5 (eRr.f (false, key, to, (A3, ps.length, c3))) 76, .cell b1 (rC ses snap strict (.slice A us.length c) (.slice A2 wz.length c2)) 25]) (by (repeat constructor))
      repeat (first | ((with_reducible apply is_ld); first | refine kld hM ?_ | refine kldw hM ?_ | refine kle hM ?_ | refine klew hM ?_) | ((with_reducible apply is_sto); first | (refine kst hM ?_; intro w hM) | (refine kstw hM ?_; intro w hM)) | ((with_reducible apply is_st); refine su ?_) | ((with_reducible apply is_gd); first | refine gt ?_ | refine gf ?_ | refine gu ?_) | ((with_reducible apply is_en); refine en ?_) | (with_reducible apply c_region) | refine ws ?_ | refine x_block_other (by decide) ?_)
      
      refine c_loop (fun n l w => ∃ (i : Nat) (v : Value), (∃ jj : Nat → Value, l = [jj 0, .pointer (some ⟨b1, 0, none⟩), .slice none 0 0, v, jj 4, .pointer (some ⟨b5, 0, none⟩), jj 6, jj 7, jj 8, jj 9, jj 10, jj 11, jj 12, jj 13, jj 14, jj 15, jj 16, jj 17, jj 18, jj 19, jj 20, jj 21, jj 22, jj 23, jj 24, jj 25, .slice A us.length c, .int .i64 (us.length : Int), .int .i64 (j : Int), jj 29, jj 30, jj 31, jj 32, jj 33, jj 34, jj 35, jj 36, jj 37, jj 38, jj 39, jj 40, jj 41, jj 42, jj 43, jj 44, jj 45, jj 46, jj 47, jj 48, jj 49, jj 50, jj 51, jj 52, jj 53, .slice A3 ps.length c3, .int .i64 (ps.length : Int), .int .i64 (i : Int), jj 57, jj 58, jj 59, jj 60, jj 61, jj 62, jj 63, jj 64, jj 65, jj 66, jj 67, jj 68, jj 69, jj 70, jj 71, jj 72, jj 73, jj 74, jj 75, jj 76, jj 77, jj 78, jj 79, jj 80, jj 81, jj 82, jj 83, jj 84, jj 85, jj 86, jj 87, jj 88, jj 89, jj 90, jj 91, jj 92, jj 93, jj 94, jj 95, jj 96, jj 97, jj 98, jj 99]) ∧ n + i = ps.length ∧ Mem [] w0 w [.row eU8 5 v (Q ++ (ps.take i).flatMap pairB), .cell b5 (eRr.f (false, key, to, (A3, ps.length, c3))) 76, .cell b1 (rC ses snap strict (.slice A us.length c) (.slice A2 wz.length c2)) 25]) ps.length
        ⟨0, v52, exj rfl, rfl, by simpa using hM⟩ ?_
      clear hM
      rintro n2 l w ⟨i, v, ⟨jj, rfl⟩, hni, hM⟩
      have hpl := take_le (f := pairB) (l := ps) (C := 618) (N := 300) i (fun p hp => pairB_len (hsu.2.2.2 p hp)) hsu.2.2.1
      repeat (first | ((with_reducible apply is_ld); first | refine kld hM ?_ | refine kldw hM ?_ | refine kle hM ?_ | refine klew hM ?_) | ((with_reducible apply is_sto); first | (refine kst hM ?_; intro w hM) | (refine kstw hM ?_; intro w hM)) | ((with_reducible apply is_st); refine su ?_) | ((with_reducible apply is_gd); first | refine gt ?_ | refine gf ?_ | refine gu ?_) | ((with_reducible apply is_en); refine en ?_) | (with_reducible apply c_region) | refine ws ?_ | refine x_block_other (by decide) ?_)
      refine c_cond rfl (fun hi => ?_) (fun hi => ?_)
      · repeat (first | ((with_reducible apply is_ld); first | refine kld hM ?_ | refine kldw hM ?_ | refine kle hM ?_ | refine klew hM ?_) | ((with_reducible apply is_sto); first | (refine kst hM ?_; intro w hM) | (refine kstw hM ?_; intro w hM)) | ((with_reducible apply is_st); refine su ?_) | ((with_reducible apply is_gd); first | refine gt ?_ | refine gf ?_ | refine gu ?_) | ((with_reducible apply is_en); refine en ?_) | (with_reducible apply c_region) | refine ws ?_ | refine x_block_other (by decide) ?_)
        refine kix hps (fun b o p hp hA => ?_)
        rw [Int.toNat_natCast] at hp
        have hsp := hsu.2.2.2 p (List.mem_of_getElem? hp)
        obtain ⟨pk, pv, pd⟩ := p
        have hk1 : (strB pk).length ≤ 309 := strB_len hsp.1
        have hv1 : (strB pv).length ≤ 309 := strB_len hsp.2
        refine katr hM hA ?_
        refine kal hM (fun w b7 hM => ?_)
        refine kstw (vs := ePr.f (pk, pv, pd)) hM (fun w hM => ?_) (h1 := ePr.h1 (pk, pv, pd))
        repeat (first | ((with_reducible apply is_ld); first | refine kld hM ?_ | refine kldw hM ?_ | refine kle hM ?_ | refine klew hM ?_) | ((with_reducible apply is_sto); first | (refine kst hM ?_; intro w hM) | (refine kstw hM ?_; intro w hM)) | ((with_reducible apply is_st); refine su ?_) | ((with_reducible apply is_gd); first | refine gt ?_ | refine gf ?_ | refine gu ?_) | ((with_reducible apply is_en); refine en ?_) | (with_reducible apply c_region) | refine ws ?_ | refine x_block_other (by decide) ?_)
        refine kbs (en := eBs) (vs := [.string (bst pk), .string (bst pv)]) [pk, pv] hM (fun w b65 hM => ?_)
        refine ca (texts_any v _ [pk, pv] w (hM.rowRdO (en := eU8) (v := v) (by (repeat constructor))) (hM.rowRdO (en := eBs) (xs := [pk, pv]) (by (repeat constructor))) (by rw [List.length_append]; omega) (by simp; exact hsp) (by simp) (by simp)) ?_
        rintro v66 w2 ⟨hc, hO⟩
        have hM := hM.got hc hO
        rw [show [pk, pv].flatMap strB = pairB (pk, pv, pd) by simp [pairB]] at hM
        repeat (first | ((with_reducible apply is_ld); first | refine kld hM ?_ | refine kldw hM ?_ | refine kle hM ?_ | refine klew hM ?_) | ((with_reducible apply is_sto); first | (refine kst hM ?_; intro w hM) | (refine kstw hM ?_; intro w hM)) | ((with_reducible apply is_st); refine su ?_) | ((with_reducible apply is_gd); first | refine gt ?_ | refine gf ?_ | refine gu ?_) | ((with_reducible apply is_en); refine en ?_) | (with_reducible apply c_region) | refine ws ?_ | refine x_block_other (by decide) ?_)
        rw [List.append_assoc, ← take_flat hp] at hM
        exact x_goes (n2 - 1) rfl (by omega) ⟨i + 1, v66, exj rfl, by omega, hM.sub (by (repeat constructor))⟩
      · rw [List.take_of_length_le (by omega)] at hM
        repeat (first | ((with_reducible apply is_ld); first | refine kld hM ?_ | refine kldw hM ?_ | refine kle hM ?_ | refine klew hM ?_) | ((with_reducible apply is_sto); first | (refine kst hM ?_; intro w hM) | (refine kstw hM ?_; intro w hM)) | ((with_reducible apply is_st); refine su ?_) | ((with_reducible apply is_gd); first | refine gt ?_ | refine gf ?_ | refine gu ?_) | ((with_reducible apply is_en); refine en ?_) | (with_reducible apply c_region) | refine ws ?_ | refine x_block_other (by decide) ?_)
        have he : Q ++ ps.flatMap pairB = pre ++ (us.take (j + 1)).flatMap readB := by
          rw [take_flat hu, ← hQ]
          simp [readB, List.append_assoc]
        rw [he] at hM
        exact x_goes (n - 1) rfl (by omega) ⟨j + 1, v, exj rfl, by omega, hM.sub (by (repeat constructor))⟩
  · rw [List.take_of_length_le (by omega)] at hM hbl
    repeat (first | ((with_reducible apply is_ld); first | refine kld hM ?_ | refine kldw hM ?_ | refine kle hM ?_ | refine klew hM ?_) | ((with_reducible apply is_sto); first | (refine kst hM ?_; intro w hM) | (refine kstw hM ?_; intro w hM)) | ((with_reducible apply is_st); refine su ?_) | ((with_reducible apply is_gd); first | refine gt ?_ | refine gf ?_ | refine gu ?_) | ((with_reducible apply is_en); refine en ?_) | (with_reducible apply c_region) | refine ws ?_ | refine x_block_other (by decide) ?_)
    refine kbs (en := eNat) (vs := [.int .i64 (wz.length : Int)]) [wz.length] hM (fun w b51 hM => ?_)
    refine ca (nums_any v _ [wz.length] w (hM.rowRdO (en := eU8) (v := v) (by (repeat constructor))) (hM.rowRdO (en := eNat) (xs := [wz.length]) (by (repeat constructor))) (by simp only [List.length_append, flagB_len]; omega) (by simp; omega) (by simp) (by simp)) ?_
    rintro v52 w2 ⟨hc, hO⟩
    have hM := hM.got hc hO
    rw [show [wz.length].flatMap numB = numB wz.length by simp] at hM
    obtain ⟨Q, hQ⟩ : ∃ Q, pre ++ us.flatMap readB ++ numB wz.length = Q := ⟨_, rfl⟩
    have hQl : Q.length ≤ 18651000 := by
      rw [← hQ]
      simp only [List.length_append]
      omega
    rw [hQ] at hM
    have hM := hM.sub (M := [.row eU8 5 v52 Q, .cell b1 (rC ses snap strict (.slice A us.length c) (.slice A2 wz.length c2)) 25]) (by (repeat constructor))
    repeat (first | ((with_reducible apply is_ld); first | refine kld hM ?_ | refine kldw hM ?_ | refine kle hM ?_ | refine klew hM ?_) | ((with_reducible apply is_sto); first | (refine kst hM ?_; intro w hM) | (refine kstw hM ?_; intro w hM)) | ((with_reducible apply is_st); refine su ?_) | ((with_reducible apply is_gd); first | refine gt ?_ | refine gf ?_ | refine gu ?_) | ((with_reducible apply is_en); refine en ?_) | (with_reducible apply c_region) | refine ws ?_ | refine x_block_other (by decide) ?_)
    
    refine c_loop (fun n l w => ∃ (i : Nat) (v : Value), (∃ jj : Nat → Value, l = [jj 0, .pointer (some ⟨b1, 0, none⟩), .slice none 0 0, v, jj 4, jj 5, jj 6, jj 7, jj 8, jj 9, jj 10, jj 11, jj 12, jj 13, jj 14, jj 15, jj 16, jj 17, jj 18, jj 19, jj 20, jj 21, jj 22, jj 23, jj 24, jj 25, jj 26, jj 27, jj 28, jj 29, jj 30, jj 31, jj 32, jj 33, jj 34, jj 35, jj 36, jj 37, jj 38, jj 39, jj 40, jj 41, jj 42, jj 43, jj 44, jj 45, jj 46, jj 47, jj 48, jj 49, jj 50, jj 51, jj 52, jj 53, jj 54, jj 55, jj 56, jj 57, jj 58, jj 59, jj 60, jj 61, jj 62, jj 63, jj 64, jj 65, jj 66, jj 67, jj 68, jj 69, jj 70, jj 71, jj 72, jj 73, jj 74, jj 75, .slice A2 wz.length c2, .int .i64 (wz.length : Int), .int .i64 (i : Int), jj 79, jj 80, jj 81, jj 82, jj 83, jj 84, jj 85, jj 86, jj 87, jj 88, jj 89, jj 90, jj 91, jj 92, jj 93, jj 94, jj 95, jj 96, jj 97, jj 98, jj 99]) ∧ n + i = wz.length ∧ Mem [] w0 w [.row eU8 5 v (Q ++ (wz.take i).flatMap writeB), .cell b1 (rC ses snap strict (.slice A us.length c) (.slice A2 wz.length c2)) 25]) wz.length
      ⟨0, v52, exj rfl, rfl, by simpa using hM⟩ ?_
    clear hM
    rintro n2 l w ⟨i, v, ⟨jj, rfl⟩, hni, hM⟩
    have hpl := take_le (f := writeB) (l := wz) (C := 619) (N := 100) i (fun p hp => writeB_len (hs4 p hp)) hs2
    repeat (first | ((with_reducible apply is_ld); first | refine kld hM ?_ | refine kldw hM ?_ | refine kle hM ?_ | refine klew hM ?_) | ((with_reducible apply is_sto); first | (refine kst hM ?_; intro w hM) | (refine kstw hM ?_; intro w hM)) | ((with_reducible apply is_st); refine su ?_) | ((with_reducible apply is_gd); first | refine gt ?_ | refine gf ?_ | refine gu ?_) | ((with_reducible apply is_en); refine en ?_) | (with_reducible apply c_region) | refine ws ?_ | refine x_block_other (by decide) ?_)
    refine c_cond rfl (fun hi => ?_) (fun hi => ?_)
    · repeat (first | ((with_reducible apply is_ld); first | refine kld hM ?_ | refine kldw hM ?_ | refine kle hM ?_ | refine klew hM ?_) | ((with_reducible apply is_sto); first | (refine kst hM ?_; intro w hM) | (refine kstw hM ?_; intro w hM)) | ((with_reducible apply is_st); refine su ?_) | ((with_reducible apply is_gd); first | refine gt ?_ | refine gf ?_ | refine gu ?_) | ((with_reducible apply is_en); refine en ?_) | (with_reducible apply c_region) | refine ws ?_ | refine x_block_other (by decide) ?_)
      refine kix hW (fun b o p hp hA => ?_)
      rw [Int.toNat_natCast] at hp
      have hsp := hs4 p (List.mem_of_getElem? hp)
      obtain ⟨pk, pv, pd⟩ := p
      have hk1 : (strB pk).length ≤ 309 := strB_len hsp.1
      have hv1 : (strB pv).length ≤ 309 := strB_len hsp.2
      refine katr hM hA ?_
      refine kal hM (fun w b9 hM => ?_)
      refine kstw (vs := ePr.f (pk, pv, pd)) hM (fun w hM => ?_) (h1 := ePr.h1 (pk, pv, pd))
      repeat (first | ((with_reducible apply is_ld); first | refine kld hM ?_ | refine kldw hM ?_ | refine kle hM ?_ | refine klew hM ?_) | ((with_reducible apply is_sto); first | (refine kst hM ?_; intro w hM) | (refine kstw hM ?_; intro w hM)) | ((with_reducible apply is_st); refine su ?_) | ((with_reducible apply is_gd); first | refine gt ?_ | refine gf ?_ | refine gu ?_) | ((with_reducible apply is_en); refine en ?_) | (with_reducible apply c_region) | refine ws ?_ | refine x_block_other (by decide) ?_)
      refine c_ordY ([], []) [] (by kernel_rfl) (by kernel_rfl) (by kernel_rfl) (fun w hc hs => ?_)
      have hM := hM.call hc
      have hl9 := Blk.lt (hM.blk (b := b9) (by (repeat constructor)))
      (first | refine yn 0 rfl ?_ | refine ynt 0 rfl ?_ | refine ynff 0 rfl ?_); (first | refine yn 1 rfl ?_ | refine ynt 1 rfl ?_ | refine ynff 1 rfl ?_)
      refine ynl 2 rfl (hM.blk (b := b9) (by (repeat constructor))) (by omega) (by simp) rfl rfl ?_
      (first | refine yn 5 rfl ?_ | refine ynt 5 rfl ?_ | refine ynff 5 rfl ?_)
      refine ynl 6 rfl (hM.blk (b := b9) (by (repeat constructor))) (by omega) (by simp) rfl rfl ?_
      refine yk1 3 hM (by kernel_rfl) rfl (fun w h0 hM => ?_)
      refine kbsC (en := eBs) (vs := [.string (bst pk)]) [pk] hM (fun w b85 hc hM => ?_)
      refine x_wy (.inl (hc.gy h0)) rfl ?_
      refine yk1 4 hM (by kernel_rfl) rfl (fun w h0 hM => ?_)
      refine ca (texts_any v _ [pk] w (hM.rowRdO (en := eU8) (v := v) (by (repeat constructor))) (hM.rowRdO (en := eBs) (xs := [pk]) (by (repeat constructor))) (by rw [List.length_append]; omega) (by simpa using hsp.1) (by simp) (by simp)) ?_
      rintro v86 w2 ⟨hc, hO⟩
      have hM := hM.got hc hO
      rw [show [pk].flatMap strB = strB pk by simp] at hM
      refine x_wy (.inl (hc.gy h0)) rfl ?_
      refine yk1 7 hM (by kernel_rfl) rfl (fun w h0 hM => ?_)
      refine ca (flag_any v86 pd w (hM.rowRdO (en := eU8) (v := v86) (by (repeat constructor))) (by rw [List.length_append, List.length_append]; omega)) ?_
      rintro v89 w2 ⟨hc, hO⟩
      have hM := hM.got hc hO
      refine x_wy (.inl (hc.gy h0)) rfl ?_
      (first | refine yn 8 rfl ?_ | refine ynt 8 rfl ?_ | refine ynff 8 rfl ?_)
      refine wy_done (by kernel_rfl) (fun w hc => ?_)
      have hM := hM.call hc
      repeat (first | ((with_reducible apply is_ld); first | refine kld hM ?_ | refine kldw hM ?_ | refine kle hM ?_ | refine klew hM ?_) | ((with_reducible apply is_sto); first | (refine kst hM ?_; intro w hM) | (refine kstw hM ?_; intro w hM)) | ((with_reducible apply is_st); refine su ?_) | ((with_reducible apply is_gd); first | refine gt ?_ | refine gf ?_ | refine gu ?_) | ((with_reducible apply is_en); refine en ?_) | (with_reducible apply c_region) | refine ws ?_ | refine x_block_other (by decide) ?_)
      cases pd with
      | true =>
        refine c_condb rfl (fun h => by cases h) (fun _ => ?_)
        repeat (first | ((with_reducible apply is_ld); first | refine kld hM ?_ | refine kldw hM ?_ | refine kle hM ?_ | refine klew hM ?_) | ((with_reducible apply is_sto); first | (refine kst hM ?_; intro w hM) | (refine kstw hM ?_; intro w hM)) | ((with_reducible apply is_st); refine su ?_) | ((with_reducible apply is_gd); first | refine gt ?_ | refine gf ?_ | refine gu ?_) | ((with_reducible apply is_en); refine en ?_) | (with_reducible apply c_region) | refine ws ?_ | refine x_block_other (by decide) ?_)
        have he : Q ++ (wz.take i).flatMap writeB ++ strB pk ++ flagB true = Q ++ (wz.take (i + 1)).flatMap writeB := by
          rw [take_flat hp]
          simp [writeB, List.append_assoc]
        rw [he] at hM
        exact x_goes (n2 - 1) rfl (by omega) ⟨i + 1, v89, exj rfl, by omega, hM.sub (by (repeat constructor))⟩
      | false =>
        refine c_condb rfl (fun _ => ?_) (fun h => by cases h)
        repeat (first | ((with_reducible apply is_ld); first | refine kld hM ?_ | refine kldw hM ?_ | refine kle hM ?_ | refine klew hM ?_) | ((with_reducible apply is_sto); first | (refine kst hM ?_; intro w hM) | (refine kstw hM ?_; intro w hM)) | ((with_reducible apply is_st); refine su ?_) | ((with_reducible apply is_gd); first | refine gt ?_ | refine gf ?_ | refine gu ?_) | ((with_reducible apply is_en); refine en ?_) | (with_reducible apply c_region) | refine ws ?_ | refine x_block_other (by decide) ?_)
        refine kbs (en := eBs) (vs := [.string (bst pv)]) [pv] hM (fun w b45 hM => ?_)
        refine ca (texts_any v89 _ [pv] w (hM.rowRdO (en := eU8) (v := v89) (by (repeat constructor))) (hM.rowRdO (en := eBs) (xs := [pv]) (by (repeat constructor))) (by simp only [List.length_append, flagB_len]; omega) (by simpa using hsp.2) (by simp) (by simp)) ?_
        rintro v97 w2 ⟨hc, hO⟩
        have hM := hM.got hc hO
        rw [show [pv].flatMap strB = strB pv by simp] at hM
        repeat (first | ((with_reducible apply is_ld); first | refine kld hM ?_ | refine kldw hM ?_ | refine kle hM ?_ | refine klew hM ?_) | ((with_reducible apply is_sto); first | (refine kst hM ?_; intro w hM) | (refine kstw hM ?_; intro w hM)) | ((with_reducible apply is_st); refine su ?_) | ((with_reducible apply is_gd); first | refine gt ?_ | refine gf ?_ | refine gu ?_) | ((with_reducible apply is_en); refine en ?_) | (with_reducible apply c_region) | refine ws ?_ | refine x_block_other (by decide) ?_)
        have he : Q ++ (wz.take i).flatMap writeB ++ strB pk ++ flagB false ++ strB pv = Q ++ (wz.take (i + 1)).flatMap writeB := by
          rw [take_flat hp]
          simp [writeB, List.append_assoc]
        rw [he] at hM
        exact x_goes (n2 - 1) rfl (by omega) ⟨i + 1, v97, exj rfl, by omega, hM.sub (by (repeat constructor))⟩
    · rw [List.take_of_length_le (by omega)] at hM
      repeat (first | ((with_reducible apply is_ld); first | refine kld hM ?_ | refine kldw hM ?_ | refine kle hM ?_ | refine klew hM ?_) | ((with_reducible apply is_sto); first | (refine kst hM ?_; intro w hM) | (refine kstw hM ?_; intro w hM)) | ((with_reducible apply is_st); refine su ?_) | ((with_reducible apply is_gd); first | refine gt ?_ | refine gf ?_ | refine gu ?_) | ((with_reducible apply is_en); refine en ?_) | (with_reducible apply c_region) | refine ws ?_ | refine x_block_other (by decide) ?_)
      have hrow := hM.row (v := v) (by (repeat constructor))
      have he : Q ++ wz.flatMap writeB = recB ses snap strict us wz := by
        rw [← hQ, ← hpre]
        simp [recB, List.append_assoc]
      rw [he] at hrow
      exact out1 rfl ⟨hM.ch, hrow⟩
set_option maxRecDepth 100000 in
set_option maxHeartbeats 32000000 in
theorem rbytes16_any (ses snap : Nat) (strict : Bool) (vr vw : Value) (us : List (RR × List Pr)) (wz : List Pr) (w0 : World) (hR : (Ty.enc eRr).Rd [] w0 vr (us.map (fun u : RR × List Pr => u.1))) (hU : ∀ u ∈ us, (Ty.enc ePr).Rd [] w0 (slv u.1.2.2.2) u.2) (hW : (Ty.enc ePr).Rd [] w0 vw wz) (hS : SmallR us wz) (h1 : ses < 2 ^ 63) (h2 : snap < 2 ^ 63) :
    Calls Tryd.prog 38 #[.agg (rC ses snap strict vr vw).toArray] w0 (Ret fun u w' => Ch [] w0 w' ∧ Go.Proofs.E.Own eU8 w' w0.heap.size 5 u (recB ses snap strict us wz)) := by
  have hM := Mem.start w0
  obtain ⟨A, c, rfl⟩ := hR.form
  obtain ⟨A2, c2, rfl⟩ := hW.form
  obtain ⟨hs1, hs2, hs3, hs4⟩ := hS
  simp only [List.length_map] at hR ⊢
  have n1 := numB_len (n := ses) (by omega)
  have n2 := numB_len (n := snap) (by omega)
  have n3 := numB_len (n := us.length) (by omega)
  have n4 := numB_len (n := wz.length) (by omega)
  refine enter [.agg (rC ses snap strict (.slice A us.length c) (.slice A2 wz.length c2)).toArray, undef, undef, undef, undef, undef, undef, undef, undef, undef, undef, undef, undef, undef, undef, undef, undef, undef, undef, undef, undef, undef, undef, undef, undef, undef, undef, undef, undef, undef, undef, undef, undef, undef, undef, undef, undef, undef, undef, undef, undef, undef, undef, undef, undef, undef, undef, undef, undef, undef, undef, undef, undef, undef, undef, undef, undef, undef, undef, undef, undef, undef, undef, undef, undef, undef, undef, undef, undef, undef, undef, undef, undef, undef, undef, undef, undef, undef, undef, undef, undef, undef, undef, undef, undef, undef, undef, undef, undef, undef, undef, undef, undef, undef, undef, undef, undef, undef] Tryd.func38 rfl rfl ?_
  repeat (first | ((with_reducible apply is_ld); first | refine kld hM ?_ | refine kldw hM ?_ | refine kle hM ?_ | refine klew hM ?_) | ((with_reducible apply is_sto); first | (refine kst hM ?_; intro w hM) | (refine kstw hM ?_; intro w hM)) | ((with_reducible apply is_st); refine su ?_) | ((with_reducible apply is_gd); first | refine gt ?_ | refine gf ?_ | refine gu ?_) | ((with_reducible apply is_en); refine en ?_) | (with_reducible apply c_region) | refine ws ?_ | refine x_block_other (by decide) ?_)
  refine kbx hM (fun w b1 hM => ?_)
  have hM : Mem [] w0 w [.cell b1 (rC ses snap strict (.slice A us.length c) (.slice A2 wz.length c2)) 25] := hM
  repeat (first | ((with_reducible apply is_ld); first | refine kld hM ?_ | refine kldw hM ?_ | refine kle hM ?_ | refine klew hM ?_) | ((with_reducible apply is_sto); first | (refine kst hM ?_; intro w hM) | (refine kstw hM ?_; intro w hM)) | ((with_reducible apply is_st); refine su ?_) | ((with_reducible apply is_gd); first | refine gt ?_ | refine gf ?_ | refine gu ?_) | ((with_reducible apply is_en); refine en ?_) | (with_reducible apply c_region) | refine ws ?_ | refine x_block_other (by decide) ?_)
  refine c_ordY ([], []) [] (by kernel_rfl) (by kernel_rfl) (by kernel_rfl) (fun w hc hs => ?_)
  have hM := hM.call hc
  have hl1 := Blk.lt (hM.blk (b := b1) (by (repeat constructor)))
  (first | refine yn 0 rfl ?_ | refine ynt 0 rfl ?_ | refine ynff 0 rfl ?_)
  refine ynl 1 rfl (hM.blk (b := b1) (by (repeat constructor))) (by omega) (by simp) rfl rfl ?_
  (first | refine yn 2 rfl ?_ | refine ynt 2 rfl ?_ | refine ynff 2 rfl ?_); (first | refine yn 4 rfl ?_ | refine ynt 4 rfl ?_ | refine ynff 4 rfl ?_)
  refine ynl 5 rfl (hM.blk (b := b1) (by (repeat constructor))) (by omega) (by simp) rfl rfl ?_
  (first | refine yn 6 rfl ?_ | refine ynt 6 rfl ?_ | refine ynff 6 rfl ?_); (first | refine yn 8 rfl ?_ | refine ynt 8 rfl ?_ | refine ynff 8 rfl ?_)
  refine ynl 9 rfl (hM.blk (b := b1) (by (repeat constructor))) (by omega) (by simp) rfl rfl ?_
  refine yk1 3 hM (by kernel_rfl) rfl (fun w h0 hM => ?_)
  refine ca (rnum_any (.slice none 0 0) ses w (Ty.Rd.nil _ _ _ _ _) (by simp) (by omega)) ?_
  rintro v15 w2 ⟨hc, hO⟩
  have hM := hM.got hc hO
  refine x_wy (.inl (hc.gy h0)) rfl ?_
  refine yk1 7 hM (by kernel_rfl) rfl (fun w h0 hM => ?_)
  refine ca (rnum_any v15 snap w (hM.rowRdO (en := eU8) (v := v15) (by (repeat constructor))) (by simp only [List.length_append, List.length_nil]; omega) (by omega)) ?_
  rintro v17 w2 ⟨hc, hO⟩
  have hM := hM.got hc hO
  refine x_wy (.inl (hc.gy h0)) rfl ?_
  refine yk1 10 hM (by kernel_rfl) rfl (fun w h0 hM => ?_)
  refine ca (rflag_any v17 strict w (hM.rowRdO (en := eU8) (v := v17) (by (repeat constructor))) (by simp only [List.length_append, List.length_nil]; omega)) ?_
  rintro v18 w2 ⟨hc, hO⟩
  have hM := hM.got hc hO
  rw [List.nil_append] at hM
  refine x_wy (.inl (hc.gy h0)) rfl ?_
  (first | refine yn 11 rfl ?_ | refine ynt 11 rfl ?_ | refine ynff 11 rfl ?_)
  refine wy_done (by kernel_rfl) (fun w hc => ?_)
  have hM := hM.call hc
  repeat (first | ((with_reducible apply is_ld); first | refine kld hM ?_ | refine kldw hM ?_ | refine kle hM ?_ | refine klew hM ?_) | ((with_reducible apply is_sto); first | (refine kst hM ?_; intro w hM) | (refine kstw hM ?_; intro w hM)) | ((with_reducible apply is_st); refine su ?_) | ((with_reducible apply is_gd); first | refine gt ?_ | refine gf ?_ | refine gu ?_) | ((with_reducible apply is_en); refine en ?_) | (with_reducible apply c_region) | refine ws ?_ | refine x_block_other (by decide) ?_)
  refine kcr hM (rnum_any v18 us.length w (hM.rowRdO (en := eU8) (v := v18) (by (repeat constructor))) (by simp only [List.length_append, flagB_len]; omega) (by omega)) (fun v24 w hM => ?_)
  obtain ⟨pre, hpre⟩ : ∃ pre, numB ses ++ numB snap ++ flagB strict ++ numB us.length = pre := ⟨_, rfl⟩
  have hpl : pre.length ≤ 40 := by
    rw [← hpre]
    simp only [List.length_append, flagB_len]
    omega
  rw [hpre] at hM
  have hM := hM.sub (M := [.row eU8 5 v24 pre, .cell b1 (rC ses snap strict (.slice A us.length c) (.slice A2 wz.length c2)) 25]) (by (repeat constructor))
  repeat (first | ((with_reducible apply is_ld); first | refine kld hM ?_ | refine kldw hM ?_ | refine kle hM ?_ | refine klew hM ?_) | ((with_reducible apply is_sto); first | (refine kst hM ?_; intro w hM) | (refine kstw hM ?_; intro w hM)) | ((with_reducible apply is_st); refine su ?_) | ((with_reducible apply is_gd); first | refine gt ?_ | refine gf ?_ | refine gu ?_) | ((with_reducible apply is_en); refine en ?_) | (with_reducible apply c_region) | refine ws ?_ | refine x_block_other (by decide) ?_)
  
  refine c_loop (fun n l w => ∃ (j : Nat) (v : Value), (∃ jj : Nat → Value, l = [jj 0, .pointer (some ⟨b1, 0, none⟩), .slice none 0 0, v, jj 4, jj 5, jj 6, jj 7, jj 8, jj 9, jj 10, jj 11, jj 12, jj 13, jj 14, jj 15, jj 16, jj 17, jj 18, jj 19, jj 20, jj 21, jj 22, jj 23, jj 24, jj 25, jj 26, jj 27, .slice A us.length c, .int .i64 (us.length : Int), .int .i64 (j : Int), jj 31, jj 32, jj 33, jj 34, jj 35, jj 36, jj 37, jj 38, jj 39, jj 40, jj 41, jj 42, jj 43, jj 44, jj 45, jj 46, jj 47, jj 48, jj 49, jj 50, jj 51, jj 52, jj 53, jj 54, jj 55, jj 56, jj 57, jj 58, jj 59, jj 60, jj 61, jj 62, jj 63, jj 64, jj 65, jj 66, jj 67, jj 68, jj 69, jj 70, jj 71, jj 72, jj 73, jj 74, jj 75, jj 76, jj 77, jj 78, jj 79, jj 80, jj 81, jj 82, jj 83, jj 84, jj 85, jj 86, jj 87, jj 88, jj 89, jj 90, jj 91, jj 92, jj 93, jj 94, jj 95, jj 96, jj 97]) ∧ n + j = us.length ∧ Mem [] w0 w [.row eU8 5 v (pre ++ (us.take j).flatMap readB), .cell b1 (rC ses snap strict (.slice A us.length c) (.slice A2 wz.length c2)) 25]) us.length
    ⟨0, v24, exj rfl, rfl, by simpa using hM⟩ ?_
  clear hM
  rintro n l w ⟨j, v, ⟨jj, rfl⟩, hnj, hM⟩
  have hbl := take_le (f := readB) (l := us) (C := 186500) (N := 100) j (fun u hu => readB_len (hs3 u hu)) hs1
  repeat (first | ((with_reducible apply is_ld); first | refine kld hM ?_ | refine kldw hM ?_ | refine kle hM ?_ | refine klew hM ?_) | ((with_reducible apply is_sto); first | (refine kst hM ?_; intro w hM) | (refine kstw hM ?_; intro w hM)) | ((with_reducible apply is_st); refine su ?_) | ((with_reducible apply is_gd); first | refine gt ?_ | refine gf ?_ | refine gu ?_) | ((with_reducible apply is_en); refine en ?_) | (with_reducible apply c_region) | refine ws ?_ | refine x_block_other (by decide) ?_)
  refine c_cond rfl (fun hj => ?_) (fun hj => ?_)
  · repeat (first | ((with_reducible apply is_ld); first | refine kld hM ?_ | refine kldw hM ?_ | refine kle hM ?_ | refine klew hM ?_) | ((with_reducible apply is_sto); first | (refine kst hM ?_; intro w hM) | (refine kstw hM ?_; intro w hM)) | ((with_reducible apply is_st); refine su ?_) | ((with_reducible apply is_gd); first | refine gt ?_ | refine gf ?_ | refine gu ?_) | ((with_reducible apply is_en); refine en ?_) | (with_reducible apply c_region) | refine ws ?_ | refine x_block_other (by decide) ?_)
    refine kix hR (fun b o x hx hA => ?_) (h1 := by simp; omega)
    rw [Int.toNat_natCast, List.getElem?_map] at hx
    obtain ⟨u, hu, rfl⟩ := Option.map_eq_some_iff.1 hx
    have hum := List.mem_of_getElem? hu
    obtain ⟨⟨sc, key, to, vp⟩, ps⟩ := u
    have hsu := hs3 _ hum
    have hps := hU _ hum
    simp only at hsu hps hA
    have hvl : vp.2.1 = ps.length := by
      obtain ⟨A, c, h⟩ := hps.form
      unfold slv at h
      injection h
    obtain ⟨A3, n3, c3⟩ := vp
    simp only at hvl
    subst hvl
    have hpn := numB_len (n := ps.length) (by omega)
    have hkl := strB_len hsu.1
    have htl := strB_len hsu.2.1
    refine katr hM hA ?_
    refine kal hM (fun w b5 hM => ?_)
    refine kstw (vs := eRr.f (sc, key, to, (A3, ps.length, c3))) hM (fun w hM => ?_) (h1 := eRr.h1 (sc, key, to, (A3, ps.length, c3)))
    repeat (first | ((with_reducible apply is_ld); first | refine kld hM ?_ | refine kldw hM ?_ | refine kle hM ?_ | refine klew hM ?_) | ((with_reducible apply is_sto); first | (refine kst hM ?_; intro w hM) | (refine kstw hM ?_; intro w hM)) | ((with_reducible apply is_st); refine su ?_) | ((with_reducible apply is_gd); first | refine gt ?_ | refine gf ?_ | refine gu ?_) | ((with_reducible apply is_en); refine en ?_) | (with_reducible apply c_region) | refine ws ?_ | refine x_block_other (by decide) ?_)
    refine c_ordY ([], []) [] (by kernel_rfl) (by kernel_rfl) (by kernel_rfl) (fun w hc hs => ?_)
    have hM := hM.call hc
    have hl5 := Blk.lt (hM.blk (b := b5) (by (repeat constructor)))
    (first | refine yn 0 rfl ?_ | refine ynt 0 rfl ?_ | refine ynff 0 rfl ?_); (first | refine yn 1 rfl ?_ | refine ynt 1 rfl ?_ | refine ynff 1 rfl ?_)
    refine ynl 2 rfl (hM.blk (b := b5) (by (repeat constructor))) (by omega) (by simp) rfl rfl ?_
    (first | refine yn 4 rfl ?_ | refine ynt 4 rfl ?_ | refine ynff 4 rfl ?_)
    refine ynl 5 rfl (hM.blk (b := b5) (by (repeat constructor))) (by omega) (by simp) rfl rfl ?_
    refine yk1 3 hM (by kernel_rfl) rfl (fun w h0 hM => ?_)
    refine ca (rflag_any v sc w (hM.rowRdO (en := eU8) (v := v) (by (repeat constructor))) (by rw [List.length_append]; omega)) ?_
    rintro v35 w2 ⟨hc, hO⟩
    have hM := hM.got hc hO
    refine x_wy (.inl (hc.gy h0)) rfl ?_
    refine yk1 6 hM (by kernel_rfl) rfl (fun w h0 hM => ?_)
    refine ca (rstr_any v35 key w (hM.rowRdO (en := eU8) (v := v35) (by (repeat constructor))) (by rw [List.length_append, List.length_append, flagB_len]; omega) (by have := hsu.1; omega)) ?_
    rintro v39 w2 ⟨hc, hO⟩
    have hM := hM.got hc hO
    refine x_wy (.inl (hc.gy h0)) rfl ?_
    (first | refine yn 7 rfl ?_ | refine ynt 7 rfl ?_ | refine ynff 7 rfl ?_)
    refine wy_done (by kernel_rfl) (fun w hc => ?_)
    have hM := hM.call hc
    have hM := hM.sub (M := [.row eU8 5 v39 (pre ++ (us.take j).flatMap readB ++ flagB sc ++ strB key), .cell b5 (eRr.f (sc, key, to, (A3, ps.length, c3))) 76, .cell b1 (rC ses snap strict (.slice A us.length c) (.slice A2 wz.length c2)) 25]) (by (repeat constructor))
    repeat (first | ((with_reducible apply is_ld); first | refine kld hM ?_ | refine kldw hM ?_ | refine kle hM ?_ | refine klew hM ?_) | ((with_reducible apply is_sto); first | (refine kst hM ?_; intro w hM) | (refine kstw hM ?_; intro w hM)) | ((with_reducible apply is_st); refine su ?_) | ((with_reducible apply is_gd); first | refine gt ?_ | refine gf ?_ | refine gu ?_) | ((with_reducible apply is_en); refine en ?_) | (with_reducible apply c_region) | refine ws ?_ | refine x_block_other (by decide) ?_)
    cases sc with
    | true =>
      refine c_condb rfl (fun _ => ?_) (fun h => by cases h)
      repeat (first | ((with_reducible apply is_ld); first | refine kld hM ?_ | refine kldw hM ?_ | refine kle hM ?_ | refine klew hM ?_) | ((with_reducible apply is_sto); first | (refine kst hM ?_; intro w hM) | (refine kstw hM ?_; intro w hM)) | ((with_reducible apply is_st); refine su ?_) | ((with_reducible apply is_gd); first | refine gt ?_ | refine gf ?_ | refine gu ?_) | ((with_reducible apply is_en); refine en ?_) | (with_reducible apply c_region) | refine ws ?_ | refine x_block_other (by decide) ?_)
      refine kcr hM (rstr_any v39 to w (hM.rowRdO (en := eU8) (v := v39) (by (repeat constructor))) (by simp only [List.length_append, flagB_len]; omega) (by omega)) (fun v46 w hM => ?_)
      repeat (first | ((with_reducible apply is_ld); first | refine kld hM ?_ | refine kldw hM ?_ | refine kle hM ?_ | refine klew hM ?_) | ((with_reducible apply is_sto); first | (refine kst hM ?_; intro w hM) | (refine kstw hM ?_; intro w hM)) | ((with_reducible apply is_st); refine su ?_) | ((with_reducible apply is_gd); first | refine gt ?_ | refine gf ?_ | refine gu ?_) | ((with_reducible apply is_en); refine en ?_) | (with_reducible apply c_region) | refine ws ?_ | refine x_block_other (by decide) ?_)
      refine kcr hM (rnum_any v46 (ps.length) w (hM.rowRdO (en := eU8) (v := v46) (by (repeat constructor))) (by simp only [List.length_append, flagB_len]; omega) (by omega)) (fun v52 w hM => ?_)
      obtain ⟨Q, hQ⟩ : ∃ Q, pre ++ (us.take j).flatMap readB ++ flagB true ++ strB key ++ strB to ++ numB ps.length = Q := ⟨_, rfl⟩
      have hQl : Q.length ≤ 18651000 := by
        rw [← hQ]
        simp only [List.length_append, flagB_len]
        omega
      rw [hQ] at hM
      have hM := hM.sub (M := [.row eU8 5 v52 Q, .cell b5 (eRr.f (true, key, to, (A3, ps.length, c3))) 76, .cell b1 (rC ses snap strict (.slice A us.length c) (.slice A2 wz.length c2)) 25]) (by (repeat constructor))
      repeat (first | ((with_reducible apply is_ld); first | refine kld hM ?_ | refine kldw hM ?_ | refine kle hM ?_ | refine klew hM ?_) | ((with_reducible apply is_sto); first | (refine kst hM ?_; intro w hM) | (refine kstw hM ?_; intro w hM)) | ((with_reducible apply is_st); refine su ?_) | ((with_reducible apply is_gd); first | refine gt ?_ | refine gf ?_ | refine gu ?_) | ((with_reducible apply is_en); refine en ?_) | (with_reducible apply c_region) | refine ws ?_ | refine x_block_other (by decide) ?_)
      
      refine c_loop (fun n l w => ∃ (i : Nat) (v : Value), (∃ jj : Nat → Value, l = [jj 0, .pointer (some ⟨b1, 0, none⟩), .slice none 0 0, v, jj 4, .pointer (some ⟨b5, 0, none⟩), jj 6, jj 7, jj 8, jj 9, jj 10, jj 11, jj 12, jj 13, jj 14, jj 15, jj 16, jj 17, jj 18, jj 19, jj 20, jj 21, jj 22, jj 23, jj 24, jj 25, jj 26, jj 27, .slice A us.length c, .int .i64 (us.length : Int), .int .i64 (j : Int), jj 31, jj 32, jj 33, jj 34, jj 35, jj 36, jj 37, jj 38, jj 39, jj 40, jj 41, jj 42, jj 43, jj 44, jj 45, jj 46, jj 47, jj 48, jj 49, jj 50, jj 51, jj 52, jj 53, .slice A3 ps.length c3, .int .i64 (ps.length : Int), .int .i64 (i : Int), jj 57, jj 58, jj 59, jj 60, jj 61, jj 62, jj 63, jj 64, jj 65, jj 66, jj 67, jj 68, jj 69, jj 70, jj 71, jj 72, jj 73, jj 74, jj 75, jj 76, jj 77, jj 78, jj 79, jj 80, jj 81, jj 82, jj 83, jj 84, jj 85, jj 86, jj 87, jj 88, jj 89, jj 90, jj 91, jj 92, jj 93, jj 94, jj 95, jj 96, jj 97]) ∧ n + i = ps.length ∧ Mem [] w0 w [.row eU8 5 v (Q ++ (ps.take i).flatMap pairB), .cell b5 (eRr.f (true, key, to, (A3, ps.length, c3))) 76, .cell b1 (rC ses snap strict (.slice A us.length c) (.slice A2 wz.length c2)) 25]) ps.length
        ⟨0, v52, exj rfl, rfl, by simpa using hM⟩ ?_
      clear hM
      rintro n2 l w ⟨i, v, ⟨jj, rfl⟩, hni, hM⟩
      have hpl := take_le (f := pairB) (l := ps) (C := 618) (N := 300) i (fun p hp => pairB_len (hsu.2.2.2 p hp)) hsu.2.2.1
      repeat (first | ((with_reducible apply is_ld); first | refine kld hM ?_ | refine kldw hM ?_ | refine kle hM ?_ | refine klew hM ?_) | ((with_reducible apply is_sto); first | (refine kst hM ?_; intro w hM) | (refine kstw hM ?_; intro w hM)) | ((with_reducible apply is_st); refine su ?_) | ((with_reducible apply is_gd); first | refine gt ?_ | refine gf ?_ | refine gu ?_) | ((with_reducible apply is_en); refine en ?_) | (with_reducible apply c_region) | refine ws ?_ | refine x_block_other (by decide) ?_)
      refine c_cond rfl (fun hi => ?_) (fun hi => ?_)
      · repeat (first | ((with_reducible apply is_ld); first | refine kld hM ?_ | refine kldw hM ?_ | refine kle hM ?_ | refine klew hM ?_) | ((with_reducible apply is_sto); first | (refine kst hM ?_; intro w hM) | (refine kstw hM ?_; intro w hM)) | ((with_reducible apply is_st); refine su ?_) | ((with_reducible apply is_gd); first | refine gt ?_ | refine gf ?_ | refine gu ?_) | ((with_reducible apply is_en); refine en ?_) | (with_reducible apply c_region) | refine ws ?_ | refine x_block_other (by decide) ?_)
        refine kix hps (fun b o p hp hA => ?_)
        rw [Int.toNat_natCast] at hp
        have hsp := hsu.2.2.2 p (List.mem_of_getElem? hp)
        obtain ⟨pk, pv, pd⟩ := p
        have hk1 : (strB pk).length ≤ 309 := strB_len hsp.1
        have hv1 : (strB pv).length ≤ 309 := strB_len hsp.2
        refine katr hM hA ?_
        refine kal hM (fun w b7 hM => ?_)
        refine kstw (vs := ePr.f (pk, pv, pd)) hM (fun w hM => ?_) (h1 := ePr.h1 (pk, pv, pd))
        repeat (first | ((with_reducible apply is_ld); first | refine kld hM ?_ | refine kldw hM ?_ | refine kle hM ?_ | refine klew hM ?_) | ((with_reducible apply is_sto); first | (refine kst hM ?_; intro w hM) | (refine kstw hM ?_; intro w hM)) | ((with_reducible apply is_st); refine su ?_) | ((with_reducible apply is_gd); first | refine gt ?_ | refine gf ?_ | refine gu ?_) | ((with_reducible apply is_en); refine en ?_) | (with_reducible apply c_region) | refine ws ?_ | refine x_block_other (by decide) ?_)
        refine c_ordY ([], []) [] (by kernel_rfl) (by kernel_rfl) (by kernel_rfl) (fun w hc hs => ?_)
        have hM := hM.call hc
        have hl7 := Blk.lt (hM.blk (b := b7) (by (repeat constructor)))
        (first | refine yn 0 rfl ?_ | refine ynt 0 rfl ?_ | refine ynff 0 rfl ?_); (first | refine yn 1 rfl ?_ | refine ynt 1 rfl ?_ | refine ynff 1 rfl ?_)
        refine ynl 2 rfl (hM.blk (b := b7) (by (repeat constructor))) (by omega) (by simp) rfl rfl ?_
        (first | refine yn 4 rfl ?_ | refine ynt 4 rfl ?_ | refine ynff 4 rfl ?_)
        refine ynl 5 rfl (hM.blk (b := b7) (by (repeat constructor))) (by omega) (by simp) rfl rfl ?_
        refine yk1 3 hM (by kernel_rfl) rfl (fun w h0 hM => ?_)
        refine ca (rstr_any v pk w (hM.rowRdO (en := eU8) (v := v) (by (repeat constructor))) (by rw [List.length_append]; omega) (Nat.le_trans (show pk.length ≤ 300 from hsp.1) (by omega))) ?_
        rintro v63 w2 ⟨hc, hO⟩
        have hM := hM.got hc hO
        refine x_wy (.inl (hc.gy h0)) rfl ?_
        refine yk1 6 hM (by kernel_rfl) rfl (fun w h0 hM => ?_)
        refine ca (rstr_any v63 pv w (hM.rowRdO (en := eU8) (v := v63) (by (repeat constructor))) (by rw [List.length_append, List.length_append]; omega) (Nat.le_trans (show pv.length ≤ 300 from hsp.2) (by omega))) ?_
        rintro v66 w2 ⟨hc, hO⟩
        have hM := hM.got hc hO
        refine x_wy (.inl (hc.gy h0)) rfl ?_
        (first | refine yn 7 rfl ?_ | refine ynt 7 rfl ?_ | refine ynff 7 rfl ?_)
        refine wy_done (by kernel_rfl) (fun w hc => ?_)
        have hM := hM.call hc
        rw [List.append_assoc, show strB pk ++ strB pv = pairB (pk, pv, pd) by rfl] at hM
        repeat (first | ((with_reducible apply is_ld); first | refine kld hM ?_ | refine kldw hM ?_ | refine kle hM ?_ | refine klew hM ?_) | ((with_reducible apply is_sto); first | (refine kst hM ?_; intro w hM) | (refine kstw hM ?_; intro w hM)) | ((with_reducible apply is_st); refine su ?_) | ((with_reducible apply is_gd); first | refine gt ?_ | refine gf ?_ | refine gu ?_) | ((with_reducible apply is_en); refine en ?_) | (with_reducible apply c_region) | refine ws ?_ | refine x_block_other (by decide) ?_)
        rw [List.append_assoc, ← take_flat hp] at hM
        exact x_goes (n2 - 1) rfl (by omega) ⟨i + 1, v66, exj rfl, by omega, hM.sub (by (repeat constructor))⟩
      · rw [List.take_of_length_le (by omega)] at hM
        repeat (first | ((with_reducible apply is_ld); first | refine kld hM ?_ | refine kldw hM ?_ | refine kle hM ?_ | refine klew hM ?_) | ((with_reducible apply is_sto); first | (refine kst hM ?_; intro w hM) | (refine kstw hM ?_; intro w hM)) | ((with_reducible apply is_st); refine su ?_) | ((with_reducible apply is_gd); first | refine gt ?_ | refine gf ?_ | refine gu ?_) | ((with_reducible apply is_en); refine en ?_) | (with_reducible apply c_region) | refine ws ?_ | refine x_block_other (by decide) ?_)
        have he : Q ++ ps.flatMap pairB = pre ++ (us.take (j + 1)).flatMap readB := by
          rw [take_flat hu, ← hQ]
          simp [readB, List.append_assoc]
        rw [he] at hM
        exact x_goes (n - 1) rfl (by omega) ⟨j + 1, v, exj rfl, by omega, hM.sub (by (repeat constructor))⟩
    | false =>
      refine c_condb rfl (fun h => by cases h) (fun _ => ?_)
      repeat (first | ((with_reducible apply is_ld); first | refine kld hM ?_ | refine kldw hM ?_ | refine kle hM ?_ | refine klew hM ?_) | ((with_reducible apply is_sto); first | (refine kst hM ?_; intro w hM) | (refine kstw hM ?_; intro w hM)) | ((with_reducible apply is_st); refine su ?_) | ((with_reducible apply is_gd); first | refine gt ?_ | refine gf ?_ | refine gu ?_) | ((with_reducible apply is_en); refine en ?_) | (with_reducible apply c_region) | refine ws ?_ | refine x_block_other (by decide) ?_)
      refine kcr hM (rnum_any v39 (ps.length) w (hM.rowRdO (en := eU8) (v := v39) (by (repeat constructor))) (by simp only [List.length_append, flagB_len]; omega) (by omega)) (fun v52 w hM => ?_)
      obtain ⟨Q, hQ⟩ : ∃ Q, pre ++ (us.take j).flatMap readB ++ flagB false ++ strB key ++ numB ps.length = Q := ⟨_, rfl⟩
      have hQl : Q.length ≤ 18651000 := by
        rw [← hQ]
        simp only [List.length_append, flagB_len]
        omega
      rw [hQ] at hM
      have hM := hM.sub (M := [.row eU8 5 v52 Q, .cell b5 (eRr.f (false, key, to, (A3, ps.length, c3))) 76, .cell b1 (rC ses snap strict (.slice A us.length c) (.slice A2 wz.length c2)) 25]) (by (repeat constructor))
      repeat (first | ((with_reducible apply is_ld); first | refine kld hM ?_ | refine kldw hM ?_ | refine kle hM ?_ | refine klew hM ?_) | ((with_reducible apply is_sto); first | (refine kst hM ?_; intro w hM) | (refine kstw hM ?_; intro w hM)) | ((with_reducible apply is_st); refine su ?_) | ((with_reducible apply is_gd); first | refine gt ?_ | refine gf ?_ | refine gu ?_) | ((with_reducible apply is_en); refine en ?_) | (with_reducible apply c_region) | refine ws ?_ | refine x_block_other (by decide) ?_)
      
      refine c_loop (fun n l w => ∃ (i : Nat) (v : Value), (∃ jj : Nat → Value, l = [jj 0, .pointer (some ⟨b1, 0, none⟩), .slice none 0 0, v, jj 4, .pointer (some ⟨b5, 0, none⟩), jj 6, jj 7, jj 8, jj 9, jj 10, jj 11, jj 12, jj 13, jj 14, jj 15, jj 16, jj 17, jj 18, jj 19, jj 20, jj 21, jj 22, jj 23, jj 24, jj 25, jj 26, jj 27, .slice A us.length c, .int .i64 (us.length : Int), .int .i64 (j : Int), jj 31, jj 32, jj 33, jj 34, jj 35, jj 36, jj 37, jj 38, jj 39, jj 40, jj 41, jj 42, jj 43, jj 44, jj 45, jj 46, jj 47, jj 48, jj 49, jj 50, jj 51, jj 52, jj 53, .slice A3 ps.length c3, .int .i64 (ps.length : Int), .int .i64 (i : Int), jj 57, jj 58, jj 59, jj 60, jj 61, jj 62, jj 63, jj 64, jj 65, jj 66, jj 67, jj 68, jj 69, jj 70, jj 71, jj 72, jj 73, jj 74, jj 75, jj 76, jj 77, jj 78, jj 79, jj 80, jj 81, jj 82, jj 83, jj 84, jj 85, jj 86, jj 87, jj 88, jj 89, jj 90, jj 91, jj 92, jj 93, jj 94, jj 95, jj 96, jj 97]) ∧ n + i = ps.length ∧ Mem [] w0 w [.row eU8 5 v (Q ++ (ps.take i).flatMap pairB), .cell b5 (eRr.f (false, key, to, (A3, ps.length, c3))) 76, .cell b1 (rC ses snap strict (.slice A us.length c) (.slice A2 wz.length c2)) 25]) ps.length
        ⟨0, v52, exj rfl, rfl, by simpa using hM⟩ ?_
      clear hM
      rintro n2 l w ⟨i, v, ⟨jj, rfl⟩, hni, hM⟩
      have hpl := take_le (f := pairB) (l := ps) (C := 618) (N := 300) i (fun p hp => pairB_len (hsu.2.2.2 p hp)) hsu.2.2.1
      repeat (first | ((with_reducible apply is_ld); first | refine kld hM ?_ | refine kldw hM ?_ | refine kle hM ?_ | refine klew hM ?_) | ((with_reducible apply is_sto); first | (refine kst hM ?_; intro w hM) | (refine kstw hM ?_; intro w hM)) | ((with_reducible apply is_st); refine su ?_) | ((with_reducible apply is_gd); first | refine gt ?_ | refine gf ?_ | refine gu ?_) | ((with_reducible apply is_en); refine en ?_) | (with_reducible apply c_region) | refine ws ?_ | refine x_block_other (by decide) ?_)
      refine c_cond rfl (fun hi => ?_) (fun hi => ?_)
      · repeat (first | ((with_reducible apply is_ld); first | refine kld hM ?_ | refine kldw hM ?_ | refine kle hM ?_ | refine klew hM ?_) | ((with_reducible apply is_sto); first | (refine kst hM ?_; intro w hM) | (refine kstw hM ?_; intro w hM)) | ((with_reducible apply is_st); refine su ?_) | ((with_reducible apply is_gd); first | refine gt ?_ | refine gf ?_ | refine gu ?_) | ((with_reducible apply is_en); refine en ?_) | (with_reducible apply c_region) | refine ws ?_ | refine x_block_other (by decide) ?_)
        refine kix hps (fun b o p hp hA => ?_)
        rw [Int.toNat_natCast] at hp
        have hsp := hsu.2.2.2 p (List.mem_of_getElem? hp)
        obtain ⟨pk, pv, pd⟩ := p
        have hk1 : (strB pk).length ≤ 309 := strB_len hsp.1
        have hv1 : (strB pv).length ≤ 309 := strB_len hsp.2
        refine katr hM hA ?_
        refine kal hM (fun w b7 hM => ?_)
        refine kstw (vs := ePr.f (pk, pv, pd)) hM (fun w hM => ?_) (h1 := ePr.h1 (pk, pv, pd))
        repeat (first | ((with_reducible apply is_ld); first | refine kld hM ?_ | refine kldw hM ?_ | refine kle hM ?_ | refine klew hM ?_) | ((with_reducible apply is_sto); first | (refine kst hM ?_; intro w hM) | (refine kstw hM ?_; intro w hM)) | ((with_reducible apply is_st); refine su ?_) | ((with_reducible apply is_gd); first | refine gt ?_ | refine gf ?_ | refine gu ?_) | ((with_reducible apply is_en); refine en ?_) | (with_reducible apply c_region) | refine ws ?_ | refine x_block_other (by decide) ?_)
        refine c_ordY ([], []) [] (by kernel_rfl) (by kernel_rfl) (by kernel_rfl) (fun w hc hs => ?_)
        have hM := hM.call hc
        have hl7 := Blk.lt (hM.blk (b := b7) (by (repeat constructor)))
        (first | refine yn 0 rfl ?_ | refine ynt 0 rfl ?_ | refine ynff 0 rfl ?_); (first | refine yn 1 rfl ?_ | refine ynt 1 rfl ?_ | refine ynff 1 rfl ?_)
        refine ynl 2 rfl (hM.blk (b := b7) (by (repeat constructor))) (by omega) (by simp) rfl rfl ?_
        (first | refine yn 4 rfl ?_ | refine ynt 4 rfl ?_ | refine ynff 4 rfl ?_)
        refine ynl 5 rfl (hM.blk (b := b7) (by (repeat constructor))) (by omega) (by simp) rfl rfl ?_
        refine yk1 3 hM (by kernel_rfl) rfl (fun w h0 hM => ?_)
        refine ca (rstr_any v pk w (hM.rowRdO (en := eU8) (v := v) (by (repeat constructor))) (by rw [List.length_append]; omega) (Nat.le_trans (show pk.length ≤ 300 from hsp.1) (by omega))) ?_
        rintro v63 w2 ⟨hc, hO⟩
        have hM := hM.got hc hO
        refine x_wy (.inl (hc.gy h0)) rfl ?_
        refine yk1 6 hM (by kernel_rfl) rfl (fun w h0 hM => ?_)
        refine ca (rstr_any v63 pv w (hM.rowRdO (en := eU8) (v := v63) (by (repeat constructor))) (by rw [List.length_append, List.length_append]; omega) (Nat.le_trans (show pv.length ≤ 300 from hsp.2) (by omega))) ?_
        rintro v66 w2 ⟨hc, hO⟩
        have hM := hM.got hc hO
        refine x_wy (.inl (hc.gy h0)) rfl ?_
        (first | refine yn 7 rfl ?_ | refine ynt 7 rfl ?_ | refine ynff 7 rfl ?_)
        refine wy_done (by kernel_rfl) (fun w hc => ?_)
        have hM := hM.call hc
        rw [List.append_assoc, show strB pk ++ strB pv = pairB (pk, pv, pd) by rfl] at hM
        repeat (first | ((with_reducible apply is_ld); first | refine kld hM ?_ | refine kldw hM ?_ | refine kle hM ?_ | refine klew hM ?_) | ((with_reducible apply is_sto); first | (refine kst hM ?_; intro w hM) | (refine kstw hM ?_; intro w hM)) | ((with_reducible apply is_st); refine su ?_) | ((with_reducible apply is_gd); first | refine gt ?_ | refine gf ?_ | refine gu ?_) | ((with_reducible apply is_en); refine en ?_) | (with_reducible apply c_region) | refine ws ?_ | refine x_block_other (by decide) ?_)
        rw [List.append_assoc, ← take_flat hp] at hM
        exact x_goes (n2 - 1) rfl (by omega) ⟨i + 1, v66, exj rfl, by omega, hM.sub (by (repeat constructor))⟩
      · rw [List.take_of_length_le (by omega)] at hM
        repeat (first | ((with_reducible apply is_ld); first | refine kld hM ?_ | refine kldw hM ?_ | refine kle hM ?_ | refine klew hM ?_) | ((with_reducible apply is_sto); first | (refine kst hM ?_; intro w hM) | (refine kstw hM ?_; intro w hM)) | ((with_reducible apply is_st); refine su ?_) | ((with_reducible apply is_gd); first | refine gt ?_ | refine gf ?_ | refine gu ?_) | ((with_reducible apply is_en); refine en ?_) | (with_reducible apply c_region) | refine ws ?_ | refine x_block_other (by decide) ?_)
        have he : Q ++ ps.flatMap pairB = pre ++ (us.take (j + 1)).flatMap readB := by
          rw [take_flat hu, ← hQ]
          simp [readB, List.append_assoc]
        rw [he] at hM
        exact x_goes (n - 1) rfl (by omega) ⟨j + 1, v, exj rfl, by omega, hM.sub (by (repeat constructor))⟩
  · rw [List.take_of_length_le (by omega)] at hM hbl
    repeat (first | ((with_reducible apply is_ld); first | refine kld hM ?_ | refine kldw hM ?_ | refine kle hM ?_ | refine klew hM ?_) | ((with_reducible apply is_sto); first | (refine kst hM ?_; intro w hM) | (refine kstw hM ?_; intro w hM)) | ((with_reducible apply is_st); refine su ?_) | ((with_reducible apply is_gd); first | refine gt ?_ | refine gf ?_ | refine gu ?_) | ((with_reducible apply is_en); refine en ?_) | (with_reducible apply c_region) | refine ws ?_ | refine x_block_other (by decide) ?_)
    refine kcr hM (rnum_any v (wz.length) w (hM.rowRdO (en := eU8) (v := v) (by (repeat constructor))) (by simp only [List.length_append, flagB_len]; omega) (by omega)) (fun v52 w hM => ?_)
    obtain ⟨Q, hQ⟩ : ∃ Q, pre ++ us.flatMap readB ++ numB wz.length = Q := ⟨_, rfl⟩
    have hQl : Q.length ≤ 18651000 := by
      rw [← hQ]
      simp only [List.length_append]
      omega
    rw [hQ] at hM
    have hM := hM.sub (M := [.row eU8 5 v52 Q, .cell b1 (rC ses snap strict (.slice A us.length c) (.slice A2 wz.length c2)) 25]) (by (repeat constructor))
    repeat (first | ((with_reducible apply is_ld); first | refine kld hM ?_ | refine kldw hM ?_ | refine kle hM ?_ | refine klew hM ?_) | ((with_reducible apply is_sto); first | (refine kst hM ?_; intro w hM) | (refine kstw hM ?_; intro w hM)) | ((with_reducible apply is_st); refine su ?_) | ((with_reducible apply is_gd); first | refine gt ?_ | refine gf ?_ | refine gu ?_) | ((with_reducible apply is_en); refine en ?_) | (with_reducible apply c_region) | refine ws ?_ | refine x_block_other (by decide) ?_)
    
    refine c_loop (fun n l w => ∃ (i : Nat) (v : Value), (∃ jj : Nat → Value, l = [jj 0, .pointer (some ⟨b1, 0, none⟩), .slice none 0 0, v, jj 4, jj 5, jj 6, jj 7, jj 8, jj 9, jj 10, jj 11, jj 12, jj 13, jj 14, jj 15, jj 16, jj 17, jj 18, jj 19, jj 20, jj 21, jj 22, jj 23, jj 24, jj 25, jj 26, jj 27, jj 28, jj 29, jj 30, jj 31, jj 32, jj 33, jj 34, jj 35, jj 36, jj 37, jj 38, jj 39, jj 40, jj 41, jj 42, jj 43, jj 44, jj 45, jj 46, jj 47, jj 48, jj 49, jj 50, jj 51, jj 52, jj 53, jj 54, jj 55, jj 56, jj 57, jj 58, jj 59, jj 60, jj 61, jj 62, jj 63, jj 64, jj 65, jj 66, jj 67, jj 68, jj 69, jj 70, jj 71, jj 72, jj 73, jj 74, jj 75, .slice A2 wz.length c2, .int .i64 (wz.length : Int), .int .i64 (i : Int), jj 79, jj 80, jj 81, jj 82, jj 83, jj 84, jj 85, jj 86, jj 87, jj 88, jj 89, jj 90, jj 91, jj 92, jj 93, jj 94, jj 95, jj 96, jj 97]) ∧ n + i = wz.length ∧ Mem [] w0 w [.row eU8 5 v (Q ++ (wz.take i).flatMap writeB), .cell b1 (rC ses snap strict (.slice A us.length c) (.slice A2 wz.length c2)) 25]) wz.length
      ⟨0, v52, exj rfl, rfl, by simpa using hM⟩ ?_
    clear hM
    rintro n2 l w ⟨i, v, ⟨jj, rfl⟩, hni, hM⟩
    have hpl := take_le (f := writeB) (l := wz) (C := 619) (N := 100) i (fun p hp => writeB_len (hs4 p hp)) hs2
    repeat (first | ((with_reducible apply is_ld); first | refine kld hM ?_ | refine kldw hM ?_ | refine kle hM ?_ | refine klew hM ?_) | ((with_reducible apply is_sto); first | (refine kst hM ?_; intro w hM) | (refine kstw hM ?_; intro w hM)) | ((with_reducible apply is_st); refine su ?_) | ((with_reducible apply is_gd); first | refine gt ?_ | refine gf ?_ | refine gu ?_) | ((with_reducible apply is_en); refine en ?_) | (with_reducible apply c_region) | refine ws ?_ | refine x_block_other (by decide) ?_)
    refine c_cond rfl (fun hi => ?_) (fun hi => ?_)
    · repeat (first | ((with_reducible apply is_ld); first | refine kld hM ?_ | refine kldw hM ?_ | refine kle hM ?_ | refine klew hM ?_) | ((with_reducible apply is_sto); first | (refine kst hM ?_; intro w hM) | (refine kstw hM ?_; intro w hM)) | ((with_reducible apply is_st); refine su ?_) | ((with_reducible apply is_gd); first | refine gt ?_ | refine gf ?_ | refine gu ?_) | ((with_reducible apply is_en); refine en ?_) | (with_reducible apply c_region) | refine ws ?_ | refine x_block_other (by decide) ?_)
      refine kix hW (fun b o p hp hA => ?_)
      rw [Int.toNat_natCast] at hp
      have hsp := hs4 p (List.mem_of_getElem? hp)
      obtain ⟨pk, pv, pd⟩ := p
      have hk1 : (strB pk).length ≤ 309 := strB_len hsp.1
      have hv1 : (strB pv).length ≤ 309 := strB_len hsp.2
      refine katr hM hA ?_
      refine kal hM (fun w b9 hM => ?_)
      refine kstw (vs := ePr.f (pk, pv, pd)) hM (fun w hM => ?_) (h1 := ePr.h1 (pk, pv, pd))
      repeat (first | ((with_reducible apply is_ld); first | refine kld hM ?_ | refine kldw hM ?_ | refine kle hM ?_ | refine klew hM ?_) | ((with_reducible apply is_sto); first | (refine kst hM ?_; intro w hM) | (refine kstw hM ?_; intro w hM)) | ((with_reducible apply is_st); refine su ?_) | ((with_reducible apply is_gd); first | refine gt ?_ | refine gf ?_ | refine gu ?_) | ((with_reducible apply is_en); refine en ?_) | (with_reducible apply c_region) | refine ws ?_ | refine x_block_other (by decide) ?_)
      refine c_ordY ([], []) [] (by kernel_rfl) (by kernel_rfl) (by kernel_rfl) (fun w hc hs => ?_)
      have hM := hM.call hc
      have hl9 := Blk.lt (hM.blk (b := b9) (by (repeat constructor)))
      (first | refine yn 0 rfl ?_ | refine ynt 0 rfl ?_ | refine ynff 0 rfl ?_); (first | refine yn 1 rfl ?_ | refine ynt 1 rfl ?_ | refine ynff 1 rfl ?_)
      refine ynl 2 rfl (hM.blk (b := b9) (by (repeat constructor))) (by omega) (by simp) rfl rfl ?_
      (first | refine yn 4 rfl ?_ | refine ynt 4 rfl ?_ | refine ynff 4 rfl ?_)
      refine ynl 5 rfl (hM.blk (b := b9) (by (repeat constructor))) (by omega) (by simp) rfl rfl ?_
      refine yk1 3 hM (by kernel_rfl) rfl (fun w h0 hM => ?_)
      refine ca (rstr_any v pk w (hM.rowRdO (en := eU8) (v := v) (by (repeat constructor))) (by rw [List.length_append]; omega) (Nat.le_trans (show pk.length ≤ 300 from hsp.1) (by omega))) ?_
      rintro v86 w2 ⟨hc, hO⟩
      have hM := hM.got hc hO
      refine x_wy (.inl (hc.gy h0)) rfl ?_
      refine yk1 6 hM (by kernel_rfl) rfl (fun w h0 hM => ?_)
      refine ca (rflag_any v86 pd w (hM.rowRdO (en := eU8) (v := v86) (by (repeat constructor))) (by rw [List.length_append, List.length_append]; omega)) ?_
      rintro v89 w2 ⟨hc, hO⟩
      have hM := hM.got hc hO
      refine x_wy (.inl (hc.gy h0)) rfl ?_
      (first | refine yn 7 rfl ?_ | refine ynt 7 rfl ?_ | refine ynff 7 rfl ?_)
      refine wy_done (by kernel_rfl) (fun w hc => ?_)
      have hM := hM.call hc
      repeat (first | ((with_reducible apply is_ld); first | refine kld hM ?_ | refine kldw hM ?_ | refine kle hM ?_ | refine klew hM ?_) | ((with_reducible apply is_sto); first | (refine kst hM ?_; intro w hM) | (refine kstw hM ?_; intro w hM)) | ((with_reducible apply is_st); refine su ?_) | ((with_reducible apply is_gd); first | refine gt ?_ | refine gf ?_ | refine gu ?_) | ((with_reducible apply is_en); refine en ?_) | (with_reducible apply c_region) | refine ws ?_ | refine x_block_other (by decide) ?_)
      cases pd with
      | true =>
        refine c_condb rfl (fun h => by cases h) (fun _ => ?_)
        repeat (first | ((with_reducible apply is_ld); first | refine kld hM ?_ | refine kldw hM ?_ | refine kle hM ?_ | refine klew hM ?_) | ((with_reducible apply is_sto); first | (refine kst hM ?_; intro w hM) | (refine kstw hM ?_; intro w hM)) | ((with_reducible apply is_st); refine su ?_) | ((with_reducible apply is_gd); first | refine gt ?_ | refine gf ?_ | refine gu ?_) | ((with_reducible apply is_en); refine en ?_) | (with_reducible apply c_region) | refine ws ?_ | refine x_block_other (by decide) ?_)
        have he : Q ++ (wz.take i).flatMap writeB ++ strB pk ++ flagB true = Q ++ (wz.take (i + 1)).flatMap writeB := by
          rw [take_flat hp]
          simp [writeB, List.append_assoc]
        rw [he] at hM
        exact x_goes (n2 - 1) rfl (by omega) ⟨i + 1, v89, exj rfl, by omega, hM.sub (by (repeat constructor))⟩
      | false =>
        refine c_condb rfl (fun _ => ?_) (fun h => by cases h)
        repeat (first | ((with_reducible apply is_ld); first | refine kld hM ?_ | refine kldw hM ?_ | refine kle hM ?_ | refine klew hM ?_) | ((with_reducible apply is_sto); first | (refine kst hM ?_; intro w hM) | (refine kstw hM ?_; intro w hM)) | ((with_reducible apply is_st); refine su ?_) | ((with_reducible apply is_gd); first | refine gt ?_ | refine gf ?_ | refine gu ?_) | ((with_reducible apply is_en); refine en ?_) | (with_reducible apply c_region) | refine ws ?_ | refine x_block_other (by decide) ?_)
        refine kcr hM (rstr_any v89 pv w (hM.rowRdO (en := eU8) (v := v89) (by (repeat constructor))) (by simp only [List.length_append, flagB_len]; omega) (Nat.le_trans (show pv.length ≤ 300 from hsp.2) (by omega))) (fun v97 w hM => ?_)
        repeat (first | ((with_reducible apply is_ld); first | refine kld hM ?_ | refine kldw hM ?_ | refine kle hM ?_ | refine klew hM ?_) | ((with_reducible apply is_sto); first | (refine kst hM ?_; intro w hM) | (refine kstw hM ?_; intro w hM)) | ((with_reducible apply is_st); refine su ?_) | ((with_reducible apply is_gd); first | refine gt ?_ | refine gf ?_ | refine gu ?_) | ((with_reducible apply is_en); refine en ?_) | (with_reducible apply c_region) | refine ws ?_ | refine x_block_other (by decide) ?_)
        have he : Q ++ (wz.take i).flatMap writeB ++ strB pk ++ flagB false ++ strB pv = Q ++ (wz.take (i + 1)).flatMap writeB := by
          rw [take_flat hp]
          simp [writeB, List.append_assoc]
        rw [he] at hM
        exact x_goes (n2 - 1) rfl (by omega) ⟨i + 1, v97, exj rfl, by omega, hM.sub (by (repeat constructor))⟩
    · rw [List.take_of_length_le (by omega)] at hM
      repeat (first | ((with_reducible apply is_ld); first | refine kld hM ?_ | refine kldw hM ?_ | refine kle hM ?_ | refine klew hM ?_) | ((with_reducible apply is_sto); first | (refine kst hM ?_; intro w hM) | (refine kstw hM ?_; intro w hM)) | ((with_reducible apply is_st); refine su ?_) | ((with_reducible apply is_gd); first | refine gt ?_ | refine gf ?_ | refine gu ?_) | ((with_reducible apply is_en); refine en ?_) | (with_reducible apply c_region) | refine ws ?_ | refine x_block_other (by decide) ?_)
      have hrow := hM.row (v := v) (by (repeat constructor))
      have he : Q ++ wz.flatMap writeB = recB ses snap strict us wz := by
        rw [← hQ, ← hpre]
        simp [recB, List.append_assoc]
      rw [he] at hrow
      exact out1 rfl ⟨hM.ch, hrow⟩
end Go.Proofs.YtkpkfplcoakfcaaDoor

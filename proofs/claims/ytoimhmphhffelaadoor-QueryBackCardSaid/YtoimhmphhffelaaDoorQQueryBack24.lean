/- Walks of law 34: whether a query may be and be printed, both; lives; the law QueryParses.
   Walks of law 34: the parts of Narrow.
   Walks of law 34: what begins otherwise, the program's; cmp.Or.
   Walks of law 34: Narrow, the document's.
   Walks of law 34: Narrow, the program's.
   Walks of law 34: light; the law QueryPrints.
   Walks of law 34: the law QueryBack (seat D). -/
import Derived.Test.YtoimhmphhffelaaDoorQQueryBack23
import Derived.Test.YtoimhmphhffelaaDoorQQueryBack22
set_option linter.unusedVariables false
set_option linter.unusedSimpArgs false
namespace Go.Proofs.E
open Go Go.RowKit
end Go.Proofs.E
namespace Go.Proofs.YtoimhmphhffelaaDoor
open Go Go.RowKit Go.Proofs.E
attribute [local irreducible] Go.wpList Go.Code.wp Go.Proofs.E.exec Go.Proofs.E.wpLexG
set_option maxHeartbeats 8000000 in
theorem good34_any (q : QryV) (vt : Value) (w0 : World) (hL : LaidQ w0) (hP : LaidP w0) (hR : (Ty.enc eTs).Rd [] w0 vt q.ts) (hq : LenQ q) : Calls Tryd.prog 9 #[.agg (qV q vt).toArray] w0 (Ret fun u w' => u = .bool (goodQ q) ∧ Ch [] w0 w') := by
  have hM := Mem.start w0
  obtain ⟨A, c, rfl⟩ := hR.form
  refine enter [.agg (qV q (.slice A q.ts.length c)).toArray, undef, undef, undef, undef, undef, undef, undef, undef, undef, undef] Tryd.func9 rfl rfl ?_
  repeat (first | refine gs ?_ | (refine ks ?_; intro w hM))
  refine kbx hM (fun w b1 hM => ?_)
  have hM : Mem [] w0 w [.cell b1 (qV q (.slice A q.ts.length c)) 24] := hM
  repeat (first | refine gs ?_ | (refine ks ?_; intro w hM))
  refine kca hM (right_any q _ w (hR.ch hM.ch) hq) (fun w hM => ?_)
  repeat (first | refine gs ?_ | (refine ks ?_; intro w hM))
  cases hr : rightQ q with
  | false =>
    repeat (first | refine gs ?_ | (refine ks ?_; intro w hM))
    exact out1 rfl ⟨by unfold goodQ; rw [hr]; rfl, hM.ch⟩
  | true =>
    repeat (first | refine gs ?_ | (refine ks ?_; intro w hM))
    (try ((with_reducible apply is_gd); first | refine gt ?_ | refine gf ?_ | refine gu ?_)); refine kca hM (print_any q _ w (hL.ch hM.ch (by simp) (by simp)) (hP.ch hM.ch (by simp)) (hR.ch hM.ch) hq) (fun w hM => ?_)
    have hle := print_le (q := q)
    repeat (first | refine gs ?_ | (refine ks ?_; intro w hM))
    refine out1 rfl ⟨congrArg Value.bool ?_, hM.ch⟩
    unfold goodQ
    rw [hr, Bool.true_and]
    exact decide_eq_decide.2 (by omega)
/-! ### lives -/
def liveB : List UInt8 := [103, 101, 116, 32, 119, 104, 101, 114, 101, 32, 107, 101, 121, 32, 115, 116, 97, 114, 116, 115, 32, 39, 97, 39, 32, 108, 105, 109, 105, 116, 32, 50]
def liveQ : QryV := ⟨-1, [], [], [(1, 8, [97])], false, 0, 2, false⟩
theorem live_right : rightQ liveQ = true := by decide
theorem live_print : printQ liveQ = liveB := by
  have h2 : Lib.itoa 2 = [50] := by rw [itoa_nat (by omega), Lib.decDigits]; rfl
  unfold printQ
  rw [if_pos live_right]
  unfold prW liveQ
  simp only [h2]
  decide
theorem live_parse : parseQ liveB = (liveQ, 0, 0) := by
  have h := parse_print live_right (by rw [live_print]; decide)
  rwa [live_print] at h
set_option maxHeartbeats 8000000 in
theorem lives34_any (w0 : World) (hL : LaidQ w0) (hP : LaidP w0) : Calls Tryd.prog 5 #[] w0 (Ret fun u w' => u = .bool true ∧ Ch [] w0 w') := by
  have hM := Mem.start w0
  refine enter [undef, undef, undef, undef, undef, undef, undef, undef, undef, undef, undef, undef, undef, undef, undef, undef, undef, undef, undef, undef, undef, undef, undef, undef, undef, undef, undef, undef, undef, undef, undef] Tryd.func5 rfl rfl ?_
  repeat (first | refine gs ?_ | (refine ks ?_; intro w hM))
  have hPar : Calls Tryd.prog 6 #[.string (bst liveB)] w0 (Ret fun u w' => ∃ vt, u = .tuple #[.agg (qV liveQ vt).toArray, .int .i64 0, .int .i64 0] ∧ Mem [] w0 w' [.row eTs 34 vt liveQ.ts]) := by
    have h := qparse_any liveB w0 hL (by decide)
    unfold ParsePost at h
    rw [live_parse] at h
    exact h
  refine ca hPar ?_
  rintro _ w2 ⟨vt, rfl, hN⟩
  have hM := hM.join hN (fun a ha => by simp only [List.mem_singleton] at ha; subst ha; trivial)
  have hM : Mem [] w0 w2 [.row eTs 34 vt liveQ.ts] := hM
  obtain ⟨A, c, rfl, _⟩ := Own.form (hM.row0 (v := vt) (by (repeat constructor)))
  repeat (first | refine gs ?_ | (refine ks ?_; intro w hM))
  simp only [List.getElem_toArray, List.getElem_cons_zero, List.getElem_cons_succ]
  refine kal hM (fun w b1 hM => ?_)
  have hM : Mem [] w0 w [.cell b1 (quC 0 [] [] (.slice none 0 0) false 0 0 false) 24, .row eTs 34 (.slice A liveQ.ts.length c) liveQ.ts] := hM
  repeat (first | refine gs ?_ | (refine ks ?_; intro w hM))
  have hLQ : LenQ liveQ := (right_len live_right).2.2
  (try ((with_reducible apply is_gd); first | refine gt ?_ | refine gf ?_ | refine gu ?_)); refine kca hM (print_any liveQ _ w (hL.ch hM.ch (by simp) (by simp)) (hP.ch hM.ch (by simp)) (hM.rowRdO (by (repeat constructor))) hLQ) (fun w hM => ?_)
  rw [live_print]
  repeat (first | refine gs ?_ | (refine ks ?_; intro w hM))
  exact out1 rfl ⟨congrArg Value.bool (by decide), hM.ch⟩
/-! ### The law QueryParses -/
end Go.Proofs.YtoimhmphhffelaaDoor
set_option linter.unusedVariables false
set_option linter.unusedSimpArgs false
namespace Go.Proofs.E
open Go Go.RowKit
end Go.Proofs.E
namespace Go.Proofs.YtoimhmphhffelaaDoor
open Go Go.RowKit Go.Proofs.E
attribute [local irreducible] Go.wpList Go.Code.wp Go.Proofs.E.exec Go.Proofs.E.wpLexG
/-! ### What begins otherwise -/
end Go.Proofs.YtoimhmphhffelaaDoor
set_option linter.unusedVariables false
set_option linter.unusedSimpArgs false
namespace Go.Proofs.E
open Go Go.RowKit
section
variable {P : Program} {ops : Array Oper} {Q : Exit → Act → World → Prop} {rest : List Oper} {l l' : List Value} {O : List Nat} {w0 w : World} {L L' : List As} {T : TypeId} {pos : String} {after : Array Edge}
end
end Go.Proofs.E
namespace Go.Proofs.YtoimhmphhffelaaDoor
open Go Go.RowKit Go.Proofs.E
attribute [local irreducible] Go.wpList Go.Code.wp Go.Proofs.E.exec Go.Proofs.E.wpLexG
end Go.Proofs.YtoimhmphhffelaaDoor
set_option linter.unusedVariables false
set_option linter.unusedSimpArgs false
namespace Go.Proofs.E
open Go Go.RowKit
end Go.Proofs.E
namespace Go.Proofs.YtoimhmphhffelaaDoor
open Go Go.RowKit Go.Proofs.E
attribute [local irreducible] Go.wpList Go.Code.wp Go.Proofs.E.exec Go.Proofs.E.wpLexG
end Go.Proofs.YtoimhmphhffelaaDoor
set_option linter.unusedVariables false
set_option linter.unusedSimpArgs false
namespace Go.Proofs.E
open Go Go.RowKit
end Go.Proofs.E
namespace Go.Proofs.YtoimhmphhffelaaDoor
open Go Go.RowKit Go.Proofs.E
attribute [local irreducible] Go.wpList Go.Code.wp Go.Proofs.E.exec Go.Proofs.E.wpLexG
end Go.Proofs.YtoimhmphhffelaaDoor
set_option linter.unusedVariables false
set_option linter.unusedSimpArgs false
namespace Go.Proofs.YtoimhmphhffelaaDoor
open Go Go.RowKit Go.Proofs.E
attribute [local irreducible] Go.wpList Go.Code.wp Go.Proofs.E.exec Go.Proofs.E.wpLexG
/-- Lengths that memory can hold. -/
def BigQ (q : QryV) : Prop := q.fr.length ≤ 140737488355328 ∧ q.to_.length ≤ 140737488355328 ∧ ∀ t ∈ q.ts, t.2.2.length ≤ 140737488355328
set_option maxHeartbeats 16000000 in
theorem light34_any (q : QryV) (vt : Value) (w0 : World) (hR : (Ty.enc eTs).Rd [] w0 vt q.ts) (hB : BigQ q) : Calls Tryd.prog 4 #[.agg (qV q vt).toArray] w0 (Ret fun u w' => (∃ b, u = .bool b ∧ (b = true → LenQ q ∧ q.ts.length ≤ 60)) ∧ Ch [] w0 w') := by
  have hM := Mem.start w0
  have hlen := hR.1
  obtain ⟨q1, q2, q3⟩ := hB
  obtain ⟨A, c, rfl⟩ := hR.form
  refine enter [.agg (qV q (.slice A q.ts.length c)).toArray, undef, undef, undef, undef, undef, undef, undef, undef, undef, undef, undef, undef, undef, undef, undef, undef, undef, undef, undef, undef, undef, undef, undef, undef, undef, undef, undef, undef, undef, undef, undef, undef, undef, undef, undef, undef] Tryd.func4 rfl rfl ?_
  repeat (first | refine gs ?_ | (refine ks ?_; intro w hM))
  refine kbx hM (fun w b1 hM => ?_)
  have hM : Mem [] w0 w [.cell b1 (qV q (.slice A q.ts.length c)) 24] := hM
  repeat (first | refine gs ?_ | (refine ks ?_; intro w hM))
  by_cases h1 : (600 : Int) < (q.fr.length : Int)
  · rw [decide_eq_true h1]
    repeat (first | refine gs ?_ | (refine ks ?_; intro w hM))
    refine c_condb rfl (fun _ => ?_) (fun h => by cases h)
    repeat (first | refine gs ?_ | (refine ks ?_; intro w hM))
    exact out1 rfl ⟨⟨false, rfl, fun h => by cases h⟩, hM.ch⟩
  rw [decide_eq_false h1]
  repeat (first | refine gs ?_ | (refine ks ?_; intro w hM))
  by_cases h2 : (600 : Int) < (q.to_.length : Int)
  · rw [decide_eq_true h2]
    repeat (first | refine gs ?_ | (refine ks ?_; intro w hM))
    refine c_condb rfl (fun _ => ?_) (fun h => by cases h)
    repeat (first | refine gs ?_ | (refine ks ?_; intro w hM))
    exact out1 rfl ⟨⟨false, rfl, fun h => by cases h⟩, hM.ch⟩
  rw [decide_eq_false h2]
  repeat (first | refine gs ?_ | (refine ks ?_; intro w hM))
  by_cases h3 : (60 : Int) < (q.ts.length : Int)
  · rw [decide_eq_true h3]
    refine c_condb rfl (fun _ => ?_) (fun h => by cases h)
    repeat (first | refine gs ?_ | (refine ks ?_; intro w hM))
    exact out1 rfl ⟨⟨false, rfl, fun h => by cases h⟩, hM.ch⟩
  rw [decide_eq_false h3]
  refine c_condb rfl (fun h => by cases h) (fun _ => ?_)
  repeat (first | refine gs ?_ | (refine ks ?_; intro w hM))
  
  refine c_loop (fun n l w => ∃ (i m : Nat), (∃ jj : Nat → Value, l = [jj 0, .pointer (some ⟨b1, 0, none⟩), jj 2, .int .i64 (m : Int), jj 4, jj 5, jj 6, jj 7, jj 8, jj 9, jj 10, jj 11, jj 12, jj 13, jj 14, jj 15, jj 16, jj 17, jj 18, jj 19, jj 20, jj 21, jj 22, .slice A q.ts.length c, .int .i64 (q.ts.length : Int), .int .i64 (i : Int), jj 26, jj 27, jj 28, jj 29, jj 30, jj 31, jj 32, jj 33, jj 34, jj 35, jj 36]) ∧ n + i = q.ts.length ∧ m ≤ 2000 ∧ (∀ t ∈ q.ts.take i, t.2.2.length ≤ m) ∧ Mem [] w0 w [.cell b1 (qV q (.slice A q.ts.length c)) 24]) q.ts.length
    ⟨0, 0, exj rfl, rfl, by omega, by simp, hM⟩ ?_
  clear hM
  rintro n l w ⟨i, m, ⟨jj, rfl⟩, hn, hm, hall, hM⟩
  repeat (first | refine gs ?_ | (refine ks ?_; intro w hM))
  refine c_cond rfl (fun hi => ?_) (fun hi => ?_)
  rotate_left
  · rw [List.take_of_length_le (by omega)] at hall
    repeat (first | refine gs ?_ | (refine ks ?_; intro w hM))
    exact out1 rfl ⟨⟨true, rfl, fun _ => ⟨⟨by omega, by omega, fun t ht => by have := hall t ht; omega⟩, by omega⟩⟩, hM.ch⟩
  repeat (first | refine gs ?_ | (refine ks ?_; intro w hM))
  refine kix hR (fun b o t ht hA => ?_) (h1 := by omega)
  rw [Int.toNat_natCast] at ht
  have ht3 := q3 t (List.mem_of_getElem? ht)
  repeat (first | refine gs ?_ | (refine ks ?_; intro w hM))
  refine katr hM hA ?_
  repeat (first | refine gs ?_ | (refine ks ?_; intro w hM))
  refine kal hM (fun w b5 hM => ?_)
  have hM : Mem [] w0 w [.cell b5 (tsC (0, 0, [])) 34, .cell b1 (qV q (.slice A q.ts.length c)) 24] := hM
  repeat (first | refine gs ?_ | (refine ks ?_; intro w hM))
  refine c_cond rfl (fun h4 => ?_) (fun h4 => ?_)
  · repeat (first | refine gs ?_ | (refine ks ?_; intro w hM))
    exact out1 rfl ⟨⟨false, rfl, fun h => by cases h⟩, hM.ch⟩
  · repeat (first | refine gs ?_ | (refine ks ?_; intro w hM))
    refine x_goes (n - 1) rfl (by omega) ⟨i + 1, m + t.2.2.length, exj rfl, by omega, by omega, fun y hy => ?_, hM.sub (by (repeat (first | exact Go.Proofs.E.Sub.refl _ | exact Go.Proofs.E.Sub.nil | (apply Go.Proofs.E.Sub.cons; (repeat (first | exact Go.Proofs.E.Pick.here | apply Go.Proofs.E.Pick.there))) | apply Go.Proofs.E.Sub.tail)))⟩
    rw [List.take_add_one, ht] at hy
    rcases List.mem_append.1 hy with hy | hy
    · have := hall y hy; omega
    · have : y = t := by simpa using hy
      rw [this]
      omega
end Go.Proofs.YtoimhmphhffelaaDoor
set_option linter.unusedVariables false
set_option linter.unusedSimpArgs false
namespace Go.Proofs.YtoimhmphhffelaaDoor
open Go Go.RowKit Go.Proofs.E
attribute [local irreducible] Go.wpList Go.Code.wp Go.Proofs.E.exec Go.Proofs.E.wpLexG
theorem zero_right : rightQ zeroQ = true := by decide
theorem zero_print : (printQ zeroQ).length ≤ 2000 := by
  have h0 : Lib.itoa 0 = [48] := by rw [itoa_nat (by omega), Lib.decDigits]; rfl
  unfold printQ
  rw [if_pos zero_right]
  unfold prW zeroQ
  simp only [h0]
  decide
/-- What Parse hands back, its parts named. -/
theorem parse_as (s : List UInt8) (q : QryV) (n e : Nat) (hs : parseQ s = (q, n, e)) (w : World) (hL : LaidQ w) (hl : s.length ≤ 9223372036854775807) : Calls Tryd.prog 6 #[.string (bst s)] w (Ret fun u w' => ∃ vt, u = .tuple #[.agg (qV q vt).toArray, .int .i64 (n : Int), .int .i64 (e : Int)] ∧ Mem [] w w' [.row eTs 34 vt q.ts]) := by
  have h := qparse_any s w hL hl
  unfold ParsePost at h
  rw [hs] at h
  exact h
set_option maxHeartbeats 32000000 in
theorem queryBack_any (q : QryV) (va : Value) (s : List UInt8) (w0 : World) (hL : LaidQ w0) (hP : LaidP w0) (hX : (Ty.enc eTs).Rd [] w0 va q.ts) (hB : BigQ q) (hs : s.length ≤ 9223372036854775807) : Calls Tryd.prog 3 #[.agg (qV q va).toArray, .string (bst s)] w0 (Ret fun u w' => u = .bool true ∧ Ch [] w0 w') := by
  have hM := Mem.start w0
  obtain ⟨A, c, rfl⟩ := hX.form
  refine enter [.agg (qV q (.slice A q.ts.length c)).toArray, .string (bst s), undef, undef, undef, undef, undef, undef, undef, undef, undef, undef, undef, undef, undef, undef, undef, undef, undef, undef, undef, undef, undef, undef, undef, undef, undef, undef, undef, undef, undef, undef, undef, undef, undef, undef, undef, undef, undef, undef, undef, undef, undef, undef, undef, undef, undef, undef, undef, undef, undef, undef, undef, undef, undef, undef, undef, undef, undef, undef, undef, undef, undef, undef, undef, undef, undef, undef, undef, undef, undef, undef, undef, undef, undef, undef, undef, undef, undef, undef, undef, undef, undef] Tryd.func3 rfl rfl ?_
  repeat (first | refine gs ?_ | (refine ks ?_; intro w hM))
  refine kbx hM (fun w b2 hM => ?_)
  have hM : Mem [] w0 w [.cell b2 (qV q (.slice A q.ts.length c)) 24] := hM
  repeat (first | refine gs ?_ | (refine ks ?_; intro w hM))
  refine ca (light34_any q _ w (hX.ch hM.ch) hB) ?_
  rintro _ w2 ⟨⟨l1, rfl, hl1⟩, hc2⟩
  have hM := hM.call hc2
  cases l1 with
  | false =>
    repeat (first | refine gs ?_ | (refine ks ?_; intro w hM))
    refine c_condb rfl (fun _ => ?_) (fun h => by cases h)
    repeat (first | refine gs ?_ | (refine ks ?_; intro w hM))
    refine kca (args := []) (vs := []) hM (lives34_any _ (hL.ch hM.ch (by simp) (by simp)) (hP.ch hM.ch (by simp))) (fun w hM => ?_)
    repeat (first | refine gs ?_ | (refine ks ?_; intro w hM))
    exact out1 rfl ⟨rfl, hM.ch⟩
  | true =>
  obtain ⟨hLq, hnq⟩ := hl1 rfl
  repeat (first | refine gs ?_ | (refine ks ?_; intro w hM))
  refine c_condb rfl (fun h => by cases h) (fun _ => ?_)
  repeat (first | refine gs ?_ | (refine ks ?_; intro w hM))
  obtain ⟨x, n, e, hpx⟩ : ∃ x n e, parseQ s = (x, n, e) := ⟨_, _, _, rfl⟩
  refine ca (parse_as s x n e hpx _ (hL.ch hM.ch (by simp) (by simp)) hs) ?_
  rintro _ w3 ⟨vx, rfl, hN⟩
  have hM := hM.join hN (fun a ha => by simp only [List.mem_singleton] at ha; subst ha; trivial)
  have hM : Mem [] w0 w3 [.row eTs 34 vx x.ts, .cell b2 (qV q (.slice A q.ts.length c)) 24] := hM
  obtain ⟨Ax, cx, rfl, _⟩ := Own.form (hM.row0 (v := vx) (by (repeat constructor)))
  repeat (first | refine gs ?_ | (refine ks ?_; intro w hM))
  simp only [List.getElem_toArray, List.getElem_cons_zero, List.getElem_cons_succ]
  refine kal hM (fun w b5 hM => ?_)
  have hM : Mem [] w0 w [.cell b5 (quC 0 [] [] (.slice none 0 0) false 0 0 false) 24, .row eTs 34 (.slice Ax x.ts.length cx) x.ts, .cell b2 (qV q (.slice A q.ts.length c)) 24] := hM
  repeat (first | refine gs ?_ | (refine ks ?_; intro w hM))
  have hM : Mem [] w0 _ [.cell b5 (qV x (.slice Ax x.ts.length cx)) 24, .row eTs 34 (.slice Ax x.ts.length cx) x.ts, .cell b2 (qV q (.slice A q.ts.length c)) 24] := hM
  
  refine c_cutQ (fun l w => (∃ jj : Nat → Value, l = [jj 0, jj 1, .pointer (some ⟨b2, 0, none⟩), jj 3, jj 4, jj 5, jj 6, jj 7, jj 8, jj 9, jj 10, jj 11, jj 12, jj 13, jj 14, jj 15, jj 16, jj 17, jj 18, jj 19, jj 20, jj 21, jj 22, jj 23, jj 24, jj 25, jj 26, jj 27, jj 28, jj 29, jj 30, jj 31, jj 32, jj 33, jj 34, jj 35, jj 36, jj 37, jj 38, jj 39, jj 40, jj 41, jj 42, jj 43, jj 44, jj 45, jj 46, jj 47, jj 48, jj 49, jj 50, jj 51, jj 52, jj 53, jj 54, jj 55, jj 56, jj 57, jj 58, jj 59, jj 60, jj 61, jj 62, jj 63, jj 64, jj 65, jj 66, jj 67, jj 68, jj 69, jj 70, jj 71, jj 72, jj 73, jj 74, jj 75, jj 76, jj 77, jj 78, jj 79, jj 80, jj 81, jj 82]) ∧ Mem [] w0 w [.cell b2 (qV q (.slice A q.ts.length c)) 24]) ?_ ?_
  · refine c_cond rfl (fun he => ?_) (fun he => ?_)
    rotate_left
    · repeat (first | refine gs ?_ | (refine ks ?_; intro w hM))
      exact jj ⟨exj rfl, hM.sub (by (repeat (first | exact Go.Proofs.E.Sub.refl _ | exact Go.Proofs.E.Sub.nil | (apply Go.Proofs.E.Sub.cons; (repeat (first | exact Go.Proofs.E.Pick.here | apply Go.Proofs.E.Pick.there))) | apply Go.Proofs.E.Sub.tail)))⟩
    obtain rfl : e = 0 := by omega
    have hrx : rightQ x = true := by have := parse_right (s := s) (by rw [hpx]); rwa [hpx] at this
    have hLx := (right_len hrx).2.2
    repeat (first | refine gs ?_ | (refine ks ?_; intro w hM))
    refine kca hM (print_any x _ _ (hL.ch hM.ch (by simp) (by simp)) (hP.ch hM.ch (by simp)) (hM.rowRdO (by (repeat constructor))) hLx) (fun w hM => ?_)
    have hpl := print_le (q := x)
    obtain ⟨y, m, f, hpy⟩ : ∃ y m f, parseQ (printQ x) = (y, m, f) := ⟨_, _, _, rfl⟩
    refine ca (parse_as (printQ x) y m f hpy _ (hL.ch hM.ch (by simp) (by simp)) (by omega)) ?_
    rintro _ w4 ⟨vy, rfl, hN⟩
    have hM := hM.join hN (fun a ha => by simp only [List.mem_singleton] at ha; subst ha; trivial)
    have hM : Mem [] w0 w4 [.row eTs 34 vy y.ts, .cell b5 (qV x (.slice Ax x.ts.length cx)) 24, .row eTs 34 (.slice Ax x.ts.length cx) x.ts, .cell b2 (qV q (.slice A q.ts.length c)) 24] := hM
    obtain ⟨Ay, cy, rfl, _⟩ := Own.form (hM.row0 (v := vy) (by (repeat constructor)))
    repeat (first | refine gs ?_ | (refine ks ?_; intro w hM))
    simp only [List.getElem_toArray, List.getElem_cons_zero, List.getElem_cons_succ]
    refine kal hM (fun w b8 hM => ?_)
    have hM : Mem [] w0 w [.cell b8 (quC 0 [] [] (.slice none 0 0) false 0 0 false) 24, .row eTs 34 (.slice Ay y.ts.length cy) y.ts, .cell b5 (qV x (.slice Ax x.ts.length cx)) 24, .row eTs 34 (.slice Ax x.ts.length cx) x.ts, .cell b2 (qV q (.slice A q.ts.length c)) 24] := hM
    repeat (first | refine gs ?_ | (refine ks ?_; intro w hM))
    have hsm := same34_any x y (.slice Ax x.ts.length cx) (.slice Ay y.ts.length cy) _ (hM.rowRdO (en := eTs) (E := 34) (v := .slice Ax x.ts.length cx) (by (repeat constructor))) (hM.rowRdO (en := eTs) (E := 34) (v := .slice Ay y.ts.length cy) (by (repeat constructor)))
    refine kca hM hsm (fun w hM => ?_)
    by_cases h2 : (printQ x).length ≤ 2000
    · have hyx := parse_print hrx h2
      rw [hpy] at hyx
      injection hyx with e1 e2
      injection e2 with e2 e3
      subst e1 e2 e3
      rw [sameQ_self]
      repeat (first | refine gs ?_ | (refine ks ?_; intro w hM))
      refine c_condb rfl (fun h => by cases h) (fun _ => ?_)
      repeat (first | refine gs ?_ | (refine ks ?_; intro w hM))
      exact jj ⟨exj rfl, hM.sub (by (repeat (first | exact Go.Proofs.E.Sub.refl _ | exact Go.Proofs.E.Sub.nil | (apply Go.Proofs.E.Sub.cons; (repeat (first | exact Go.Proofs.E.Pick.here | apply Go.Proofs.E.Pick.there))) | apply Go.Proofs.E.Sub.tail)))⟩
    · have hyx := parse_long (s := printQ x) (by omega)
      rw [hpy] at hyx
      injection hyx with e1 e2
      injection e2 with e2 e3
      subst e1 e2 e3
      have hns : sameQ x zeroQ = false := by
        cases hs : sameQ x zeroQ with
        | false => rfl
        | true =>
          have := sameQ_iff.1 hs
          rw [this] at h2
          exact absurd zero_print h2
      rw [hns]
      repeat (first | refine gs ?_ | (refine ks ?_; intro w hM))
      refine c_condb rfl (fun _ => ?_) (fun h => by cases h)
      repeat (first | refine gs ?_ | (refine ks ?_; intro w hM))
      refine kca hM (print_any x _ _ (hL.ch hM.ch (by simp) (by simp)) (hP.ch hM.ch (by simp)) (hM.rowRdO (en := eTs) (E := 34) (v := .slice Ax x.ts.length cx) (by (repeat constructor))) hLx) (fun w hM => ?_)
      repeat (first | refine gs ?_ | (refine ks ?_; intro w hM))
      rw [decide_eq_true (by omega : (2000 : Int) < ((printQ x).length : Int))]
      repeat (first | refine gs ?_ | (refine ks ?_; intro w hM))
      (try ((with_reducible apply is_gd); first | refine gt ?_ | refine gf ?_ | refine gu ?_)); refine kca (args := []) (vs := []) hM (lives34_any _ (hL.ch hM.ch (by simp) (by simp)) (hP.ch hM.ch (by simp))) (fun w hM => ?_)
      repeat (first | refine gs ?_ | (refine ks ?_; intro w hM))
      exact out1 rfl ⟨rfl, hM.ch⟩
  clear hM
  rintro l w ⟨⟨jj, rfl⟩, hM⟩
  repeat (first | refine gs ?_ | (refine ks ?_; intro w hM))
  refine kca hM (good34_any q _ w (hL.ch hM.ch (by simp) (by simp)) (hP.ch hM.ch (by simp)) (hX.ch hM.ch) hLq) (fun w hM => ?_)
  repeat (first | refine gs ?_ | (refine ks ?_; intro w hM))
  cases hg : goodQ q with
  | false =>
    refine c_condb rfl (fun _ => ?_) (fun h => by cases h)
    repeat (first | refine gs ?_ | (refine ks ?_; intro w hM))
    refine kca (args := []) (vs := []) hM (lives34_any _ (hL.ch hM.ch (by simp) (by simp)) (hP.ch hM.ch (by simp))) (fun w hM => ?_)
    repeat (first | refine gs ?_ | (refine ks ?_; intro w hM))
    exact out1 rfl ⟨rfl, hM.ch⟩
  | true =>
  refine c_condb rfl (fun h => by cases h) (fun _ => ?_)
  obtain ⟨hr, hl⟩ : rightQ q = true ∧ (printQ q).length ≤ 2000 := by
    unfold goodQ at hg
    obtain ⟨g1, g2⟩ := Bool.and_eq_true_iff.1 hg
    rw [decide_eq_true_eq] at g2
    exact ⟨g1, g2⟩
  repeat (first | refine gs ?_ | (refine ks ?_; intro w hM))
  refine kca hM (print_any q _ _ (hL.ch hM.ch (by simp) (by simp)) (hP.ch hM.ch (by simp)) (hX.ch hM.ch) hLq) (fun w hM => ?_)
  refine ca (parse_as (printQ q) q 0 0 (parse_print hr hl) _ (hL.ch hM.ch (by simp) (by simp)) (by omega)) ?_
  rintro _ w4 ⟨vy, rfl, hN⟩
  have hM := hM.join hN (fun a ha => by simp only [List.mem_singleton] at ha; subst ha; trivial)
  have hM : Mem [] w0 w4 [.row eTs 34 vy q.ts, .cell b2 (qV q (.slice A q.ts.length c)) 24] := hM
  obtain ⟨Ay, cy, rfl, _⟩ := Own.form (hM.row0 (v := vy) (by (repeat constructor)))
  repeat (first | refine gs ?_ | (refine ks ?_; intro w hM))
  simp only [List.getElem_toArray, List.getElem_cons_zero, List.getElem_cons_succ]
  refine kal hM (fun w b11 hM => ?_)
  have hM : Mem [] w0 w [.cell b11 (quC 0 [] [] (.slice none 0 0) false 0 0 false) 24, .row eTs 34 (.slice Ay q.ts.length cy) q.ts, .cell b2 (qV q (.slice A q.ts.length c)) 24] := hM
  repeat (first | refine gs ?_ | (refine ks ?_; intro w hM))
  have hsm := same34_any q q (.slice Ay q.ts.length cy) (.slice A q.ts.length c) _ (hM.rowRdO (en := eTs) (E := 34) (v := .slice Ay q.ts.length cy) (by (repeat constructor))) (hX.ch hM.ch)
  rw [sameQ_self] at hsm
  (try ((with_reducible apply is_gd); first | refine gt ?_ | refine gf ?_ | refine gu ?_)); refine kca hM hsm (fun w hM => ?_)
  repeat (first | refine gs ?_ | (refine ks ?_; intro w hM))
  (try ((with_reducible apply is_gd); first | refine gt ?_ | refine gf ?_ | refine gu ?_)); refine kca (args := []) (vs := []) hM (lives34_any _ (hL.ch hM.ch (by simp) (by simp)) (hP.ch hM.ch (by simp))) (fun w hM => ?_)
  repeat (first | refine gs ?_ | (refine ks ?_; intro w hM))
  exact out1 rfl ⟨rfl, hM.ch⟩
end Go.Proofs.YtoimhmphhffelaaDoor

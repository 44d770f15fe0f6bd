/- Walks of law 34: whether a query may be and be printed, both; lives; the law QueryParses. -/
import Derived.Test.YtoimhmphhffelaaGreatDoorQQueryParses24
import Derived.Test.YtoimhmphhffelaaGreatDoorQQueryParses25
set_option linter.unusedVariables false
set_option linter.unusedSimpArgs false
namespace Go.Proofs.E
open Go Go.RowKit
/-- An operation that comes up alone, with a guard that holds. -/
theorem yk1t {P : Program} {ops : Array Oper} {N : Nat} {S : List Nat} {Q : Exit → Act → World → Prop} {z : List Nat × List Nat} {fuel : Nat} {listed : Array Bool} {l : List Value} {w w0 : World} {O : List Nat} {L : List As} {d : Option Nat} {op : Op} {T : TypeId} {pos : String} {after : Array Edge} {j tg : Nat} (k : Nat) (hM : Mem O w0 w L) (hr : Region.ready .any ops listed = [k]) (ho : ops[k]? = some { dst := d, op := op, type := T, pos := pos, after := after, guard := some (j, true) })
    (h : ∀ w1, N ≤ w1.heap.size → Mem O w0 w1 L → wpList P ops (Exit.then (fun a' w' => (Bw N S w1 w' ∨ (k ∈ z.1 ∧ N ≤ w'.heap.size)) ∧ WY P ops N S Q z fuel (listed.setIfInBounds k true) a' w') (NoP Q)) [{ dst := d, op := op, type := T, pos := pos, after := after, guard := none }] (fr l) w1)
    (hj : (ops[j]?).bind (·.dst) = some tg := by exact rfl) (hv : ev l (.tmp tg) = .bool true := by exact rfl) (hlt : tg < l.length := by exact Nat.le_of_ble_eq_true rfl) : WY P ops N S Q z (fuel + 1) listed (fr l) w :=
  yk1 k hM hr ho (fun w1 h0 h1 => wl_on hj hv hlt rfl (h w1 h0 h1))
end Go.Proofs.E
namespace Go.Proofs.YtoimhmphhffelaaGreatDoor
open Go Go.RowKit Go.Proofs.E
attribute [local irreducible] Go.wpList Go.Code.wp Go.Proofs.E.exec Go.Proofs.E.wpLexG
/-! ### lives -/
def liveB : List UInt8 := [103, 101, 116, 32, 119, 104, 101, 114, 101, 32, 107, 101, 121, 32, 115, 116, 97, 114, 116, 115, 32, 39, 97, 39, 32, 108, 105, 109, 105, 116, 32, 50]
def liveQ : QryV := ⟨-1, [], [], [(1, 8, [97])], false, 0, 2, false⟩
theorem live_right : rightQ liveQ = true := by decide
theorem live_print : printQ liveQ = liveB := by
  have h2 : Lib.itoa 2 = [50] := by rw [itoa_nat (by omega), Lib.decDigits]; rfl
  unfold printQ
  rw [if_pos live_right]
  unfold prW liveQ
  simp only [h2]
  decide
theorem live_parse : parseQ liveB = (liveQ, 0, 0) := by
  have h := parse_print live_right (by rw [live_print]; decide)
  rwa [live_print] at h
set_option maxHeartbeats 8000000 in
theorem lives34_any (w0 : World) (hL : LaidQ w0) (hP : LaidP w0) : Calls Tryz.prog 20 #[] w0 (Ret fun u w' => u = .bool true ∧ Ch [] w0 w') := by
  have hM := Mem.start w0
  refine enter [undef, undef, undef, undef, undef, undef, undef, undef, undef, undef, undef, undef, undef, undef, undef, undef, undef, undef, undef, undef, undef, undef, undef, undef, undef, undef, undef, undef, undef, undef, undef] Tryz.func20 rfl rfl ?_
  repeat (first | refine gs ?_ | (refine ks ?_; intro w hM))
  have hPar : Calls Tryz.prog 16 #[.string (bst liveB)] w0 (Ret fun u w' => ∃ vt, u = .tuple #[.agg (qV liveQ vt).toArray, .int .i64 0, .int .i64 0] ∧ Mem [] w0 w' [.row eTs 120 vt liveQ.ts]) := by
    have h := qparse_any liveB w0 hL (by decide)
    unfold ParsePost at h
    rw [live_parse] at h
    exact h
  refine ca hPar ?_
  rintro _ w2 ⟨vt, rfl, hN⟩
  have hM := hM.join hN (fun a ha => by simp only [List.mem_singleton] at ha; subst ha; trivial)
  have hM : Mem [] w0 w2 [.row eTs 120 vt liveQ.ts] := hM
  obtain ⟨A, c, rfl, _⟩ := Own.form (hM.row0 (v := vt) (by (repeat constructor)))
  repeat (first | refine gs ?_ | (refine ks ?_; intro w hM))
  simp only [List.getElem_toArray, List.getElem_cons_zero, List.getElem_cons_succ]
  refine kal hM (fun w b1 hM => ?_)
  have hM : Mem [] w0 w [.cell b1 (quC 0 [] [] (.slice none 0 0) false 0 0 false) 46, .row eTs 120 (.slice A liveQ.ts.length c) liveQ.ts] := hM
  repeat (first | refine gs ?_ | (refine ks ?_; intro w hM))
  have hLQ : LenQ liveQ := (right_len live_right).2.2
  (try ((with_reducible apply is_gd); first | refine gt ?_ | refine gf ?_ | refine gu ?_)); refine kca hM (print_any liveQ _ w (hL.ch hM.ch (by simp) (by simp)) (hP.ch hM.ch (by simp)) (hM.rowRdO (by (repeat constructor))) hLQ) (fun w hM => ?_)
  rw [live_print]
  repeat (first | refine gs ?_ | (refine ks ?_; intro w hM))
  exact out1 rfl ⟨congrArg Value.bool (by decide), hM.ch⟩
/-! ### The law QueryParses -/
theorem parse_len (s : List UInt8) : (parseQ s).1.ts.length ≤ 50 := by
  by_cases h : (parseQ s).2.2 = 0
  · have := (right_len (parse_right h)).1
    unfold okQ at this
    omega
  · have : (parseQ s).1 = zeroQ := by
      unfold parseQ at h ⊢
      split
      · rfl
      · rename_i h1
        rw [if_neg h1] at h
        split
        · rfl
        · rename_i h2
          rw [if_neg h2] at h
          exact absurd rfl h
    rw [this]
    exact Nat.zero_le _
set_option maxHeartbeats 16000000 in
theorem queryParses_any (s : List UInt8) (w0 : World) (hL : LaidQ w0) (hP : LaidP w0) (hs : s.length ≤ 9223372036854775807) : Calls Tryz.prog 4 #[.string (bst s)] w0 (Ret fun u w' => u = .bool true ∧ Ch [] w0 w') := by
  have hM := Mem.start w0
  have hP1 := fun w => qparse_any s w
  have hP2 := fun w => rparse_any s w
  unfold ParsePost at hP1 hP2
  have hln := parse_len s
  obtain ⟨q, hq⟩ : ∃ q, q = (parseQ s).1 := ⟨_, rfl⟩
  obtain ⟨n, hn⟩ : ∃ n : Nat, n = (parseQ s).2.1 := ⟨_, rfl⟩
  obtain ⟨e, he⟩ : ∃ n : Nat, n = (parseQ s).2.2 := ⟨_, rfl⟩
  simp only [← hq, ← hn, ← he] at hP1 hP2
  rw [← hq] at hln
  clear hq hn he
  refine enter [.string (bst s), undef, undef, undef, undef, undef, undef, undef, undef, undef, undef, undef, undef, undef, undef, undef, undef, undef, undef, undef, undef, undef, undef, undef, undef, undef, undef, undef, undef, undef, undef, undef, undef, undef, undef, undef, undef, undef] Tryz.func4 rfl rfl ?_
  repeat (first | refine gs ?_ | (refine ks ?_; intro w hM))
  refine ca (hP1 w0 hL hs) ?_
  rintro _ w2 ⟨va, rfl, hN⟩
  have hM := hM.join hN (fun a ha => by simp only [List.mem_singleton] at ha; subst ha; trivial)
  have hM : Mem [] w0 w2 [.row eTs 120 va q.ts] := hM
  obtain ⟨A, c, rfl, _⟩ := Own.form (hM.row0 (v := va) (by (repeat constructor)))
  repeat (first | refine gs ?_ | (refine ks ?_; intro w hM))
  simp only [List.getElem_toArray, List.getElem_cons_zero, List.getElem_cons_succ]
  refine kal hM (fun w b3 hM => ?_)
  have hM : Mem [] w0 w [.cell b3 (quC 0 [] [] (.slice none 0 0) false 0 0 false) 46, .row eTs 120 (.slice A q.ts.length c) q.ts] := hM
  repeat (first | refine gs ?_ | (refine ks ?_; intro w hM))
  refine ca (hP2 w hs) ?_
  rintro _ w3 ⟨vb, rfl, hN2⟩
  have hM := hM.join hN2 (fun a ha => by simp only [List.mem_singleton] at ha; subst ha; trivial)
  have hM : Mem [] w0 w3 [.row eTs 118 vb q.ts, .cell b3 (qV q (.slice A q.ts.length c)) 46, .row eTs 120 (.slice A q.ts.length c) q.ts] := hM
  obtain ⟨A2, c2, rfl, _⟩ := Own.form (hM.row0 (v := vb) (by (repeat constructor)))
  repeat (first | refine gs ?_ | (refine ks ?_; intro w hM))
  simp only [List.getElem_toArray, List.getElem_cons_zero, List.getElem_cons_succ]
  refine kal hM (fun w b6 hM => ?_)
  have hM : Mem [] w0 w [.cell b6 (quC 0 [] [] (.slice none 0 0) false 0 0 false) 51, .row eTs 118 (.slice A2 q.ts.length c2) q.ts, .cell b3 (qV q (.slice A q.ts.length c)) 46, .row eTs 120 (.slice A q.ts.length c) q.ts] := hM
  repeat (first | refine gs ?_ | (refine ks ?_; intro w hM))
  have hl3 := (hM.blk (b := b3) (by (repeat constructor))).lt
  have hl6 := (hM.blk (b := b6) (by (repeat constructor))).lt
  refine c_ordY ([], []) [] (by kernel_rfl) (by kernel_rfl) (by kernel_rfl) (fun w hc hs => ?_)
  have hM := hM.call hc
  refine ynlr 0 rfl (n := 8) (hM.blk (b := b3) (by (repeat constructor))) hl3 (by simp) rfl (ds := qV q (.slice A q.ts.length c)) rfl rfl ?_
  refine ynlr 2 rfl (n := 8) (hM.blk (b := b6) (by (repeat constructor))) hl6 (by simp) rfl (ds := qV q (.slice A2 q.ts.length c2)) rfl rfl ?_
  refine yk1 1 hM (by kernel_rfl) rfl (fun w h0 hM => ?_)
  refine ca (plain34_any q _ w (hM.rowRdO (en := eTs) (E := 120) (v := .slice A q.ts.length c) (by (repeat constructor))) (by omega)) ?_
  rintro _ w4 ⟨vc, rfl, hN3⟩
  have hM := hM.join hN3 (fun a ha => by simp only [List.mem_singleton] at ha; subst ha; trivial)
  refine x_wy (.inl (hN3.ch.gy h0)) rfl ?_
  refine yk1 3 hM (by kernel_rfl) rfl (fun w h0 hM => ?_)
  have hsame := rsame34_any q q vc (.slice A2 q.ts.length c2) w (hM.rowRdO (en := eTs) (E := 118) (v := vc) (by (repeat constructor))) (hM.rowRdO (en := eTs) (E := 118) (v := .slice A2 q.ts.length c2) (by (repeat constructor)))
  rw [sameQ_self] at hsame
  refine ca hsame ?_
  rintro _ w5 ⟨rfl, hc5⟩
  have hM := hM.call hc5
  refine x_wy (.inl (hc5.gy h0)) rfl ?_
  (first | refine yn 4 rfl ?_ | refine ynt 4 rfl ?_ | refine ynff 4 rfl ?_); (first | refine yn 5 rfl ?_ | refine ynt 5 rfl ?_ | refine ynff 5 rfl ?_); (first | refine yn 6 rfl ?_ | refine ynt 6 rfl ?_ | refine ynff 6 rfl ?_); (first | refine yn 7 rfl ?_ | refine ynt 7 rfl ?_ | refine ynff 7 rfl ?_)
  rw [decide_eq_true (rfl : (n : Int) = (n : Int))]
  (first | refine yn 8 rfl ?_ | refine ynt 8 rfl ?_ | refine ynff 8 rfl ?_); (first | refine yn 9 rfl ?_ | refine ynt 9 rfl ?_ | refine ynff 9 rfl ?_); (first | refine yn 10 rfl ?_ | refine ynt 10 rfl ?_ | refine ynff 10 rfl ?_); (first | refine yn 11 rfl ?_ | refine ynt 11 rfl ?_ | refine ynff 11 rfl ?_); (first | refine yn 12 rfl ?_ | refine ynt 12 rfl ?_ | refine ynff 12 rfl ?_)
  rw [decide_eq_true (rfl : (e : Int) = (e : Int))]
  (first | refine yn 13 rfl ?_ | refine ynt 13 rfl ?_ | refine ynff 13 rfl ?_); (first | refine yn 14 rfl ?_ | refine ynt 14 rfl ?_ | refine ynff 14 rfl ?_)
  refine yk1t 15 hM (by kernel_rfl) rfl (fun w h0 hM => ?_)
  refine ca (args := []) (vs := []) (lives34_any w (hL.ch hM.ch (by simp) (by simp)) (hP.ch hM.ch (by simp))) ?_
  rintro _ w6 ⟨rfl, hc6⟩
  have hM := hM.call hc6
  refine x_wy (.inl (hc6.gy h0)) rfl ?_
  (first | refine yn 16 rfl ?_ | refine ynt 16 rfl ?_ | refine ynff 16 rfl ?_); (first | refine yn 17 rfl ?_ | refine ynt 17 rfl ?_ | refine ynff 17 rfl ?_)
  refine wy_done (by kernel_rfl) (fun w hc => ?_)
  have hM := hM.call hc
  repeat (first | refine gs ?_ | (refine ks ?_; intro w hM))
  exact out1 rfl ⟨rfl, hM.ch⟩
end Go.Proofs.YtoimhmphhffelaaGreatDoor

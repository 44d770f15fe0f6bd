/- Walks of law 34: whether a query may be and be printed, both; lives; the law QueryParses.
   Walks of law 34: the parts of Narrow.
   Walks of law 34: what begins otherwise, the program's; cmp.Or.
   Walks of law 34: Narrow, the document's.
   Walks of law 34: Narrow, the program's.
   Walks of law 34: light; the law QueryPrints.
   Walks of law 34: the law QueryPrints. -/
import Derived.Test.YtoimhmphhffelaaGreatDoorQQueryPrints24
import Derived.Test.YtoimhmphhffelaaGreatDoorQQueryPrints22
set_option linter.unusedVariables false
set_option linter.unusedSimpArgs false
namespace Go.Proofs.E
open Go Go.RowKit
/-- An operation that comes up alone, with a guard that holds. -/
theorem yk1t {P : Program} {ops : Array Oper} {N : Nat} {S : List Nat} {Q : Exit → Act → World → Prop} {z : List Nat × List Nat} {fuel : Nat} {listed : Array Bool} {l : List Value} {w w0 : World} {O : List Nat} {L : List As} {d : Option Nat} {op : Op} {T : TypeId} {pos : String} {after : Array Edge} {j tg : Nat} (k : Nat) (hM : Mem O w0 w L) (hr : Region.ready .any ops listed = [k]) (ho : ops[k]? = some { dst := d, op := op, type := T, pos := pos, after := after, guard := some (j, true) })
    (h : ∀ w1, N ≤ w1.heap.size → Mem O w0 w1 L → wpList P ops (Exit.then (fun a' w' => (Bw N S w1 w' ∨ (k ∈ z.1 ∧ N ≤ w'.heap.size)) ∧ WY P ops N S Q z fuel (listed.setIfInBounds k true) a' w') (NoP Q)) [{ dst := d, op := op, type := T, pos := pos, after := after, guard := none }] (fr l) w1)
    (hj : (ops[j]?).bind (·.dst) = some tg := by exact rfl) (hv : ev l (.tmp tg) = .bool true := by exact rfl) (hlt : tg < l.length := by exact Nat.le_of_ble_eq_true rfl) : WY P ops N S Q z (fuel + 1) listed (fr l) w :=
  yk1 k hM hr ho (fun w1 h0 h1 => wl_on hj hv hlt rfl (h w1 h0 h1))
end Go.Proofs.E
namespace Go.Proofs.YtoimhmphhffelaaGreatDoor
open Go Go.RowKit Go.Proofs.E
attribute [local irreducible] Go.wpList Go.Code.wp Go.Proofs.E.exec Go.Proofs.E.wpLexG
set_option maxHeartbeats 8000000 in
theorem good34_any (q : QryV) (vt : Value) (w0 : World) (hL : LaidQ w0) (hP : LaidP w0) (hR : (Ty.enc eTs).Rd [] w0 vt q.ts) (hq : LenQ q) : Calls Tryz.prog 24 #[.agg (qV q vt).toArray] w0 (Ret fun u w' => u = .bool (goodQ q) ∧ Ch [] w0 w') := by
  have hM := Mem.start w0
  obtain ⟨A, c, rfl⟩ := hR.form
  refine enter [.agg (qV q (.slice A q.ts.length c)).toArray, undef, undef, undef, undef, undef, undef, undef, undef, undef, undef] Tryz.func24 rfl rfl ?_
  repeat (first | refine gs ?_ | (refine ks ?_; intro w hM))
  refine kbx hM (fun w b1 hM => ?_)
  have hM : Mem [] w0 w [.cell b1 (qV q (.slice A q.ts.length c)) 46] := hM
  repeat (first | refine gs ?_ | (refine ks ?_; intro w hM))
  refine kca hM (right_any q _ w (hR.ch hM.ch) hq) (fun w hM => ?_)
  repeat (first | refine gs ?_ | (refine ks ?_; intro w hM))
  cases hr : rightQ q with
  | false =>
    repeat (first | refine gs ?_ | (refine ks ?_; intro w hM))
    exact out1 rfl ⟨by unfold goodQ; rw [hr]; rfl, hM.ch⟩
  | true =>
    repeat (first | refine gs ?_ | (refine ks ?_; intro w hM))
    (try ((with_reducible apply is_gd); first | refine gt ?_ | refine gf ?_ | refine gu ?_)); refine kca hM (print_any q _ w (hL.ch hM.ch (by simp) (by simp)) (hP.ch hM.ch (by simp)) (hR.ch hM.ch) hq) (fun w hM => ?_)
    have hle := print_le (q := q)
    repeat (first | refine gs ?_ | (refine ks ?_; intro w hM))
    refine out1 rfl ⟨congrArg Value.bool ?_, hM.ch⟩
    unfold goodQ
    rw [hr, Bool.true_and]
    exact decide_eq_decide.2 (by omega)
set_option maxHeartbeats 8000000 in
theorem rgood34_any (q : QryV) (vt : Value) (w0 : World) (hT : True) (hR : (Ty.enc eTs).Rd [] w0 vt q.ts) (hq : LenQ q) : Calls Tryz.prog 25 #[.agg (qV q vt).toArray] w0 (Ret fun u w' => u = .bool (goodQ q) ∧ Ch [] w0 w') := by
  have hM := Mem.start w0
  obtain ⟨A, c, rfl⟩ := hR.form
  refine enter [.agg (qV q (.slice A q.ts.length c)).toArray, undef, undef, undef, undef, undef, undef, undef, undef, undef, undef] Tryz.func25 rfl rfl ?_
  repeat (first | refine gs ?_ | (refine ks ?_; intro w hM))
  refine kbx hM (fun w b1 hM => ?_)
  have hM : Mem [] w0 w [.cell b1 (qV q (.slice A q.ts.length c)) 51] := hM
  repeat (first | refine gs ?_ | (refine ks ?_; intro w hM))
  refine kca hM (rright_any q _ w (hR.ch hM.ch) hq) (fun w hM => ?_)
  repeat (first | refine gs ?_ | (refine ks ?_; intro w hM))
  cases hr : rightQ q with
  | false =>
    repeat (first | refine gs ?_ | (refine ks ?_; intro w hM))
    exact out1 rfl ⟨by unfold goodQ; rw [hr]; rfl, hM.ch⟩
  | true =>
    repeat (first | refine gs ?_ | (refine ks ?_; intro w hM))
    (try ((with_reducible apply is_gd); first | refine gt ?_ | refine gf ?_ | refine gu ?_)); refine kca hM (rprint_any q _ w (hR.ch hM.ch) hq) (fun w hM => ?_)
    have hle := print_le (q := q)
    repeat (first | refine gs ?_ | (refine ks ?_; intro w hM))
    refine out1 rfl ⟨congrArg Value.bool ?_, hM.ch⟩
    unfold goodQ
    rw [hr, Bool.true_and]
    exact decide_eq_decide.2 (by omega)
/-! ### lives -/
def liveB : List UInt8 := [103, 101, 116, 32, 119, 104, 101, 114, 101, 32, 107, 101, 121, 32, 115, 116, 97, 114, 116, 115, 32, 39, 97, 39, 32, 108, 105, 109, 105, 116, 32, 50]
def liveQ : QryV := ⟨-1, [], [], [(1, 8, [97])], false, 0, 2, false⟩
theorem live_right : rightQ liveQ = true := by decide
theorem live_print : printQ liveQ = liveB := by
  have h2 : Lib.itoa 2 = [50] := by rw [itoa_nat (by omega), Lib.decDigits]; rfl
  unfold printQ
  rw [if_pos live_right]
  unfold prW liveQ
  simp only [h2]
  decide
theorem live_parse : parseQ liveB = (liveQ, 0, 0) := by
  have h := parse_print live_right (by rw [live_print]; decide)
  rwa [live_print] at h
set_option maxHeartbeats 8000000 in
theorem lives34_any (w0 : World) (hL : LaidQ w0) (hP : LaidP w0) : Calls Tryz.prog 20 #[] w0 (Ret fun u w' => u = .bool true ∧ Ch [] w0 w') := by
  have hM := Mem.start w0
  refine enter [undef, undef, undef, undef, undef, undef, undef, undef, undef, undef, undef, undef, undef, undef, undef, undef, undef, undef, undef, undef, undef, undef, undef, undef, undef, undef, undef, undef, undef, undef, undef] Tryz.func20 rfl rfl ?_
  repeat (first | refine gs ?_ | (refine ks ?_; intro w hM))
  have hPar : Calls Tryz.prog 16 #[.string (bst liveB)] w0 (Ret fun u w' => ∃ vt, u = .tuple #[.agg (qV liveQ vt).toArray, .int .i64 0, .int .i64 0] ∧ Mem [] w0 w' [.row eTs 120 vt liveQ.ts]) := by
    have h := qparse_any liveB w0 hL (by decide)
    unfold ParsePost at h
    rw [live_parse] at h
    exact h
  refine ca hPar ?_
  rintro _ w2 ⟨vt, rfl, hN⟩
  have hM := hM.join hN (fun a ha => by simp only [List.mem_singleton] at ha; subst ha; trivial)
  have hM : Mem [] w0 w2 [.row eTs 120 vt liveQ.ts] := hM
  obtain ⟨A, c, rfl, _⟩ := Own.form (hM.row0 (v := vt) (by (repeat constructor)))
  repeat (first | refine gs ?_ | (refine ks ?_; intro w hM))
  simp only [List.getElem_toArray, List.getElem_cons_zero, List.getElem_cons_succ]
  refine kal hM (fun w b1 hM => ?_)
  have hM : Mem [] w0 w [.cell b1 (quC 0 [] [] (.slice none 0 0) false 0 0 false) 46, .row eTs 120 (.slice A liveQ.ts.length c) liveQ.ts] := hM
  repeat (first | refine gs ?_ | (refine ks ?_; intro w hM))
  have hLQ : LenQ liveQ := (right_len live_right).2.2
  (try ((with_reducible apply is_gd); first | refine gt ?_ | refine gf ?_ | refine gu ?_)); refine kca hM (print_any liveQ _ w (hL.ch hM.ch (by simp) (by simp)) (hP.ch hM.ch (by simp)) (hM.rowRdO (by (repeat constructor))) hLQ) (fun w hM => ?_)
  rw [live_print]
  repeat (first | refine gs ?_ | (refine ks ?_; intro w hM))
  exact out1 rfl ⟨congrArg Value.bool (by decide), hM.ch⟩
/-! ### The law QueryParses -/
end Go.Proofs.YtoimhmphhffelaaGreatDoor
set_option linter.unusedVariables false
set_option linter.unusedSimpArgs false
namespace Go.Proofs.E
open Go Go.RowKit
theorem r_maxS {P : Program} {l : List Value} {w : World} {T : TypeId} {x y : Operand} {t : TypeId} {a b : List UInt8} (hx : ev l x = .string (bst a)) (hy : ev l y = .string (bst b)) :
    (exec (ev l) (.call { callee := .builtin .max, args := #[x, y], argTypes := #[t, t] }) T).run P w = .ok (.value (.string (bst (raiseF a b)))) w := by
  have h : (if (!ltB a b) = true then bst a else bst b) = bst (raiseF a b) := by
    unfold raiseF
    cases ltB a b <;> rfl
  simp [exec, execOp, resolve, invoke, builtin, hx, hy, Builtin.max_, Builtin.max2, Op.stringOp, bst_list, asBool, ← h, ltB]
end Go.Proofs.E
namespace Go.Proofs.YtoimhmphhffelaaGreatDoor
open Go Go.RowKit Go.Proofs.E
attribute [local irreducible] Go.wpList Go.Code.wp Go.Proofs.E.exec Go.Proofs.E.wpLexG
theorem up_any {O : List Nat} {w0 : World} {L : List As} (f r : List UInt8) (b : Nat) (w : World) (hM : Mem O w0 w (.cell b [.string (bst f)] 9 :: L)) :
    Calls Tryz.prog 82 #[.string (bst r), .pointer (some ⟨b, 0, none⟩)] w (Ret fun u w' => Mem O w0 w' (.cell b [.string (bst (raiseF f r))] 9 :: L)) := by
  refine enter [.string (bst r), .pointer (some ⟨b, 0, none⟩), undef, undef, undef, undef] Tryz.func82 rfl rfl ?_
  repeat (first | refine gs ?_ | (refine ks ?_; intro w hM))
  (try ((with_reducible apply is_gd); first | refine gt ?_ | refine gf ?_ | refine gu ?_)); refine wl_val (r_maxS (a := f) (b := r) rfl rfl) ?_
  repeat (first | refine gs ?_ | (refine ks ?_; intro w hM))
  exact out0 rfl hM
theorem down_any {O : List Nat} {w0 : World} {L : List As} (f r : List UInt8) (b : Nat) (w : World) (hM : Mem O w0 w (.cell b [.string (bst f)] 9 :: L)) :
    Calls Tryz.prog 83 #[.string (bst r), .pointer (some ⟨b, 0, none⟩)] w (Ret fun u w' => Mem O w0 w' (.cell b [.string (bst (lowerF f r))] 9 :: L)) := by
  refine enter [.string (bst r), .pointer (some ⟨b, 0, none⟩), undef, undef, undef, undef, undef, undef, undef, undef, undef, undef, undef, undef, undef] Tryz.func83 rfl rfl ?_
  repeat (first | refine gs ?_ | (refine ks ?_; intro w hM))
  by_cases h1 : r = []
  · rw [decide_eq_true h1, Bool.not_true]
    repeat (first | refine gs ?_ | (refine ks ?_; intro w hM))
    refine c_condb rfl (fun h => by cases h) (fun _ => ?_)
    repeat (first | refine gs ?_ | (refine ks ?_; intro w hM))
    exact out0 rfl (by unfold lowerF; rw [if_neg (fun h => h.1 h1)]; exact hM)
  rw [decide_eq_false h1, Bool.not_false]
  repeat (first | refine gs ?_ | (refine ks ?_; intro w hM))
  by_cases h2 : f = []
  · rw [decide_eq_true h2]
    repeat (first | refine gs ?_ | (refine ks ?_; intro w hM))
    refine c_condb rfl (fun _ => ?_) (fun h => by cases h)
    repeat (first | refine gs ?_ | (refine ks ?_; intro w hM))
    exact out0 rfl (by unfold lowerF; rw [if_pos ⟨h1, .inl h2⟩]; exact hM)
  rw [decide_eq_false h2]
  repeat (first | refine gs ?_ | (refine ks ?_; intro w hM))
  cases h3 : ltB r f with
  | true =>
    repeat (first | refine gs ?_ | (refine ks ?_; intro w hM))
    refine c_condb rfl (fun _ => ?_) (fun h => by cases h)
    repeat (first | refine gs ?_ | (refine ks ?_; intro w hM))
    exact out0 rfl (by unfold lowerF; rw [if_pos ⟨h1, .inr h3⟩]; exact hM)
  | false =>
    repeat (first | refine gs ?_ | (refine ks ?_; intro w hM))
    refine c_condb rfl (fun h => by cases h) (fun _ => ?_)
    repeat (first | refine gs ?_ | (refine ks ?_; intro w hM))
    exact out0 rfl (by unfold lowerF; rw [if_neg (fun h => by rcases h.2 with g | g; exact h2 g; rw [h3] at g; cases g)]; exact hM)
theorem above_any (s : List UInt8) (w0 : World) (hs : s.length ≤ 1000000) : Calls Tryz.prog 84 #[.string (bst s)] w0 (Ret fun u w' => u = .string (bst (s ++ [0])) ∧ Ch [] w0 w') := by
  have hM := Mem.start w0
  refine enter [.string (bst s), undef, undef, undef, undef] Tryz.func84 rfl rfl ?_
  repeat (first | refine gs ?_ | (refine ks ?_; intro w hM))
  (try ((with_reducible apply is_gd); first | refine gt ?_ | refine gf ?_ | refine gu ?_)); refine wl_val (r_addS (a := s) (b := [0]) rfl rfl (by simp only [List.length_cons, List.length_nil]; omega)) ?_
  repeat (first | refine gs ?_ | (refine ks ?_; intro w hM))
  exact out1 rfl ⟨rfl, hM.ch⟩
/-! ### What begins otherwise -/
theorem behind_ff {s : List UInt8} : behindB (s ++ [255]) = behindB s := by
  unfold behindB
  rw [List.reverse_append]
  rfl
theorem behind_up {s : List UInt8} {c : UInt8} (h : c ≠ 255) : behindB (s ++ [c]) = s ++ [c + 1] := by
  unfold behindB
  rw [List.reverse_append]
  show (match (c :: s.reverse).dropWhile (fun c => c == 255) with | [] => [] | c :: r => r.reverse ++ [c + 1]) = _
  rw [List.dropWhile_cons, if_neg (by simpa using h)]
  simp
theorem last_parts {s : List UInt8} (h : s ≠ []) : ∃ t c, s = t ++ [c] ∧ s[s.length - 1]? = some c ∧ t = s.take (s.length - 1) := by
  refine ⟨s.dropLast, s.getLast h, (List.dropLast_concat_getLast h).symm, ?_, List.dropLast_eq_take⟩
  rw [← List.getLast?_eq_getElem?, List.getLast?_eq_some_getLast h]
theorem inc8 {c : UInt8} (h : c ≠ 255) : IntKind.u8.wrap ((c.toNat : Int) + 1) = ((c + 1).toNat : Int) := by
  have : ∀ n : Fin 256, n.1 ≠ 255 → IntKind.u8.wrap ((n.1 : Int) + 1) = ((UInt8.ofNat n.1 + 1).toNat : Int) := by decide +kernel
  have h2 := this ⟨c.toNat, UInt8.toNat_lt c⟩ (fun e => h (UInt8.toNat_inj.1 e))
  simpa using h2
set_option maxHeartbeats 8000000 in
theorem rbehind_any (s : List UInt8) (w0 : World) (hs : s.length ≤ 1000000) : Calls Tryz.prog 87 #[.string (bst s)] w0 (Ret fun u w' => u = .string (bst (behindB s)) ∧ Ch [] w0 w') := by
  have hM := Mem.start w0
  refine enter [.string (bst s), undef, undef, undef, undef, undef, undef, undef, undef, undef, undef, undef, undef, undef, undef, undef, undef, undef, undef, undef, undef, undef, undef, undef, undef, undef, undef, undef, undef, undef, undef, undef, undef, undef, undef] Tryz.func87 rfl rfl ?_
  repeat (first | refine gs ?_ | (refine ks ?_; intro w hM))
  
  
  refine c_loop (fun n l w => ∃ (q : List UInt8), (∃ jj : Nat → Value, l = [.string (bst q), jj 1, jj 2, jj 3, jj 4, jj 5, jj 6, jj 7, jj 8, jj 9, jj 10, jj 11, jj 12, jj 13, jj 14, jj 15, jj 16, jj 17, jj 18, jj 19, jj 20, jj 21, jj 22, jj 23, jj 24, jj 25, jj 26, jj 27, jj 28, jj 29, jj 30, jj 31, jj 32, jj 33, jj 34]) ∧ n = q.length ∧ q.length ≤ s.length ∧ behindB s = behindB q ∧ Mem [] w0 w []) s.length
    ⟨s, exj rfl, rfl, Nat.le_refl _, rfl, hM⟩ ?_
  clear hM
  rintro n l w ⟨q, ⟨jj, rfl⟩, hn, hql, hq, hM⟩
  repeat (first | refine gs ?_ | (refine ks ?_; intro w hM))
  by_cases h0 : q = []
  · subst h0
    rw [decide_eq_false (by simp : ¬ (0 : Int) < (([] : List UInt8).length : Int))]
    repeat (first | refine gs ?_ | (refine ks ?_; intro w hM))
    refine c_condb rfl (fun h => by cases h) (fun _ => ?_)
    repeat (first | refine gs ?_ | (refine ks ?_; intro w hM))
    refine c_condb rfl (fun _ => ?_) (fun h => by cases h)
    repeat (first | refine gs ?_ | (refine ks ?_; intro w hM))
    exact out1 rfl ⟨by rw [hq]; rfl, hM.ch⟩
  have hpos : 0 < q.length := List.length_pos_iff.2 h0
  obtain ⟨t, c, hqt, hc, ht⟩ := last_parts h0
  have hc' : q[((q.length : Int) - 1).toNat]? = some c := by rw [show ((q.length : Int) - 1).toNat = q.length - 1 by omega]; exact hc
  have htk : q.take ((q.length : Int) - 1).toNat = t := by rw [show ((q.length : Int) - 1).toNat = q.length - 1 by omega]; exact ht.symm
  have htl : t.length = q.length - 1 := by rw [ht, List.length_take]; omega
  rw [decide_eq_true (by omega : (0 : Int) < (q.length : Int))]
  repeat (first | refine gs ?_ | (refine ks ?_; intro w hM))
  by_cases h255 : c = 255
  · rw [decide_eq_true (by rw [h255]; rfl : (c.toNat : Int) = 255)]
    repeat (first | refine gs ?_ | (refine ks ?_; intro w hM))
    refine c_condb rfl (fun _ => ?_) (fun h => by cases h)
    repeat (first | refine gs ?_ | (refine ks ?_; intro w hM))
    rw [htk]
    exact x_goes t.length rfl (by omega) ⟨t, exj rfl, rfl, by omega, by rw [hq, hqt, h255, behind_ff], hM⟩
  · rw [decide_eq_false (show ¬ (c.toNat : Int) = 255 from fun h => h255 (UInt8.toNat_inj.1 (by show c.toNat = 255; omega)))]
    repeat (first | refine gs ?_ | (refine ks ?_; intro w hM))
    refine c_condb rfl (fun h => by cases h) (fun _ => ?_)
    repeat (first | refine gs ?_ | (refine ks ?_; intro w hM))
    rw [decide_eq_false h0]
    refine c_condb rfl (fun h => by cases h) (fun _ => ?_)
    repeat (first | refine gs ?_ | (refine ks ?_; intro w hM))
    refine c_ordY ([], []) [] (by kernel_rfl) (by kernel_rfl) (by kernel_rfl) (fun w hc2 hs2 => ?_)
    have hM := hM.call hc2
    (first | refine yn 0 rfl ?_ | refine ynt 0 rfl ?_ | refine ynff 0 rfl ?_); (first | refine yn 1 rfl ?_ | refine ynt 1 rfl ?_ | refine ynff 1 rfl ?_)
    refine ynp 2 rfl (by kernel_rfl) (by kernel_rfl) (fun _ => r_lenS (s := q) rfl (by omega)) rfl ?_
    (first | refine yn 3 rfl ?_ | refine ynt 3 rfl ?_ | refine ynff 3 rfl ?_)
    refine ynp 4 rfl (by kernel_rfl) (by kernel_rfl) (fun _ => (r_subH (s := q) rfl rfl (by omega) (by omega)).trans (by rw [htk])) rfl ?_
    (first | refine yn 5 rfl ?_ | refine ynt 5 rfl ?_ | refine ynff 5 rfl ?_); (first | refine yn 6 rfl ?_ | refine ynt 6 rfl ?_ | refine ynff 6 rfl ?_)
    refine ynp 7 rfl (by kernel_rfl) (by kernel_rfl) (fun _ => r_lenS (s := q) rfl (by omega)) rfl ?_
    (first | refine yn 8 rfl ?_ | refine ynt 8 rfl ?_ | refine ynff 8 rfl ?_)
    refine ynp 9 rfl (by kernel_rfl) (by kernel_rfl) (fun _ => r_idxS (s := q) (c := c) rfl rfl (by omega) hc') rfl ?_
    refine ynp 10 rfl (by kernel_rfl) (by kernel_rfl) (v := u8v (c + 1)) (fun _ => (r_add (k := .u8) (a := (c.toNat : Int)) (b := 1) rfl rfl).trans (by rw [inc8 h255]; rfl)) rfl ?_
    refine yk1 11 hM (by kernel_rfl) rfl (fun w h0 hM => ?_)
    refine kbsC (en := eU8) (vs := [u8v (c + 1)]) [c + 1] hM (fun w b hc hM => ?_) (hm := by intro v q; simp only [List.mem_singleton] at q; subst q; rfl)
    refine x_wy (.inl (hc.gy h0)) rfl ?_
    refine yk1 12 hM (by kernel_rfl) rfl (fun w h0 hM => ?_)
    have hR1 := hM.rowRdO (en := eU8) (v := .slice (some ⟨b, 0, none⟩) 1 1) (xs := [c + 1]) (by (repeat constructor))
    refine wl_val (r_b2s hR1) ?_
    refine x_wy (.inl ((Ch.refl [] w).gy h0)) rfl ?_
    refine ynp 13 rfl (by kernel_rfl) (by kernel_rfl) (fun _ => r_addS (a := t) (b := [c + 1]) rfl rfl (by simp only [List.length_cons, List.length_nil]; omega)) rfl ?_
    (first | refine yn 14 rfl ?_ | refine ynt 14 rfl ?_ | refine ynff 14 rfl ?_)
    refine wy_done (by kernel_rfl) (fun w hc => ?_)
    have hM := hM.call hc
    repeat (first | refine gs ?_ | (refine ks ?_; intro w hM))
    exact out1 rfl ⟨by rw [hq, hqt, behind_up h255]; rfl, hM.ch⟩
end Go.Proofs.YtoimhmphhffelaaGreatDoor
set_option linter.unusedVariables false
set_option linter.unusedSimpArgs false
namespace Go.Proofs.E
open Go Go.RowKit
/-- A block that a string was turned into: the spot behind its end is frozen. -/
abbrev frz (cs : List Value) (E : TypeId) : Obj := .cells cs.toArray E (cs.length, cs.length + 1)
theorem frz_cell {w : World} {b : Nat} {cs : List Value} {E : TypeId} (h : w.heap[b]? = some (frz cs E)) (i : Nat) : w.cell? ⟨b, i, none⟩ = cs[i]? := by
  rw [cell_of_row w b i cs.toArray E _ h]
  simp
theorem frz_rd {w : World} {b c : Nat} {cs : List Value} {E : TypeId} {bs : List UInt8} (h : w.heap[b]? = some (frz cs E)) (hc : ∀ (i : Nat) x, bs[i]? = some x → cs[i]? = some (u8v x)) (hl : bs.length ≤ c) (hm : bs.length ≤ 9223372036854775807) : tU8.Rd [] w (.slice (some ⟨b, 0, none⟩) bs.length c) bs := by
  have hb : b < w.heap.size := (Array.getElem?_eq_some_iff.1 h).1
  refine ⟨hm, _, _, rfl, hl, fun _ => ⟨b, 0, rfl, hb, by simp, fun i x hx => ?_⟩⟩
  refine ⟨hb, by simp, [u8v x], rfl, fun j v hj => ?_⟩
  cases j with
  | zero =>
    simp at hj
    subst hj
    rw [show 0 + i * tU8.n + 0 = i by show 0 + i * 1 + 0 = i; omega, frz_cell h i]
    exact hc i x hx
  | succ j => simp at hj
section
variable {P : Program} {ops : Array Oper} {Q : Exit → Act → World → Prop} {rest : List Oper} {l l' : List Value} {O : List Nat} {w0 w : World} {L L' : List As} {T : TypeId} {pos : String} {after : Array Edge}
theorem r_cutH {x q : Operand} {t e : TypeId} {z : Value} {by_ b n c : Nat} {k : IntKind} {j : Int} [hu : Und P t (.slice e)] [hi : Inf P e z 1 by_] (hx : ev l x = .slice (some ⟨b, 0, none⟩) n c) (hq : ev l q = .int k j) (h0 : 0 ≤ j) (h1 : j ≤ c) (hc : 0 < c) :
    (exec (ev l) (.slice t x none (some q) none) T).run P w = .ok (.value (.slice (some ⟨b, 0, none⟩) j.toNat c)) w := by
  have : c ≠ 0 := by omega
  simp [exec, execOp, hx, hq, run_cut (hi := hi) (bnd_hi (b := true) (n := n) h0 h1), this, Addr.add]
/-- A string turned into bytes, as a block of its own. -/
theorem kst8o {d : Nat} {x : Operand} {s t e : TypeId} [hs : Und P s .string] [ht : Und P t (.slice e)] [he : Und P e (.int .u8)] (bs : List UInt8) (hM : Mem O w0 w L)
    (h : ∀ w' b c cs, Mem O w0 w' (.obj b (frz cs e) :: L) → (∀ (i : Nat) x, bs[i]? = some x → cs[i]? = some (u8v x)) → bs.length ≤ c → wpList P ops Q rest (fr (l.set d (.slice (some ⟨b, 0, none⟩) bs.length c))) w')
    (hx : ev l x = .string (bst bs) := by exact rfl) (hb : bs.length ≤ 281474976710656 := by first | decide | omega) :
    wpList P ops Q ({ dst := some d, op := .convert s t x, type := T, pos := pos, after := after, guard := none } :: rest) (fr l) w := by
  have hr := Lib.run_convert_string_bytes (P := P) w s t e (bst bs) hs.out ht.out he.out
  rw [bst_size] at hr
  obtain ⟨hc, hR⟩ := bytesWorld_rd w e bs hb
  have hnew := Lib.bytesWorld_at_new w e (bst bs)
  have hheap : (Lib.bytesWorld w e (bst bs)).heap[w.heap.size]? = some (frz (Lib.bytesCells w e (bst bs)).toList e) := by
    rw [hnew]
    simp [frz]
  refine wl_val (by simp [exec, execOp, hx, hr]) (h _ w.heap.size (grownCap w bs.length 0 e) (Lib.bytesCells w e (bst bs)).toList (hM.res (a := .obj w.heap.size (frz (Lib.bytesCells w e (bst bs)).toList e)) hc hheap (fun k hk => by rw [show k = w.heap.size from hk]; exact Nat.le_refl _)) (fun i x hi => ?_) (by simpa using grownCap_ge w bs.length 0 e))
  have hil : i < bs.length := (List.getElem?_eq_some_iff.1 hi).1
  have := Lib.bytesWorld_cell w e (bst bs) i (by rw [bst_size]; exact hil)
  rw [frz_cell hheap i] at this
  rw [this, show (bst bs).data.toList = bs from rfl, List.getD_eq_getElem?_getD, hi]
  rfl
/-- A store of one cell into such a block. -/
theorem kstF {x y : Operand} {E t : TypeId} {b o by_ : Nat} {cs : List Value} {v z : Value} [hi : Inf P t z 1 by_] (hM : Mem O w0 w (.obj b (frz cs E) :: L))
    (h : ∀ w', Mem O w0 w' (.obj b (frz (cs.set o v) E) :: L) → wpList P ops Q rest (fr l) w')
    (hf : o < cs.length) (hx : ev l x = .pointer (some ⟨b, o, none⟩) := by exact rfl) (hy : ev l y = v := by exact rfl) (hv : v.cells = #[v] := by exact rfl) (h1 : v.oneCell' = true := by exact rfl) :
    wpList P ops Q ({ dst := none, op := .store t x y, type := T, pos := pos, after := after, guard := none } :: rest) (fr l) w := by
  have hB : w.heap[b]? = some (frz cs E) := hM.head
  have hb : b < w.heap.size := (Array.getElem?_eq_some_iff.1 hB).1
  have hc : (w.cell? ⟨b, o, none⟩).isSome = true := by rw [frz_cell hB o, List.getElem?_eq_getElem hf]; rfl
  have hfz : w.frozen? ⟨b, o, none⟩ = false := by
    unfold World.frozen?
    simp only [hB]
    simp
    omega
  have hst := run_storeCells_cells (P := P) b o [v] 0 w (fun j hj => by simp at hj; subst hj; exact hc) (fun j hj => by simp at hj; subst hj; exact hfz) (fun u hu => by simp at hu; subst hu; exact h1)
  have hs := run_size (P := P) (w := w) (hi := hi)
  have hch : Ch [b] w (w.setCells b (o + 0) [v]) := ⟨rfl, rfl, rfl, by simp [World.setCells, World.setCell], fun k hk hn => heap_setCell_other w ⟨b, o + 0, none⟩ k v (by simpa using hn)⟩
  have hnew : (w.setCells b (o + 0) [v]).heap[b]? = some (frz (cs.set o v) E) := by
    show (w.setCell ⟨b, o, none⟩ v).heap[b]? = _
    unfold World.setCell
    simp [Array.getElem?_modify, hB, frz]
  refine wl_skip (w' := w.setCells b (o + 0) [v]) ?_ (h _ (hM.put (a' := .obj b (frz (cs.set o v) E)) hch (fun k hk => show k = b by simpa using hk) hnew (fun k hk => .inl hk)))
  simp [exec, execOp, Instr.storeAt, Instr.sureAddr, hx, hy, storeVar, hs, hv, hst]
end
end Go.Proofs.E
namespace Go.Proofs.YtoimhmphhffelaaGreatDoor
open Go Go.RowKit Go.Proofs.E
attribute [local irreducible] Go.wpList Go.Code.wp Go.Proofs.E.exec Go.Proofs.E.wpLexG
set_option maxHeartbeats 8000000 in
theorem behind_any (s : List UInt8) (w0 : World) (hs : s.length ≤ 1000000) : Calls Tryz.prog 86 #[.string (bst s)] w0 (Ret fun u w' => u = .string (bst (behindB s)) ∧ Ch [] w0 w') := by
  have hM := Mem.start w0
  refine enter [.string (bst s), undef, undef, undef, undef, undef, undef, undef, undef, undef, undef, undef, undef, undef, undef, undef, undef, undef, undef, undef, undef, undef, undef, undef, undef, undef, undef, undef, undef, undef, undef, undef, undef, undef, undef, undef] Tryz.func86 rfl rfl ?_
  repeat (first | refine gs ?_ | (refine ks ?_; intro w hM))
  refine kst8o s hM (fun w b c cs hM hcs hcl => ?_)
  repeat (first | refine gs ?_ | (refine ks ?_; intro w hM))
  
  refine c_loop (fun n l w => ∃ (q : List UInt8), (∃ jj : Nat → Value, l = [jj 0, jj 1, jj 2, .slice (some ⟨b, 0, none⟩) q.length c, jj 4, jj 5, jj 6, jj 7, jj 8, jj 9, jj 10, jj 11, jj 12, jj 13, jj 14, jj 15, jj 16, jj 17, jj 18, jj 19, jj 20, jj 21, jj 22, jj 23, jj 24, jj 25, jj 26, jj 27, jj 28, jj 29, jj 30, jj 31, jj 32, jj 33, jj 34, jj 35]) ∧ n = q.length ∧ q.length ≤ s.length ∧ (∃ r, s = q ++ r) ∧ behindB s = behindB q ∧ Mem [] w0 w [.obj b (frz cs 5)]) s.length
    ⟨s, exj rfl, rfl, Nat.le_refl _, ⟨[], by simp⟩, rfl, hM⟩ ?_
  clear hM
  rintro n l w ⟨q, ⟨jj, rfl⟩, hn, hql, ⟨r, hqr⟩, hq, hM⟩
  have hcq : ∀ (i : Nat) x, q[i]? = some x → cs[i]? = some (u8v x) := fun i x hx => hcs i x (by
    rw [hqr, List.getElem?_append_left (List.getElem?_eq_some_iff.1 hx).1]
    exact hx)
  repeat (first | refine gs ?_ | (refine ks ?_; intro w hM))
  by_cases h0 : q = []
  · subst h0
    rw [decide_eq_false (by simp : ¬ (0 : Int) < (([] : List UInt8).length : Int))]
    repeat (first | refine gs ?_ | (refine ks ?_; intro w hM))
    refine c_condb rfl (fun h => by cases h) (fun _ => ?_)
    repeat (first | refine gs ?_ | (refine ks ?_; intro w hM))
    refine c_condb rfl (fun _ => ?_) (fun h => by cases h)
    repeat (first | refine gs ?_ | (refine ks ?_; intro w hM))
    exact out1 rfl ⟨by rw [hq]; rfl, hM.ch⟩
  have hpos : 0 < q.length := List.length_pos_iff.2 h0
  obtain ⟨t, x, hqt, hx, ht⟩ := last_parts h0
  have htl : t.length = q.length - 1 := by rw [ht, List.length_take]; omega
  have hcl1 := hcq _ _ hx
  have hob : w.heap[b]? = some (frz cs 5) := (hM.pick (a := .obj b (frz cs 5)) (L' := []) (by (repeat constructor))).head
  rw [decide_eq_true (by omega : (0 : Int) < (q.length : Int))]
  repeat (first | refine gs ?_ | (refine ks ?_; intro w hM))
  (try ((with_reducible apply is_gd); first | refine gt ?_ | refine gf ?_ | refine gu ?_)); refine wl_val (r_indexAddr rfl rfl (by omega) (by omega)) ?_
  repeat (first | refine gs ?_ | (refine ks ?_; intro w hM))
  (try ((with_reducible apply is_gd); first | refine gt ?_ | refine gf ?_ | refine gu ?_)); refine wl_val (r_load_one (b := b) (o := 0 + ((q.length : Int) - 1).toNat * 1) rfl (by rw [show 0 + ((q.length : Int) - 1).toNat * 1 = q.length - 1 by omega]; exact (frz_cell hob _).trans hcl1)) ?_
  repeat (first | refine gs ?_ | (refine ks ?_; intro w hM))
  by_cases h255 : x = 255
  · rw [decide_eq_true (by rw [h255]; rfl : (x.toNat : Int) = 255)]
    repeat (first | refine gs ?_ | (refine ks ?_; intro w hM))
    refine c_condb rfl (fun _ => ?_) (fun h => by cases h)
    repeat (first | refine gs ?_ | (refine ks ?_; intro w hM))
    (try ((with_reducible apply is_gd); first | refine gt ?_ | refine gf ?_ | refine gu ?_)); refine wl_val (r_cutH (j := (q.length : Int) - 1) rfl rfl (by omega) (by omega) (by omega)) ?_
    rw [show ((q.length : Int) - 1).toNat = t.length by omega]
    repeat (first | refine gs ?_ | (refine ks ?_; intro w hM))
    exact x_goes t.length rfl (by omega) ⟨t, exj rfl, rfl, by omega, ⟨[x] ++ r, by rw [hqr, hqt]; simp⟩, by rw [hq, hqt, h255, behind_ff], hM⟩
  · rw [decide_eq_false (show ¬ (x.toNat : Int) = 255 from fun h => h255 (UInt8.toNat_inj.1 (by show x.toNat = 255; omega)))]
    repeat (first | refine gs ?_ | (refine ks ?_; intro w hM))
    refine c_condb rfl (fun h => by cases h) (fun _ => ?_)
    repeat (first | refine gs ?_ | (refine ks ?_; intro w hM))
    rw [decide_eq_false (by omega : ¬ (q.length : Int) = 0)]
    refine c_condb rfl (fun h => by cases h) (fun _ => ?_)
    repeat (first | refine gs ?_ | (refine ks ?_; intro w hM))
    (try ((with_reducible apply is_gd); first | refine gt ?_ | refine gf ?_ | refine gu ?_)); refine wl_val (r_indexAddr rfl rfl (by omega) (by omega)) ?_
    repeat (first | refine gs ?_ | (refine ks ?_; intro w hM))
    (try ((with_reducible apply is_gd); first | refine gt ?_ | refine gf ?_ | refine gu ?_)); refine wl_val (r_load_one (b := b) (o := 0 + ((q.length : Int) - 1).toNat * 1) rfl (by rw [show 0 + ((q.length : Int) - 1).toNat * 1 = q.length - 1 by omega]; exact (frz_cell hob _).trans hcl1)) ?_
    repeat (first | refine gs ?_ | (refine ks ?_; intro w hM))
    rw [inc8 h255]
    (try ((with_reducible apply is_gd); first | refine gt ?_ | refine gf ?_ | refine gu ?_)); refine wl_val (r_indexAddr rfl rfl (by omega) (by omega)) ?_
    repeat (first | refine gs ?_ | (refine ks ?_; intro w hM))
    have hlc : q.length - 1 < cs.length := (List.getElem?_eq_some_iff.1 hcl1).1
    refine kstF (b := b) (o := 0 + ((q.length : Int) - 1).toNat * 1) (v := u8v (x + 1)) hM (fun w hM => ?_) (by omega)
    have hob2 : w.heap[b]? = some (frz (cs.set (0 + ((q.length : Int) - 1).toNat * 1) (u8v (x + 1))) 5) := hM.head
    have hR : tU8.Rd [] w (.slice (some ⟨b, 0, none⟩) q.length c) (t ++ [x + 1]) := by
      have := frz_rd (bs := t ++ [x + 1]) (c := c) hob2 (fun i y hy => ?_) (by rw [List.length_append, List.length_singleton]; omega) (by rw [List.length_append, List.length_singleton]; omega)
      · rwa [show (t ++ [x + 1]).length = q.length by rw [List.length_append, List.length_singleton]; omega] at this
      · rw [show 0 + ((q.length : Int) - 1).toNat * 1 = t.length by omega, List.getElem?_set]
        by_cases hi : t.length = i
        · subst hi
          rw [if_pos rfl, if_pos (by omega)]
          rw [List.getElem?_append_right (Nat.le_refl _), Nat.sub_self] at hy
          have : x + 1 = y := by simpa using hy
          rw [this]
        · rw [if_neg hi]
          have hlt := (List.getElem?_eq_some_iff.1 hy).1
          rw [List.length_append, List.length_singleton] at hlt
          rw [List.getElem?_append_left (by omega)] at hy
          exact hcq i y (by rw [hqt, List.getElem?_append_left (by omega)]; exact hy)
    repeat (first | refine gs ?_ | (refine ks ?_; intro w hM))
    (try ((with_reducible apply is_gd); first | refine gt ?_ | refine gf ?_ | refine gu ?_)); refine wl_val (r_b2s hR) ?_
    repeat (first | refine gs ?_ | (refine ks ?_; intro w hM))
    exact out1 rfl ⟨by rw [hq, hqt, behind_up h255]; rfl, hM.ch⟩
end Go.Proofs.YtoimhmphhffelaaGreatDoor
set_option linter.unusedVariables false
set_option linter.unusedSimpArgs false
namespace Go.Proofs.E
open Go Go.RowKit
/-- The same as c_cutJ, in a block. -/
theorem c_cutB {P : Program} {c : Code} {b : Nat} {K : Act → World → Prop} {Q : Exit → Act → World → Prop} {l : List Value} {w : World} (J : List Value → World → Prop) (h : c.wp P (OutJ J) (fr l) w) (hk : ∀ l w, J l w → K (fr l) w) : c.wp P (Exit.inBlock b (Exit.then K Q)) (fr l) w :=
  wp_mono h fun e a w h => by
    obtain ⟨rfl, l, rfl, hj⟩ := h
    exact hk l w hj
end Go.Proofs.E
namespace Go.Proofs.YtoimhmphhffelaaGreatDoor
open Go Go.RowKit Go.Proofs.E
attribute [local irreducible] Go.wpList Go.Code.wp Go.Proofs.E.exec Go.Proofs.E.wpLexG
theorem fold_next {ts : List TsV} {i : Nat} {t : TsV} {x : List UInt8 × List UInt8} (h : ts[i]? = some t) : (ts.take (i + 1)).foldl nStep x = nStep ((ts.take i).foldl nStep x) t := by
  rw [List.take_add_one, h, List.foldl_append]
  rfl
set_option maxHeartbeats 32000000 in
theorem rnarrow_any (q : QryV) (vt : Value) (w0 : World) (hR : (Ty.enc eTs).Rd [] w0 vt q.ts) (hq : LenQ q) : Calls Tryz.prog 23 #[.agg (qV q vt).toArray] w0 (Ret fun u w' => u = .tuple #[.string (bst (narrowB q).1), .string (bst (narrowB q).2)] ∧ Ch [] w0 w') := by
  have hM := Mem.start w0
  have hlen := hR.1
  obtain ⟨q1, q2, q3⟩ := hq
  obtain ⟨A, c, rfl⟩ := hR.form
  refine enter [.agg (qV q (.slice A q.ts.length c)).toArray, undef, undef, undef, undef, undef, undef, undef, undef, undef, undef, undef, undef, undef, undef, undef, undef, undef, undef, undef, undef, undef, undef, undef, undef, undef, undef, undef, undef, undef, undef, undef, undef, undef, undef, undef, undef, undef, undef, undef, undef, undef, undef, undef, undef, undef, undef, undef, undef, undef, undef, undef, undef, undef, undef, undef, undef, undef, undef, undef, undef, undef, undef, undef, undef, undef, undef, undef, undef, undef, undef, undef, undef, undef, undef, undef, undef, undef, undef, undef] Tryz.func23 rfl rfl ?_
  repeat (first | refine gs ?_ | (refine ks ?_; intro w hM))
  refine kbx hM (fun w b1 hM => ?_)
  have hM : Mem [] w0 w [.cell b1 (qV q (.slice A q.ts.length c)) 51] := hM
  repeat (first | refine gs ?_ | (refine ks ?_; intro w hM))
  refine kdr hM (by kernel_rfl) (by kernel_rfl) (fun w hM => ?_)
  repeat (first | ((with_reducible apply is_ldg); first | refine kldg hM ?_ | refine kldwg hM ?_) | ((with_reducible apply is_sg); (first | refine ssg ?_ | refine sgu ?_)) | ((with_reducible apply is_gg); first | refine gtg ?_ | refine gfg ?_ | refine gug ?_) | ((with_reducible apply is_eg); refine eg ?_))
  (intro w hc; have hM := hM.call hc)
  repeat (first | refine gs ?_ | (refine ks ?_; intro w hM))
  
  refine c_loop (fun n l w => ∃ (i : Nat) (x : List UInt8 × List UInt8), (∃ jj : Nat → Value, l = [jj 0, .pointer (some ⟨b1, 0, none⟩), jj 2, jj 3, .string (bst x.1), .string (bst x.2), jj 6, jj 7, jj 8, jj 9, jj 10, jj 11, jj 12, jj 13, jj 14, .slice A q.ts.length c, .int .i64 (q.ts.length : Int), .int .i64 (i : Int), jj 18, jj 19, jj 20, jj 21, jj 22, jj 23, jj 24, jj 25, jj 26, jj 27, jj 28, jj 29, jj 30, jj 31, jj 32, jj 33, jj 34, jj 35, jj 36, jj 37, jj 38, jj 39, jj 40, jj 41, jj 42, jj 43, jj 44, jj 45, jj 46, jj 47, jj 48, jj 49, jj 50, jj 51, jj 52, jj 53, jj 54, jj 55, jj 56, jj 57, jj 58, jj 59, jj 60, jj 61, jj 62, jj 63, jj 64, jj 65, jj 66, jj 67, jj 68, jj 69, jj 70, jj 71, jj 72, jj 73, jj 74, jj 75, jj 76, jj 77, jj 78, jj 79]) ∧ n + i = q.ts.length ∧ x = (q.ts.take i).foldl nStep (q.fr, q.to_) ∧ Mem [] w0 w [.cell b1 (qV q (.slice A q.ts.length c)) 51]) q.ts.length
    ⟨0, _, exj rfl, rfl, rfl, hM⟩ ?_
  clear hM
  rintro n l w ⟨i, x, ⟨jj, rfl⟩, hn, hx, hM⟩
  repeat (first | refine gs ?_ | (refine ks ?_; intro w hM))
  refine c_cond rfl (fun hi => ?_) (fun hi => ?_)
  rotate_left
  · rw [List.take_of_length_le (by omega)] at hx
    repeat (first | refine gs ?_ | (refine ks ?_; intro w hM))
    exact out2 rfl ⟨by rw [hx]; rfl, hM.ch⟩
  repeat (first | refine gs ?_ | (refine ks ?_; intro w hM))
  refine kix hR (fun b o t ht hA => ?_) (h1 := by omega)
  rw [Int.toNat_natCast] at ht
  have ht3 := q3 t (List.mem_of_getElem? ht)
  have hnx := fold_next (x := (q.fr, q.to_)) ht
  rw [← hx] at hnx
  repeat (first | refine gs ?_ | (refine ks ?_; intro w hM))
  refine katr hM hA ?_
  repeat (first | refine gs ?_ | (refine ks ?_; intro w hM))
  refine kal hM (fun w b7 hM => ?_)
  have hM : Mem [] w0 w (.cell b7 (tsC (0, 0, [])) 118 :: [.cell b1 (qV q (.slice A q.ts.length c)) 51]) := hM
  repeat (first | refine gs ?_ | (refine ks ?_; intro w hM))
  by_cases h1 : t.1 = 1
  rotate_left
  · rw [decide_eq_true (show ¬ t.1 = 1 from h1)]
    refine c_condb rfl (fun _ => ?_) (fun h => by cases h)
    repeat (first | refine gs ?_ | (refine ks ?_; intro w hM))
    exact x_goes (n - 1) rfl (by omega) ⟨i + 1, x, exj rfl, by omega, by rw [hnx]; unfold nStep; rw [if_neg h1], hM.sub (by (repeat (first | exact Go.Proofs.E.Sub.refl _ | exact Go.Proofs.E.Sub.nil | (apply Go.Proofs.E.Sub.cons; (repeat (first | exact Go.Proofs.E.Pick.here | apply Go.Proofs.E.Pick.there))) | apply Go.Proofs.E.Sub.tail)))⟩
  rw [decide_eq_false (show ¬ ¬ t.1 = 1 from fun h => h h1)]
  refine c_condb rfl (fun h => by cases h) (fun _ => ?_)
  repeat (first | refine gs ?_ | (refine ks ?_; intro w hM))
  
  refine c_cutB (fun l w => (∃ jj : Nat → Value, l = [jj 0, .pointer (some ⟨b1, 0, none⟩), jj 2, jj 3, .string (bst x.1), .string (bst x.2), jj 6, .pointer (some ⟨b7, 0, none⟩), .string (bst (raiseB t)), .string (bst (lowerB t)), jj 10, jj 11, jj 12, jj 13, jj 14, .slice A q.ts.length c, .int .i64 (q.ts.length : Int), .int .i64 (i : Int), jj 18, jj 19, jj 20, jj 21, jj 22, jj 23, jj 24, jj 25, jj 26, jj 27, jj 28, jj 29, jj 30, jj 31, jj 32, jj 33, jj 34, jj 35, jj 36, jj 37, jj 38, jj 39, jj 40, jj 41, jj 42, jj 43, jj 44, jj 45, jj 46, jj 47, jj 48, jj 49, jj 50, jj 51, jj 52, jj 53, jj 54, jj 55, jj 56, jj 57, jj 58, jj 59, jj 60, jj 61, jj 62, jj 63, jj 64, jj 65, jj 66, jj 67, jj 68, jj 69, jj 70, jj 71, jj 72, jj 73, jj 74, jj 75, jj 76, jj 77, jj 78, jj 79]) ∧ Mem [] w0 w [.cell b7 (tsC t) 118, .cell b1 (qV q (.slice A q.ts.length c)) 51]) ?_ ?_
  · by_cases o1 : t.2.1 = 1
    · rw [decide_eq_true o1]
      refine c_condb rfl (fun _ => ?_) (fun h => by cases h)
      repeat (first | refine gs ?_ | (refine ks ?_; intro w hM))
      refine kdr hM (by kernel_rfl) (by kernel_rfl) (fun w hM => ?_)
      repeat (first | ((with_reducible apply is_ldg); first | refine kldg hM ?_ | refine kldwg hM ?_) | ((with_reducible apply is_sg); (first | refine ssg ?_ | refine sgu ?_)) | ((with_reducible apply is_gg); first | refine gtg ?_ | refine gfg ?_ | refine gug ?_) | ((with_reducible apply is_eg); refine eg ?_))
      (try ((with_reducible apply is_gg); first | refine gtg ?_ | refine gfg ?_ | refine gug ?_)); refine wg_val (fun _ _ => r_addS (a := t.2.2) (b := [0]) rfl rfl (by simp only [List.length_cons, List.length_nil]; omega)) ?_
      repeat (first | ((with_reducible apply is_ldg); first | refine kldg hM ?_ | refine kldwg hM ?_) | ((with_reducible apply is_sg); (first | refine ssg ?_ | refine sgu ?_)) | ((with_reducible apply is_gg); first | refine gtg ?_ | refine gfg ?_ | refine gug ?_) | ((with_reducible apply is_eg); refine eg ?_))
      (intro w hc; have hM := hM.call hc)
      repeat (first | refine gs ?_ | (refine ks ?_; intro w hM))
      exact outJ ⟨exj (by rw [show raiseB t = t.2.2 by unfold raiseB; simp [o1], show lowerB t = t.2.2 ++ [0] by unfold lowerB; simp [o1]]; rfl), hM⟩
    rw [decide_eq_false o1]
    refine c_condb rfl (fun h => by cases h) (fun _ => ?_)
    repeat (first | refine gs ?_ | (refine ks ?_; intro w hM))
    by_cases o3 : t.2.1 = 3
    · rw [decide_eq_true o3]
      refine c_condb rfl (fun _ => ?_) (fun h => by cases h)
      repeat (first | refine gs ?_ | (refine ks ?_; intro w hM))
      by_cases h0 : t.2.2 = []
      · rw [decide_eq_true h0]
        refine c_condb rfl (fun _ => ?_) (fun h => by cases h)
        repeat (first | refine gs ?_ | (refine ks ?_; intro w hM))
        exact outJ ⟨exj (by rw [show raiseB t = [] by unfold raiseB; simp [o1, o3, h0], show lowerB t = [0] by unfold lowerB; simp [o1, o3, h0]]; rfl), hM⟩
      · rw [decide_eq_false h0]
        refine c_condb rfl (fun h => by cases h) (fun _ => ?_)
        repeat (first | refine gs ?_ | (refine ks ?_; intro w hM))
        exact outJ ⟨exj (by rw [show raiseB t = [] by unfold raiseB; simp [o1, o3, h0], show lowerB t = t.2.2 by unfold lowerB; simp [o1, o3, h0]]; rfl), hM⟩
    rw [decide_eq_false o3]
    refine c_condb rfl (fun h => by cases h) (fun _ => ?_)
    repeat (first | refine gs ?_ | (refine ks ?_; intro w hM))
    by_cases o4 : t.2.1 = 4
    · rw [decide_eq_true o4]
      refine c_condb rfl (fun _ => ?_) (fun h => by cases h)
      repeat (first | refine gs ?_ | (refine ks ?_; intro w hM))
      (try ((with_reducible apply is_gd); first | refine gt ?_ | refine gf ?_ | refine gu ?_)); refine wl_val (r_addS (a := t.2.2) (b := [0]) rfl rfl (by simp only [List.length_cons, List.length_nil]; omega)) ?_
      repeat (first | refine gs ?_ | (refine ks ?_; intro w hM))
      exact outJ ⟨exj (by rw [show raiseB t = [] by unfold raiseB; simp [o1, o3, o4], show lowerB t = t.2.2 ++ [0] by unfold lowerB; simp [o1, o3, o4]]; rfl), hM⟩
    rw [decide_eq_false o4]
    refine c_condb rfl (fun h => by cases h) (fun _ => ?_)
    repeat (first | refine gs ?_ | (refine ks ?_; intro w hM))
    by_cases o5 : t.2.1 = 5
    · rw [decide_eq_true o5]
      refine c_condb rfl (fun _ => ?_) (fun h => by cases h)
      repeat (first | refine gs ?_ | (refine ks ?_; intro w hM))
      (try ((with_reducible apply is_gd); first | refine gt ?_ | refine gf ?_ | refine gu ?_)); refine wl_val (r_addS (a := t.2.2) (b := [0]) rfl rfl (by simp only [List.length_cons, List.length_nil]; omega)) ?_
      repeat (first | refine gs ?_ | (refine ks ?_; intro w hM))
      exact outJ ⟨exj (by rw [show raiseB t = t.2.2 ++ [0] by unfold raiseB; simp [o1, o3, o4, o5], show lowerB t = [] by unfold lowerB; simp [o1, o3, o4, o5]]; rfl), hM⟩
    rw [decide_eq_false o5]
    refine c_condb rfl (fun h => by cases h) (fun _ => ?_)
    repeat (first | refine gs ?_ | (refine ks ?_; intro w hM))
    by_cases o6 : t.2.1 = 6
    · rw [decide_eq_true o6]
      refine c_condb rfl (fun _ => ?_) (fun h => by cases h)
      repeat (first | refine gs ?_ | (refine ks ?_; intro w hM))
      exact outJ ⟨exj (by rw [show raiseB t = t.2.2 by unfold raiseB; simp [o1, o3, o4, o5, o6], show lowerB t = [] by unfold lowerB; simp [o1, o3, o4, o5, o6]]; rfl), hM⟩
    rw [decide_eq_false o6]
    refine c_condb rfl (fun h => by cases h) (fun _ => ?_)
    repeat (first | refine gs ?_ | (refine ks ?_; intro w hM))
    by_cases o8 : t.2.1 = 8
    · rw [decide_eq_true o8]
      refine c_condb rfl (fun _ => ?_) (fun h => by cases h)
      repeat (first | refine gs ?_ | (refine ks ?_; intro w hM))
      refine kdr hM (by kernel_rfl) (by kernel_rfl) (fun w hM => ?_)
      repeat (first | ((with_reducible apply is_ldg); first | refine kldg hM ?_ | refine kldwg hM ?_) | ((with_reducible apply is_sg); (first | refine ssg ?_ | refine sgu ?_)) | ((with_reducible apply is_gg); first | refine gtg ?_ | refine gfg ?_ | refine gug ?_) | ((with_reducible apply is_eg); refine eg ?_))
      refine kcag hM (v := .string (bst (behindB t.2.2))) (vs := [.string (bst t.2.2)]) (fun w1 hM => rbehind_any t.2.2 w1 (by omega)) ?_
      repeat (first | ((with_reducible apply is_ldg); first | refine kldg hM ?_ | refine kldwg hM ?_) | ((with_reducible apply is_sg); (first | refine ssg ?_ | refine sgu ?_)) | ((with_reducible apply is_gg); first | refine gtg ?_ | refine gfg ?_ | refine gug ?_) | ((with_reducible apply is_eg); refine eg ?_))
      (intro w hc; have hM := hM.call hc)
      repeat (first | refine gs ?_ | (refine ks ?_; intro w hM))
      exact outJ ⟨exj (by rw [show raiseB t = t.2.2 by unfold raiseB; simp [o1, o3, o4, o5, o6, o8], show lowerB t = behindB t.2.2 by unfold lowerB; simp [o1, o3, o4, o5, o6, o8]]; rfl), hM⟩
    rw [decide_eq_false o8]
    refine c_condb rfl (fun h => by cases h) (fun _ => ?_)
    repeat (first | refine gs ?_ | (refine ks ?_; intro w hM))
    exact outJ ⟨exj (by rw [show raiseB t = [] by unfold raiseB; simp [o1, o3, o4, o5, o6, o8], show lowerB t = [] by unfold lowerB; simp [o1, o3, o4, o5, o6, o8]]; rfl), hM⟩
  clear hM
  rintro l w ⟨⟨jj, rfl⟩, hM⟩
  obtain ⟨r1, hr1⟩ : ∃ r, r = raiseB t := ⟨_, rfl⟩
  obtain ⟨r2, hr2⟩ : ∃ r, r = lowerB t := ⟨_, rfl⟩
  rw [← hr1, ← hr2]
  have hstep : nStep x t = (raiseF x.1 r1, lowerF x.2 r2) := by unfold nStep; rw [if_pos h1, hr1, hr2]
  rw [hstep] at hnx
  repeat (first | refine gs ?_ | (refine ks ?_; intro w hM))
  
  refine c_cutJ (fun l w => (∃ jj : Nat → Value, l = [jj 0, .pointer (some ⟨b1, 0, none⟩), jj 2, jj 3, .string (bst (raiseF x.1 r1)), .string (bst x.2), jj 6, .pointer (some ⟨b7, 0, none⟩), jj 8, .string (bst r2), jj 10, jj 11, jj 12, jj 13, jj 14, .slice A q.ts.length c, .int .i64 (q.ts.length : Int), .int .i64 (i : Int), jj 18, jj 19, jj 20, jj 21, jj 22, jj 23, jj 24, jj 25, jj 26, jj 27, jj 28, jj 29, jj 30, jj 31, jj 32, jj 33, jj 34, jj 35, jj 36, jj 37, jj 38, jj 39, jj 40, jj 41, jj 42, jj 43, jj 44, jj 45, jj 46, jj 47, jj 48, jj 49, jj 50, jj 51, jj 52, jj 53, jj 54, jj 55, jj 56, jj 57, jj 58, jj 59, jj 60, jj 61, jj 62, jj 63, jj 64, jj 65, jj 66, jj 67, jj 68, jj 69, jj 70, jj 71, jj 72, jj 73, jj 74, jj 75, jj 76, jj 77, jj 78, jj 79]) ∧ Mem [] w0 w [.cell b7 (tsC t) 118, .cell b1 (qV q (.slice A q.ts.length c)) 51]) ?_ ?_
  · refine c_condb rfl (fun h => ?_) (fun h => ?_)
    · repeat (first | refine gs ?_ | (refine ks ?_; intro w hM))
      exact outJ ⟨exj (by unfold raiseF; rw [if_pos h]; rfl), hM⟩
    · repeat (first | refine gs ?_ | (refine ks ?_; intro w hM))
      exact outJ ⟨exj (by unfold raiseF; rw [if_neg (by rw [h]; simp)]; rfl), hM⟩
  clear hM
  rintro l w ⟨⟨jj, rfl⟩, hM⟩
  repeat (first | refine gs ?_ | (refine ks ?_; intro w hM))
  by_cases g1 : r2 = []
  · rw [decide_eq_true g1, Bool.not_true]
    repeat (first | refine gs ?_ | (refine ks ?_; intro w hM))
    refine c_condb rfl (fun h => by cases h) (fun _ => ?_)
    repeat (first | refine gs ?_ | (refine ks ?_; intro w hM))
    exact x_goes (n - 1) rfl (by omega) ⟨i + 1, (raiseF x.1 r1, lowerF x.2 r2), exj (by unfold lowerF; rw [if_neg (fun h => h.1 g1)]; rfl), by omega, hnx.symm, hM.sub (by (repeat (first | exact Go.Proofs.E.Sub.refl _ | exact Go.Proofs.E.Sub.nil | (apply Go.Proofs.E.Sub.cons; (repeat (first | exact Go.Proofs.E.Pick.here | apply Go.Proofs.E.Pick.there))) | apply Go.Proofs.E.Sub.tail)))⟩
  rw [decide_eq_false g1, Bool.not_false]
  repeat (first | refine gs ?_ | (refine ks ?_; intro w hM))
  by_cases g2 : x.2 = []
  · rw [decide_eq_true g2]
    repeat (first | refine gs ?_ | (refine ks ?_; intro w hM))
    refine c_condb rfl (fun _ => ?_) (fun h => by cases h)
    repeat (first | refine gs ?_ | (refine ks ?_; intro w hM))
    exact x_goes (n - 1) rfl (by omega) ⟨i + 1, (raiseF x.1 r1, lowerF x.2 r2), exj (by unfold lowerF; rw [if_pos ⟨g1, .inl g2⟩]; rfl), by omega, hnx.symm, hM.sub (by (repeat (first | exact Go.Proofs.E.Sub.refl _ | exact Go.Proofs.E.Sub.nil | (apply Go.Proofs.E.Sub.cons; (repeat (first | exact Go.Proofs.E.Pick.here | apply Go.Proofs.E.Pick.there))) | apply Go.Proofs.E.Sub.tail)))⟩
  rw [decide_eq_false g2]
  repeat (first | refine gs ?_ | (refine ks ?_; intro w hM))
  cases g3 : ltB r2 x.2 with
  | true =>
    repeat (first | refine gs ?_ | (refine ks ?_; intro w hM))
    refine c_condb rfl (fun _ => ?_) (fun h => by cases h)
    repeat (first | refine gs ?_ | (refine ks ?_; intro w hM))
    exact x_goes (n - 1) rfl (by omega) ⟨i + 1, (raiseF x.1 r1, lowerF x.2 r2), exj (by unfold lowerF; rw [if_pos ⟨g1, .inr g3⟩]; rfl), by omega, hnx.symm, hM.sub (by (repeat (first | exact Go.Proofs.E.Sub.refl _ | exact Go.Proofs.E.Sub.nil | (apply Go.Proofs.E.Sub.cons; (repeat (first | exact Go.Proofs.E.Pick.here | apply Go.Proofs.E.Pick.there))) | apply Go.Proofs.E.Sub.tail)))⟩
  | false =>
    repeat (first | refine gs ?_ | (refine ks ?_; intro w hM))
    refine c_condb rfl (fun h => by cases h) (fun _ => ?_)
    repeat (first | refine gs ?_ | (refine ks ?_; intro w hM))
    exact x_goes (n - 1) rfl (by omega) ⟨i + 1, (raiseF x.1 r1, lowerF x.2 r2), exj (by unfold lowerF; rw [if_neg (fun h => by rcases h.2 with g | g; exact g2 g; rw [g3] at g; cases g)]; rfl), by omega, hnx.symm, hM.sub (by (repeat (first | exact Go.Proofs.E.Sub.refl _ | exact Go.Proofs.E.Sub.nil | (apply Go.Proofs.E.Sub.cons; (repeat (first | exact Go.Proofs.E.Pick.here | apply Go.Proofs.E.Pick.there))) | apply Go.Proofs.E.Sub.tail)))⟩
end Go.Proofs.YtoimhmphhffelaaGreatDoor
set_option linter.unusedVariables false
set_option linter.unusedSimpArgs false
namespace Go.Proofs.E
open Go Go.RowKit
/-- One cell stored, in a block that is new. -/
theorem yst1 {P : Program} {ops : Array Oper} {N : Nat} {S : List Nat} {Q : Exit → Act → World → Prop} {z : List Nat × List Nat} {fuel : Nat} {listed : Array Bool} {l : List Value} {w : World} {T : TypeId} {pos : String} {after : Array Edge} {x y : Operand} {E t : TypeId} {b o by_ : Nat} {cs : List Value} {v zv : Value} [hi : Inf P t zv 1 by_] (k : Nat) (hr : Region.ready .any ops listed = [k]) (ho : ops[k]? = some { dst := none, op := .store t x y, type := T, pos := pos, after := after, guard := none })
    (hB : Blk w b cs E) (hb : N ≤ b ∨ b ∈ S) (hx : ev l x = .pointer (some ⟨b, o, none⟩)) (hy : ev l y = v) (hv : v.cells = #[v]) (h1 : v.oneCell' = true) (hf : o < cs.length)
    (h : ∀ w2, Blk w2 b (cs.set o v) E → Ch [b] w w2 → WY P ops N S Q z fuel (listed.setIfInBounds k true) (fr l) w2) : WY P ops N S Q z (fuel + 1) listed (fr l) w := fun h0 =>
  yn1 k hr ho (fun w1 hc => stb (hB.ch hc (by simp)) hx hy hv h1 hf (fun w2 hB2 hch2 hs2 => x_wy (.inl (hch2.bwn (Nat.le_trans h0 hc.size) hb)) rfl (h w2 hB2 (hc.some.then hch2)))) h0
/-- The same as c_cutB, in two blocks. -/
theorem c_cutB2 {P : Program} {c : Code} {b b' : Nat} {K : Act → World → Prop} {Q : Exit → Act → World → Prop} {l : List Value} {w : World} (J : List Value → World → Prop) (h : c.wp P (OutJ J) (fr l) w) (hk : ∀ l w, J l w → K (fr l) w) : c.wp P (Exit.inBlock b (Exit.inBlock b' (Exit.then K Q))) (fr l) w :=
  wp_mono h fun e a w h => by
    obtain ⟨rfl, l, rfl, hj⟩ := h
    exact hk l w hj
theorem mem_two {w w2 : World} {b b' : Nat} {cs ds : List Value} {E F : TypeId} (hc : Ch [] w w2) (hB : Blk w2 b cs E) (hB' : Blk w2 b' ds F) (hne : b ≠ b') (h : w.heap.size ≤ b) (h' : w.heap.size ≤ b') : Mem [] w w2 [.cell b cs E, .cell b' ds F] := by
  refine ⟨hc, fun a ha => ?_, fun a ha k hk => ?_, ?_⟩
  · rcases List.mem_cons.1 ha with rfl | ha
    · exact hB
    · rcases List.mem_cons.1 ha with rfl | ha
      · exact hB'
      · cases ha
  · rcases List.mem_cons.1 ha with rfl | ha
    · exact .inl ((show k = b from hk) ▸ h)
    · rcases List.mem_cons.1 ha with rfl | ha
      · exact .inl ((show k = b' from hk) ▸ h')
      · cases ha
  · refine List.pairwise_cons.2 ⟨fun a ha k hk hk' => ?_, by simp⟩
    rcases List.mem_cons.1 ha with rfl | ha
    · exact hne ((show k = b from hk).symm.trans hk')
    · cases ha
end Go.Proofs.E
namespace Go.Proofs.YtoimhmphhffelaaGreatDoor
open Go Go.RowKit Go.Proofs.E
attribute [local irreducible] Go.wpList Go.Code.wp Go.Proofs.E.exec Go.Proofs.E.wpLexG
theorem raiseF_nil (f : List UInt8) : raiseF f [] = f := by unfold raiseF; rw [if_neg (by rw [ltB_nil]; simp)]
theorem lowerF_nil (f : List UInt8) : lowerF f [] = f := by unfold lowerF; rw [if_neg (fun h => h.1 rfl)]
theorem or2_any (v : Value) (a b : List UInt8) (w0 : World) (hR : (Ty.enc eBs).Rd [] w0 v [a, b]) (ha : a.length ≤ 1000000) (hb : b.length ≤ 1000000) : Calls Tryz.prog 85 #[v] w0 (Ret fun u w' => u = .string (bst (if a = [] then b else a)) ∧ Ch [] w0 w') := by
  have hM := Mem.start w0
  obtain ⟨A, c, rfl⟩ := hR.form
  refine enter [.slice A 2 c, undef, undef, undef, undef, undef, undef, undef, undef, undef, undef, undef, undef, undef, undef, undef, undef, undef] Tryz.func85 rfl rfl ?_
  repeat (first | refine gs ?_ | (refine ks ?_; intro w hM))
  
  refine c_loop (fun n l w => ∃ (i : Nat), (∃ jj : Nat → Value, l = [jj 0, jj 1, jj 2, .string (bst []), jj 4, jj 5, .slice A 2 c, .int .i64 2, .int .i64 (i : Int), jj 9, jj 10, jj 11, jj 12, jj 13, jj 14, jj 15, jj 16, jj 17]) ∧ n + i = 2 ∧ (∀ x ∈ [a, b].take i, x = []) ∧ Mem [] w0 w []) 2
    ⟨0, exj rfl, rfl, by simp, hM⟩ ?_
  clear hM
  rintro n l w ⟨i, ⟨jj, rfl⟩, hn, hx, hM⟩
  repeat (first | refine gs ?_ | (refine ks ?_; intro w hM))
  refine c_cond rfl (fun hi => ?_) (fun hi => ?_)
  rotate_left
  · obtain rfl : i = 2 := by omega
    repeat (first | refine gs ?_ | (refine ks ?_; intro w hM))
    have h1 : a = [] := hx a (by simp)
    have h2 : b = [] := hx b (by simp)
    exact out1 rfl ⟨by rw [h1, h2]; rfl, hM.ch⟩
  repeat (first | refine gs ?_ | (refine ks ?_; intro w hM))
  refine kix hR (fun b1 o1 t ht hA => ?_) (h1 := by simp; omega)
  rw [Int.toNat_natCast] at ht
  repeat (first | refine gs ?_ | (refine ks ?_; intro w hM))
  refine kat hM hA ?_
  repeat (first | refine gs ?_ | (refine ks ?_; intro w hM))
  by_cases h0 : t = []
  · rw [decide_eq_true h0, Bool.not_true]
    refine c_condb rfl (fun h => by cases h) (fun _ => ?_)
    repeat (first | refine gs ?_ | (refine ks ?_; intro w hM))
    refine x_goes (n - 1) rfl (by omega) ⟨i + 1, exj rfl, by omega, fun x hm => ?_, hM⟩
    rw [List.take_add_one, ht] at hm
    rcases List.mem_append.1 hm with hm | hm
    · exact hx x hm
    · have : x = t := by simpa using hm
      rw [this, h0]
  · rw [decide_eq_false h0, Bool.not_false]
    refine c_condb rfl (fun _ => ?_) (fun h => by cases h)
    repeat (first | refine gs ?_ | (refine ks ?_; intro w hM))
    refine out1 rfl ⟨congrArg (fun x => Value.string (bst x)) ?_, hM.ch⟩
    obtain rfl | rfl : i = 0 ∨ i = 1 := by omega
    · have : a = t := by simpa using ht
      rw [this, if_neg h0]
    · have : b = t := by simpa using ht
      rw [hx a (by simp), if_pos rfl, this]
set_option maxHeartbeats 32000000 in
theorem narrow_any (q : QryV) (vt : Value) (w0 : World) (hR : (Ty.enc eTs).Rd [] w0 vt q.ts) (hq : LenQ q) : Calls Tryz.prog 22 #[.agg (qV q vt).toArray] w0 (Ret fun u w' => u = .tuple #[.string (bst (narrowB q).1), .string (bst (narrowB q).2)] ∧ Ch [] w0 w') := by
  have hM := Mem.start w0
  have hlen := hR.1
  obtain ⟨q1, q2, q3⟩ := hq
  obtain ⟨A, c, rfl⟩ := hR.form
  refine enter [.agg (qV q (.slice A q.ts.length c)).toArray, undef, undef, undef, undef, undef, undef, undef, undef, undef, undef, undef, undef, undef, undef, undef, undef, undef, undef, undef, undef, undef, undef, undef, undef, undef, undef, undef, undef, undef, undef, undef, undef, undef, undef, undef, undef, undef, undef, undef, undef, undef, undef, undef, undef, undef, undef, undef, undef, undef, undef, undef, undef, undef, undef, undef, undef, undef, undef, undef, undef, undef, undef, undef, undef, undef, undef, undef, undef, undef, undef, undef, undef, undef, undef, undef, undef, undef, undef, undef, undef, undef] Tryz.func22 rfl rfl ?_
  repeat (first | refine gs ?_ | (refine ks ?_; intro w hM))
  refine kbx hM (fun w b1 hM => ?_)
  have hM : Mem [] w0 w [.cell b1 (qV q (.slice A q.ts.length c)) 46] := hM
  repeat (first | refine gs ?_ | (refine ks ?_; intro w hM))
  have hl1 := (hM.blk (b := b1) (by (repeat constructor))).lt
  refine c_ordY ([], []) [] (by kernel_rfl) (by kernel_rfl) (by kernel_rfl) (fun w hc hs => ?_)
  have hM := hM.call hc
  (first | refine yn 0 rfl ?_ | refine ynt 0 rfl ?_ | refine ynff 0 rfl ?_)
  refine ynl 1 rfl (hM.blk (b := b1) (by (repeat constructor))) hl1 (by simp) rfl rfl ?_
  (first | refine yn 2 rfl ?_ | refine ynt 2 rfl ?_ | refine ynff 2 rfl ?_)
  refine ynl 3 rfl (hM.blk (b := b1) (by (repeat constructor))) hl1 (by simp) rfl rfl ?_
  refine yal2 4 5 (by kernel_rfl) rfl rfl (by decide) (by decide) (by kernel_rfl) (by kernel_rfl) (fun w5 b4 b5 hc5 hB4 hB5 hne hb4 hb5 => ?_)
  refine yst1 6 (by kernel_rfl) rfl hB4 (.inl (by omega)) rfl rfl rfl rfl (by simp [Value.cells]) (fun w6 hB46 hc6 => ?_)
  refine yst1 7 (by kernel_rfl) rfl (hB5.ch hc6 (by simp; omega)) (.inl (by omega)) rfl rfl rfl rfl (by simp [Value.cells]) (fun w7 hB57 hc7 => ?_)
  have hB47 := hB46.ch hc7 (by simp; omega)
  have hc07 : Ch [] w w7 := (hc5.trans hc6 (fun _ _ h => h) (fun x hx hm => by simp at hm; omega)).trans hc7 (fun _ _ h => h) (fun x hx hm => by simp at hm; omega)
  have hM := hM.join (mem_two hc07 hB47 hB57 hne hb4 hb5) (fun a ha => by
    simp only [List.mem_cons, List.not_mem_nil, or_false] at ha
    rcases ha with rfl | rfl <;> trivial)
  have hM : Mem [] w0 w7 [.cell b4 [.string (bst q.fr)] 9, .cell b5 [.string (bst q.to_)] 9, .cell b1 (qV q (.slice A q.ts.length c)) 46] := hM
  refine wy_done (by kernel_rfl) (fun w hc => ?_)
  have hM := hM.call hc
  clear hB4 hB5 hB46 hB57 hB47 hc07 hc5 hc6 hc7
  repeat (first | refine gs ?_ | (refine ks ?_; intro w hM))
  (try ((with_reducible apply is_gd); first | refine gt ?_ | refine gf ?_ | refine gu ?_)); refine wl_val (r_makeFunc (cs := [.tmp 4])) ?_
  repeat (first | refine gs ?_ | (refine ks ?_; intro w hM))
  (try ((with_reducible apply is_gd); first | refine gt ?_ | refine gf ?_ | refine gu ?_)); refine wl_val (r_makeFunc (cs := [.tmp 5])) ?_
  repeat (first | refine gs ?_ | (refine ks ?_; intro w hM))
  
  refine c_loop (fun n l w => ∃ (i : Nat) (x : List UInt8 × List UInt8), (∃ jj : Nat → Value, l = [jj 0, .pointer (some ⟨b1, 0, none⟩), jj 2, jj 3, .pointer (some ⟨b4, 0, none⟩), .pointer (some ⟨b5, 0, none⟩), .func (.func 82) #[] #[.pointer (some ⟨b4, 0, none⟩)], .func (.func 83) #[] #[.pointer (some ⟨b5, 0, none⟩)], jj 8, jj 9, jj 10, jj 11, jj 12, jj 13, jj 14, jj 15, jj 16, .slice A q.ts.length c, .int .i64 (q.ts.length : Int), .int .i64 (i : Int), jj 20, jj 21, jj 22, jj 23, jj 24, jj 25, jj 26, jj 27, jj 28, jj 29, jj 30, jj 31, jj 32, jj 33, jj 34, jj 35, jj 36, jj 37, jj 38, jj 39, jj 40, jj 41, jj 42, jj 43, jj 44, jj 45, jj 46, jj 47, jj 48, jj 49, jj 50, jj 51, jj 52, jj 53, jj 54, jj 55, jj 56, jj 57, jj 58, jj 59, jj 60, jj 61, jj 62, jj 63, jj 64, jj 65, jj 66, jj 67, jj 68, jj 69, jj 70, jj 71, jj 72, jj 73, jj 74, jj 75, jj 76, jj 77, jj 78, jj 79, jj 80, jj 81]) ∧ n + i = q.ts.length ∧ x = (q.ts.take i).foldl nStep (q.fr, q.to_) ∧ Mem [] w0 w [.cell b4 [.string (bst x.1)] 9, .cell b5 [.string (bst x.2)] 9, .cell b1 (qV q (.slice A q.ts.length c)) 46]) q.ts.length
    ⟨0, (q.fr, q.to_), exj rfl, rfl, rfl, hM⟩ ?_
  clear hM
  rintro n l w ⟨i, x, ⟨jj, rfl⟩, hn, hx, hM⟩
  repeat (first | refine gs ?_ | (refine ks ?_; intro w hM))
  refine c_cond rfl (fun hi => ?_) (fun hi => ?_)
  rotate_left
  · rw [List.take_of_length_le (by omega)] at hx
    repeat (first | refine gs ?_ | (refine ks ?_; intro w hM))
    refine kdr hM (by kernel_rfl) (by kernel_rfl) (fun w hM => ?_)
    repeat (first | ((with_reducible apply is_ldg); first | refine kldg hM ?_ | refine kldwg hM ?_) | ((with_reducible apply is_sg); (first | refine ssg ?_ | refine sgu ?_)) | ((with_reducible apply is_gg); first | refine gtg ?_ | refine gfg ?_ | refine gug ?_) | ((with_reducible apply is_eg); refine eg ?_))
    (intro w hc; have hM := hM.call hc)
    repeat (first | refine gs ?_ | (refine ks ?_; intro w hM))
    exact out2 rfl ⟨by rw [hx]; rfl, hM.ch⟩
  repeat (first | refine gs ?_ | (refine ks ?_; intro w hM))
  refine kix hR (fun b o t ht hA => ?_) (h1 := by omega)
  rw [Int.toNat_natCast] at ht
  have ht3 := q3 t (List.mem_of_getElem? ht)
  have hnx := fold_next (x := (q.fr, q.to_)) ht
  rw [← hx] at hnx
  repeat (first | refine gs ?_ | (refine ks ?_; intro w hM))
  refine katr hM hA ?_
  repeat (first | refine gs ?_ | (refine ks ?_; intro w hM))
  refine kal hM (fun w b9 hM => ?_)
  have hM : Mem [] w0 w (.cell b9 (tsC (0, 0, [])) 120 :: [.cell b4 [.string (bst x.1)] 9, .cell b5 [.string (bst x.2)] 9, .cell b1 (qV q (.slice A q.ts.length c)) 46]) := hM
  repeat (first | refine gs ?_ | (refine ks ?_; intro w hM))
  by_cases h1 : t.1 = 1
  rotate_left
  · rw [decide_eq_true (show ¬ t.1 = 1 from h1)]
    refine c_condb rfl (fun _ => ?_) (fun h => by cases h)
    repeat (first | refine gs ?_ | (refine ks ?_; intro w hM))
    exact x_goes (n - 1) rfl (by omega) ⟨i + 1, x, exj rfl, by omega, by rw [hnx]; unfold nStep; rw [if_neg h1], hM.sub (by (repeat (first | exact Go.Proofs.E.Sub.refl _ | exact Go.Proofs.E.Sub.nil | (apply Go.Proofs.E.Sub.cons; (repeat (first | exact Go.Proofs.E.Pick.here | apply Go.Proofs.E.Pick.there))) | apply Go.Proofs.E.Sub.tail)))⟩
  rw [decide_eq_false (show ¬ ¬ t.1 = 1 from fun h => h h1)]
  refine c_condb rfl (fun h => by cases h) (fun _ => ?_)
  have hM : Mem [] w0 _ [.cell b4 [.string (bst x.1)] 9, .cell b5 [.string (bst x.2)] 9, .cell b9 (tsC t) 120, .cell b1 (qV q (.slice A q.ts.length c)) 46] := hM.sub (by (repeat (first | exact Go.Proofs.E.Sub.refl _ | exact Go.Proofs.E.Sub.nil | (apply Go.Proofs.E.Sub.cons; (repeat (first | exact Go.Proofs.E.Pick.here | apply Go.Proofs.E.Pick.there))) | apply Go.Proofs.E.Sub.tail)))
  repeat (first | refine gs ?_ | (refine ks ?_; intro w hM))
  
  refine c_cutB2 (fun l w => (∃ jj : Nat → Value, l = [jj 0, .pointer (some ⟨b1, 0, none⟩), jj 2, jj 3, .pointer (some ⟨b4, 0, none⟩), .pointer (some ⟨b5, 0, none⟩), .func (.func 82) #[] #[.pointer (some ⟨b4, 0, none⟩)], .func (.func 83) #[] #[.pointer (some ⟨b5, 0, none⟩)], jj 8, jj 9, jj 10, jj 11, jj 12, jj 13, jj 14, jj 15, jj 16, .slice A q.ts.length c, .int .i64 (q.ts.length : Int), .int .i64 (i : Int), jj 20, jj 21, jj 22, jj 23, jj 24, jj 25, jj 26, jj 27, jj 28, jj 29, jj 30, jj 31, jj 32, jj 33, jj 34, jj 35, jj 36, jj 37, jj 38, jj 39, jj 40, jj 41, jj 42, jj 43, jj 44, jj 45, jj 46, jj 47, jj 48, jj 49, jj 50, jj 51, jj 52, jj 53, jj 54, jj 55, jj 56, jj 57, jj 58, jj 59, jj 60, jj 61, jj 62, jj 63, jj 64, jj 65, jj 66, jj 67, jj 68, jj 69, jj 70, jj 71, jj 72, jj 73, jj 74, jj 75, jj 76, jj 77, jj 78, jj 79, jj 80, jj 81]) ∧ Mem [] w0 w [.cell b4 [.string (bst (raiseF x.1 (raiseB t)))] 9, .cell b5 [.string (bst (lowerF x.2 (lowerB t)))] 9, .cell b9 (tsC t) 120, .cell b1 (qV q (.slice A q.ts.length c)) 46]) ?_ ?_
  · by_cases o1 : t.2.1 = 1
    · rw [decide_eq_true o1]
      refine c_condb rfl (fun _ => ?_) (fun h => by cases h)
      repeat (first | refine gs ?_ | (refine ks ?_; intro w hM))
      refine kcd (f := 82) (vs := [.string (bst t.2.2)]) (lb := #[.pointer (some ⟨b4, 0, none⟩)]) (up_any x.1 t.2.2 b4 w hM) ?_
      rintro _ w hM
      repeat (first | refine gs ?_ | (refine ks ?_; intro w hM))
      refine kca hM (above_any t.2.2 w (by omega)) (fun w hM => ?_)
      repeat (first | refine gs ?_ | (refine ks ?_; intro w hM))
      have hM : Mem [] w0 w [.cell b5 [.string (bst x.2)] 9, .cell b4 [.string (bst (raiseF x.1 t.2.2))] 9, .cell b9 (tsC t) 120, .cell b1 (qV q (.slice A q.ts.length c)) 46] := hM.sub (by (repeat (first | exact Go.Proofs.E.Sub.refl _ | exact Go.Proofs.E.Sub.nil | (apply Go.Proofs.E.Sub.cons; (repeat (first | exact Go.Proofs.E.Pick.here | apply Go.Proofs.E.Pick.there))) | apply Go.Proofs.E.Sub.tail)))
      refine kcd (f := 83) (vs := [.string (bst (t.2.2 ++ [0]))]) (lb := #[.pointer (some ⟨b5, 0, none⟩)]) (down_any x.2 (t.2.2 ++ [0]) b5 w hM) ?_
      rintro _ w hM
      have hM : Mem [] w0 w [.cell b4 [.string (bst (raiseF x.1 t.2.2))] 9, .cell b5 [.string (bst (lowerF x.2 (t.2.2 ++ [0])))] 9, .cell b9 (tsC t) 120, .cell b1 (qV q (.slice A q.ts.length c)) 46] := hM.sub (by (repeat (first | exact Go.Proofs.E.Sub.refl _ | exact Go.Proofs.E.Sub.nil | (apply Go.Proofs.E.Sub.cons; (repeat (first | exact Go.Proofs.E.Pick.here | apply Go.Proofs.E.Pick.there))) | apply Go.Proofs.E.Sub.tail)))
      repeat (first | refine gs ?_ | (refine ks ?_; intro w hM))
      exact outJ ⟨exj rfl, by rw [show raiseB t = t.2.2 by unfold raiseB; simp [o1], show lowerB t = t.2.2 ++ [0] by unfold lowerB; simp [o1]]; exact hM⟩
    rw [decide_eq_false o1]
    refine c_condb rfl (fun h => by cases h) (fun _ => ?_)
    repeat (first | refine gs ?_ | (refine ks ?_; intro w hM))
    by_cases o3 : t.2.1 = 3
    · rw [decide_eq_true o3]
      refine c_condb rfl (fun _ => ?_) (fun h => by cases h)
      repeat (first | refine gs ?_ | (refine ks ?_; intro w hM))
      refine kdrl 6 hM (by kernel_rfl) (by kernel_rfl) (by kernel_rfl) (fun w hM => ?_)
      repeat (first | ((with_reducible apply is_ldg); first | refine kldg hM ?_ | refine kldwg hM ?_) | ((with_reducible apply is_sg); (first | refine ssg ?_ | refine sgu ?_)) | ((with_reducible apply is_gg); first | refine gtg ?_ | refine gfg ?_ | refine gug ?_) | ((with_reducible apply is_eg); refine eg ?_))
      refine kcag hM (v := .string (bst ([] ++ [0]))) (vs := [.string (bst [])]) (fun w1 hM => above_any [] w1 (by simp)) ?_
      repeat (first | ((with_reducible apply is_ldg); first | refine kldg hM ?_ | refine kldwg hM ?_) | ((with_reducible apply is_sg); (first | refine ssg ?_ | refine sgu ?_)) | ((with_reducible apply is_gg); first | refine gtg ?_ | refine gfg ?_ | refine gug ?_) | ((with_reducible apply is_eg); refine eg ?_))
      refine lastg rfl (by kernel_rfl) (fun w hc => ?_)
      have hM := hM.call hc
      refine kbsC (en := eBs) (vs := [.string (bst t.2.2), .string (bst ([] ++ [0]))]) [t.2.2, [] ++ [0]] hM (fun w b8 hc hM => ?_)
      refine x_mid rfl hc ?_
      refine lastg rfl (by kernel_rfl) (fun w hc => ?_)
      have hM := hM.call hc
      have hR8 := hM.rowRdO (en := eBs) (v := .slice (some ⟨b8, 0, none⟩) 2 2) (xs := [t.2.2, [] ++ [0]]) (by (repeat constructor))
      refine ca (or2_any _ t.2.2 ([] ++ [0]) w hR8 (by omega) (by simp)) ?_
      rintro _ w2 ⟨rfl, hc8⟩
      have hM := hM.call hc8
      refine x_mid rfl hc8 ?_
      refine lastg rfl (by kernel_rfl) (fun w hc => ?_)
      have hM := hM.call hc
      have hM : Mem [] w0 w [.cell b5 [.string (bst x.2)] 9, .cell b4 [.string (bst x.1)] 9, .cell b9 (tsC t) 120, .cell b1 (qV q (.slice A q.ts.length c)) 46] := hM.sub (by (repeat (first | exact Go.Proofs.E.Sub.refl _ | exact Go.Proofs.E.Sub.nil | (apply Go.Proofs.E.Sub.cons; (repeat (first | exact Go.Proofs.E.Pick.here | apply Go.Proofs.E.Pick.there))) | apply Go.Proofs.E.Sub.tail)))
      refine kcd (f := 83) (vs := [.string (bst (if t.2.2 = [] then [] ++ [0] else t.2.2))]) (lb := #[.pointer (some ⟨b5, 0, none⟩)]) (down_any x.2 (if t.2.2 = [] then [] ++ [0] else t.2.2) b5 w hM) ?_
      rintro _ w hM
      have hM : Mem [] w0 w [.cell b4 [.string (bst x.1)] 9, .cell b5 [.string (bst (lowerF x.2 (if t.2.2 = [] then [] ++ [0] else t.2.2)))] 9, .cell b9 (tsC t) 120, .cell b1 (qV q (.slice A q.ts.length c)) 46] := hM.sub (by (repeat (first | exact Go.Proofs.E.Sub.refl _ | exact Go.Proofs.E.Sub.nil | (apply Go.Proofs.E.Sub.cons; (repeat (first | exact Go.Proofs.E.Pick.here | apply Go.Proofs.E.Pick.there))) | apply Go.Proofs.E.Sub.tail)))
      refine x_late rfl rfl ?_
      repeat (first | ((with_reducible apply is_ldg); first | refine kldg hM ?_ | refine kldwg hM ?_) | ((with_reducible apply is_sg); (first | refine ssg ?_ | refine sgu ?_)) | ((with_reducible apply is_gg); first | refine gtg ?_ | refine gfg ?_ | refine gug ?_) | ((with_reducible apply is_eg); refine eg ?_))
      (intro w hc; have hM := hM.call hc)
      repeat (first | refine gs ?_ | (refine ks ?_; intro w hM))
      exact outJ ⟨exj rfl, by rw [show raiseB t = [] by unfold raiseB; simp [o1, o3], show lowerB t = (if t.2.2 = [] then [0] else t.2.2) by unfold lowerB; simp [o1, o3], raiseF_nil]; exact hM⟩
    rw [decide_eq_false o3]
    refine c_condb rfl (fun h => by cases h) (fun _ => ?_)
    repeat (first | refine gs ?_ | (refine ks ?_; intro w hM))
    by_cases o4 : t.2.1 = 4
    · rw [decide_eq_true o4]
      refine c_condb rfl (fun _ => ?_) (fun h => by cases h)
      repeat (first | refine gs ?_ | (refine ks ?_; intro w hM))
      refine kca hM (above_any t.2.2 w (by omega)) (fun w hM => ?_)
      repeat (first | refine gs ?_ | (refine ks ?_; intro w hM))
      have hM : Mem [] w0 w [.cell b5 [.string (bst x.2)] 9, .cell b4 [.string (bst x.1)] 9, .cell b9 (tsC t) 120, .cell b1 (qV q (.slice A q.ts.length c)) 46] := hM.sub (by (repeat (first | exact Go.Proofs.E.Sub.refl _ | exact Go.Proofs.E.Sub.nil | (apply Go.Proofs.E.Sub.cons; (repeat (first | exact Go.Proofs.E.Pick.here | apply Go.Proofs.E.Pick.there))) | apply Go.Proofs.E.Sub.tail)))
      refine kcd (f := 83) (vs := [.string (bst (t.2.2 ++ [0]))]) (lb := #[.pointer (some ⟨b5, 0, none⟩)]) (down_any x.2 (t.2.2 ++ [0]) b5 w hM) ?_
      rintro _ w hM
      have hM : Mem [] w0 w [.cell b4 [.string (bst x.1)] 9, .cell b5 [.string (bst (lowerF x.2 (t.2.2 ++ [0])))] 9, .cell b9 (tsC t) 120, .cell b1 (qV q (.slice A q.ts.length c)) 46] := hM.sub (by (repeat (first | exact Go.Proofs.E.Sub.refl _ | exact Go.Proofs.E.Sub.nil | (apply Go.Proofs.E.Sub.cons; (repeat (first | exact Go.Proofs.E.Pick.here | apply Go.Proofs.E.Pick.there))) | apply Go.Proofs.E.Sub.tail)))
      repeat (first | refine gs ?_ | (refine ks ?_; intro w hM))
      exact outJ ⟨exj rfl, by rw [show raiseB t = [] by unfold raiseB; simp [o1, o3, o4], show lowerB t = t.2.2 ++ [0] by unfold lowerB; simp [o1, o3, o4], raiseF_nil]; exact hM⟩
    rw [decide_eq_false o4]
    refine c_condb rfl (fun h => by cases h) (fun _ => ?_)
    repeat (first | refine gs ?_ | (refine ks ?_; intro w hM))
    by_cases o5 : t.2.1 = 5
    · rw [decide_eq_true o5]
      refine c_condb rfl (fun _ => ?_) (fun h => by cases h)
      repeat (first | refine gs ?_ | (refine ks ?_; intro w hM))
      refine kca hM (above_any t.2.2 w (by omega)) (fun w hM => ?_)
      repeat (first | refine gs ?_ | (refine ks ?_; intro w hM))
      refine kcd (f := 82) (vs := [.string (bst (t.2.2 ++ [0]))]) (lb := #[.pointer (some ⟨b4, 0, none⟩)]) (up_any x.1 (t.2.2 ++ [0]) b4 w hM) ?_
      rintro _ w hM
      repeat (first | refine gs ?_ | (refine ks ?_; intro w hM))
      exact outJ ⟨exj rfl, by rw [show raiseB t = t.2.2 ++ [0] by unfold raiseB; simp [o1, o3, o4, o5], show lowerB t = [] by unfold lowerB; simp [o1, o3, o4, o5], lowerF_nil]; exact hM⟩
    rw [decide_eq_false o5]
    refine c_condb rfl (fun h => by cases h) (fun _ => ?_)
    repeat (first | refine gs ?_ | (refine ks ?_; intro w hM))
    by_cases o6 : t.2.1 = 6
    · rw [decide_eq_true o6]
      refine c_condb rfl (fun _ => ?_) (fun h => by cases h)
      repeat (first | refine gs ?_ | (refine ks ?_; intro w hM))
      refine kcd (f := 82) (vs := [.string (bst t.2.2)]) (lb := #[.pointer (some ⟨b4, 0, none⟩)]) (up_any x.1 t.2.2 b4 w hM) ?_
      rintro _ w hM
      repeat (first | refine gs ?_ | (refine ks ?_; intro w hM))
      exact outJ ⟨exj rfl, by rw [show raiseB t = t.2.2 by unfold raiseB; simp [o1, o3, o4, o5, o6], show lowerB t = [] by unfold lowerB; simp [o1, o3, o4, o5, o6], lowerF_nil]; exact hM⟩
    rw [decide_eq_false o6]
    refine c_condb rfl (fun h => by cases h) (fun _ => ?_)
    repeat (first | refine gs ?_ | (refine ks ?_; intro w hM))
    by_cases o8 : t.2.1 = 8
    · rw [decide_eq_true o8]
      refine c_condb rfl (fun _ => ?_) (fun h => by cases h)
      repeat (first | refine gs ?_ | (refine ks ?_; intro w hM))
      refine kcd (f := 82) (vs := [.string (bst t.2.2)]) (lb := #[.pointer (some ⟨b4, 0, none⟩)]) (up_any x.1 t.2.2 b4 w hM) ?_
      rintro _ w hM
      repeat (first | refine gs ?_ | (refine ks ?_; intro w hM))
      refine kca hM (behind_any t.2.2 w (by omega)) (fun w hM => ?_)
      repeat (first | refine gs ?_ | (refine ks ?_; intro w hM))
      have hM : Mem [] w0 w [.cell b5 [.string (bst x.2)] 9, .cell b4 [.string (bst (raiseF x.1 t.2.2))] 9, .cell b9 (tsC t) 120, .cell b1 (qV q (.slice A q.ts.length c)) 46] := hM.sub (by (repeat (first | exact Go.Proofs.E.Sub.refl _ | exact Go.Proofs.E.Sub.nil | (apply Go.Proofs.E.Sub.cons; (repeat (first | exact Go.Proofs.E.Pick.here | apply Go.Proofs.E.Pick.there))) | apply Go.Proofs.E.Sub.tail)))
      refine kcd (f := 83) (vs := [.string (bst (behindB t.2.2))]) (lb := #[.pointer (some ⟨b5, 0, none⟩)]) (down_any x.2 (behindB t.2.2) b5 w hM) ?_
      rintro _ w hM
      have hM : Mem [] w0 w [.cell b4 [.string (bst (raiseF x.1 t.2.2))] 9, .cell b5 [.string (bst (lowerF x.2 (behindB t.2.2)))] 9, .cell b9 (tsC t) 120, .cell b1 (qV q (.slice A q.ts.length c)) 46] := hM.sub (by (repeat (first | exact Go.Proofs.E.Sub.refl _ | exact Go.Proofs.E.Sub.nil | (apply Go.Proofs.E.Sub.cons; (repeat (first | exact Go.Proofs.E.Pick.here | apply Go.Proofs.E.Pick.there))) | apply Go.Proofs.E.Sub.tail)))
      repeat (first | refine gs ?_ | (refine ks ?_; intro w hM))
      exact outJ ⟨exj rfl, by rw [show raiseB t = t.2.2 by unfold raiseB; simp [o1, o3, o4, o5, o6, o8], show lowerB t = behindB t.2.2 by unfold lowerB; simp [o1, o3, o4, o5, o6, o8]]; exact hM⟩
    rw [decide_eq_false o8]
    refine c_condb rfl (fun h => by cases h) (fun _ => ?_)
    repeat (first | refine gs ?_ | (refine ks ?_; intro w hM))
    exact outJ ⟨exj rfl, by rw [show raiseB t = [] by unfold raiseB; simp [o1, o3, o4, o5, o6, o8], show lowerB t = [] by unfold lowerB; simp [o1, o3, o4, o5, o6, o8], raiseF_nil, lowerF_nil]; exact hM⟩
  clear hM
  rintro l w ⟨⟨jj, rfl⟩, hM⟩
  have hstep : nStep x t = (raiseF x.1 (raiseB t), lowerF x.2 (lowerB t)) := by unfold nStep; rw [if_pos h1]
  rw [hstep] at hnx
  repeat (first | refine gs ?_ | (refine ks ?_; intro w hM))
  exact x_goes (n - 1) rfl (by omega) ⟨i + 1, (raiseF x.1 (raiseB t), lowerF x.2 (lowerB t)), exj rfl, by omega, hnx.symm, hM.sub (by (repeat (first | exact Go.Proofs.E.Sub.refl _ | exact Go.Proofs.E.Sub.nil | (apply Go.Proofs.E.Sub.cons; (repeat (first | exact Go.Proofs.E.Pick.here | apply Go.Proofs.E.Pick.there))) | apply Go.Proofs.E.Sub.tail)))⟩
end Go.Proofs.YtoimhmphhffelaaGreatDoor
set_option linter.unusedVariables false
set_option linter.unusedSimpArgs false
namespace Go.Proofs.YtoimhmphhffelaaGreatDoor
open Go Go.RowKit Go.Proofs.E
attribute [local irreducible] Go.wpList Go.Code.wp Go.Proofs.E.exec Go.Proofs.E.wpLexG
/-- Lengths that memory can hold. -/
def BigQ (q : QryV) : Prop := q.fr.length ≤ 140737488355328 ∧ q.to_.length ≤ 140737488355328 ∧ ∀ t ∈ q.ts, t.2.2.length ≤ 140737488355328
set_option maxHeartbeats 16000000 in
theorem light34_any (q : QryV) (vt : Value) (w0 : World) (hR : (Ty.enc eTs).Rd [] w0 vt q.ts) (hB : BigQ q) : Calls Tryz.prog 21 #[.agg (qV q vt).toArray] w0 (Ret fun u w' => (∃ b, u = .bool b ∧ (b = true → LenQ q ∧ q.ts.length ≤ 60)) ∧ Ch [] w0 w') := by
  have hM := Mem.start w0
  have hlen := hR.1
  obtain ⟨q1, q2, q3⟩ := hB
  obtain ⟨A, c, rfl⟩ := hR.form
  refine enter [.agg (qV q (.slice A q.ts.length c)).toArray, undef, undef, undef, undef, undef, undef, undef, undef, undef, undef, undef, undef, undef, undef, undef, undef, undef, undef, undef, undef, undef, undef, undef, undef, undef, undef, undef, undef, undef, undef, undef, undef, undef, undef, undef, undef] Tryz.func21 rfl rfl ?_
  repeat (first | refine gs ?_ | (refine ks ?_; intro w hM))
  refine kbx hM (fun w b1 hM => ?_)
  have hM : Mem [] w0 w [.cell b1 (qV q (.slice A q.ts.length c)) 46] := hM
  repeat (first | refine gs ?_ | (refine ks ?_; intro w hM))
  by_cases h1 : (600 : Int) < (q.fr.length : Int)
  · rw [decide_eq_true h1]
    repeat (first | refine gs ?_ | (refine ks ?_; intro w hM))
    refine c_condb rfl (fun _ => ?_) (fun h => by cases h)
    repeat (first | refine gs ?_ | (refine ks ?_; intro w hM))
    exact out1 rfl ⟨⟨false, rfl, fun h => by cases h⟩, hM.ch⟩
  rw [decide_eq_false h1]
  repeat (first | refine gs ?_ | (refine ks ?_; intro w hM))
  by_cases h2 : (600 : Int) < (q.to_.length : Int)
  · rw [decide_eq_true h2]
    repeat (first | refine gs ?_ | (refine ks ?_; intro w hM))
    refine c_condb rfl (fun _ => ?_) (fun h => by cases h)
    repeat (first | refine gs ?_ | (refine ks ?_; intro w hM))
    exact out1 rfl ⟨⟨false, rfl, fun h => by cases h⟩, hM.ch⟩
  rw [decide_eq_false h2]
  repeat (first | refine gs ?_ | (refine ks ?_; intro w hM))
  by_cases h3 : (60 : Int) < (q.ts.length : Int)
  · rw [decide_eq_true h3]
    refine c_condb rfl (fun _ => ?_) (fun h => by cases h)
    repeat (first | refine gs ?_ | (refine ks ?_; intro w hM))
    exact out1 rfl ⟨⟨false, rfl, fun h => by cases h⟩, hM.ch⟩
  rw [decide_eq_false h3]
  refine c_condb rfl (fun h => by cases h) (fun _ => ?_)
  repeat (first | refine gs ?_ | (refine ks ?_; intro w hM))
  
  refine c_loop (fun n l w => ∃ (i m : Nat), (∃ jj : Nat → Value, l = [jj 0, .pointer (some ⟨b1, 0, none⟩), jj 2, .int .i64 (m : Int), jj 4, jj 5, jj 6, jj 7, jj 8, jj 9, jj 10, jj 11, jj 12, jj 13, jj 14, jj 15, jj 16, jj 17, jj 18, jj 19, jj 20, jj 21, jj 22, .slice A q.ts.length c, .int .i64 (q.ts.length : Int), .int .i64 (i : Int), jj 26, jj 27, jj 28, jj 29, jj 30, jj 31, jj 32, jj 33, jj 34, jj 35, jj 36]) ∧ n + i = q.ts.length ∧ m ≤ 2000 ∧ (∀ t ∈ q.ts.take i, t.2.2.length ≤ m) ∧ Mem [] w0 w [.cell b1 (qV q (.slice A q.ts.length c)) 46]) q.ts.length
    ⟨0, 0, exj rfl, rfl, by omega, by simp, hM⟩ ?_
  clear hM
  rintro n l w ⟨i, m, ⟨jj, rfl⟩, hn, hm, hall, hM⟩
  repeat (first | refine gs ?_ | (refine ks ?_; intro w hM))
  refine c_cond rfl (fun hi => ?_) (fun hi => ?_)
  rotate_left
  · rw [List.take_of_length_le (by omega)] at hall
    repeat (first | refine gs ?_ | (refine ks ?_; intro w hM))
    exact out1 rfl ⟨⟨true, rfl, fun _ => ⟨⟨by omega, by omega, fun t ht => by have := hall t ht; omega⟩, by omega⟩⟩, hM.ch⟩
  repeat (first | refine gs ?_ | (refine ks ?_; intro w hM))
  refine kix hR (fun b o t ht hA => ?_) (h1 := by omega)
  rw [Int.toNat_natCast] at ht
  have ht3 := q3 t (List.mem_of_getElem? ht)
  repeat (first | refine gs ?_ | (refine ks ?_; intro w hM))
  refine katr hM hA ?_
  repeat (first | refine gs ?_ | (refine ks ?_; intro w hM))
  refine kal hM (fun w b5 hM => ?_)
  have hM : Mem [] w0 w [.cell b5 (tsC (0, 0, [])) 120, .cell b1 (qV q (.slice A q.ts.length c)) 46] := hM
  repeat (first | refine gs ?_ | (refine ks ?_; intro w hM))
  refine c_cond rfl (fun h4 => ?_) (fun h4 => ?_)
  · repeat (first | refine gs ?_ | (refine ks ?_; intro w hM))
    exact out1 rfl ⟨⟨false, rfl, fun h => by cases h⟩, hM.ch⟩
  · repeat (first | refine gs ?_ | (refine ks ?_; intro w hM))
    refine x_goes (n - 1) rfl (by omega) ⟨i + 1, m + t.2.2.length, exj rfl, by omega, by omega, fun y hy => ?_, hM.sub (by (repeat (first | exact Go.Proofs.E.Sub.refl _ | exact Go.Proofs.E.Sub.nil | (apply Go.Proofs.E.Sub.cons; (repeat (first | exact Go.Proofs.E.Pick.here | apply Go.Proofs.E.Pick.there))) | apply Go.Proofs.E.Sub.tail)))⟩
    rw [List.take_add_one, ht] at hy
    rcases List.mem_append.1 hy with hy | hy
    · have := hall y hy; omega
    · have : y = t := by simpa using hy
      rw [this]
      omega
end Go.Proofs.YtoimhmphhffelaaGreatDoor
set_option linter.unusedVariables false
set_option linter.unusedSimpArgs false
namespace Go.Proofs.YtoimhmphhffelaaGreatDoor
open Go Go.RowKit Go.Proofs.E
attribute [local irreducible] Go.wpList Go.Code.wp Go.Proofs.E.exec Go.Proofs.E.wpLexG
set_option maxHeartbeats 64000000 in
theorem queryPrints_any (p q : QryV) (va vb : Value) (w0 : World) (hL : LaidQ w0) (hP : LaidP w0) (hX : (Ty.enc eTs).Rd [] w0 va p.ts) (hY : (Ty.enc eTs).Rd [] w0 vb q.ts) (hBp : BigQ p) (hBq : BigQ q) : Calls Tryz.prog 5 #[.agg (qV p va).toArray, .agg (qV q vb).toArray] w0 (Ret fun u w' => u = .bool true ∧ Ch [] w0 w') := by
  have hM := Mem.start w0
  obtain ⟨A, c, rfl⟩ := hX.form
  obtain ⟨A2, c2, rfl⟩ := hY.form
  refine enter [.agg (qV p (.slice A p.ts.length c)).toArray, .agg (qV q (.slice A2 q.ts.length c2)).toArray, undef, undef, undef, undef, undef, undef, undef, undef, undef, undef, undef, undef, undef, undef, undef, undef, undef, undef, undef, undef, undef, undef, undef, undef, undef, undef, undef, undef, undef, undef, undef, undef, undef, undef, undef, undef, undef, undef, undef, undef, undef, undef, undef, undef, undef, undef, undef, undef, undef, undef, undef, undef, undef, undef, undef, undef, undef, undef, undef, undef, undef, undef, undef, undef, undef] Tryz.func5 rfl rfl ?_
  repeat (first | refine gs ?_ | (refine ks ?_; intro w hM))
  refine kbx hM (fun w b1 hM => ?_)
  have hM : Mem [] w0 w [.cell b1 (qV p (.slice A p.ts.length c)) 46] := hM
  refine kbx hM (fun w b2 hM => ?_)
  have hM : Mem [] w0 w [.cell b2 (qV q (.slice A2 q.ts.length c2)) 46, .cell b1 (qV p (.slice A p.ts.length c)) 46] := hM
  repeat (first | refine gs ?_ | (refine ks ?_; intro w hM))
  refine ca (light34_any p _ w (hX.ch hM.ch) hBp) ?_
  rintro _ w2 ⟨⟨l1, rfl, hl1⟩, hc2⟩
  have hM := hM.call hc2
  cases l1 with
  | false =>
    repeat (first | refine gs ?_ | (refine ks ?_; intro w hM))
    refine c_condb rfl (fun _ => ?_) (fun h => by cases h)
    repeat (first | refine gs ?_ | (refine ks ?_; intro w hM))
    refine kca (args := []) (vs := []) hM (lives34_any _ (hL.ch hM.ch (by simp) (by simp)) (hP.ch hM.ch (by simp))) (fun w hM => ?_)
    repeat (first | refine gs ?_ | (refine ks ?_; intro w hM))
    exact out1 rfl ⟨rfl, hM.ch⟩
  | true =>
  obtain ⟨hLp, hnp⟩ := hl1 rfl
  repeat (first | refine gs ?_ | (refine ks ?_; intro w hM))
  refine ca (light34_any q _ w2 (hY.ch hM.ch) hBq) ?_
  rintro _ w3 ⟨⟨l2, rfl, hl2⟩, hc3⟩
  have hM := hM.call hc3
  cases l2 with
  | false =>
    repeat (first | refine gs ?_ | (refine ks ?_; intro w hM))
    refine c_condb rfl (fun _ => ?_) (fun h => by cases h)
    repeat (first | refine gs ?_ | (refine ks ?_; intro w hM))
    refine kca (args := []) (vs := []) hM (lives34_any _ (hL.ch hM.ch (by simp) (by simp)) (hP.ch hM.ch (by simp))) (fun w hM => ?_)
    repeat (first | refine gs ?_ | (refine ks ?_; intro w hM))
    exact out1 rfl ⟨rfl, hM.ch⟩
  | true =>
  obtain ⟨hLq, hnq⟩ := hl2 rfl
  repeat (first | refine gs ?_ | (refine ks ?_; intro w hM))
  refine c_condb rfl (fun h => by cases h) (fun _ => ?_)
  repeat (first | refine gs ?_ | (refine ks ?_; intro w hM))
  refine kca hM (narrow_any p _ _ (hX.ch hM.ch) hLp) (fun w hM => ?_)
  obtain ⟨n1, hn1⟩ : ∃ x, x = (narrowB p).1 := ⟨_, rfl⟩
  obtain ⟨n2, hn2⟩ : ∃ x, x = (narrowB p).2 := ⟨_, rfl⟩
  rw [← hn1, ← hn2]
  repeat (first | refine gs ?_ | (refine ks ?_; intro w hM))
  simp only [List.getElem_toArray, List.getElem_cons_zero, List.getElem_cons_succ]
  refine ca (plain34_any p _ w (hX.ch hM.ch) (by omega)) ?_
  rintro _ w4 ⟨vc, rfl, hN3⟩
  have hM := hM.join hN3 (fun a ha => by simp only [List.mem_singleton] at ha; subst ha; trivial)
  repeat (first | refine gs ?_ | (refine ks ?_; intro w hM))
  refine kca hM (rnarrow_any p vc w4 (hM.rowRdO (by (repeat constructor))) hLp) (fun w hM => ?_)
  rw [← hn1, ← hn2]
  have hM : Mem [] w0 w [.cell b2 (qV q (.slice A2 q.ts.length c2)) 46, .cell b1 (qV p (.slice A p.ts.length c)) 46] := hM.sub (by (repeat (first | exact Go.Proofs.E.Sub.refl _ | exact Go.Proofs.E.Sub.nil | (apply Go.Proofs.E.Sub.cons; (repeat (first | exact Go.Proofs.E.Pick.here | apply Go.Proofs.E.Pick.there))) | apply Go.Proofs.E.Sub.tail)))
  repeat (first | refine gs ?_ | (refine ks ?_; intro w hM))
  simp only [List.getElem_toArray, List.getElem_cons_zero, List.getElem_cons_succ]
  have k1 := (hM.blk (b := b1) (by (repeat constructor))).lt
  have k2 := (hM.blk (b := b2) (by (repeat constructor))).lt
  refine c_ordY ([], []) [] (by kernel_rfl) (by kernel_rfl) (by kernel_rfl) (fun w hc hs => ?_)
  have hM := hM.call hc
  refine ynlr 0 rfl (n := 8) (hM.blk (b := b1) (by (repeat constructor))) k1 (by simp) rfl (ds := qV p (.slice A p.ts.length c)) rfl rfl ?_
  refine ynlr 2 rfl (n := 8) (hM.blk (b := b1) (by (repeat constructor))) k1 (by simp) rfl (ds := qV p (.slice A p.ts.length c)) rfl rfl ?_
  refine yk1 1 hM (by kernel_rfl) rfl (fun w h0 hM => ?_)
  refine ca (good34_any p _ w (hL.ch hM.ch (by simp) (by simp)) (hP.ch hM.ch (by simp)) (hX.ch hM.ch) hLp) ?_
  rintro _ w5 ⟨rfl, hc5⟩
  have hM := hM.call hc5
  refine x_wy (.inl (hc5.gy h0)) rfl ?_
  refine yk1 3 hM (by kernel_rfl) rfl (fun w h0 hM => ?_)
  refine ca (plain34_any p _ w (hX.ch hM.ch) (by omega)) ?_
  rintro _ w4 ⟨vc, rfl, hN3⟩
  have hM := hM.join hN3 (fun a ha => by simp only [List.mem_singleton] at ha; subst ha; trivial)
  refine x_wy (.inl (hN3.ch.gy h0)) rfl ?_
  refine yk1 4 hM (by kernel_rfl) rfl (fun w h0 hM => ?_)
  refine ca (rgood34_any p vc w trivial (hM.rowRdO (by (repeat constructor))) hLp) ?_
  rintro _ w5 ⟨rfl, hc5⟩
  have hM := hM.call hc5
  refine x_wy (.inl (hc5.gy h0)) rfl ?_
  refine ynp 5 rfl (by kernel_rfl) (by kernel_rfl) (fun _ => r_eqbd (a := goodQ p) (b := goodQ p) rfl rfl) rfl ?_
  rw [decide_eq_true (rfl : goodQ p = goodQ p)]
  (first | refine yn 6 rfl ?_ | refine ynt 6 rfl ?_ | refine ynff 6 rfl ?_)
  refine ynlrt 7 rfl (n := 8) (hM.blk (b := b1) (by (repeat constructor))) k1 (by simp) (ds := qV p (.slice A p.ts.length c)) rfl rfl ?_
  refine ynlrt 9 rfl (n := 8) (hM.blk (b := b1) (by (repeat constructor))) k1 (by simp) (ds := qV p (.slice A p.ts.length c)) rfl rfl ?_
  refine yk1t 8 hM (by kernel_rfl) rfl (fun w h0 hM => ?_)
  refine ca (print_any p _ w (hL.ch hM.ch (by simp) (by simp)) (hP.ch hM.ch (by simp)) (hX.ch hM.ch) hLp) ?_
  rintro _ w5 ⟨rfl, hc5⟩
  have hM := hM.call hc5
  refine x_wy (.inl (hc5.gy h0)) rfl ?_
  refine yk1t 10 hM (by kernel_rfl) rfl (fun w h0 hM => ?_)
  refine ca (plain34_any p _ w (hX.ch hM.ch) (by omega)) ?_
  rintro _ w4 ⟨vd, rfl, hN3⟩
  have hM := hM.join hN3 (fun a ha => by simp only [List.mem_singleton] at ha; subst ha; trivial)
  refine x_wy (.inl (hN3.ch.gy h0)) rfl ?_
  refine yk1t 11 hM (by kernel_rfl) rfl (fun w h0 hM => ?_)
  refine ca (rprint_any p vd w (hM.rowRdO (by (repeat constructor))) hLp) ?_
  rintro _ w5 ⟨rfl, hc5⟩
  have hM := hM.call hc5
  refine x_wy (.inl (hc5.gy h0)) rfl ?_
  refine ynpt 12 rfl (by kernel_rfl) (by kernel_rfl) rfl rfl (Nat.le_of_ble_eq_true rfl) rfl (fun _ => r_eqst (a := printQ p) (b := printQ p) rfl rfl) rfl ?_
  rw [decide_eq_true (rfl : printQ p = printQ p)]
  (first | refine yn 13 rfl ?_ | refine ynt 13 rfl ?_ | refine ynff 13 rfl ?_); (first | refine yn 14 rfl ?_ | refine ynt 14 rfl ?_ | refine ynff 14 rfl ?_)
  refine ynlrt 15 rfl (n := 8) (hM.blk (b := b1) (by (repeat constructor))) k1 (by simp) (ds := qV p (.slice A p.ts.length c)) rfl rfl ?_
  refine ynlrt 16 rfl (n := 8) (hM.blk (b := b2) (by (repeat constructor))) k2 (by simp) (ds := qV q (.slice A2 q.ts.length c2)) rfl rfl ?_
  refine ynlrt 18 rfl (n := 8) (hM.blk (b := b1) (by (repeat constructor))) k1 (by simp) (ds := qV p (.slice A p.ts.length c)) rfl rfl ?_
  refine ynlrt 20 rfl (n := 8) (hM.blk (b := b2) (by (repeat constructor))) k2 (by simp) (ds := qV q (.slice A2 q.ts.length c2)) rfl rfl ?_
  refine yk1t 17 hM (by kernel_rfl) rfl (fun w h0 hM => ?_)
  refine ca (same34_any p q _ _ w (hX.ch hM.ch) (hY.ch hM.ch)) ?_
  rintro _ w5 ⟨rfl, hc5⟩
  have hM := hM.call hc5
  refine x_wy (.inl (hc5.gy h0)) rfl ?_
  refine yk1t 19 hM (by kernel_rfl) rfl (fun w h0 hM => ?_)
  refine ca (plain34_any p _ w (hX.ch hM.ch) (by omega)) ?_
  rintro _ w4 ⟨ve, rfl, hN3⟩
  have hM := hM.join hN3 (fun a ha => by simp only [List.mem_singleton] at ha; subst ha; trivial)
  refine x_wy (.inl (hN3.ch.gy h0)) rfl ?_
  refine yk1t 21 hM (by kernel_rfl) rfl (fun w h0 hM => ?_)
  refine ca (plain34_any q _ w (hY.ch hM.ch) (by omega)) ?_
  rintro _ w4 ⟨vf, rfl, hN3⟩
  have hM := hM.join hN3 (fun a ha => by simp only [List.mem_singleton] at ha; subst ha; trivial)
  refine x_wy (.inl (hN3.ch.gy h0)) rfl ?_
  refine yk1t 22 hM (by kernel_rfl) rfl (fun w h0 hM => ?_)
  refine ca (rsame34_any p q ve vf w (hM.rowRdO (en := eTs) (E := 118) (v := ve) (by (repeat constructor))) (hM.rowRdO (en := eTs) (E := 118) (v := vf) (by (repeat constructor)))) ?_
  rintro _ w5 ⟨rfl, hc5⟩
  have hM := hM.call hc5
  refine x_wy (.inl (hc5.gy h0)) rfl ?_
  refine ynpt 23 rfl (by kernel_rfl) (by kernel_rfl) rfl rfl (Nat.le_of_ble_eq_true rfl) rfl (fun _ => r_eqbd (a := sameQ p q) (b := sameQ p q) rfl rfl) rfl ?_
  rw [decide_eq_true (rfl : sameQ p q = sameQ p q)]
  (first | refine yn 24 rfl ?_ | refine ynt 24 rfl ?_ | refine ynff 24 rfl ?_); (first | refine yn 25 rfl ?_ | refine ynt 25 rfl ?_ | refine ynff 25 rfl ?_); (first | refine yn 26 rfl ?_ | refine ynt 26 rfl ?_ | refine ynff 26 rfl ?_); (first | refine yn 27 rfl ?_ | refine ynt 27 rfl ?_ | refine ynff 27 rfl ?_)
  refine ynpt 28 rfl (by kernel_rfl) (by kernel_rfl) rfl rfl (Nat.le_of_ble_eq_true rfl) rfl (fun _ => r_eqst (a := n1) (b := n1) rfl rfl) rfl ?_
  rw [decide_eq_true (rfl : n1 = n1)]
  (first | refine yn 29 rfl ?_ | refine ynt 29 rfl ?_ | refine ynff 29 rfl ?_); (first | refine yn 30 rfl ?_ | refine ynt 30 rfl ?_ | refine ynff 30 rfl ?_); (first | refine yn 31 rfl ?_ | refine ynt 31 rfl ?_ | refine ynff 31 rfl ?_); (first | refine yn 32 rfl ?_ | refine ynt 32 rfl ?_ | refine ynff 32 rfl ?_)
  refine ynpt 33 rfl (by kernel_rfl) (by kernel_rfl) rfl rfl (Nat.le_of_ble_eq_true rfl) rfl (fun _ => r_eqst (a := n2) (b := n2) rfl rfl) rfl ?_
  rw [decide_eq_true (rfl : n2 = n2)]
  (first | refine yn 34 rfl ?_ | refine ynt 34 rfl ?_ | refine ynff 34 rfl ?_); (first | refine yn 35 rfl ?_ | refine ynt 35 rfl ?_ | refine ynff 35 rfl ?_)
  refine yk1t 36 hM (by kernel_rfl) rfl (fun w h0 hM => ?_)
  refine ca (args := []) (vs := []) (lives34_any w (hL.ch hM.ch (by simp) (by simp)) (hP.ch hM.ch (by simp))) ?_
  rintro _ w6 ⟨rfl, hc6⟩
  have hM := hM.call hc6
  refine x_wy (.inl (hc6.gy h0)) rfl ?_
  (first | refine yn 37 rfl ?_ | refine ynt 37 rfl ?_ | refine ynff 37 rfl ?_); (first | refine yn 38 rfl ?_ | refine ynt 38 rfl ?_ | refine ynff 38 rfl ?_)
  refine wy_done (by kernel_rfl) (fun w hc => ?_)
  have hM := hM.call hc
  repeat (first | refine gs ?_ | (refine ks ?_; intro w hM))
  exact out1 rfl ⟨rfl, hM.ch⟩
end Go.Proofs.YtoimhmphhffelaaGreatDoor

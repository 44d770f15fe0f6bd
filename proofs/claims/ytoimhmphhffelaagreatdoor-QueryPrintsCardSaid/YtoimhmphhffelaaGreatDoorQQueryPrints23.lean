/- Walks of law 34: numbers by the library; whether a query may be, both.
   Walks of law 34: whether two queries are alike, both; a query of the program's as one of the document's.
   Walk of law 34: the document's Print. -/
import Derived.Test.YtoimhmphhffelaaGreatDoorQQueryPrints22
set_option linter.unusedVariables false
set_option linter.unusedSimpArgs false
namespace Go.Proofs.YtoimhmphhffelaaGreatDoor
open Go Go.RowKit Go.Proofs.E
attribute [local irreducible] Go.wpList Go.Code.wp Go.Proofs.E.exec Go.Proofs.E.wpLexG
/-! ### Numbers by the library -/
abbrev powG : Nat := 5
def LaidP (w : World) : Prop := LaidG powG (Lib.pow10Tab.map fun z => Value.int .u64 z) w
theorem powNamed : Tryz.prog.globalNamed "internal/strconv.uint64pow10" = some powG := by kernel_rfl
theorem LaidP.tab {w : World} (h : LaidP w) : Lib.TabIs Tryz.prog w "internal/strconv.uint64pow10" .u64 Lib.pow10Tab := by
  obtain ⟨t, fz, h⟩ := h
  unfold Lib.TabIs World.var?
  rw [powNamed]
  show (match w.heap[powG]? with | some (.cells cs _ _) => some cs | _ => none) = _
  rw [h]
theorem itoa_any (n : Int) (h0 : -9223372036854775808 ≤ n) (h1 : n ≤ 9223372036854775807) (w : World) (hP : LaidP w) : Calls Tryz.prog 91 #[.int .i64 n] w (Ret fun u w' => u = .string (bst (Lib.itoa n)) ∧ Ch [] w w') := by
  refine (Tryz.strconv_Itoa n h0 h1 w hP.tab).mono fun e w' ⟨he, k, os, hw⟩ => ⟨_, he, rfl, ?_⟩
  subst hw
  exact Ch.of_below (Lib.below_grow w.heap.size w (Nat.le_refl _) k os)
/-! ### Tests -/
abbrev qV (q : QryV) (vt : Value) : List Value := quC q.at_ q.fr q.to_ vt q.back q.skip q.lim q.cnt
theorem rightT_of {t : TsV} : rightT t = true ↔ (1 ≤ t.1 ∧ t.1 ≤ 2 ∧ 1 ≤ t.2.1 ∧ t.2.1 ≤ 8 ∧ t.2.2.length ≤ 256) := by unfold rightT; exact decide_eq_true_iff
theorem rightT_no {t : TsV} (h : ¬ (1 ≤ t.1 ∧ t.1 ≤ 2 ∧ 1 ≤ t.2.1 ∧ t.2.1 ≤ 8 ∧ t.2.2.length ≤ 256)) : rightT t = false := by unfold rightT; exact decide_eq_false h
set_option maxHeartbeats 8000000 in
theorem goodTest_any (t : TsV) (w0 : World) (hl : t.2.2.length ≤ 9223372036854775807) : Calls Tryz.prog 139 #[.agg (tsC t).toArray] w0 (Ret fun u w' => u = .bool (rightT t) ∧ Ch [] w0 w') := by
  obtain ⟨a, b, s⟩ := t
  have hM := Mem.start w0
  simp only at hl
  refine enter [.agg (tsC (a, b, s)).toArray, undef, undef, undef, undef, undef, undef, undef, undef, undef, undef, undef, undef, undef, undef, undef, undef, undef, undef, undef, undef, undef, undef, undef, undef, undef, undef] Tryz.func139 rfl rfl ?_
  repeat (first | refine gs ?_ | (refine ks ?_; intro w hM))
  refine kbx hM (fun w b1 hM => ?_)
  have hM : Mem [] w0 w [.cell b1 (tsC (a, b, s)) 120] := hM
  repeat (first | refine gs ?_ | (refine ks ?_; intro w hM))
  by_cases h0 : 1 ≤ a
  rotate_left
  · rw [decide_eq_false h0]
    repeat (first | refine gs ?_ | (refine ks ?_; intro w hM))
    exact out1 rfl ⟨by rw [rightT_no (by simp only; omega)]; rfl, hM.ch⟩
  rw [decide_eq_true h0]
  repeat (first | refine gs ?_ | (refine ks ?_; intro w hM))
  by_cases h1 : a ≤ 2
  rotate_left
  · rw [decide_eq_false h1]
    repeat (first | refine gs ?_ | (refine ks ?_; intro w hM))
    exact out1 rfl ⟨by rw [rightT_no (by simp only; omega)]; rfl, hM.ch⟩
  rw [decide_eq_true h1]
  repeat (first | refine gs ?_ | (refine ks ?_; intro w hM))
  by_cases h2 : 1 ≤ b
  rotate_left
  · rw [decide_eq_false h2]
    repeat (first | refine gs ?_ | (refine ks ?_; intro w hM))
    exact out1 rfl ⟨by rw [rightT_no (by simp only; omega)]; rfl, hM.ch⟩
  rw [decide_eq_true h2]
  repeat (first | refine gs ?_ | (refine ks ?_; intro w hM))
  by_cases h3 : b ≤ 8
  rotate_left
  · rw [decide_eq_false h3]
    repeat (first | refine gs ?_ | (refine ks ?_; intro w hM))
    exact out1 rfl ⟨by rw [rightT_no (by simp only; omega)]; rfl, hM.ch⟩
  rw [decide_eq_true h3]
  repeat (first | refine gs ?_ | (refine ks ?_; intro w hM))
  refine out1 rfl ⟨?_, hM.ch⟩
  by_cases h5 : s.length ≤ 256
  · rw [rightT_of.2 (by simp only; omega)]
    show Value.bool (decide ((s.length : Int) ≤ 256)) = _
    rw [decide_eq_true (by omega)]
  · rw [rightT_no (by simp only; omega)]
    show Value.bool (decide ((s.length : Int) ≤ 256)) = _
    rw [decide_eq_false (by omega)]
theorem right1_any (t : TsV) (w0 : World) (hl : t.2.2.length ≤ 9223372036854775807) : Calls Tryz.prog 138 #[.agg (tsC t).toArray] w0 (Ret fun u w' => u = .bool (!rightT t) ∧ Ch [] w0 w') := by
  have hM := Mem.start w0
  refine enter [.agg (tsC t).toArray, undef, undef, undef, undef, undef] Tryz.func138 rfl rfl ?_
  repeat (first | refine gs ?_ | (refine ks ?_; intro w hM))
  refine kbx hM (fun w b1 hM => ?_)
  have hM : Mem [] w0 w [.cell b1 (tsC t) 120] := hM
  repeat (first | refine gs ?_ | (refine ks ?_; intro w hM))
  refine kca hM (goodTest_any t w hl) (fun w hM => ?_)
  repeat (first | refine gs ?_ | (refine ks ?_; intro w hM))
  exact out1 rfl ⟨rfl, hM.ch⟩
abbrev fvR1 : Value := .func (.func 138) #[] #[]
theorem all_next {α : Type} {p : α → Bool} {xs : List α} {i : Nat} {a : α} (h : xs[i]? = some a) (h0 : (xs.take i).all p = true) : (xs.take (i + 1)).all p = p a := by
  rw [List.take_add_one, h, List.all_append, h0]
  simp
theorem all_bad {α : Type} {p : α → Bool} {xs : List α} {i : Nat} {a : α} (h : xs[i]? = some a) (h0 : p a = false) : xs.all p = false := by
  rw [List.all_eq_false]
  exact ⟨a, List.mem_of_getElem? h, by rw [h0]; simp⟩
set_option maxHeartbeats 8000000 in
theorem index1_any (v : Value) (ts : List TsV) (w0 : World) (hR : (Ty.enc eTs).Rd [] w0 v ts) (hl : ∀ t ∈ ts, t.2.2.length ≤ 9223372036854775807) : Calls Tryz.prog 144 #[v, fvR1] w0 (Ret fun u w' => (∃ r : Int, u = .int .i64 r ∧ decide (0 ≤ r) = !(ts.all rightT)) ∧ Ch [] w0 w') := by
  have hM := Mem.start w0
  have hlen := hR.1
  obtain ⟨A, c, rfl⟩ := hR.form
  refine enter [.slice A ts.length c, fvR1, undef, undef, undef, undef, undef, undef, undef, undef, undef, undef, undef, undef, undef, undef, undef, undef, undef] Tryz.func144 rfl rfl ?_
  repeat (first | refine gs ?_ | (refine ks ?_; intro w hM))
  
  refine c_loop (fun n l w => ∃ (i : Nat), (∃ jj : Nat → Value, l = [.slice A ts.length c, fvR1, jj 2, jj 3, jj 4, jj 5, jj 6, .int .i64 (ts.length : Int), .int .i64 (i : Int), jj 9, jj 10, jj 11, jj 12, jj 13, jj 14, jj 15, jj 16, jj 17, jj 18]) ∧ n + i = ts.length ∧ (ts.take i).all rightT = true ∧ Mem [] w0 w []) ts.length
    ⟨0, exj rfl, rfl, rfl, hM⟩ ?_
  clear hM
  rintro n l w ⟨i, ⟨jj, rfl⟩, hn, hall, hM⟩
  repeat (first | refine gs ?_ | (refine ks ?_; intro w hM))
  refine c_cond rfl (fun hi => ?_) (fun hi => ?_)
  rotate_left
  · rw [List.take_of_length_le (by omega)] at hall
    repeat (first | refine gs ?_ | (refine ks ?_; intro w hM))
    exact out1 rfl ⟨⟨-1, rfl, by rw [hall]; rfl⟩, hM.ch⟩
  repeat (first | refine gs ?_ | (refine ks ?_; intro w hM))
  refine kix hR (fun b o t ht hA => ?_) (h1 := by omega)
  rw [Int.toNat_natCast] at ht
  repeat (first | refine gs ?_ | (refine ks ?_; intro w hM))
  refine katr hM hA ?_
  repeat (first | refine gs ?_ | (refine ks ?_; intro w hM))
  have hcl : Calls Tryz.prog 138 (([.agg (tsC t).toArray] : List Value).toArray ++ #[]) w (Ret fun u w' => u = .bool (!rightT t) ∧ Ch [] w w') := by
    rw [Array.append_empty]
    exact right1_any t w (hl t (List.mem_of_getElem? ht))
  refine kcd hcl (fun u w2 h => ?_)
  obtain ⟨rfl, hc⟩ := h
  have hM := hM.call hc
  cases hr : rightT t with
  | false =>
    repeat (first | refine gs ?_ | (refine ks ?_; intro w hM))
    refine c_condb rfl (fun _ => ?_) (fun h => by cases h)
    repeat (first | refine gs ?_ | (refine ks ?_; intro w hM))
    exact out1 rfl ⟨⟨(i : Int), rfl, by rw [all_bad ht hr]; exact decide_eq_true (by omega)⟩, hM.ch⟩
  | true =>
    repeat (first | refine gs ?_ | (refine ks ?_; intro w hM))
    refine c_condb rfl (fun h => by cases h) (fun _ => ?_)
    repeat (first | refine gs ?_ | (refine ks ?_; intro w hM))
    exact x_goes (n - 1) rfl (by omega) ⟨i + 1, exj rfl, by omega, by rw [all_next ht hall, hr], hM⟩
theorem contains1_any (v : Value) (ts : List TsV) (w0 : World) (hR : (Ty.enc eTs).Rd [] w0 v ts) (hl : ∀ t ∈ ts, t.2.2.length ≤ 9223372036854775807) : Calls Tryz.prog 99 #[v, fvR1] w0 (Ret fun u w' => u = .bool (!(ts.all rightT)) ∧ Ch [] w0 w') := by
  have hM := Mem.start w0
  obtain ⟨A, c, hv⟩ := hR.form
  subst hv
  refine enter [.slice A ts.length c, fvR1, undef, undef, undef, undef, undef, undef, undef] Tryz.func99 rfl rfl ?_
  repeat (first | refine gs ?_ | (refine ks ?_; intro w hM))
  refine ca (index1_any _ ts w0 hR hl) ?_
  rintro _ w2 ⟨⟨r, rfl, hr⟩, hc⟩
  have hM := hM.call hc
  repeat (first | refine gs ?_ | (refine ks ?_; intro w hM))
  rw [hr]
  exact out1 rfl ⟨rfl, hM.ch⟩
/-! ### Queries -/
def okQ (q : QryV) : Prop := -1 ≤ q.at_ ∧ q.at_ ≤ 999999999 ∧ 0 ≤ q.skip ∧ q.skip ≤ 999999999 ∧ -1 ≤ q.lim ∧ q.lim ≤ 999999999 ∧ q.fr.length ≤ 256 ∧ q.to_.length ≤ 256 ∧ q.ts.length ≤ 50
theorem rightQ_no {q : QryV} (h : ¬ okQ q) : rightQ q = false := by unfold rightQ; rw [decide_eq_false (by unfold okQ at h; exact h)]; rfl
theorem rightQ_ok {q : QryV} (h : okQ q) : rightQ q = q.ts.all rightT := by unfold rightQ; rw [decide_eq_true (by unfold okQ at h; exact h)]; rfl
/-- Lengths that can be. -/
def LenQ (q : QryV) : Prop := q.fr.length ≤ 100000 ∧ q.to_.length ≤ 100000 ∧ ∀ t ∈ q.ts, t.2.2.length ≤ 100000
set_option maxHeartbeats 16000000 in
theorem right_any (q : QryV) (vt : Value) (w0 : World) (hR : (Ty.enc eTs).Rd [] w0 vt q.ts) (hq : LenQ q) : Calls Tryz.prog 88 #[.agg (qV q vt).toArray] w0 (Ret fun u w' => u = .bool (rightQ q) ∧ Ch [] w0 w') := by
  have hM := Mem.start w0
  have hlen := hR.1
  obtain ⟨q1, q2, q3⟩ := hq
  obtain ⟨A, c, rfl⟩ := hR.form
  refine enter [.agg (qV q (.slice A q.ts.length c)).toArray, undef, undef, undef, undef, undef, undef, undef, undef, undef, undef, undef, undef, undef, undef, undef, undef, undef, undef, undef, undef, undef, undef, undef, undef, undef, undef, undef, undef, undef, undef, undef, undef, undef, undef, undef, undef, undef, undef, undef, undef, undef, undef, undef, undef, undef, undef, undef, undef, undef, undef] Tryz.func88 rfl rfl ?_
  repeat (first | refine gs ?_ | (refine ks ?_; intro w hM))
  refine kbx hM (fun w b1 hM => ?_)
  have hM : Mem [] w0 w [.cell b1 (qV q (.slice A q.ts.length c)) 46] := hM
  repeat (first | refine gs ?_ | (refine ks ?_; intro w hM))
  by_cases h0 : q.at_ < -1
  · rw [decide_eq_true h0]
    repeat (first | refine gs ?_ | (refine ks ?_; intro w hM))
    refine c_condb rfl (fun _ => ?_) (fun h => by cases h)
    repeat (first | refine gs ?_ | (refine ks ?_; intro w hM))
    exact out1 rfl ⟨by rw [rightQ_no (fun h => by unfold okQ at h; omega)]; rfl, hM.ch⟩
  rw [decide_eq_false h0]
  repeat (first | refine gs ?_ | (refine ks ?_; intro w hM))
  by_cases h1 : 999999999 < q.at_
  · rw [decide_eq_true h1]
    repeat (first | refine gs ?_ | (refine ks ?_; intro w hM))
    refine c_condb rfl (fun _ => ?_) (fun h => by cases h)
    repeat (first | refine gs ?_ | (refine ks ?_; intro w hM))
    exact out1 rfl ⟨by rw [rightQ_no (fun h => by unfold okQ at h; omega)]; rfl, hM.ch⟩
  rw [decide_eq_false h1]
  repeat (first | refine gs ?_ | (refine ks ?_; intro w hM))
  by_cases h2 : q.skip < 0
  · rw [decide_eq_true h2]
    repeat (first | refine gs ?_ | (refine ks ?_; intro w hM))
    refine c_condb rfl (fun _ => ?_) (fun h => by cases h)
    repeat (first | refine gs ?_ | (refine ks ?_; intro w hM))
    exact out1 rfl ⟨by rw [rightQ_no (fun h => by unfold okQ at h; omega)]; rfl, hM.ch⟩
  rw [decide_eq_false h2]
  repeat (first | refine gs ?_ | (refine ks ?_; intro w hM))
  by_cases h3 : 999999999 < q.skip
  · rw [decide_eq_true h3]
    repeat (first | refine gs ?_ | (refine ks ?_; intro w hM))
    refine c_condb rfl (fun _ => ?_) (fun h => by cases h)
    repeat (first | refine gs ?_ | (refine ks ?_; intro w hM))
    exact out1 rfl ⟨by rw [rightQ_no (fun h => by unfold okQ at h; omega)]; rfl, hM.ch⟩
  rw [decide_eq_false h3]
  repeat (first | refine gs ?_ | (refine ks ?_; intro w hM))
  by_cases h4 : q.lim < -1
  · rw [decide_eq_true h4]
    repeat (first | refine gs ?_ | (refine ks ?_; intro w hM))
    refine c_condb rfl (fun _ => ?_) (fun h => by cases h)
    repeat (first | refine gs ?_ | (refine ks ?_; intro w hM))
    exact out1 rfl ⟨by rw [rightQ_no (fun h => by unfold okQ at h; omega)]; rfl, hM.ch⟩
  rw [decide_eq_false h4]
  repeat (first | refine gs ?_ | (refine ks ?_; intro w hM))
  by_cases h5 : 999999999 < q.lim
  · rw [decide_eq_true h5]
    repeat (first | refine gs ?_ | (refine ks ?_; intro w hM))
    refine c_condb rfl (fun _ => ?_) (fun h => by cases h)
    repeat (first | refine gs ?_ | (refine ks ?_; intro w hM))
    exact out1 rfl ⟨by rw [rightQ_no (fun h => by unfold okQ at h; omega)]; rfl, hM.ch⟩
  rw [decide_eq_false h5]
  repeat (first | refine gs ?_ | (refine ks ?_; intro w hM))
  refine c_condb rfl (fun h => by cases h) (fun _ => ?_)
  repeat (first | refine gs ?_ | (refine ks ?_; intro w hM))
  by_cases h6 : (256 : Int) < (q.fr.length : Int)
  · rw [decide_eq_true h6]
    repeat (first | refine gs ?_ | (refine ks ?_; intro w hM))
    refine c_condb rfl (fun _ => ?_) (fun h => by cases h)
    repeat (first | refine gs ?_ | (refine ks ?_; intro w hM))
    exact out1 rfl ⟨by rw [rightQ_no (fun h => by unfold okQ at h; omega)]; rfl, hM.ch⟩
  rw [decide_eq_false h6]
  repeat (first | refine gs ?_ | (refine ks ?_; intro w hM))
  by_cases h7 : (256 : Int) < (q.to_.length : Int)
  · rw [decide_eq_true h7]
    repeat (first | refine gs ?_ | (refine ks ?_; intro w hM))
    refine c_condb rfl (fun _ => ?_) (fun h => by cases h)
    repeat (first | refine gs ?_ | (refine ks ?_; intro w hM))
    exact out1 rfl ⟨by rw [rightQ_no (fun h => by unfold okQ at h; omega)]; rfl, hM.ch⟩
  rw [decide_eq_false h7]
  repeat (first | refine gs ?_ | (refine ks ?_; intro w hM))
  by_cases h8 : (50 : Int) < (q.ts.length : Int)
  · rw [decide_eq_true h8]
    repeat (first | refine gs ?_ | (refine ks ?_; intro w hM))
    refine c_condb rfl (fun _ => ?_) (fun h => by cases h)
    repeat (first | refine gs ?_ | (refine ks ?_; intro w hM))
    exact out1 rfl ⟨by rw [rightQ_no (fun h => by unfold okQ at h; omega)]; rfl, hM.ch⟩
  rw [decide_eq_false h8]
  repeat (first | refine gs ?_ | (refine ks ?_; intro w hM))
  refine c_condb rfl (fun h => by cases h) (fun _ => ?_)
  repeat (first | refine gs ?_ | (refine ks ?_; intro w hM))
  refine kca hM (contains1_any _ q.ts w (hR.ch hM.ch) (fun t ht => by have := q3 t ht; omega)) (fun w hM => ?_)
  repeat (first | refine gs ?_ | (refine ks ?_; intro w hM))
  rw [rightQ_ok (by unfold okQ; omega)]
  exact out1 rfl ⟨congrArg Value.bool (Bool.not_not _), hM.ch⟩
set_option maxHeartbeats 16000000 in
theorem rright_any (q : QryV) (vt : Value) (w0 : World) (hR : (Ty.enc eTs).Rd [] w0 vt q.ts) (hq : LenQ q) : Calls Tryz.prog 89 #[.agg (qV q vt).toArray] w0 (Ret fun u w' => u = .bool (rightQ q) ∧ Ch [] w0 w') := by
  have hM := Mem.start w0
  have hlen := hR.1
  obtain ⟨q1, q2, q3⟩ := hq
  obtain ⟨A, c, rfl⟩ := hR.form
  refine enter [.agg (qV q (.slice A q.ts.length c)).toArray, undef, undef, undef, undef, undef, undef, undef, undef, undef, undef, undef, undef, undef, undef, undef, undef, undef, undef, undef, undef, undef, undef, undef, undef, undef, undef, undef, undef, undef, undef, undef, undef, undef, undef, undef, undef, undef, undef, undef, undef, undef, undef, undef, undef, undef, undef, undef, undef, undef, undef, undef, undef, undef, undef, undef, undef, undef, undef, undef, undef, undef, undef, undef, undef, undef, undef, undef, undef, undef, undef, undef, undef, undef, undef, undef, undef, undef, undef, undef, undef, undef, undef] Tryz.func89 rfl rfl ?_
  repeat (first | refine gs ?_ | (refine ks ?_; intro w hM))
  refine kbx hM (fun w b1 hM => ?_)
  have hM : Mem [] w0 w [.cell b1 (qV q (.slice A q.ts.length c)) 51] := hM
  repeat (first | refine gs ?_ | (refine ks ?_; intro w hM))
  by_cases h0 : q.at_ < -1
  · rw [decide_eq_true h0]
    repeat (first | refine gs ?_ | (refine ks ?_; intro w hM))
    refine c_condb rfl (fun _ => ?_) (fun h => by cases h)
    repeat (first | refine gs ?_ | (refine ks ?_; intro w hM))
    exact out1 rfl ⟨by rw [rightQ_no (fun h => by unfold okQ at h; omega)]; rfl, hM.ch⟩
  rw [decide_eq_false h0]
  repeat (first | refine gs ?_ | (refine ks ?_; intro w hM))
  by_cases h1 : 999999999 < q.at_
  · rw [decide_eq_true h1]
    repeat (first | refine gs ?_ | (refine ks ?_; intro w hM))
    refine c_condb rfl (fun _ => ?_) (fun h => by cases h)
    repeat (first | refine gs ?_ | (refine ks ?_; intro w hM))
    exact out1 rfl ⟨by rw [rightQ_no (fun h => by unfold okQ at h; omega)]; rfl, hM.ch⟩
  rw [decide_eq_false h1]
  repeat (first | refine gs ?_ | (refine ks ?_; intro w hM))
  by_cases h2 : (256 : Int) < (q.fr.length : Int)
  · rw [decide_eq_true h2]
    repeat (first | refine gs ?_ | (refine ks ?_; intro w hM))
    refine c_condb rfl (fun _ => ?_) (fun h => by cases h)
    repeat (first | refine gs ?_ | (refine ks ?_; intro w hM))
    exact out1 rfl ⟨by rw [rightQ_no (fun h => by unfold okQ at h; omega)]; rfl, hM.ch⟩
  rw [decide_eq_false h2]
  repeat (first | refine gs ?_ | (refine ks ?_; intro w hM))
  by_cases h3 : (256 : Int) < (q.to_.length : Int)
  · rw [decide_eq_true h3]
    repeat (first | refine gs ?_ | (refine ks ?_; intro w hM))
    refine c_condb rfl (fun _ => ?_) (fun h => by cases h)
    repeat (first | refine gs ?_ | (refine ks ?_; intro w hM))
    exact out1 rfl ⟨by rw [rightQ_no (fun h => by unfold okQ at h; omega)]; rfl, hM.ch⟩
  rw [decide_eq_false h3]
  repeat (first | refine gs ?_ | (refine ks ?_; intro w hM))
  by_cases h4 : (50 : Int) < (q.ts.length : Int)
  · rw [decide_eq_true h4]
    repeat (first | refine gs ?_ | (refine ks ?_; intro w hM))
    refine c_condb rfl (fun _ => ?_) (fun h => by cases h)
    repeat (first | refine gs ?_ | (refine ks ?_; intro w hM))
    exact out1 rfl ⟨by rw [rightQ_no (fun h => by unfold okQ at h; omega)]; rfl, hM.ch⟩
  rw [decide_eq_false h4]
  repeat (first | refine gs ?_ | (refine ks ?_; intro w hM))
  by_cases h5 : q.skip < 0
  · rw [decide_eq_true h5]
    repeat (first | refine gs ?_ | (refine ks ?_; intro w hM))
    refine c_condb rfl (fun _ => ?_) (fun h => by cases h)
    repeat (first | refine gs ?_ | (refine ks ?_; intro w hM))
    exact out1 rfl ⟨by rw [rightQ_no (fun h => by unfold okQ at h; omega)]; rfl, hM.ch⟩
  rw [decide_eq_false h5]
  repeat (first | refine gs ?_ | (refine ks ?_; intro w hM))
  by_cases h6 : 999999999 < q.skip
  · rw [decide_eq_true h6]
    repeat (first | refine gs ?_ | (refine ks ?_; intro w hM))
    refine c_condb rfl (fun _ => ?_) (fun h => by cases h)
    repeat (first | refine gs ?_ | (refine ks ?_; intro w hM))
    exact out1 rfl ⟨by rw [rightQ_no (fun h => by unfold okQ at h; omega)]; rfl, hM.ch⟩
  rw [decide_eq_false h6]
  repeat (first | refine gs ?_ | (refine ks ?_; intro w hM))
  by_cases h7 : q.lim < -1
  · rw [decide_eq_true h7]
    repeat (first | refine gs ?_ | (refine ks ?_; intro w hM))
    refine c_condb rfl (fun _ => ?_) (fun h => by cases h)
    repeat (first | refine gs ?_ | (refine ks ?_; intro w hM))
    exact out1 rfl ⟨by rw [rightQ_no (fun h => by unfold okQ at h; omega)]; rfl, hM.ch⟩
  rw [decide_eq_false h7]
  repeat (first | refine gs ?_ | (refine ks ?_; intro w hM))
  by_cases h8 : 999999999 < q.lim
  · rw [decide_eq_true h8]
    repeat (first | refine gs ?_ | (refine ks ?_; intro w hM))
    refine c_condb rfl (fun _ => ?_) (fun h => by cases h)
    repeat (first | refine gs ?_ | (refine ks ?_; intro w hM))
    exact out1 rfl ⟨by rw [rightQ_no (fun h => by unfold okQ at h; omega)]; rfl, hM.ch⟩
  rw [decide_eq_false h8]
  repeat (first | refine gs ?_ | (refine ks ?_; intro w hM))
  refine c_condb rfl (fun h => by cases h) (fun _ => ?_)
  have hok : okQ q := by unfold okQ; omega
  repeat (first | refine gs ?_ | (refine ks ?_; intro w hM))
  
  refine c_loop (fun n l w => ∃ (i : Nat), (∃ jj : Nat → Value, l = [jj 0, .pointer (some ⟨b1, 0, none⟩), jj 2, jj 3, jj 4, jj 5, jj 6, jj 7, jj 8, jj 9, jj 10, jj 11, jj 12, jj 13, jj 14, jj 15, jj 16, jj 17, jj 18, jj 19, jj 20, jj 21, jj 22, jj 23, jj 24, jj 25, jj 26, jj 27, jj 28, jj 29, jj 30, jj 31, jj 32, jj 33, jj 34, jj 35, jj 36, jj 37, jj 38, jj 39, jj 40, jj 41, jj 42, jj 43, jj 44, jj 45, jj 46, jj 47, jj 48, jj 49, jj 50, jj 51, .slice A q.ts.length c, .int .i64 (q.ts.length : Int), .int .i64 (i : Int), jj 55, jj 56, jj 57, jj 58, jj 59, jj 60, jj 61, jj 62, jj 63, jj 64, jj 65, jj 66, jj 67, jj 68, jj 69, jj 70, jj 71, jj 72, jj 73, jj 74, jj 75, jj 76, jj 77, jj 78, jj 79, jj 80, jj 81, jj 82]) ∧ n + i = q.ts.length ∧ (q.ts.take i).all rightT = true ∧ Mem [] w0 w [.cell b1 (qV q (.slice A q.ts.length c)) 51]) q.ts.length
    ⟨0, exj rfl, rfl, rfl, hM⟩ ?_
  clear hM
  rintro n l w ⟨i, ⟨jj, rfl⟩, hn, hall, hM⟩
  repeat (first | refine gs ?_ | (refine ks ?_; intro w hM))
  refine c_cond rfl (fun hi => ?_) (fun hi => ?_)
  rotate_left
  · rw [List.take_of_length_le (by omega)] at hall
    repeat (first | refine gs ?_ | (refine ks ?_; intro w hM))
    exact out1 rfl ⟨by rw [rightQ_ok hok, hall]; rfl, hM.ch⟩
  repeat (first | refine gs ?_ | (refine ks ?_; intro w hM))
  refine kix hR (fun b o t ht hA => ?_) (h1 := by omega)
  rw [Int.toNat_natCast] at ht
  have ht3 := q3 t (List.mem_of_getElem? ht)
  repeat (first | refine gs ?_ | (refine ks ?_; intro w hM))
  refine katr hM hA ?_
  repeat (first | refine gs ?_ | (refine ks ?_; intro w hM))
  refine kal hM (fun w b4 hM => ?_)
  have hM : Mem [] w0 w [.cell b4 (tsC (0, 0, [])) 118, .cell b1 (qV q (.slice A q.ts.length c)) 51] := hM
  repeat (first | refine gs ?_ | (refine ks ?_; intro w hM))
  by_cases h20 : t.1 < 1
  · rw [decide_eq_true h20]
    repeat (first | refine gs ?_ | (refine ks ?_; intro w hM))
    refine c_condb rfl (fun _ => ?_) (fun h => by cases h)
    repeat (first | refine gs ?_ | (refine ks ?_; intro w hM))
    exact out1 rfl ⟨by rw [rightQ_ok hok, all_bad ht (rightT_no (by omega))]; rfl, hM.ch⟩
  rw [decide_eq_false h20]
  repeat (first | refine gs ?_ | (refine ks ?_; intro w hM))
  by_cases h21 : 2 < t.1
  · rw [decide_eq_true h21]
    repeat (first | refine gs ?_ | (refine ks ?_; intro w hM))
    refine c_condb rfl (fun _ => ?_) (fun h => by cases h)
    repeat (first | refine gs ?_ | (refine ks ?_; intro w hM))
    exact out1 rfl ⟨by rw [rightQ_ok hok, all_bad ht (rightT_no (by omega))]; rfl, hM.ch⟩
  rw [decide_eq_false h21]
  repeat (first | refine gs ?_ | (refine ks ?_; intro w hM))
  by_cases h22 : t.2.1 < 1
  · rw [decide_eq_true h22]
    repeat (first | refine gs ?_ | (refine ks ?_; intro w hM))
    refine c_condb rfl (fun _ => ?_) (fun h => by cases h)
    repeat (first | refine gs ?_ | (refine ks ?_; intro w hM))
    exact out1 rfl ⟨by rw [rightQ_ok hok, all_bad ht (rightT_no (by omega))]; rfl, hM.ch⟩
  rw [decide_eq_false h22]
  repeat (first | refine gs ?_ | (refine ks ?_; intro w hM))
  by_cases h23 : 8 < t.2.1
  · rw [decide_eq_true h23]
    repeat (first | refine gs ?_ | (refine ks ?_; intro w hM))
    refine c_condb rfl (fun _ => ?_) (fun h => by cases h)
    repeat (first | refine gs ?_ | (refine ks ?_; intro w hM))
    exact out1 rfl ⟨by rw [rightQ_ok hok, all_bad ht (rightT_no (by omega))]; rfl, hM.ch⟩
  rw [decide_eq_false h23]
  repeat (first | refine gs ?_ | (refine ks ?_; intro w hM))
  by_cases h24 : (256 : Int) < (t.2.2.length : Int)
  · rw [decide_eq_true h24]
    repeat (first | refine gs ?_ | (refine ks ?_; intro w hM))
    refine c_condb rfl (fun _ => ?_) (fun h => by cases h)
    repeat (first | refine gs ?_ | (refine ks ?_; intro w hM))
    exact out1 rfl ⟨by rw [rightQ_ok hok, all_bad ht (rightT_no (by omega))]; rfl, hM.ch⟩
  rw [decide_eq_false h24]
  repeat (first | refine gs ?_ | (refine ks ?_; intro w hM))
  refine c_condb rfl (fun h => by cases h) (fun _ => ?_)
  repeat (first | refine gs ?_ | (refine ks ?_; intro w hM))
  exact x_goes (n - 1) rfl (by omega) ⟨i + 1, exj rfl, by omega, by rw [all_next ht hall]; exact rightT_of.2 (by omega), hM.sub (by (repeat (first | exact Go.Proofs.E.Sub.refl _ | exact Go.Proofs.E.Sub.nil | (apply Go.Proofs.E.Sub.cons; (repeat (first | exact Go.Proofs.E.Pick.here | apply Go.Proofs.E.Pick.there))) | apply Go.Proofs.E.Sub.tail)))⟩
end Go.Proofs.YtoimhmphhffelaaGreatDoor
set_option linter.unusedVariables false
set_option linter.unusedSimpArgs false
namespace Go.Proofs.E
open Go Go.RowKit
theorem r_neqbb {P : Program} {l : List Value} {w : World} {T : TypeId} {x y : Operand} {t u : TypeId} {a b : Bool} [hU : Und P t .bool] (hx : ev l x = .bool a) (hy : ev l y = .bool b) : (exec (ev l) (.binOp .neq t x y u) T).run P w = .ok (.value (.bool (decide (¬ a = b)))) w := by
  have := run_neq_bool (P := P) w t a b hU.out
  simp [exec, execOp, hx, hy, eqGuard, this]
  cases a <;> cases b <;> rfl
theorem r_eqbd {P : Program} {l : List Value} {w : World} {T : TypeId} {x y : Operand} {t u : TypeId} {a b : Bool} [hU : Und P t .bool] (hx : ev l x = .bool a) (hy : ev l y = .bool b) : (exec (ev l) (.binOp .eql t x y u) T).run P w = .ok (.value (.bool (decide (a = b)))) w := by
  rw [r_eqbb hx hy]
  cases a <;> cases b <;> rfl
theorem tk_iff {α : Type} {xs ys : List α} (hl : xs.length = ys.length) {j : Nat} (hj : xs.length ≤ j) (h : xs.take j = ys.take j) : xs = ys := by
  rwa [List.take_of_length_le hj, List.take_of_length_le (hl ▸ hj)] at h
theorem tk_step {α : Type} {xs ys : List α} {j : Nat} {x y : α} (hx : xs[j]? = some x) (hy : ys[j]? = some y) (h : xs.take j = ys.take j) (he : x = y) : xs.take (j + 1) = ys.take (j + 1) := by
  rw [List.take_add_one, List.take_add_one, hx, hy, h, he]
end Go.Proofs.E
namespace Go.Proofs.YtoimhmphhffelaaGreatDoor
open Go Go.RowKit Go.Proofs.E
attribute [local irreducible] Go.wpList Go.Code.wp Go.Proofs.E.exec Go.Proofs.E.wpLexG
theorem ts_cmp (x y : TsV) : CmpFs Tryz.prog 9999 (eTs.f x) (eTs.f y) (Tryz.prog.fieldsOf 120).toList (decide (x = y)) := by
  obtain ⟨a, b, c⟩ := x
  obtain ⟨d, e, f⟩ := y
  have h : decide ((a, b, c) = (d, e, f)) = ((a == d) && ((b == e) && ((bst c == bst f) && true))) := by
    rw [bst_beq, Bool.and_true, Bool.eq_iff_iff]
    simp
  rw [h]
  simp only [Program.fieldsOf, Tryz.underlying120]
  exact .cons (by decide) (cmp_int (t := 3)) rfl rfl (.cons (by decide) (cmp_int (t := 3)) rfl rfl (.cons (by decide) (cmp_str (t := 9)) rfl rfl .nil))
theorem rts_cmp (x y : TsV) : CmpFs Tryz.prog 9999 (eTs.f x) (eTs.f y) (Tryz.prog.fieldsOf 118).toList (decide (x = y)) := by
  obtain ⟨a, b, c⟩ := x
  obtain ⟨d, e, f⟩ := y
  have h : decide ((a, b, c) = (d, e, f)) = ((a == d) && ((b == e) && ((bst c == bst f) && true))) := by
    rw [bst_beq, Bool.and_true, Bool.eq_iff_iff]
    simp
  rw [h]
  simp only [Program.fieldsOf, Tryz.underlying118]
  exact .cons (by decide) (cmp_int (t := 3)) rfl rfl (.cons (by decide) (cmp_int (t := 3)) rfl rfl (.cons (by decide) (cmp_str (t := 9)) rfl rfl .nil))
def SameQ (p q : QryV) : Prop := p.at_ = q.at_ ∧ p.fr = q.fr ∧ p.to_ = q.to_ ∧ p.back = q.back ∧ p.skip = q.skip ∧ p.lim = q.lim ∧ p.cnt = q.cnt ∧ p.ts = q.ts
instance (p q : QryV) : Decidable (SameQ p q) := by unfold SameQ; infer_instance
def sameQ (p q : QryV) : Bool := decide (SameQ p q)
theorem sameQ_no {p q : QryV} (h : ¬ SameQ p q) : sameQ p q = false := decide_eq_false h
theorem sameQ_yes {p q : QryV} (h : SameQ p q) : sameQ p q = true := decide_eq_true h
set_option maxHeartbeats 8000000 in
theorem equalT_any (va vb : Value) (xs ys : List TsV) (w0 : World) (hX : (Ty.enc eTs).Rd [] w0 va xs) (hY : (Ty.enc eTs).Rd [] w0 vb ys) :
    Calls Tryz.prog 97 #[va, vb] w0 (Ret fun u w' => u = .bool (decide (xs = ys)) ∧ Ch [] w0 w') := by
  have hM := Mem.start w0
  obtain ⟨A, c, rfl⟩ := hX.form
  obtain ⟨A2, c2, rfl⟩ := hY.form
  have hl1 := hX.1
  have hl2 := hY.1
  refine enter [.slice A xs.length c, .slice A2 ys.length c2, undef, undef, undef, undef, undef, undef, undef, undef, undef, undef, undef, undef, undef, undef, undef, undef, undef, undef, undef, undef, undef, undef, undef, undef] Tryz.func97 rfl rfl ?_
  repeat (first | refine gs ?_ | (refine ks ?_; intro w hM))
  refine c_cond rfl (fun q1 => ?_) (fun q1 => ?_)
  · repeat (first | refine gs ?_ | (refine ks ?_; intro w hM))
    refine out1 rfl ⟨congrArg Value.bool (decide_eq_false (fun h => q1 (by rw [h]))).symm, hM.ch⟩
  have hl : xs.length = ys.length := by omega
  repeat (first | refine gs ?_ | (refine ks ?_; intro w hM))
  
  refine c_loop (fun n l w => ∃ (j : Nat), (∃ jj : Nat → Value, l = [.slice A xs.length c, .slice A2 ys.length c2, jj 2, jj 3, .bool false, jj 5, jj 6, jj 7, jj 8, jj 9, jj 10, jj 11, .int .i64 (xs.length : Int), .int .i64 (j : Int), jj 14, jj 15, jj 16, jj 17, jj 18, jj 19, jj 20, jj 21, jj 22, jj 23, jj 24, jj 25]) ∧ n + j = xs.length ∧ Mem [] w0 w [] ∧ xs.take j = ys.take j) xs.length
    ⟨0, exj rfl, rfl, hM, rfl⟩ ?_
  clear hM
  rintro n l w ⟨j, ⟨jj, rfl⟩, hnj, hM, hf⟩
  repeat (first | refine gs ?_ | (refine ks ?_; intro w hM))
  refine c_cond rfl (fun hj => ?_) (fun hj => ?_)
  · repeat (first | refine gs ?_ | (refine ks ?_; intro w hM))
    refine kdr hM (by kernel_rfl) (by kernel_rfl) (fun w hM => ?_)
    repeat (first | ((with_reducible apply is_ldg); first | refine kldg hM ?_ | refine kldwg hM ?_) | ((with_reducible apply is_sg); (first | refine ssg ?_ | refine sgu ?_)) | ((with_reducible apply is_gg); first | refine gtg ?_ | refine gfg ?_ | refine gug ?_) | ((with_reducible apply is_eg); refine eg ?_))
    refine kixg hX (fun o1 o2 x hx hA => ?_)
    refine katrg hM hA ?_
    repeat (first | ((with_reducible apply is_ldg); first | refine kldg hM ?_ | refine kldwg hM ?_) | ((with_reducible apply is_sg); (first | refine ssg ?_ | refine sgu ?_)) | ((with_reducible apply is_gg); first | refine gtg ?_ | refine gfg ?_ | refine gug ?_) | ((with_reducible apply is_eg); refine eg ?_))
    refine kixg hY (fun o3 o4 y hy hA' => ?_)
    refine katrg hM hA' ?_
    rw [Int.toNat_natCast] at hx hy
    (try ((with_reducible apply is_gg); first | refine gtg ?_ | refine gfg ?_ | refine gug ?_)); refine wg_val (fun _ _ => r_neqS (by kernel_rfl) (by kernel_rfl) (by kernel_rfl) rfl rfl (ts_cmp x y)) ?_
    repeat (first | ((with_reducible apply is_ldg); first | refine kldg hM ?_ | refine kldwg hM ?_) | ((with_reducible apply is_sg); (first | refine ssg ?_ | refine sgu ?_)) | ((with_reducible apply is_gg); first | refine gtg ?_ | refine gfg ?_ | refine gug ?_) | ((with_reducible apply is_eg); refine eg ?_))
    (intro w hc; have hM := hM.call hc)
    repeat (first | refine gs ?_ | (refine ks ?_; intro w hM))
    by_cases hxy : x = y
    · rw [decide_eq_true hxy]
      refine c_condb rfl (fun h => by cases h) (fun _ => ?_)
      repeat (first | refine gs ?_ | (refine ks ?_; intro w hM))
      exact x_goes (n - 1) rfl (by omega) ⟨j + 1, exj rfl, by omega, hM.sub (by (repeat constructor)), tk_step hx hy hf hxy⟩
    · rw [decide_eq_false hxy]
      refine c_condb rfl (fun _ => ?_) (fun h => by cases h)
      repeat (first | refine gs ?_ | (refine ks ?_; intro w hM))
      exact out1 rfl ⟨congrArg Value.bool (decide_eq_false (fun h => hxy (by rw [h, hy] at hx; injection hx with hx; exact hx.symm))).symm, hM.ch⟩
  · repeat (first | refine gs ?_ | (refine ks ?_; intro w hM))
    exact out1 rfl ⟨congrArg Value.bool (decide_eq_true (tk_iff hl (by omega) hf)).symm, hM.ch⟩
set_option maxHeartbeats 16000000 in
theorem same34_any (p q : QryV) (va vb : Value) (w0 : World) (hX : (Ty.enc eTs).Rd [] w0 va p.ts) (hY : (Ty.enc eTs).Rd [] w0 vb q.ts) : Calls Tryz.prog 28 #[.agg (qV p va).toArray, .agg (qV q vb).toArray] w0 (Ret fun u w' => u = .bool (sameQ p q) ∧ Ch [] w0 w') := by
  have hM := Mem.start w0
  obtain ⟨A, c, rfl⟩ := hX.form
  obtain ⟨A2, c2, rfl⟩ := hY.form
  have hl1 := hX.1
  have hl2 := hY.1
  refine enter [.agg (qV p (.slice A p.ts.length c)).toArray, .agg (qV q (.slice A2 q.ts.length c2)).toArray, undef, undef, undef, undef, undef, undef, undef, undef, undef, undef, undef, undef, undef, undef, undef, undef, undef, undef, undef, undef, undef, undef, undef, undef, undef, undef, undef, undef, undef, undef, undef, undef, undef, undef, undef, undef, undef, undef, undef, undef, undef, undef, undef, undef, undef, undef, undef, undef, undef, undef, undef, undef, undef, undef, undef, undef, undef, undef, undef, undef, undef, undef, undef] Tryz.func28 rfl rfl ?_
  repeat (first | refine gs ?_ | (refine ks ?_; intro w hM))
  refine kbx hM (fun w b1 hM => ?_)
  have hM : Mem [] w0 w [.cell b1 (qV p (.slice A p.ts.length c)) 46] := hM
  refine kbx hM (fun w b2 hM => ?_)
  have hM : Mem [] w0 w [.cell b2 (qV q (.slice A2 q.ts.length c2)) 46, .cell b1 (qV p (.slice A p.ts.length c)) 46] := hM
  repeat (first | refine gs ?_ | (refine ks ?_; intro w hM))
  refine kdr hM (by kernel_rfl) (by kernel_rfl) (fun w hM => ?_)
  repeat (first | ((with_reducible apply is_ldg); first | refine kldg hM ?_ | refine kldwg hM ?_) | ((with_reducible apply is_sg); (first | refine ssg ?_ | refine sgu ?_)) | ((with_reducible apply is_gg); first | refine gtg ?_ | refine gfg ?_ | refine gug ?_) | ((with_reducible apply is_eg); refine eg ?_))
  (intro w hc; have hM := hM.call hc)
  repeat (first | refine gs ?_ | (refine ks ?_; intro w hM))
  by_cases h0 : p.at_ = q.at_
  rotate_left
  · rw [decide_eq_false h0]
    repeat (first | refine gs ?_ | (refine ks ?_; intro w hM))
    exact out1 rfl ⟨by rw [sameQ_no (fun h => h0 (by unfold SameQ at h; obtain ⟨g0, g1, g2, g3, g4, g5, g6, g7⟩ := h; assumption))]; rfl, hM.ch⟩
  rw [decide_eq_true h0]
  repeat (first | refine gs ?_ | (refine ks ?_; intro w hM))
  by_cases h1 : p.fr = q.fr
  rotate_left
  · rw [decide_eq_false h1]
    repeat (first | refine gs ?_ | (refine ks ?_; intro w hM))
    exact out1 rfl ⟨by rw [sameQ_no (fun h => h1 (by unfold SameQ at h; obtain ⟨g0, g1, g2, g3, g4, g5, g6, g7⟩ := h; assumption))]; rfl, hM.ch⟩
  rw [decide_eq_true h1]
  repeat (first | refine gs ?_ | (refine ks ?_; intro w hM))
  by_cases h2 : p.to_ = q.to_
  rotate_left
  · rw [decide_eq_false h2]
    repeat (first | refine gs ?_ | (refine ks ?_; intro w hM))
    exact out1 rfl ⟨by rw [sameQ_no (fun h => h2 (by unfold SameQ at h; obtain ⟨g0, g1, g2, g3, g4, g5, g6, g7⟩ := h; assumption))]; rfl, hM.ch⟩
  rw [decide_eq_true h2]
  repeat (first | refine gs ?_ | (refine ks ?_; intro w hM))
  (try ((with_reducible apply is_gd); first | refine gt ?_ | refine gf ?_ | refine gu ?_)); refine wl_val (r_eqbd (a := p.back) (b := q.back) rfl rfl) ?_
  repeat (first | refine gs ?_ | (refine ks ?_; intro w hM))
  by_cases h3 : p.back = q.back
  rotate_left
  · rw [decide_eq_false h3]
    repeat (first | refine gs ?_ | (refine ks ?_; intro w hM))
    exact out1 rfl ⟨by rw [sameQ_no (fun h => h3 (by unfold SameQ at h; obtain ⟨g0, g1, g2, g3, g4, g5, g6, g7⟩ := h; assumption))]; rfl, hM.ch⟩
  rw [decide_eq_true h3]
  repeat (first | refine gs ?_ | (refine ks ?_; intro w hM))
  by_cases h4 : p.skip = q.skip
  rotate_left
  · rw [decide_eq_false h4]
    repeat (first | refine gs ?_ | (refine ks ?_; intro w hM))
    exact out1 rfl ⟨by rw [sameQ_no (fun h => h4 (by unfold SameQ at h; obtain ⟨g0, g1, g2, g3, g4, g5, g6, g7⟩ := h; assumption))]; rfl, hM.ch⟩
  rw [decide_eq_true h4]
  repeat (first | refine gs ?_ | (refine ks ?_; intro w hM))
  by_cases h5 : p.lim = q.lim
  rotate_left
  · rw [decide_eq_false h5]
    repeat (first | refine gs ?_ | (refine ks ?_; intro w hM))
    exact out1 rfl ⟨by rw [sameQ_no (fun h => h5 (by unfold SameQ at h; obtain ⟨g0, g1, g2, g3, g4, g5, g6, g7⟩ := h; assumption))]; rfl, hM.ch⟩
  rw [decide_eq_true h5]
  repeat (first | refine gs ?_ | (refine ks ?_; intro w hM))
  (try ((with_reducible apply is_gd); first | refine gt ?_ | refine gf ?_ | refine gu ?_)); refine wl_val (r_eqbd (a := p.cnt) (b := q.cnt) rfl rfl) ?_
  repeat (first | refine gs ?_ | (refine ks ?_; intro w hM))
  by_cases h6 : p.cnt = q.cnt
  rotate_left
  · rw [decide_eq_false h6]
    repeat (first | refine gs ?_ | (refine ks ?_; intro w hM))
    exact out1 rfl ⟨by rw [sameQ_no (fun h => h6 (by unfold SameQ at h; obtain ⟨g0, g1, g2, g3, g4, g5, g6, g7⟩ := h; assumption))]; rfl, hM.ch⟩
  rw [decide_eq_true h6]
  repeat (first | refine gs ?_ | (refine ks ?_; intro w hM))
  refine kca hM (equalT_any _ _ p.ts q.ts w (hX.ch hM.ch) (hY.ch hM.ch)) (fun w hM => ?_)
  repeat (first | refine gs ?_ | (refine ks ?_; intro w hM))
  refine out1 rfl ⟨congrArg Value.bool ?_, hM.ch⟩
  by_cases h7 : p.ts = q.ts
  · rw [decide_eq_true h7, sameQ_yes ⟨h0, h1, h2, h3, h4, h5, h6, h7⟩]
  · rw [decide_eq_false h7, sameQ_no (fun h => by unfold SameQ at h; exact h7 h.2.2.2.2.2.2.2)]
set_option maxHeartbeats 16000000 in
theorem rsame34_any (p q : QryV) (va vb : Value) (w0 : World) (hX : (Ty.enc eTs).Rd [] w0 va p.ts) (hY : (Ty.enc eTs).Rd [] w0 vb q.ts) : Calls Tryz.prog 18 #[.agg (qV p va).toArray, .agg (qV q vb).toArray] w0 (Ret fun u w' => u = .bool (sameQ p q) ∧ Ch [] w0 w') := by
  have hM := Mem.start w0
  obtain ⟨A, c, rfl⟩ := hX.form
  obtain ⟨A2, c2, rfl⟩ := hY.form
  have hl1 := hX.1
  have hl2 := hY.1
  refine enter [.agg (qV p (.slice A p.ts.length c)).toArray, .agg (qV q (.slice A2 q.ts.length c2)).toArray, undef, undef, undef, undef, undef, undef, undef, undef, undef, undef, undef, undef, undef, undef, undef, undef, undef, undef, undef, undef, undef, undef, undef, undef, undef, undef, undef, undef, undef, undef, undef, undef, undef, undef, undef, undef, undef, undef, undef, undef, undef, undef, undef, undef, undef, undef, undef, undef, undef, undef, undef, undef, undef, undef, undef, undef, undef, undef, undef, undef, undef, undef, undef, undef, undef, undef, undef, undef, undef, undef, undef, undef, undef, undef, undef, undef, undef, undef] Tryz.func18 rfl rfl ?_
  repeat (first | refine gs ?_ | (refine ks ?_; intro w hM))
  refine kbx hM (fun w b1 hM => ?_)
  have hM : Mem [] w0 w [.cell b1 (qV p (.slice A p.ts.length c)) 51] := hM
  refine kbx hM (fun w b2 hM => ?_)
  have hM : Mem [] w0 w [.cell b2 (qV q (.slice A2 q.ts.length c2)) 51, .cell b1 (qV p (.slice A p.ts.length c)) 51] := hM
  repeat (first | refine gs ?_ | (refine ks ?_; intro w hM))
  by_cases h0 : p.at_ = q.at_
  rotate_left
  · rw [decide_eq_true (show ¬ p.at_ = q.at_ from h0)]
    repeat (first | refine gs ?_ | (refine ks ?_; intro w hM))
    refine c_condb rfl (fun _ => ?_) (fun h => by cases h)
    repeat (first | refine gs ?_ | (refine ks ?_; intro w hM))
    exact out1 rfl ⟨by rw [sameQ_no (fun h => h0 (by unfold SameQ at h; obtain ⟨g0, g1, g2, g3, g4, g5, g6, g7⟩ := h; assumption))]; rfl, hM.ch⟩
  rw [decide_eq_false (show ¬ ¬ p.at_ = q.at_ from fun h => h h0)]
  repeat (first | refine gs ?_ | (refine ks ?_; intro w hM))
  by_cases h1 : p.fr = q.fr
  rotate_left
  · rw [decide_eq_false h1, Bool.not_false]
    repeat (first | refine gs ?_ | (refine ks ?_; intro w hM))
    refine c_condb rfl (fun _ => ?_) (fun h => by cases h)
    repeat (first | refine gs ?_ | (refine ks ?_; intro w hM))
    exact out1 rfl ⟨by rw [sameQ_no (fun h => h1 (by unfold SameQ at h; obtain ⟨g0, g1, g2, g3, g4, g5, g6, g7⟩ := h; assumption))]; rfl, hM.ch⟩
  rw [decide_eq_true h1, Bool.not_true]
  repeat (first | refine gs ?_ | (refine ks ?_; intro w hM))
  by_cases h2 : p.to_ = q.to_
  rotate_left
  · rw [decide_eq_false h2, Bool.not_false]
    repeat (first | refine gs ?_ | (refine ks ?_; intro w hM))
    refine c_condb rfl (fun _ => ?_) (fun h => by cases h)
    repeat (first | refine gs ?_ | (refine ks ?_; intro w hM))
    exact out1 rfl ⟨by rw [sameQ_no (fun h => h2 (by unfold SameQ at h; obtain ⟨g0, g1, g2, g3, g4, g5, g6, g7⟩ := h; assumption))]; rfl, hM.ch⟩
  rw [decide_eq_true h2, Bool.not_true]
  repeat (first | refine gs ?_ | (refine ks ?_; intro w hM))
  (try ((with_reducible apply is_gd); first | refine gt ?_ | refine gf ?_ | refine gu ?_)); refine wl_val (r_neqbb (a := p.back) (b := q.back) rfl rfl) ?_
  repeat (first | refine gs ?_ | (refine ks ?_; intro w hM))
  by_cases h3 : p.back = q.back
  rotate_left
  · rw [decide_eq_true (show ¬ p.back = q.back from h3)]
    repeat (first | refine gs ?_ | (refine ks ?_; intro w hM))
    refine c_condb rfl (fun _ => ?_) (fun h => by cases h)
    repeat (first | refine gs ?_ | (refine ks ?_; intro w hM))
    exact out1 rfl ⟨by rw [sameQ_no (fun h => h3 (by unfold SameQ at h; obtain ⟨g0, g1, g2, g3, g4, g5, g6, g7⟩ := h; assumption))]; rfl, hM.ch⟩
  rw [decide_eq_false (show ¬ ¬ p.back = q.back from fun h => h h3)]
  repeat (first | refine gs ?_ | (refine ks ?_; intro w hM))
  by_cases h4 : p.skip = q.skip
  rotate_left
  · rw [decide_eq_true (show ¬ p.skip = q.skip from h4)]
    repeat (first | refine gs ?_ | (refine ks ?_; intro w hM))
    refine c_condb rfl (fun _ => ?_) (fun h => by cases h)
    repeat (first | refine gs ?_ | (refine ks ?_; intro w hM))
    exact out1 rfl ⟨by rw [sameQ_no (fun h => h4 (by unfold SameQ at h; obtain ⟨g0, g1, g2, g3, g4, g5, g6, g7⟩ := h; assumption))]; rfl, hM.ch⟩
  rw [decide_eq_false (show ¬ ¬ p.skip = q.skip from fun h => h h4)]
  repeat (first | refine gs ?_ | (refine ks ?_; intro w hM))
  by_cases h5 : p.lim = q.lim
  rotate_left
  · rw [decide_eq_true (show ¬ p.lim = q.lim from h5)]
    repeat (first | refine gs ?_ | (refine ks ?_; intro w hM))
    refine c_condb rfl (fun _ => ?_) (fun h => by cases h)
    repeat (first | refine gs ?_ | (refine ks ?_; intro w hM))
    exact out1 rfl ⟨by rw [sameQ_no (fun h => h5 (by unfold SameQ at h; obtain ⟨g0, g1, g2, g3, g4, g5, g6, g7⟩ := h; assumption))]; rfl, hM.ch⟩
  rw [decide_eq_false (show ¬ ¬ p.lim = q.lim from fun h => h h5)]
  repeat (first | refine gs ?_ | (refine ks ?_; intro w hM))
  (try ((with_reducible apply is_gd); first | refine gt ?_ | refine gf ?_ | refine gu ?_)); refine wl_val (r_neqbb (a := p.cnt) (b := q.cnt) rfl rfl) ?_
  repeat (first | refine gs ?_ | (refine ks ?_; intro w hM))
  by_cases h6 : p.cnt = q.cnt
  rotate_left
  · rw [decide_eq_true (show ¬ p.cnt = q.cnt from h6)]
    repeat (first | refine gs ?_ | (refine ks ?_; intro w hM))
    refine c_condb rfl (fun _ => ?_) (fun h => by cases h)
    repeat (first | refine gs ?_ | (refine ks ?_; intro w hM))
    exact out1 rfl ⟨by rw [sameQ_no (fun h => h6 (by unfold SameQ at h; obtain ⟨g0, g1, g2, g3, g4, g5, g6, g7⟩ := h; assumption))]; rfl, hM.ch⟩
  rw [decide_eq_false (show ¬ ¬ p.cnt = q.cnt from fun h => h h6)]
  repeat (first | refine gs ?_ | (refine ks ?_; intro w hM))
  by_cases hl : p.ts.length = q.ts.length
  rotate_left
  · rw [decide_eq_true (show ¬ (p.ts.length : Int) = (q.ts.length : Int) by omega)]
    refine c_condb rfl (fun _ => ?_) (fun h => by cases h)
    repeat (first | refine gs ?_ | (refine ks ?_; intro w hM))
    exact out1 rfl ⟨by rw [sameQ_no (fun h => hl (by unfold SameQ at h; rw [h.2.2.2.2.2.2.2]))]; rfl, hM.ch⟩
  rw [decide_eq_false (show ¬ ¬ (p.ts.length : Int) = (q.ts.length : Int) by omega)]
  refine c_condb rfl (fun h => by cases h) (fun _ => ?_)
  repeat (first | refine gs ?_ | (refine ks ?_; intro w hM))
  
  refine c_loop (fun n l w => ∃ (j : Nat), (∃ jj : Nat → Value, l = [jj 0, jj 1, .pointer (some ⟨b1, 0, none⟩), .pointer (some ⟨b2, 0, none⟩), jj 4, jj 5, jj 6, jj 7, jj 8, jj 9, jj 10, jj 11, jj 12, jj 13, jj 14, jj 15, jj 16, jj 17, jj 18, jj 19, jj 20, jj 21, jj 22, jj 23, jj 24, jj 25, jj 26, jj 27, jj 28, jj 29, jj 30, jj 31, jj 32, jj 33, jj 34, jj 35, jj 36, jj 37, jj 38, jj 39, jj 40, jj 41, jj 42, jj 43, jj 44, jj 45, jj 46, jj 47, jj 48, jj 49, jj 50, jj 51, jj 52, jj 53, jj 54, jj 55, jj 56, jj 57, jj 58, jj 59, jj 60, jj 61, jj 62, jj 63, .int .i64 (p.ts.length : Int), .int .i64 (j : Int), jj 66, jj 67, jj 68, jj 69, jj 70, jj 71, jj 72, jj 73, jj 74, jj 75, jj 76, jj 77, jj 78, jj 79]) ∧ n + j = p.ts.length ∧ Mem [] w0 w [.cell b2 (qV q (.slice A2 q.ts.length c2)) 51, .cell b1 (qV p (.slice A p.ts.length c)) 51] ∧ p.ts.take j = q.ts.take j) p.ts.length
    ⟨0, exj rfl, rfl, hM, rfl⟩ ?_
  clear hM
  rintro n l w ⟨j, ⟨jj, rfl⟩, hnj, hM, hf⟩
  repeat (first | refine gs ?_ | (refine ks ?_; intro w hM))
  refine c_cond rfl (fun hj => ?_) (fun hj => ?_)
  · repeat (first | refine gs ?_ | (refine ks ?_; intro w hM))
    refine kdr hM (by kernel_rfl) (by kernel_rfl) (fun w hM => ?_)
    repeat (first | ((with_reducible apply is_ldg); first | refine kldg hM ?_ | refine kldwg hM ?_) | ((with_reducible apply is_sg); (first | refine ssg ?_ | refine sgu ?_)) | ((with_reducible apply is_gg); first | refine gtg ?_ | refine gfg ?_ | refine gug ?_) | ((with_reducible apply is_eg); refine eg ?_))
    refine kixg hX (fun o1 o2 x hx hA => ?_)
    refine katrg hM hA ?_
    repeat (first | ((with_reducible apply is_ldg); first | refine kldg hM ?_ | refine kldwg hM ?_) | ((with_reducible apply is_sg); (first | refine ssg ?_ | refine sgu ?_)) | ((with_reducible apply is_gg); first | refine gtg ?_ | refine gfg ?_ | refine gug ?_) | ((with_reducible apply is_eg); refine eg ?_))
    refine kixg hY (fun o3 o4 y hy hA' => ?_)
    refine katrg hM hA' ?_
    rw [Int.toNat_natCast] at hx hy
    (try ((with_reducible apply is_gg); first | refine gtg ?_ | refine gfg ?_ | refine gug ?_)); refine wg_val (fun _ _ => r_neqS (by kernel_rfl) (by kernel_rfl) (by kernel_rfl) rfl rfl (rts_cmp x y)) ?_
    repeat (first | ((with_reducible apply is_ldg); first | refine kldg hM ?_ | refine kldwg hM ?_) | ((with_reducible apply is_sg); (first | refine ssg ?_ | refine sgu ?_)) | ((with_reducible apply is_gg); first | refine gtg ?_ | refine gfg ?_ | refine gug ?_) | ((with_reducible apply is_eg); refine eg ?_))
    (intro w hc; have hM := hM.call hc)
    repeat (first | refine gs ?_ | (refine ks ?_; intro w hM))
    by_cases hxy : x = y
    · rw [decide_eq_true hxy]
      refine c_condb rfl (fun h => by cases h) (fun _ => ?_)
      repeat (first | refine gs ?_ | (refine ks ?_; intro w hM))
      exact x_goes (n - 1) rfl (by omega) ⟨j + 1, exj rfl, by omega, hM.sub (by (repeat (first | exact Go.Proofs.E.Sub.refl _ | exact Go.Proofs.E.Sub.nil | (apply Go.Proofs.E.Sub.cons; (repeat (first | exact Go.Proofs.E.Pick.here | apply Go.Proofs.E.Pick.there))) | apply Go.Proofs.E.Sub.tail))), tk_step hx hy hf hxy⟩
    · rw [decide_eq_false hxy]
      refine c_condb rfl (fun _ => ?_) (fun h => by cases h)
      repeat (first | refine gs ?_ | (refine ks ?_; intro w hM))
      exact out1 rfl ⟨by rw [sameQ_no (fun h => hxy (by unfold SameQ at h; rw [h.2.2.2.2.2.2.2, hy] at hx; injection hx with hx; exact hx.symm))]; rfl, hM.ch⟩
  · repeat (first | refine gs ?_ | (refine ks ?_; intro w hM))
    exact out1 rfl ⟨by rw [sameQ_yes ⟨h0, h1, h2, h3, h4, h5, h6, tk_iff hl (by omega) hf⟩]; rfl, hM.ch⟩
/-! ### Turned into the document's -/
set_option maxHeartbeats 16000000 in
theorem plain34_any (q : QryV) (va : Value) (w0 : World) (hX : (Ty.enc eTs).Rd [] w0 va q.ts) (hl0 : q.ts.length ≤ 100000) : Calls Tryz.prog 19 #[.agg (qV q va).toArray] w0 (Ret fun u w' => ∃ v', u = .agg (qV q v').toArray ∧ Mem [] w0 w' [.row eTs 118 v' q.ts]) := by
  have hM := Mem.start w0
  obtain ⟨A, c, rfl⟩ := hX.form
  refine enter [.agg (qV q (.slice A q.ts.length c)).toArray, undef, undef, undef, undef, undef, undef, undef, undef, undef, undef, undef, undef, undef, undef, undef, undef, undef, undef, undef, undef, undef, undef, undef, undef, undef, undef, undef, undef, undef, undef, undef, undef, undef, undef, undef] Tryz.func19 rfl rfl ?_
  repeat (first | refine gs ?_ | (refine ks ?_; intro w hM))
  refine kbx hM (fun w b1 hM => ?_)
  have hM : Mem [] w0 w [.cell b1 (qV q (.slice A q.ts.length c)) 46] := hM
  repeat (first | refine gs ?_ | (refine ks ?_; intro w hM))
  refine kal hM (fun w b2 hM => ?_)
  have hM : Mem [] w0 w [.cell b2 (quC 0 [] [] (.slice none 0 0) false 0 0 false) 51, .cell b1 (qV q (.slice A q.ts.length c)) 46] := hM
  repeat (first | refine gs ?_ | (refine ks ?_; intro w hM))
  (try ((with_reducible apply is_gd); first | refine gt ?_ | refine gf ?_ | refine gu ?_)); refine wl_val (r_bldS (vs := [(0, .int .i64 q.at_), (1, .string (bst q.fr)), (2, .string (bst q.to_)), (4, .bool q.back), (5, .int .i64 q.skip), (6, .int .i64 q.lim), (7, .bool q.cnt)]) (qV q (.slice none 0 0)) (z := quC 0 [] [] (.slice none 0 0) false 0 0 false) (place := (#[(0, 1), (1, 1), (2, 1), (3, 1), (4, 1), (5, 1), (6, 1), (7, 1)][·]?)) (by intro ps; kernel_rfl) rfl (.cons rfl rfl (Nat.le_of_ble_eq_true rfl) (.cons rfl rfl (Nat.le_of_ble_eq_true rfl) (.cons rfl rfl (Nat.le_of_ble_eq_true rfl) (.cons rfl rfl (Nat.le_of_ble_eq_true rfl) (.cons rfl rfl (Nat.le_of_ble_eq_true rfl) (.cons rfl rfl (Nat.le_of_ble_eq_true rfl) (.cons rfl rfl (Nat.le_of_ble_eq_true rfl) (.nil rfl))))))))) ?_
  repeat (first | refine gs ?_ | (refine ks ?_; intro w hM))
  refine kal hM (fun w b3 hM => ?_)
  have hM : Mem [] w0 w [.cell b3 (quC 0 [] [] (.slice none 0 0) false 0 0 false) 51, .cell b2 (quC 0 [] [] (.slice none 0 0) false 0 0 false) 51, .cell b1 (qV q (.slice A q.ts.length c)) 46] := hM
  repeat (first | refine gs ?_ | (refine ks ?_; intro w hM))
  have hM := hM.nilRow eTs 118
  
  refine c_loop (fun n l w => ∃ (j : Nat) (v' : Value), (∃ jj : Nat → Value, l = [jj 0, .pointer (some ⟨b1, 0, none⟩), .pointer (some ⟨b2, 0, none⟩), .pointer (some ⟨b3, 0, none⟩), jj 4, jj 5, jj 6, jj 7, jj 8, jj 9, jj 10, jj 11, jj 12, jj 13, jj 14, jj 15, jj 16, jj 17, jj 18, jj 19, jj 20, jj 21, .slice A q.ts.length c, .int .i64 (q.ts.length : Int), .int .i64 (j : Int), jj 25, jj 26, jj 27, jj 28, jj 29, jj 30, jj 31, jj 32, jj 33, jj 34, jj 35]) ∧ n + j = q.ts.length ∧ Mem [] w0 w [.row eTs 118 v' (q.ts.take j), .cell b3 (qV q v') 51, .cell b2 (quC 0 [] [] (.slice none 0 0) false 0 0 false) 51, .cell b1 (qV q (.slice A q.ts.length c)) 46]) q.ts.length
    ⟨0, _, exj rfl, rfl, hM⟩ ?_
  clear hM
  rintro n l w ⟨j, v', ⟨jj, rfl⟩, hnj, hM⟩
  repeat (first | refine gs ?_ | (refine ks ?_; intro w hM))
  refine c_cond rfl (fun hj => ?_) (fun hj => ?_)
  rotate_left
  · rw [List.take_of_length_le (by omega)] at hM
    obtain ⟨A7, c7, rfl, _⟩ := Own.form (hM.row0 (v := v') (by (repeat constructor)))
    repeat (first | refine gs ?_ | (refine ks ?_; intro w hM))
    exact koc hM rfl ⟨_, rfl, hM.sub (by (repeat (first | exact Go.Proofs.E.Sub.refl _ | exact Go.Proofs.E.Sub.nil | (apply Go.Proofs.E.Sub.cons; (repeat (first | exact Go.Proofs.E.Pick.here | apply Go.Proofs.E.Pick.there))) | apply Go.Proofs.E.Sub.tail)))⟩
  repeat (first | refine gs ?_ | (refine ks ?_; intro w hM))
  refine kix hX (fun b o t ht hA => ?_) (h1 := by omega)
  rw [Int.toNat_natCast] at ht
  repeat (first | refine gs ?_ | (refine ks ?_; intro w hM))
  refine katr hM hA ?_
  repeat (first | refine gs ?_ | (refine ks ?_; intro w hM))
  refine kal hM (fun w b5 hM => ?_)
  have hM : Mem [] w0 w [.cell b5 (tsC (0, 0, [])) 120, .row eTs 118 v' (q.ts.take j), .cell b3 (qV q v') 51, .cell b2 (quC 0 [] [] (.slice none 0 0) false 0 0 false) 51, .cell b1 (qV q (.slice A q.ts.length c)) 46] := hM
  repeat (first | refine gs ?_ | (refine ks ?_; intro w hM))
  have hlt : (q.ts.take j).length ≤ 100000 := by rw [List.length_take]; omega
  refine kpu t hM (fun u v2 w hM => ?_)
  have e : q.ts.take (j + 1) = q.ts.take j ++ [t] := by rw [List.take_add_one, ht]; rfl
  rw [← e] at hM
  obtain ⟨A7, c7, rfl, _⟩ := Own.form (hM.row0 (v := v2) (by (repeat constructor)))
  repeat (first | refine gs ?_ | (refine ks ?_; intro w hM))
  exact x_goes (n - 1) rfl (by omega) ⟨j + 1, _, exj rfl, by omega, hM.sub (by (repeat (first | exact Go.Proofs.E.Sub.refl _ | exact Go.Proofs.E.Sub.nil | (apply Go.Proofs.E.Sub.cons; (repeat (first | exact Go.Proofs.E.Pick.here | apply Go.Proofs.E.Pick.there))) | apply Go.Proofs.E.Sub.tail)))⟩
end Go.Proofs.YtoimhmphhffelaaGreatDoor
set_option linter.unusedVariables false
set_option linter.unusedSimpArgs false
namespace Go.Proofs.YtoimhmphhffelaaGreatDoor
open Go Go.RowKit Go.Proofs.E
attribute [local irreducible] Go.wpList Go.Code.wp Go.Proofs.E.exec Go.Proofs.E.wpLexG
/-! ### What is printed, piece by piece -/
abbrev jT (l : List (List UInt8)) : List UInt8 := Lib.joinTail [32] l
theorem jT_app (a b : List (List UInt8)) : jT (a ++ b) = jT a ++ jT b := by unfold jT Lib.joinTail; simp
theorem jT_one (a : List UInt8) : jT [a] = [32] ++ a := by unfold jT Lib.joinTail; simp
theorem jT_two (a b : List UInt8) : jT [a, b] = [32] ++ a ++ [32] ++ b := by unfold jT Lib.joinTail; simp
theorem jT_len2 (a b : List UInt8) : (jT [a, b]).length = a.length + b.length + 2 := by rw [jT_two]; simp; omega
theorem jT_len1 (a : List UInt8) : (jT [a]).length = a.length + 1 := by rw [jT_one]; simp
theorem app_jT0 (x : List UInt8) : x ++ jT [] = x := List.append_nil x
abbrev pAt (q : QryV) : List (List UInt8) := if 0 ≤ q.at_ then [wAt, Lib.itoa q.at_] else []
abbrev pFr (q : QryV) : List (List UInt8) := if q.fr ≠ [] then [wFrom, quoB q.fr] else []
abbrev pTo (q : QryV) : List (List UInt8) := if q.to_ ≠ [] then [wTo, quoB q.to_] else []
abbrev pBk (q : QryV) : List (List UInt8) := if q.back = true then [wBack] else []
abbrev pSk (q : QryV) : List (List UInt8) := if 0 < q.skip then [wSkip, Lib.itoa q.skip] else []
abbrev pLm (q : QryV) : List (List UInt8) := if 0 ≤ q.lim then [wLimit, Lib.itoa q.lim] else []
abbrev pHd (q : QryV) : List UInt8 := if q.cnt = true then wCount else wGet
theorem print_pieces {q : QryV} (h : rightQ q = true) : printQ q = pHd q ++ jT (pAt q) ++ jT (pFr q) ++ jT (pTo q) ++ jT (tsW wWhere q.ts) ++ jT (pBk q) ++ jT (pSk q) ++ jT (pLm q) := by
  unfold printQ
  rw [if_pos h]
  unfold prW
  rw [Lib.join_cons]
  show _ ++ jT _ = _
  rw [jT_app, jT_app, jT_app, jT_app, jT_app, jT_app]
  simp only [List.append_assoc]
theorem itoa_le {n : Int} (h0 : 0 ≤ n) (h1 : n ≤ 999999999) : (Lib.itoa n).length ≤ 9 := by
  rw [itoa_nat h0]
  exact digits_len 8 _ (by omega)
theorem tsW_snoc : ∀ (l : List TsV) (j : List UInt8) (t : TsV), tsW j (l ++ [t]) = tsW j l ++ [if l = [] then j else wAnd, fieldW t.1, opW t.2.1, quoB t.2.2]
  | [], j, t => rfl
  | a :: l, j, t => by
    show j :: fieldW a.1 :: opW a.2.1 :: quoB a.2.2 :: tsW wAnd (l ++ [t]) = _
    rw [tsW_snoc l wAnd t]
    show _ = j :: fieldW a.1 :: opW a.2.1 :: quoB a.2.2 :: (tsW wAnd l ++ _)
    rw [if_neg (List.cons_ne_nil a l)]
    split <;> rfl
theorem field_le (n : Int) : (fieldW n).length ≤ 5 := by
  unfold fieldW
  rcases Nat.lt_or_ge n.toNat 3 with h | h
  · have : ∀ k : Fin 3, (fieldsW.getD k.1 []).length ≤ 5 := by decide
    exact this ⟨_, h⟩
  · rw [List.getD_eq_getElem?_getD, List.getElem?_eq_none (show fieldsW.length ≤ n.toNat from h)]
    simp
theorem op_le (n : Int) : (opW n).length ≤ 6 := by
  unfold opW
  rcases Nat.lt_or_ge n.toNat 9 with h | h
  · have : ∀ k : Fin 9, (opsW.getD k.1 []).length ≤ 6 := by decide
    exact this ⟨_, h⟩
  · rw [List.getD_eq_getElem?_getD, List.getElem?_eq_none (show opsW.length ≤ n.toNat from h)]
    simp
theorem tsJ_le : ∀ (l : List TsV) (j : List UInt8), j.length ≤ 5 → (∀ t ∈ l, rightT t = true) → (jT (tsW j l)).length ≤ l.length * 1000
  | [], j, _, _ => by simp [tsW, Lib.joinTail]
  | t :: l, j, hj, h => by
    have ht := rightT_parts (h t (by simp))
    have h1 := field_le t.1
    have h2 := op_le t.2.1
    have h3 := quo_len t.2.2
    have ih := tsJ_le l wAnd (by decide) (fun x hx => h x (by simp [hx]))
    have e : jT (tsW j (t :: l)) = jT [j, fieldW t.1] ++ (jT [opW t.2.1, quoB t.2.2] ++ jT (tsW wAnd l)) := by rw [← jT_app, ← jT_app]; rfl
    rw [e, List.length_append, List.length_append, jT_len2, jT_len2, List.length_cons]
    omega
theorem rdigI_any (n : Int) (h0 : 0 ≤ n) (h1 : n ≤ 999999999) (w0 : World) : Calls Tryz.prog 94 #[.int .i64 n] w0 (Ret fun u w' => u = .string (bst (Lib.itoa n)) ∧ Ch [] w0 w') := by
  obtain ⟨N, rfl⟩ : ∃ N : Nat, n = (N : Int) := ⟨n.toNat, by omega⟩
  rw [itoa_nat h0, Int.toNat_natCast]
  exact rdigits_any N w0 (by omega)
/-- What a query that may be is bound by. -/
theorem right_len {q : QryV} (h : rightQ q = true) : okQ q ∧ (∀ t ∈ q.ts, rightT t = true) ∧ LenQ q := by
  have hok : okQ q := by
    unfold rightQ at h
    have h1 := (Bool.and_eq_true_iff.1 h).1
    rw [decide_eq_true_eq] at h1
    exact h1
  have hall : ∀ t ∈ q.ts, rightT t = true := by
    rw [rightQ_ok hok] at h
    exact fun t ht => List.all_eq_true.1 h t ht
  refine ⟨hok, hall, ?_⟩
  unfold okQ at hok
  refine ⟨by omega, by omega, fun t ht => ?_⟩
  have := (rightT_parts (hall t ht)).2.2
  omega
theorem print_le {q : QryV} : (printQ q).length ≤ 100000 := by
  by_cases h : rightQ q = true
  rotate_left
  · unfold printQ
    rw [if_neg h]
    simp
  obtain ⟨hok, hall, _⟩ := right_len h
  unfold okQ at hok
  have h1 : (jT (pAt q)).length ≤ 20 := by
    unfold pAt; split
    · have := itoa_le (n := q.at_) (by omega) (by omega)
      rw [jT_len2]; simp only [List.length_cons, List.length_nil]; omega
    · simp [Lib.joinTail]
  have h2 : (jT (pFr q)).length ≤ 800 := by
    unfold pFr; split
    · have := quo_len q.fr
      rw [jT_len2]; simp only [List.length_cons, List.length_nil]; omega
    · simp [Lib.joinTail]
  have h3 : (jT (pTo q)).length ≤ 800 := by
    unfold pTo; split
    · have := quo_len q.to_
      rw [jT_len2]; simp only [List.length_cons, List.length_nil]; omega
    · simp [Lib.joinTail]
  have h4 := tsJ_le q.ts wWhere (by decide) hall
  have h5 : (jT (pBk q)).length ≤ 20 := by
    unfold pBk; split
    · rw [jT_len1]; simp
    · simp [Lib.joinTail]
  have h6 : (jT (pSk q)).length ≤ 20 := by
    unfold pSk; split
    · have := itoa_le (n := q.skip) (by omega) (by omega)
      rw [jT_len2]; simp only [List.length_cons, List.length_nil]; omega
    · simp [Lib.joinTail]
  have h7 : (jT (pLm q)).length ≤ 20 := by
    unfold pLm; split
    · have := itoa_le (n := q.lim) (by omega) (by omega)
      rw [jT_len2]; simp only [List.length_cons, List.length_nil]; omega
    · simp [Lib.joinTail]
  have h0 : (pHd q).length ≤ 5 := by unfold pHd; split <;> decide
  rw [print_pieces h]
  simp only [List.length_append]
  omega
set_option maxHeartbeats 32000000 in
theorem rprint_any (q : QryV) (vt : Value) (w0 : World) (hR : (Ty.enc eTs).Rd [] w0 vt q.ts) (hq : LenQ q) : Calls Tryz.prog 27 #[.agg (qV q vt).toArray] w0 (Ret fun u w' => u = .string (bst (printQ q)) ∧ Ch [] w0 w') := by
  have hM := Mem.start w0
  obtain ⟨A, c, rfl⟩ := hR.form
  refine enter [.agg (qV q (.slice A q.ts.length c)).toArray, undef, undef, undef, undef, undef, undef, undef, undef, undef, undef, undef, undef, undef, undef, undef, undef, undef, undef, undef, undef, undef, undef, undef, undef, undef, undef, undef, undef, undef, undef, undef, undef, undef, undef, undef, undef, undef, undef, undef, undef, undef, undef, undef, undef, undef, undef, undef, undef, undef, undef, undef, undef, undef, undef, undef, undef, undef, undef, undef, undef, undef, undef, undef, undef, undef, undef, undef, undef, undef, undef, undef, undef, undef, undef, undef, undef, undef, undef, undef, undef, undef, undef, undef, undef, undef, undef, undef, undef, undef, undef, undef] Tryz.func27 rfl rfl ?_
  repeat (first | refine gs ?_ | (refine ks ?_; intro w hM))
  refine kbx hM (fun w b1 hM => ?_)
  have hM : Mem [] w0 w [.cell b1 (qV q (.slice A q.ts.length c)) 51] := hM
  repeat (first | refine gs ?_ | (refine ks ?_; intro w hM))
  refine kca hM (rright_any q _ w (hR.ch hM.ch) hq) (fun w hM => ?_)
  repeat (first | refine gs ?_ | (refine ks ?_; intro w hM))
  cases hr : rightQ q with
  | false =>
    refine c_condb rfl (fun _ => ?_) (fun h => by cases h)
    repeat (first | refine gs ?_ | (refine ks ?_; intro w hM))
    exact out1 rfl ⟨by unfold printQ; rw [if_neg (by rw [hr]; simp)]; rfl, hM.ch⟩
  | true =>
  obtain ⟨hok, hall, _⟩ := right_len hr
  unfold okQ at hok
  refine c_condb rfl (fun h => by cases h) (fun _ => ?_)
  repeat (first | refine gs ?_ | (refine ks ?_; intro w hM))
  
  refine c_cutJ (fun l w => (∃ jj : Nat → Value, l = [jj 0, .pointer (some ⟨b1, 0, none⟩), jj 2, .string (bst (pHd q)), jj 4, jj 5, jj 6, jj 7, jj 8, jj 9, jj 10, jj 11, jj 12, jj 13, jj 14, jj 15, jj 16, jj 17, jj 18, jj 19, jj 20, jj 21, jj 22, jj 23, jj 24, jj 25, jj 26, jj 27, jj 28, jj 29, jj 30, jj 31, jj 32, jj 33, jj 34, jj 35, jj 36, jj 37, jj 38, jj 39, jj 40, jj 41, jj 42, jj 43, jj 44, jj 45, jj 46, jj 47, jj 48, jj 49, jj 50, jj 51, jj 52, jj 53, jj 54, jj 55, jj 56, jj 57, jj 58, jj 59, jj 60, jj 61, jj 62, jj 63, jj 64, jj 65, jj 66, jj 67, jj 68, jj 69, jj 70, jj 71, jj 72, jj 73, jj 74, jj 75, jj 76, jj 77, jj 78, jj 79, jj 80, jj 81, jj 82, jj 83, jj 84, jj 85, jj 86, jj 87, jj 88, jj 89, jj 90, jj 91]) ∧ Mem [] w0 w [.cell b1 (qV q (.slice A q.ts.length c)) 51]) ?_ ?_
  · refine c_condb rfl (fun h => ?_) (fun h => ?_)
    · repeat (first | refine gs ?_ | (refine ks ?_; intro w hM))
      exact outJ ⟨exj (by unfold pHd; rw [if_pos h]; rfl), hM⟩
    · repeat (first | refine gs ?_ | (refine ks ?_; intro w hM))
      exact outJ ⟨exj (by unfold pHd; rw [if_neg (by rw [h]; simp)]; rfl), hM⟩
  clear hM
  rintro l w ⟨⟨jj, rfl⟩, hM⟩
  have hl0 : (pHd q).length ≤ 5 := by unfold pHd; split <;> decide
  obtain ⟨x0, hx0⟩ : ∃ x, x = pHd q := ⟨_, rfl⟩
  rw [← hx0] at hl0 ⊢
  repeat (first | refine gs ?_ | (refine ks ?_; intro w hM))
  
  refine c_cutJ (fun l w => (∃ jj : Nat → Value, l = [jj 0, .pointer (some ⟨b1, 0, none⟩), jj 2, .string (bst (x0 ++ jT (pAt q))), jj 4, jj 5, jj 6, jj 7, jj 8, jj 9, jj 10, jj 11, jj 12, jj 13, jj 14, jj 15, jj 16, jj 17, jj 18, jj 19, jj 20, jj 21, jj 22, jj 23, jj 24, jj 25, jj 26, jj 27, jj 28, jj 29, jj 30, jj 31, jj 32, jj 33, jj 34, jj 35, jj 36, jj 37, jj 38, jj 39, jj 40, jj 41, jj 42, jj 43, jj 44, jj 45, jj 46, jj 47, jj 48, jj 49, jj 50, jj 51, jj 52, jj 53, jj 54, jj 55, jj 56, jj 57, jj 58, jj 59, jj 60, jj 61, jj 62, jj 63, jj 64, jj 65, jj 66, jj 67, jj 68, jj 69, jj 70, jj 71, jj 72, jj 73, jj 74, jj 75, jj 76, jj 77, jj 78, jj 79, jj 80, jj 81, jj 82, jj 83, jj 84, jj 85, jj 86, jj 87, jj 88, jj 89, jj 90, jj 91]) ∧ Mem [] w0 w [.cell b1 (qV q (.slice A q.ts.length c)) 51]) ?_ ?_
  · refine c_cond rfl (fun h => ?_) (fun h => ?_)
    · have hle := itoa_le (n := q.at_) (by omega) (by omega)
      repeat (first | refine gs ?_ | (refine ks ?_; intro w hM))
      refine kca hM (rdigI_any q.at_ (by omega) (by omega) w) (fun w hM => ?_)
      repeat (first | refine gs ?_ | (refine ks ?_; intro w hM))
      (try ((with_reducible apply is_gd); first | refine gt ?_ | refine gf ?_ | refine gu ?_)); refine wl_val (r_addS (a := [32, 97, 116, 32]) (b := Lib.itoa q.at_) rfl rfl (by simp only [List.length_cons, List.length_nil, List.length_append]; omega)) ?_
      repeat (first | refine gs ?_ | (refine ks ?_; intro w hM))
      (try ((with_reducible apply is_gd); first | refine gt ?_ | refine gf ?_ | refine gu ?_)); refine wl_val (r_addS (a := x0) (b := [32, 97, 116, 32] ++ Lib.itoa q.at_) rfl rfl (by simp only [List.length_cons, List.length_nil, List.length_append]; omega)) ?_
      repeat (first | refine gs ?_ | (refine ks ?_; intro w hM))
      exact outJ ⟨exj (by unfold pAt; rw [if_pos (by omega), jT_two]; rfl), hM⟩
    · repeat (first | refine gs ?_ | (refine ks ?_; intro w hM))
      exact outJ ⟨exj (by unfold pAt; rw [if_neg (by omega), app_jT0]; rfl), hM⟩
  clear hM
  rintro l w ⟨⟨jj, rfl⟩, hM⟩
  have hl1 : (x0 ++ jT (pAt q)).length ≤ 1000 := by
    rw [List.length_append]
    have : (jT (pAt q)).length ≤ 800 := by
      unfold pAt; split
      · have := itoa_le (n := q.at_) (by omega) (by omega)
        rw [jT_len2]; simp only [List.length_cons, List.length_nil]; omega
      · simp [Lib.joinTail]
    omega
  obtain ⟨x1, hx1⟩ : ∃ x, x = x0 ++ jT (pAt q) := ⟨_, rfl⟩
  rw [← hx1] at hl1 ⊢
  repeat (first | refine gs ?_ | (refine ks ?_; intro w hM))
  
  refine c_cutJ (fun l w => (∃ jj : Nat → Value, l = [jj 0, .pointer (some ⟨b1, 0, none⟩), jj 2, .string (bst (x1 ++ jT (pFr q))), jj 4, jj 5, jj 6, jj 7, jj 8, jj 9, jj 10, jj 11, jj 12, jj 13, jj 14, jj 15, jj 16, jj 17, jj 18, jj 19, jj 20, jj 21, jj 22, jj 23, jj 24, jj 25, jj 26, jj 27, jj 28, jj 29, jj 30, jj 31, jj 32, jj 33, jj 34, jj 35, jj 36, jj 37, jj 38, jj 39, jj 40, jj 41, jj 42, jj 43, jj 44, jj 45, jj 46, jj 47, jj 48, jj 49, jj 50, jj 51, jj 52, jj 53, jj 54, jj 55, jj 56, jj 57, jj 58, jj 59, jj 60, jj 61, jj 62, jj 63, jj 64, jj 65, jj 66, jj 67, jj 68, jj 69, jj 70, jj 71, jj 72, jj 73, jj 74, jj 75, jj 76, jj 77, jj 78, jj 79, jj 80, jj 81, jj 82, jj 83, jj 84, jj 85, jj 86, jj 87, jj 88, jj 89, jj 90, jj 91]) ∧ Mem [] w0 w [.cell b1 (qV q (.slice A q.ts.length c)) 51]) ?_ ?_
  · by_cases h : q.fr = []
    rotate_left
    · rw [decide_eq_false h, Bool.not_false]
      refine c_condb rfl (fun _ => ?_) (fun h => by cases h)
      have hle := quo_len q.fr
      repeat (first | refine gs ?_ | (refine ks ?_; intro w hM))
      refine kca hM (rquote_any q.fr w (by omega)) (fun w hM => ?_)
      repeat (first | refine gs ?_ | (refine ks ?_; intro w hM))
      (try ((with_reducible apply is_gd); first | refine gt ?_ | refine gf ?_ | refine gu ?_)); refine wl_val (r_addS (a := [32, 102, 114, 111, 109, 32]) (b := quoB q.fr) rfl rfl (by simp only [List.length_cons, List.length_nil, List.length_append]; omega)) ?_
      repeat (first | refine gs ?_ | (refine ks ?_; intro w hM))
      (try ((with_reducible apply is_gd); first | refine gt ?_ | refine gf ?_ | refine gu ?_)); refine wl_val (r_addS (a := x1) (b := [32, 102, 114, 111, 109, 32] ++ quoB q.fr) rfl rfl (by simp only [List.length_cons, List.length_nil, List.length_append]; omega)) ?_
      repeat (first | refine gs ?_ | (refine ks ?_; intro w hM))
      exact outJ ⟨exj (by unfold pFr; rw [if_pos (by exact h), jT_two]; rfl), hM⟩
    · rw [decide_eq_true h, Bool.not_true]
      refine c_condb rfl (fun h => by cases h) (fun _ => ?_)
      repeat (first | refine gs ?_ | (refine ks ?_; intro w hM))
      exact outJ ⟨exj (by unfold pFr; rw [if_neg (fun g => g h), app_jT0]; rfl), hM⟩
  clear hM
  rintro l w ⟨⟨jj, rfl⟩, hM⟩
  have hl2 : (x1 ++ jT (pFr q)).length ≤ 2000 := by
    rw [List.length_append]
    have : (jT (pFr q)).length ≤ 800 := by
      unfold pFr; split
      · have := quo_len q.fr
        rw [jT_len2]; simp only [List.length_cons, List.length_nil]; omega
      · simp [Lib.joinTail]
    omega
  obtain ⟨x2, hx2⟩ : ∃ x, x = x1 ++ jT (pFr q) := ⟨_, rfl⟩
  rw [← hx2] at hl2 ⊢
  repeat (first | refine gs ?_ | (refine ks ?_; intro w hM))
  
  refine c_cutJ (fun l w => (∃ jj : Nat → Value, l = [jj 0, .pointer (some ⟨b1, 0, none⟩), jj 2, .string (bst (x2 ++ jT (pTo q))), jj 4, jj 5, jj 6, jj 7, jj 8, jj 9, jj 10, jj 11, jj 12, jj 13, jj 14, jj 15, jj 16, jj 17, jj 18, jj 19, jj 20, jj 21, jj 22, jj 23, jj 24, jj 25, jj 26, jj 27, jj 28, jj 29, jj 30, jj 31, jj 32, jj 33, jj 34, jj 35, jj 36, jj 37, jj 38, jj 39, jj 40, jj 41, jj 42, jj 43, jj 44, jj 45, jj 46, jj 47, jj 48, jj 49, jj 50, jj 51, jj 52, jj 53, jj 54, jj 55, jj 56, jj 57, jj 58, jj 59, jj 60, jj 61, jj 62, jj 63, jj 64, jj 65, jj 66, jj 67, jj 68, jj 69, jj 70, jj 71, jj 72, jj 73, jj 74, jj 75, jj 76, jj 77, jj 78, jj 79, jj 80, jj 81, jj 82, jj 83, jj 84, jj 85, jj 86, jj 87, jj 88, jj 89, jj 90, jj 91]) ∧ Mem [] w0 w [.cell b1 (qV q (.slice A q.ts.length c)) 51]) ?_ ?_
  · by_cases h : q.to_ = []
    rotate_left
    · rw [decide_eq_false h, Bool.not_false]
      refine c_condb rfl (fun _ => ?_) (fun h => by cases h)
      have hle := quo_len q.to_
      repeat (first | refine gs ?_ | (refine ks ?_; intro w hM))
      refine kca hM (rquote_any q.to_ w (by omega)) (fun w hM => ?_)
      repeat (first | refine gs ?_ | (refine ks ?_; intro w hM))
      (try ((with_reducible apply is_gd); first | refine gt ?_ | refine gf ?_ | refine gu ?_)); refine wl_val (r_addS (a := [32, 116, 111, 32]) (b := quoB q.to_) rfl rfl (by simp only [List.length_cons, List.length_nil, List.length_append]; omega)) ?_
      repeat (first | refine gs ?_ | (refine ks ?_; intro w hM))
      (try ((with_reducible apply is_gd); first | refine gt ?_ | refine gf ?_ | refine gu ?_)); refine wl_val (r_addS (a := x2) (b := [32, 116, 111, 32] ++ quoB q.to_) rfl rfl (by simp only [List.length_cons, List.length_nil, List.length_append]; omega)) ?_
      repeat (first | refine gs ?_ | (refine ks ?_; intro w hM))
      exact outJ ⟨exj (by unfold pTo; rw [if_pos (by exact h), jT_two]; rfl), hM⟩
    · rw [decide_eq_true h, Bool.not_true]
      refine c_condb rfl (fun h => by cases h) (fun _ => ?_)
      repeat (first | refine gs ?_ | (refine ks ?_; intro w hM))
      exact outJ ⟨exj (by unfold pTo; rw [if_neg (fun g => g h), app_jT0]; rfl), hM⟩
  clear hM
  rintro l w ⟨⟨jj, rfl⟩, hM⟩
  have hl3 : (x2 ++ jT (pTo q)).length ≤ 3000 := by
    rw [List.length_append]
    have : (jT (pTo q)).length ≤ 800 := by
      unfold pTo; split
      · have := quo_len q.to_
        rw [jT_len2]; simp only [List.length_cons, List.length_nil]; omega
      · simp [Lib.joinTail]
    omega
  obtain ⟨x3, hx3⟩ : ∃ x, x = x2 ++ jT (pTo q) := ⟨_, rfl⟩
  rw [← hx3] at hl3 ⊢
  repeat (first | refine gs ?_ | (refine ks ?_; intro w hM))
  
  refine c_loop (fun n l w => ∃ (i : Nat), (∃ jj : Nat → Value, l = [jj 0, .pointer (some ⟨b1, 0, none⟩), jj 2, .string (bst (x3 ++ jT (tsW wWhere (q.ts.take i)))), jj 4, jj 5, jj 6, jj 7, jj 8, jj 9, jj 10, jj 11, jj 12, jj 13, jj 14, jj 15, jj 16, jj 17, jj 18, jj 19, jj 20, jj 21, jj 22, jj 23, jj 24, jj 25, jj 26, jj 27, jj 28, jj 29, jj 30, jj 31, jj 32, jj 33, jj 34, jj 35, jj 36, jj 37, jj 38, .slice A q.ts.length c, .int .i64 (q.ts.length : Int), .int .i64 (i : Int), jj 42, jj 43, jj 44, jj 45, jj 46, jj 47, jj 48, jj 49, jj 50, jj 51, jj 52, jj 53, jj 54, jj 55, jj 56, jj 57, jj 58, jj 59, jj 60, jj 61, jj 62, jj 63, jj 64, jj 65, jj 66, jj 67, jj 68, jj 69, jj 70, jj 71, jj 72, jj 73, jj 74, jj 75, jj 76, jj 77, jj 78, jj 79, jj 80, jj 81, jj 82, jj 83, jj 84, jj 85, jj 86, jj 87, jj 88, jj 89, jj 90, jj 91]) ∧ n + i = q.ts.length ∧ Mem [] w0 w [.cell b1 (qV q (.slice A q.ts.length c)) 51]) q.ts.length
    ⟨0, exj (by rw [List.take_zero]; show _ = _; rw [show tsW wWhere [] = [] from rfl, app_jT0]; rfl), rfl, hM⟩ ?_
  clear hM
  rintro n l w ⟨i, ⟨jj, rfl⟩, hn, hM⟩
  have htl := tsJ_le (q.ts.take i) wWhere (by decide) (fun t ht => hall t (List.mem_of_mem_take ht))
  have htl2 : (q.ts.take i).length ≤ 50 := by rw [List.length_take]; omega
  repeat (first | refine gs ?_ | (refine ks ?_; intro w hM))
  refine c_cond rfl (fun hi => ?_) (fun hi => ?_)
  · repeat (first | refine gs ?_ | (refine ks ?_; intro w hM))
    refine kix hR (fun b o t ht hA => ?_) (h1 := by omega)
    rw [Int.toNat_natCast] at ht
    have htr := rightT_parts (hall t (List.mem_of_getElem? ht))
    have h1 := field_le t.1
    have h2 := op_le t.2.1
    have h3 := quo_len t.2.2
    repeat (first | refine gs ?_ | (refine ks ?_; intro w hM))
    refine katr hM hA ?_
    repeat (first | refine gs ?_ | (refine ks ?_; intro w hM))
    refine kal hM (fun w b5 hM => ?_)
    have hM : Mem [] w0 w [.cell b5 (tsC (0, 0, [])) 118, .cell b1 (qV q (.slice A q.ts.length c)) 51] := hM
    repeat (first | refine gs ?_ | (refine ks ?_; intro w hM))
    have e : q.ts.take (i + 1) = q.ts.take i ++ [t] := by rw [List.take_add_one, ht]; rfl
    have hjn : (q.ts.take i = []) ↔ i = 0 := by
      constructor
      · intro h
        have := congrArg List.length h
        rw [List.length_take, List.length_nil] at this
        omega
      · rintro rfl; rfl
    obtain ⟨jn, hjn2⟩ : ∃ x, x = (if q.ts.take i = [] then wWhere else wAnd) := ⟨_, rfl⟩
    have hjl : jn.length ≤ 5 := by rw [hjn2]; split <;> decide
    obtain ⟨acc, hacc⟩ : ∃ x, x = x3 ++ jT (tsW wWhere (q.ts.take i)) := ⟨_, rfl⟩
    have hal : acc.length ≤ 100000 := by rw [hacc, List.length_append]; omega
    rw [← hacc]
    have hnx : x3 ++ jT (tsW wWhere (q.ts.take (i + 1))) = acc ++ ([32] ++ jn ++ [32]) ++ (fieldW t.1 ++ [32] ++ opW t.2.1 ++ [32] ++ quoB t.2.2) := by
      rw [e, tsW_snoc, jT_app, ← hjn2, ← List.append_assoc, ← hacc, show [jn, fieldW t.1, opW t.2.1, quoB t.2.2] = [jn, fieldW t.1] ++ [opW t.2.1, quoB t.2.2] from rfl, jT_app, jT_two, jT_two]
      simp only [List.append_assoc]
    
    refine c_cutJ (fun l w => (∃ jj : Nat → Value, l = [jj 0, .pointer (some ⟨b1, 0, none⟩), jj 2, .string (bst (acc ++ ([32] ++ jn ++ [32]))), jj 4, .pointer (some ⟨b5, 0, none⟩), jj 6, jj 7, jj 8, jj 9, jj 10, jj 11, jj 12, jj 13, jj 14, jj 15, jj 16, jj 17, jj 18, jj 19, jj 20, jj 21, jj 22, jj 23, jj 24, jj 25, jj 26, jj 27, jj 28, jj 29, jj 30, jj 31, jj 32, jj 33, jj 34, jj 35, jj 36, jj 37, jj 38, .slice A q.ts.length c, .int .i64 (q.ts.length : Int), .int .i64 (i : Int), jj 42, jj 43, jj 44, jj 45, jj 46, jj 47, jj 48, jj 49, jj 50, jj 51, jj 52, jj 53, jj 54, jj 55, jj 56, jj 57, jj 58, jj 59, jj 60, jj 61, jj 62, jj 63, jj 64, jj 65, jj 66, jj 67, jj 68, jj 69, jj 70, jj 71, jj 72, jj 73, jj 74, jj 75, jj 76, jj 77, jj 78, jj 79, jj 80, jj 81, jj 82, jj 83, jj 84, jj 85, jj 86, jj 87, jj 88, jj 89, jj 90, jj 91]) ∧ Mem [] w0 w [.cell b5 (tsC t) 118, .cell b1 (qV q (.slice A q.ts.length c)) 51]) ?_ ?_
    · refine c_cond rfl (fun h => ?_) (fun h => ?_)
      · rw [if_pos (hjn.2 (by omega))] at hjn2
        subst hjn2
        repeat (first | refine gs ?_ | (refine ks ?_; intro w hM))
        (try ((with_reducible apply is_gd); first | refine gt ?_ | refine gf ?_ | refine gu ?_)); refine wl_val (r_addS (a := acc) (b := [32, 119, 104, 101, 114, 101, 32]) rfl rfl (by simp only [List.length_cons, List.length_nil, List.length_append]; omega)) ?_
        repeat (first | refine gs ?_ | (refine ks ?_; intro w hM))
        exact outJ ⟨exj rfl, hM.sub (by (repeat (first | exact Go.Proofs.E.Sub.refl _ | exact Go.Proofs.E.Sub.nil | (apply Go.Proofs.E.Sub.cons; (repeat (first | exact Go.Proofs.E.Pick.here | apply Go.Proofs.E.Pick.there))) | apply Go.Proofs.E.Sub.tail)))⟩
      · rw [if_neg (fun g => h (by have := hjn.1 g; omega))] at hjn2
        subst hjn2
        repeat (first | refine gs ?_ | (refine ks ?_; intro w hM))
        (try ((with_reducible apply is_gd); first | refine gt ?_ | refine gf ?_ | refine gu ?_)); refine wl_val (r_addS (a := acc) (b := [32, 97, 110, 100, 32]) rfl rfl (by simp only [List.length_cons, List.length_nil, List.length_append]; omega)) ?_
        repeat (first | refine gs ?_ | (refine ks ?_; intro w hM))
        exact outJ ⟨exj rfl, hM.sub (by (repeat (first | exact Go.Proofs.E.Sub.refl _ | exact Go.Proofs.E.Sub.nil | (apply Go.Proofs.E.Sub.cons; (repeat (first | exact Go.Proofs.E.Pick.here | apply Go.Proofs.E.Pick.there))) | apply Go.Proofs.E.Sub.tail)))⟩
    clear hM
    rintro l w ⟨⟨jj, rfl⟩, hM⟩
    have hfw : (fieldsW.map fun x => Value.string (bst x))[t.1.toNat]? = some (.string (bst (fieldW t.1))) := by
      unfold fieldW
      rw [List.getElem?_map, List.getD_eq_getElem?_getD, List.getElem?_eq_getElem (show t.1.toNat < fieldsW.length by show t.1.toNat < 3; omega)]
      rfl
    obtain ⟨fk, hfk⟩ : ∃ k : Nat, t.1 = (k : Int) := ⟨t.1.toNat, by omega⟩
    obtain ⟨ok, hopk⟩ : ∃ k : Nat, t.2.1 = (k : Int) := ⟨t.2.1.toNat, by omega⟩
    obtain ⟨t1, t2, t3⟩ := t
    simp only at hfk hopk hfw htr h1 h2 h3 hnx
    subst hfk hopk
    rw [Int.toNat_natCast] at hfw
    have hops : ∀ w1, Calls Tryz.prog 96 #[.int .i64 (ok : Int)] w1 (Ret fun u w' => u = .string (bst (opW (ok : Int))) ∧ Ch [] w1 w') := fun w1 => (rops_any ok w1 (by omega)).mono fun e w' ⟨u, he, hu, hw⟩ => ⟨u, he, by rw [hu]; rfl, by rw [hw]; exact Ch.refl _ _⟩
    repeat (first | refine gsb ?_ | (refine ks ?_; intro w hM))
    refine kdr hM (by kernel_rfl) (by kernel_rfl) (fun w hM => ?_)
    repeat (first | ((with_reducible apply is_ldg); first | refine kldg hM ?_ | refine kldwg hM ?_) | ((with_reducible apply is_sg); (first | refine ssg ?_ | refine sgu ?_)) | ((with_reducible apply is_gg); first | refine gtg ?_ | refine gfg ?_ | refine gug ?_) | ((with_reducible apply is_eg); refine eg ?_))
    (try ((with_reducible apply is_gg); first | refine gtg ?_ | refine gfg ?_ | refine gug ?_)); refine wg_val (fun _ _ => r_bld (vs := [(0, .string (bst [])), (1, .string (bst [107, 101, 121])), (2, .string (bst [118, 97, 108, 117, 101]))]) (cells := (fieldsW.map fun x => Value.string (bst x)).toArray) rfl (by kernel_rfl)) ?_
    repeat (first | ((with_reducible apply is_ldg); first | refine kldg hM ?_ | refine kldwg hM ?_) | ((with_reducible apply is_sg); (first | refine ssg ?_ | refine sgu ?_)) | ((with_reducible apply is_gg); first | refine gtg ?_ | refine gfg ?_ | refine gug ?_) | ((with_reducible apply is_eg); refine eg ?_))
    (try ((with_reducible apply is_gg); first | refine gtg ?_ | refine gfg ?_ | refine gug ?_)); refine wg_val (fun _ _ => r_idx1 (n := 3) (k := fk) (v := .string (bst (fieldW (fk : Int)))) rfl rfl (by omega) hfw) ?_
    repeat (first | ((with_reducible apply is_ldg); first | refine kldg hM ?_ | refine kldwg hM ?_) | ((with_reducible apply is_sg); (first | refine ssg ?_ | refine sgu ?_)) | ((with_reducible apply is_gg); first | refine gtg ?_ | refine gfg ?_ | refine gug ?_) | ((with_reducible apply is_eg); refine eg ?_))
    (try ((with_reducible apply is_gg); first | refine gtg ?_ | refine gfg ?_ | refine gug ?_)); refine wg_val (fun _ _ => r_addS (a := fieldW (fk : Int)) (b := [32]) rfl rfl (by simp only [List.length_cons, List.length_nil, List.length_append]; omega)) ?_
    repeat (first | ((with_reducible apply is_ldg); first | refine kldg hM ?_ | refine kldwg hM ?_) | ((with_reducible apply is_sg); (first | refine ssg ?_ | refine sgu ?_)) | ((with_reducible apply is_gg); first | refine gtg ?_ | refine gfg ?_ | refine gug ?_) | ((with_reducible apply is_eg); refine eg ?_))
    refine kcag hM (v := .string (bst (opW (ok : Int)))) (vs := [.int .i64 (ok : Int)]) (fun w1 hM => hops w1) ?_
    repeat (first | ((with_reducible apply is_ldg); first | refine kldg hM ?_ | refine kldwg hM ?_) | ((with_reducible apply is_sg); (first | refine ssg ?_ | refine sgu ?_)) | ((with_reducible apply is_gg); first | refine gtg ?_ | refine gfg ?_ | refine gug ?_) | ((with_reducible apply is_eg); refine eg ?_))
    (try ((with_reducible apply is_gg); first | refine gtg ?_ | refine gfg ?_ | refine gug ?_)); refine wg_val (fun _ _ => r_addS (a := fieldW (fk : Int) ++ [32]) (b := opW (ok : Int)) rfl rfl (by simp only [List.length_cons, List.length_nil, List.length_append]; omega)) ?_
    repeat (first | ((with_reducible apply is_ldg); first | refine kldg hM ?_ | refine kldwg hM ?_) | ((with_reducible apply is_sg); (first | refine ssg ?_ | refine sgu ?_)) | ((with_reducible apply is_gg); first | refine gtg ?_ | refine gfg ?_ | refine gug ?_) | ((with_reducible apply is_eg); refine eg ?_))
    (try ((with_reducible apply is_gg); first | refine gtg ?_ | refine gfg ?_ | refine gug ?_)); refine wg_val (fun _ _ => r_addS (a := fieldW (fk : Int) ++ [32] ++ opW (ok : Int)) (b := [32]) rfl rfl (by simp only [List.length_cons, List.length_nil, List.length_append]; omega)) ?_
    repeat (first | ((with_reducible apply is_ldg); first | refine kldg hM ?_ | refine kldwg hM ?_) | ((with_reducible apply is_sg); (first | refine ssg ?_ | refine sgu ?_)) | ((with_reducible apply is_gg); first | refine gtg ?_ | refine gfg ?_ | refine gug ?_) | ((with_reducible apply is_eg); refine eg ?_))
    refine kcag hM (v := .string (bst (quoB t3))) (vs := [.string (bst t3)]) (fun w1 hM => rquote_any t3 w1 (by omega)) ?_
    repeat (first | ((with_reducible apply is_ldg); first | refine kldg hM ?_ | refine kldwg hM ?_) | ((with_reducible apply is_sg); (first | refine ssg ?_ | refine sgu ?_)) | ((with_reducible apply is_gg); first | refine gtg ?_ | refine gfg ?_ | refine gug ?_) | ((with_reducible apply is_eg); refine eg ?_))
    (try ((with_reducible apply is_gg); first | refine gtg ?_ | refine gfg ?_ | refine gug ?_)); refine wg_val (fun _ _ => r_addS (a := fieldW (fk : Int) ++ [32] ++ opW (ok : Int) ++ [32]) (b := quoB t3) rfl rfl (by simp only [List.length_cons, List.length_nil, List.length_append]; omega)) ?_
    repeat (first | ((with_reducible apply is_ldg); first | refine kldg hM ?_ | refine kldwg hM ?_) | ((with_reducible apply is_sg); (first | refine ssg ?_ | refine sgu ?_)) | ((with_reducible apply is_gg); first | refine gtg ?_ | refine gfg ?_ | refine gug ?_) | ((with_reducible apply is_eg); refine eg ?_))
    (try ((with_reducible apply is_gg); first | refine gtg ?_ | refine gfg ?_ | refine gug ?_)); refine wg_val (fun _ _ => r_addS (a := acc ++ ([32] ++ jn ++ [32])) (b := fieldW (fk : Int) ++ [32] ++ opW (ok : Int) ++ [32] ++ quoB t3) rfl rfl (by simp only [List.length_cons, List.length_nil, List.length_append]; omega)) ?_
    repeat (first | ((with_reducible apply is_ldg); first | refine kldg hM ?_ | refine kldwg hM ?_) | ((with_reducible apply is_sg); (first | refine ssg ?_ | refine sgu ?_)) | ((with_reducible apply is_gg); first | refine gtg ?_ | refine gfg ?_ | refine gug ?_) | ((with_reducible apply is_eg); refine eg ?_))
    (intro w hc; have hM := hM.call hc)
    repeat (first | refine gs ?_ | (refine ks ?_; intro w hM))
    exact x_goes (n - 1) rfl (by omega) ⟨i + 1, exj (by rw [hnx]; rfl), by omega, hM.sub (by (repeat (first | exact Go.Proofs.E.Sub.refl _ | exact Go.Proofs.E.Sub.nil | (apply Go.Proofs.E.Sub.cons; (repeat (first | exact Go.Proofs.E.Pick.here | apply Go.Proofs.E.Pick.there))) | apply Go.Proofs.E.Sub.tail)))⟩
  rw [List.take_of_length_le (by omega)] at htl
  rw [List.take_of_length_le (l := q.ts) (i := i) (by omega)]
  have hl4 : (x3 ++ jT (tsW wWhere q.ts)).length ≤ 60000 := by rw [List.length_append]; omega
  obtain ⟨x4, hx4⟩ : ∃ x, x = x3 ++ jT (tsW wWhere q.ts) := ⟨_, rfl⟩
  rw [← hx4] at hl4 ⊢
  repeat (first | refine gs ?_ | (refine ks ?_; intro w hM))
  
  refine c_cutJ (fun l w => (∃ jj : Nat → Value, l = [jj 0, .pointer (some ⟨b1, 0, none⟩), jj 2, .string (bst (x4 ++ jT (pBk q))), jj 4, jj 5, jj 6, jj 7, jj 8, jj 9, jj 10, jj 11, jj 12, jj 13, jj 14, jj 15, jj 16, jj 17, jj 18, jj 19, jj 20, jj 21, jj 22, jj 23, jj 24, jj 25, jj 26, jj 27, jj 28, jj 29, jj 30, jj 31, jj 32, jj 33, jj 34, jj 35, jj 36, jj 37, jj 38, jj 39, jj 40, jj 41, jj 42, jj 43, jj 44, jj 45, jj 46, jj 47, jj 48, jj 49, jj 50, jj 51, jj 52, jj 53, jj 54, jj 55, jj 56, jj 57, jj 58, jj 59, jj 60, jj 61, jj 62, jj 63, jj 64, jj 65, jj 66, jj 67, jj 68, jj 69, jj 70, jj 71, jj 72, jj 73, jj 74, jj 75, jj 76, jj 77, jj 78, jj 79, jj 80, jj 81, jj 82, jj 83, jj 84, jj 85, jj 86, jj 87, jj 88, jj 89, jj 90, jj 91]) ∧ Mem [] w0 w [.cell b1 (qV q (.slice A q.ts.length c)) 51]) ?_ ?_
  · refine c_condb rfl (fun h => ?_) (fun h => ?_)
    · repeat (first | refine gs ?_ | (refine ks ?_; intro w hM))
      (try ((with_reducible apply is_gd); first | refine gt ?_ | refine gf ?_ | refine gu ?_)); refine wl_val (r_addS (a := x4) (b := [32, 98, 97, 99, 107]) rfl rfl (by simp only [List.length_cons, List.length_nil, List.length_append]; omega)) ?_
      repeat (first | refine gs ?_ | (refine ks ?_; intro w hM))
      exact outJ ⟨exj (by unfold pBk; rw [if_pos h, jT_one]; rfl), hM⟩
    · repeat (first | refine gs ?_ | (refine ks ?_; intro w hM))
      exact outJ ⟨exj (by unfold pBk; rw [if_neg (by rw [h]; simp), app_jT0]; rfl), hM⟩
  clear hM
  rintro l w ⟨⟨jj, rfl⟩, hM⟩
  have hl5 : (x4 ++ jT (pBk q)).length ≤ 62000 := by
    rw [List.length_append]
    have : (jT (pBk q)).length ≤ 800 := by
      unfold pBk; split
      · rw [jT_len1]; simp
      · simp [Lib.joinTail]
    omega
  obtain ⟨x5, hx5⟩ : ∃ x, x = x4 ++ jT (pBk q) := ⟨_, rfl⟩
  rw [← hx5] at hl5 ⊢
  repeat (first | refine gs ?_ | (refine ks ?_; intro w hM))
  
  refine c_cutJ (fun l w => (∃ jj : Nat → Value, l = [jj 0, .pointer (some ⟨b1, 0, none⟩), jj 2, .string (bst (x5 ++ jT (pSk q))), jj 4, jj 5, jj 6, jj 7, jj 8, jj 9, jj 10, jj 11, jj 12, jj 13, jj 14, jj 15, jj 16, jj 17, jj 18, jj 19, jj 20, jj 21, jj 22, jj 23, jj 24, jj 25, jj 26, jj 27, jj 28, jj 29, jj 30, jj 31, jj 32, jj 33, jj 34, jj 35, jj 36, jj 37, jj 38, jj 39, jj 40, jj 41, jj 42, jj 43, jj 44, jj 45, jj 46, jj 47, jj 48, jj 49, jj 50, jj 51, jj 52, jj 53, jj 54, jj 55, jj 56, jj 57, jj 58, jj 59, jj 60, jj 61, jj 62, jj 63, jj 64, jj 65, jj 66, jj 67, jj 68, jj 69, jj 70, jj 71, jj 72, jj 73, jj 74, jj 75, jj 76, jj 77, jj 78, jj 79, jj 80, jj 81, jj 82, jj 83, jj 84, jj 85, jj 86, jj 87, jj 88, jj 89, jj 90, jj 91]) ∧ Mem [] w0 w [.cell b1 (qV q (.slice A q.ts.length c)) 51]) ?_ ?_
  · refine c_cond rfl (fun h => ?_) (fun h => ?_)
    · have hle := itoa_le (n := q.skip) (by omega) (by omega)
      repeat (first | refine gs ?_ | (refine ks ?_; intro w hM))
      refine kca hM (rdigI_any q.skip (by omega) (by omega) w) (fun w hM => ?_)
      repeat (first | refine gs ?_ | (refine ks ?_; intro w hM))
      (try ((with_reducible apply is_gd); first | refine gt ?_ | refine gf ?_ | refine gu ?_)); refine wl_val (r_addS (a := [32, 115, 107, 105, 112, 32]) (b := Lib.itoa q.skip) rfl rfl (by simp only [List.length_cons, List.length_nil, List.length_append]; omega)) ?_
      repeat (first | refine gs ?_ | (refine ks ?_; intro w hM))
      (try ((with_reducible apply is_gd); first | refine gt ?_ | refine gf ?_ | refine gu ?_)); refine wl_val (r_addS (a := x5) (b := [32, 115, 107, 105, 112, 32] ++ Lib.itoa q.skip) rfl rfl (by simp only [List.length_cons, List.length_nil, List.length_append]; omega)) ?_
      repeat (first | refine gs ?_ | (refine ks ?_; intro w hM))
      exact outJ ⟨exj (by unfold pSk; rw [if_pos (by omega), jT_two]; rfl), hM⟩
    · repeat (first | refine gs ?_ | (refine ks ?_; intro w hM))
      exact outJ ⟨exj (by unfold pSk; rw [if_neg (by omega), app_jT0]; rfl), hM⟩
  clear hM
  rintro l w ⟨⟨jj, rfl⟩, hM⟩
  have hl6 : (x5 ++ jT (pSk q)).length ≤ 64000 := by
    rw [List.length_append]
    have : (jT (pSk q)).length ≤ 800 := by
      unfold pSk; split
      · have := itoa_le (n := q.skip) (by omega) (by omega)
        rw [jT_len2]; simp only [List.length_cons, List.length_nil]; omega
      · simp [Lib.joinTail]
    omega
  obtain ⟨x6, hx6⟩ : ∃ x, x = x5 ++ jT (pSk q) := ⟨_, rfl⟩
  rw [← hx6] at hl6 ⊢
  repeat (first | refine gs ?_ | (refine ks ?_; intro w hM))
  
  refine c_cutJ (fun l w => (∃ jj : Nat → Value, l = [jj 0, .pointer (some ⟨b1, 0, none⟩), jj 2, .string (bst (x6 ++ jT (pLm q))), jj 4, jj 5, jj 6, jj 7, jj 8, jj 9, jj 10, jj 11, jj 12, jj 13, jj 14, jj 15, jj 16, jj 17, jj 18, jj 19, jj 20, jj 21, jj 22, jj 23, jj 24, jj 25, jj 26, jj 27, jj 28, jj 29, jj 30, jj 31, jj 32, jj 33, jj 34, jj 35, jj 36, jj 37, jj 38, jj 39, jj 40, jj 41, jj 42, jj 43, jj 44, jj 45, jj 46, jj 47, jj 48, jj 49, jj 50, jj 51, jj 52, jj 53, jj 54, jj 55, jj 56, jj 57, jj 58, jj 59, jj 60, jj 61, jj 62, jj 63, jj 64, jj 65, jj 66, jj 67, jj 68, jj 69, jj 70, jj 71, jj 72, jj 73, jj 74, jj 75, jj 76, jj 77, jj 78, jj 79, jj 80, jj 81, jj 82, jj 83, jj 84, jj 85, jj 86, jj 87, jj 88, jj 89, jj 90, jj 91]) ∧ Mem [] w0 w [.cell b1 (qV q (.slice A q.ts.length c)) 51]) ?_ ?_
  · refine c_cond rfl (fun h => ?_) (fun h => ?_)
    · have hle := itoa_le (n := q.lim) (by omega) (by omega)
      repeat (first | refine gs ?_ | (refine ks ?_; intro w hM))
      refine kca hM (rdigI_any q.lim (by omega) (by omega) w) (fun w hM => ?_)
      repeat (first | refine gs ?_ | (refine ks ?_; intro w hM))
      (try ((with_reducible apply is_gd); first | refine gt ?_ | refine gf ?_ | refine gu ?_)); refine wl_val (r_addS (a := [32, 108, 105, 109, 105, 116, 32]) (b := Lib.itoa q.lim) rfl rfl (by simp only [List.length_cons, List.length_nil, List.length_append]; omega)) ?_
      repeat (first | refine gs ?_ | (refine ks ?_; intro w hM))
      (try ((with_reducible apply is_gd); first | refine gt ?_ | refine gf ?_ | refine gu ?_)); refine wl_val (r_addS (a := x6) (b := [32, 108, 105, 109, 105, 116, 32] ++ Lib.itoa q.lim) rfl rfl (by simp only [List.length_cons, List.length_nil, List.length_append]; omega)) ?_
      repeat (first | refine gs ?_ | (refine ks ?_; intro w hM))
      exact outJ ⟨exj (by unfold pLm; rw [if_pos (by omega), jT_two]; rfl), hM⟩
    · repeat (first | refine gs ?_ | (refine ks ?_; intro w hM))
      exact outJ ⟨exj (by unfold pLm; rw [if_neg (by omega), app_jT0]; rfl), hM⟩
  clear hM
  rintro l w ⟨⟨jj, rfl⟩, hM⟩
  have hl7 : (x6 ++ jT (pLm q)).length ≤ 66000 := by
    rw [List.length_append]
    have : (jT (pLm q)).length ≤ 800 := by
      unfold pLm; split
      · have := itoa_le (n := q.lim) (by omega) (by omega)
        rw [jT_len2]; simp only [List.length_cons, List.length_nil]; omega
      · simp [Lib.joinTail]
    omega
  obtain ⟨x7, hx7⟩ : ∃ x, x = x6 ++ jT (pLm q) := ⟨_, rfl⟩
  rw [← hx7] at hl7 ⊢
  repeat (first | refine gs ?_ | (refine ks ?_; intro w hM))
  refine out1 rfl ⟨?_, hM.ch⟩
  rw [print_pieces hr, hx7, hx6, hx5, hx4, hx3, hx2, hx1, hx0]
  rfl
end Go.Proofs.YtoimhmphhffelaaGreatDoor

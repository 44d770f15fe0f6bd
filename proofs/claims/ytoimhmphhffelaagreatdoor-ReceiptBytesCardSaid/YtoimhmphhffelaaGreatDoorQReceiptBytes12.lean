/- Walks: whether reads may be, both. -/
import Derived.Test.YtoimhmphhffelaaGreatDoorQReceiptBytes11
set_option linter.unusedVariables false
set_option linter.unusedSimpArgs false
namespace Go.Proofs.YtoimhmphhffelaaGreatDoor
open Go Go.RowKit Go.Proofs.E
attribute [local irreducible] Go.wpList Go.Code.wp Go.Proofs.E.exec Go.Proofs.E.wpLexG
def inB (x : RR) (p : Pr) : Bool := !p.2.2 && (if x.1 = true then !ltB p.1 x.2.1 && ltB p.1 x.2.2.1 else decide (p.1 = x.2.1))
def goodRB (x : RR) (ps : List Pr) : Bool :=
  decide (x.2.1.length ≤ 64) && (decide (x.2.2.1.length ≤ 64) && (decide (ps.length ≤ 200) && (goodL none ps && ((x.1 || (decide (x.2.1 ≠ []) && (decide (x.2.2.1 = []) && decide (ps.length ≤ 1)))) && ps.all (inB x)))))
set_option maxHeartbeats 4000000 in
theorem in_any (x : RR) (p : Pr) (w0 : World) : Calls Tryz.prog 193 #[.agg (eRr.f x).toArray, .agg (ePr.f p).toArray] w0 (Ret fun u w' => u = .bool (inB x p) ∧ Ch [] w0 w') := by
  have hM := Mem.start w0
  obtain ⟨sc, key, to, vp⟩ := x
  obtain ⟨k, v, d⟩ := p
  refine enter [.agg (eRr.f (sc, key, to, vp)).toArray, .agg (ePr.f (k, v, d)).toArray, undef, undef, undef, undef, undef, undef, undef, undef, undef, undef, undef, undef, undef, undef, undef, undef, undef, undef, undef, undef, undef, undef, undef, undef] Tryz.func193 rfl rfl ?_
  repeat (first | refine gw ?_ | (refine ks ?_; intro w hM))
  refine kbx hM (fun w b2 hM => ?_)
  refine kbx hM (fun w b3 hM => ?_)
  have hM : Mem [] w0 w [.cell b3 (ePr.f (k, v, d)) 70, .cell b2 (eRr.f (sc, key, to, vp)) 135] := hM
  repeat (first | refine gw ?_ | (refine ks ?_; intro w hM))
  cases d with
  | true =>
    refine c_condb rfl (fun _ => ?_) (fun h => by cases h)
    repeat (first | refine gw ?_ | (refine ks ?_; intro w hM))
    exact out1 rfl ⟨rfl, hM.ch⟩
  | false =>
    refine c_condb rfl (fun h => by cases h) (fun _ => ?_)
    repeat (first | refine gw ?_ | (refine ks ?_; intro w hM))
    cases sc with
    | true =>
      refine c_condb rfl (fun _ => ?_) (fun h => by cases h)
      repeat (first | refine gw ?_ | (refine ks ?_; intro w hM))
      (try ((with_reducible apply is_gd); first | refine gt ?_ | refine gf ?_ | refine gu ?_)); refine wl_val (r_geS (a := k) (b := key)) ?_
      repeat (first | refine gw ?_ | (refine ks ?_; intro w hM))
      cases h1 : ltB k key with
      | true =>
        repeat (first | refine gw ?_ | (refine ks ?_; intro w hM))
        exact out1 rfl ⟨by simp [inB, h1, ev, nth], hM.ch⟩
      | false =>
        repeat (first | refine gw ?_ | (refine ks ?_; intro w hM))
        (try ((with_reducible apply is_gd); first | refine gt ?_ | refine gf ?_ | refine gu ?_)); refine wl_val (r_ltS (a := k) (b := to)) ?_
        repeat (first | refine gw ?_ | (refine ks ?_; intro w hM))
        exact out1 rfl ⟨by simp [inB, h1, ev, nth], hM.ch⟩
    | false =>
      refine c_condb rfl (fun h => by cases h) (fun _ => ?_)
      repeat (first | refine gw ?_ | (refine ks ?_; intro w hM))
      (try ((with_reducible apply is_gd); first | refine gt ?_ | refine gf ?_ | refine gu ?_)); refine wl_val (r_eqst (a := k) (b := key)) ?_
      repeat (first | refine gw ?_ | (refine ks ?_; intro w hM))
      exact out1 rfl ⟨by simp [inB, ev, nth], hM.ch⟩
theorem inNot_any (x : RR) (p : Pr) (b1 : Nat) (w0 : World) (hB : Blk w0 b1 (eRr.f x) 135) : Calls Tryz.prog 192 #[.agg (ePr.f p).toArray, .pointer (some ⟨b1, 0, none⟩)] w0 (Ret fun u w' => u = .bool (!inB x p) ∧ Ch [] w0 w') := by
  have hM := Mem.start w0
  refine enter [.agg (ePr.f p).toArray, .pointer (some ⟨b1, 0, none⟩), undef, undef, undef, undef, undef, undef] Tryz.func192 rfl rfl ?_
  repeat (first | refine gw ?_ | (refine ks ?_; intro w hM))
  refine kbx hM (fun w b2 hM => ?_)
  have hM : Mem [] w0 w [.cell b2 (ePr.f p) 70] := hM
  repeat (first | refine gw ?_ | (refine ks ?_; intro w hM))
  refine kca hM (in_any x p w) (fun w hM => ?_)
  repeat (first | refine gw ?_ | (refine ks ?_; intro w hM))
  exact out1 rfl ⟨rfl, hM.ch⟩
set_option maxHeartbeats 4000000 in
theorem indexF_any (v : Value) (ps : List Pr) (x : RR) (b1 : Nat) (w0 : World) (hR : (Ty.enc ePr).Rd [] w0 v ps) (hB : Blk w0 b1 (eRr.f x) 135) :
    Calls Tryz.prog 218 #[v, .func (.func 192) #[] #[.pointer (some ⟨b1, 0, none⟩)]] w0 (Ret fun u w' => ∃ i : Int, u = .int .i64 i ∧ decide (i ≥ 0) = (!ps.all (inB x)) ∧ Ch [] w0 w') := by
  have hM := Mem.start w0
  have hle := hR.le
  obtain ⟨A, c, rfl⟩ := hR.form
  refine enter [.slice A ps.length c, .func (.func 192) #[] #[.pointer (some ⟨b1, 0, none⟩)], undef, undef, undef, undef, undef, undef, undef, undef, undef, undef, undef, undef, undef, undef, undef, undef, undef] Tryz.func218 rfl rfl ?_
  repeat (first | refine gw ?_ | (refine ks ?_; intro w hM))
  
  refine c_loop (fun n l w => ∃ (j : Nat), (∃ jj : Nat → Value, l = [.slice A ps.length c, .func (.func 192) #[] #[.pointer (some ⟨b1, 0, none⟩)], jj 2, jj 3, jj 4, jj 5, jj 6, .int .i64 (ps.length : Int), .int .i64 (j : Int), jj 9, jj 10, jj 11, jj 12, jj 13, jj 14, jj 15, jj 16, jj 17, jj 18]) ∧ n + j = ps.length ∧ Mem [] w0 w [] ∧ ps.all (inB x) = (ps.drop j).all (inB x)) ps.length
    ⟨0, exj rfl, rfl, hM, rfl⟩ ?_
  clear hM
  rintro n l w ⟨j, ⟨jj, rfl⟩, hnj, hM, hf⟩
  repeat (first | refine gw ?_ | (refine ks ?_; intro w hM))
  refine c_cond rfl (fun hj => ?_) (fun hj => ?_)
  · repeat (first | refine gw ?_ | (refine ks ?_; intro w hM))
    refine kix hR (fun b o p hp hA => ?_)
    rw [Int.toNat_natCast] at hp
    have hd : ps.drop j = p :: ps.drop (j + 1) := by
      obtain ⟨hlt, he⟩ := List.getElem?_eq_some_iff.1 hp
      rw [List.drop_eq_getElem_cons hlt, he]
    rw [hd, List.all_cons] at hf
    refine katr hM hA ?_
    refine kcd (vs := [.agg (ePr.f p).toArray]) (lb := #[.pointer (some ⟨b1, 0, none⟩)]) (inNot_any x p b1 w (hB.ch hM.ch (by simp))) (fun v w' hv => ?_)
    obtain ⟨rfl, hc⟩ := hv
    have hM := hM.call hc
    repeat (first | refine gw ?_ | (refine ks ?_; intro w hM))
    cases hi : inB x p with
    | true =>
      refine c_condb rfl (fun h => by cases h) (fun _ => ?_)
      repeat (first | refine gw ?_ | (refine ks ?_; intro w hM))
      exact x_goes (n - 1) rfl (by omega) ⟨j + 1, exj rfl, by omega, hM, by rw [hf, hi]; rfl⟩
    | false =>
      refine c_condb rfl (fun _ => ?_) (fun h => by cases h)
      repeat (first | refine gw ?_ | (refine ks ?_; intro w hM))
      exact out1 rfl ⟨(j : Int), rfl, by rw [hf, hi]; simp, hM.ch⟩
  · rw [List.drop_eq_nil_of_le (by omega)] at hf
    repeat (first | refine gw ?_ | (refine ks ?_; intro w hM))
    exact out1 rfl ⟨-1, rfl, by rw [hf]; rfl, hM.ch⟩
theorem containsF_any (v : Value) (ps : List Pr) (x : RR) (b1 : Nat) (w0 : World) (hR : (Ty.enc ePr).Rd [] w0 v ps) (hB : Blk w0 b1 (eRr.f x) 135) :
    Calls Tryz.prog 191 #[v, .func (.func 192) #[] #[.pointer (some ⟨b1, 0, none⟩)]] w0 (Ret fun u w' => u = .bool (!ps.all (inB x)) ∧ Ch [] w0 w') := by
  have hM := Mem.start w0
  refine enter [v, .func (.func 192) #[] #[.pointer (some ⟨b1, 0, none⟩)], undef, undef, undef, undef, undef, undef, undef] Tryz.func191 rfl rfl ?_
  repeat (first | refine gw ?_ | (refine ks ?_; intro w hM))
  refine ca (indexF_any v ps x b1 w0 hR hB) ?_
  rintro _ w1 ⟨i, rfl, hi, hc⟩
  have hM := hM.call hc
  repeat (first | refine gw ?_ | (refine ks ?_; intro w hM))
  rw [hi]
  repeat (first | refine gw ?_ | (refine ks ?_; intro w hM))
  exact out1 rfl ⟨rfl, hM.ch⟩
/-- printed by gen_rec3 -/
theorem goodR_no {x : RR} {ps : List Pr} (h : ¬ (x.2.1.length ≤ 64 ∧ x.2.2.1.length ≤ 64 ∧ ps.length ≤ 200 ∧ goodL none ps = true)) : goodRB x ps = false := by
  unfold goodRB
  by_cases h1 : x.2.1.length ≤ 64
  · by_cases h2 : x.2.2.1.length ≤ 64
    · by_cases h3 : ps.length ≤ 200
      · cases h4 : goodL none ps with
        | true => exact absurd ⟨h1, h2, h3, h4⟩ h
        | false => simp
      · simp [h3]
    · simp [h2]
  · simp [h1]
theorem goodR_yes {x : RR} {ps : List Pr} (h1 : x.2.1.length ≤ 64) (h2 : x.2.2.1.length ≤ 64) (h3 : ps.length ≤ 200) (h4 : goodL none ps = true) : goodRB x ps = ((x.1 || (decide (x.2.1 ≠ []) && (decide (x.2.2.1 = []) && decide (ps.length ≤ 1)))) && ps.all (inB x)) := by
  unfold goodRB
  rw [decide_eq_true h1, decide_eq_true h2, decide_eq_true h3, h4]
  rfl
set_option maxHeartbeats 16000000 in
theorem goodRead_any (x : RR) (ps : List Pr) (w0 : World) (hR : (Ty.enc ePr).Rd [] w0 (slv x.2.2.2) ps) (hk : x.2.1.length ≤ 140737488355328) (ht : x.2.2.1.length ≤ 140737488355328) (hb : ∀ p ∈ ps, p.1.length ≤ 140737488355328 ∧ p.2.1.length ≤ 140737488355328) :
    Calls Tryz.prog 157 #[.agg (eRr.f x).toArray] w0 (Ret fun u w' => u = .bool (goodRB x ps) ∧ Ch [] w0 w') := by
  have hM := Mem.start w0
  have hle := hR.le
  obtain ⟨sc, key, to, A3, n3, c3⟩ := x
  have hvl : n3 = ps.length := by
    obtain ⟨A, c, h⟩ := hR.form
    unfold slv at h
    injection h
  subst hvl
  simp only at hk ht hR
  have hRs : (Ty.enc ePr).Rd [] w0 (.slice A3 ps.length c3) ps := hR
  refine enter [.agg (eRr.f (sc, key, to, (A3, ps.length, c3))).toArray, undef, undef, undef, undef, undef, undef, undef, undef, undef, undef, undef, undef, undef, undef, undef, undef, undef, undef, undef, undef, undef, undef, undef, undef, undef, undef, undef, undef, undef, undef, undef, undef, undef, undef, undef, undef, undef, undef, undef, undef, undef, undef, undef, undef, undef, undef, undef, undef] Tryz.func157 rfl rfl ?_
  repeat (first | refine gw ?_ | (refine ks ?_; intro w hM))
  refine kbx hM (fun w b1 hM => ?_)
  have hM : Mem [] w0 w [.cell b1 (eRr.f (sc, key, to, (A3, ps.length, c3))) 135] := hM
  repeat (first | refine gw ?_ | (refine ks ?_; intro w hM))
  try simp only [bst_size]
  by_cases q1 : (key.length : Int) > 64
  · rw [decide_eq_true q1]
    repeat (first | refine gw ?_ | (refine ks ?_; intro w hM))
    refine c_condb rfl (fun _ => ?_) (fun h => by cases h)
    repeat (first | refine gw ?_ | (refine ks ?_; intro w hM))
    refine out1 rfl ⟨?_, hM.ch⟩
    exact congrArg Value.bool (goodR_no (x := (sc, key, to, (A3, ps.length, c3))) (ps := ps) (fun h => by obtain ⟨h1, h2, h3, h4⟩ := h; dsimp only at h1 h2 h3; omega)).symm
  rw [decide_eq_false q1]
  repeat (first | refine gw ?_ | (refine ks ?_; intro w hM))
  try simp only [bst_size]
  by_cases q2 : (to.length : Int) > 64
  · rw [decide_eq_true q2]
    repeat (first | refine gw ?_ | (refine ks ?_; intro w hM))
    refine c_condb rfl (fun _ => ?_) (fun h => by cases h)
    repeat (first | refine gw ?_ | (refine ks ?_; intro w hM))
    refine out1 rfl ⟨?_, hM.ch⟩
    exact congrArg Value.bool (goodR_no (x := (sc, key, to, (A3, ps.length, c3))) (ps := ps) (fun h => by obtain ⟨h1, h2, h3, h4⟩ := h; dsimp only at h1 h2 h3; omega)).symm
  rw [decide_eq_false q2]
  repeat (first | refine gw ?_ | (refine ks ?_; intro w hM))
  try simp only [bst_size]
  by_cases q3 : (ps.length : Int) > 200
  · rw [decide_eq_true q3]
    repeat (first | refine gw ?_ | (refine ks ?_; intro w hM))
    refine c_condb rfl (fun _ => ?_) (fun h => by cases h)
    repeat (first | refine gw ?_ | (refine ks ?_; intro w hM))
    refine out1 rfl ⟨?_, hM.ch⟩
    exact congrArg Value.bool (goodR_no (x := (sc, key, to, (A3, ps.length, c3))) (ps := ps) (fun h => by obtain ⟨h1, h2, h3, h4⟩ := h; dsimp only at h1 h2 h3; omega)).symm
  rw [decide_eq_false q3]
  repeat (first | refine gw ?_ | (refine ks ?_; intro w hM))
  try simp only [bst_size]
  (try ((with_reducible apply is_gd); first | refine gt ?_ | refine gf ?_ | refine gu ?_)); refine kca hM (sgood_any _ ps w (hRs.ch hM.ch) hb) (fun w hM => ?_)
  cases hg : goodL none ps with
  | false =>
    repeat (first | refine gw ?_ | (refine ks ?_; intro w hM))
    refine c_condb rfl (fun _ => ?_) (fun h => by cases h)
    repeat (first | refine gw ?_ | (refine ks ?_; intro w hM))
    refine out1 rfl ⟨?_, hM.ch⟩
    exact congrArg Value.bool (goodR_no (x := (sc, key, to, (A3, ps.length, c3))) (ps := ps) (fun h => by rw [hg] at h; cases h.2.2.2)).symm
  | true =>
    rw [goodR_yes (x := (sc, key, to, (A3, ps.length, c3))) (show key.length ≤ 64 by omega) (show to.length ≤ 64 by omega) (show ps.length ≤ 200 by omega) hg]
    simp only
    repeat (first | refine gw ?_ | (refine ks ?_; intro w hM))
    refine c_condb rfl (fun h => by cases h) (fun _ => ?_)
    repeat (first | refine gw ?_ | (refine ks ?_; intro w hM))
    cases sc with
    | true =>
      repeat (first | refine gw ?_ | (refine ks ?_; intro w hM))
      refine c_condb rfl (fun h => by cases h) (fun _ => ?_)
      repeat (first | refine gw ?_ | (refine ks ?_; intro w hM))
      (try ((with_reducible apply is_gd); first | refine gt ?_ | refine gf ?_ | refine gu ?_)); refine wl_val (r_makeFunc (cs := [.tmp 1])) ?_
      repeat (first | refine gw ?_ | (refine ks ?_; intro w hM))
      refine kca hM (containsF_any _ ps (true, key, to, (A3, ps.length, c3)) b1 w (hRs.ch hM.ch) (hM.blk (b := b1) (by (repeat constructor)))) (fun w hM => ?_)
      repeat (first | refine gw ?_ | (refine ks ?_; intro w hM))
      exact out1 rfl ⟨by simp [ev, nth], hM.ch⟩
    | false =>
      repeat (first | refine gw ?_ | (refine ks ?_; intro w hM))
      (try ((with_reducible apply is_gd); first | refine gt ?_ | refine gf ?_ | refine gu ?_)); refine wl_val (r_eqst (a := key) (b := [])) ?_
      by_cases r1 : key = []
      · rw [decide_eq_true r1]
        repeat (first | refine gw ?_ | (refine ks ?_; intro w hM))
        refine c_condb rfl (fun _ => ?_) (fun h => by cases h)
        repeat (first | refine gw ?_ | (refine ks ?_; intro w hM))
        exact out1 rfl ⟨by simp [r1, ev, nth], hM.ch⟩
      rw [decide_eq_false r1]
      repeat (first | refine gw ?_ | (refine ks ?_; intro w hM))
      (try ((with_reducible apply is_gd); first | refine gt ?_ | refine gf ?_ | refine gu ?_)); refine wl_val (r_neqst (a := to) (b := [])) ?_
      by_cases r2 : to = []
      rotate_left
      · rw [decide_eq_false r2]
        repeat (first | refine gw ?_ | (refine ks ?_; intro w hM))
        refine c_condb rfl (fun _ => ?_) (fun h => by cases h)
        repeat (first | refine gw ?_ | (refine ks ?_; intro w hM))
        exact out1 rfl ⟨by simp [r2, ev, nth], hM.ch⟩
      rw [decide_eq_true r2]
      repeat (first | refine gw ?_ | (refine ks ?_; intro w hM))
      by_cases r3 : (ps.length : Int) > 1
      · rw [decide_eq_true r3]
        repeat (first | refine gw ?_ | (refine ks ?_; intro w hM))
        refine c_condb rfl (fun _ => ?_) (fun h => by cases h)
        repeat (first | refine gw ?_ | (refine ks ?_; intro w hM))
        have r4 : ¬ ps.length ≤ 1 := by omega
        exact out1 rfl ⟨by simp [r4, ev, nth], hM.ch⟩
      rw [decide_eq_false r3]
      repeat (first | refine gw ?_ | (refine ks ?_; intro w hM))
      have r4 : ps.length ≤ 1 := by omega
      refine c_condb rfl (fun h => by cases h) (fun _ => ?_)
      repeat (first | refine gw ?_ | (refine ks ?_; intro w hM))
      (try ((with_reducible apply is_gd); first | refine gt ?_ | refine gf ?_ | refine gu ?_)); refine wl_val (r_makeFunc (cs := [.tmp 1])) ?_
      repeat (first | refine gw ?_ | (refine ks ?_; intro w hM))
      refine kca hM (containsF_any _ ps (false, key, to, (A3, ps.length, c3)) b1 w (hRs.ch hM.ch) (hM.blk (b := b1) (by (repeat constructor)))) (fun w hM => ?_)
      repeat (first | refine gw ?_ | (refine ks ?_; intro w hM))
      exact out1 rfl ⟨by simp [r1, r2, r4, ev, nth], hM.ch⟩
set_option maxHeartbeats 16000000 in
theorem rgoodRead_any (x : RR) (ps : List Pr) (w0 : World) (hR : (Ty.enc ePr).Rd [] w0 (slv x.2.2.2) ps) (hk : x.2.1.length ≤ 140737488355328) (ht : x.2.2.1.length ≤ 140737488355328) (hb : ∀ p ∈ ps, p.1.length ≤ 140737488355328 ∧ p.2.1.length ≤ 140737488355328) :
    Calls Tryz.prog 159 #[.agg (eRr.f x).toArray] w0 (Ret fun u w' => u = .bool (goodRB x ps) ∧ Ch [] w0 w') := by
  have hM := Mem.start w0
  have hle := hR.le
  obtain ⟨sc, key, to, A3, n3, c3⟩ := x
  have hvl : n3 = ps.length := by
    obtain ⟨A, c, h⟩ := hR.form
    unfold slv at h
    injection h
  subst hvl
  simp only at hk ht hR
  have hRs : (Ty.enc ePr).Rd [] w0 (.slice A3 ps.length c3) ps := hR
  refine enter [.agg (eRr.f (sc, key, to, (A3, ps.length, c3))).toArray, undef, undef, undef, undef, undef, undef, undef, undef, undef, undef, undef, undef, undef, undef, undef, undef, undef, undef, undef, undef, undef, undef, undef, undef, undef, undef, undef, undef, undef, undef, undef, undef, undef, undef, undef, undef, undef, undef, undef, undef, undef, undef, undef, undef, undef, undef, undef, undef, undef, undef, undef, undef, undef, undef, undef, undef, undef, undef, undef, undef, undef, undef, undef, undef, undef, undef, undef, undef, undef, undef, undef, undef, undef, undef, undef, undef, undef, undef, undef, undef, undef, undef, undef, undef, undef] Tryz.func159 rfl rfl ?_
  repeat (first | refine gw ?_ | (refine ks ?_; intro w hM))
  refine kbx hM (fun w b1 hM => ?_)
  have hM : Mem [] w0 w [.cell b1 (eRr.f (sc, key, to, (A3, ps.length, c3))) 135] := hM
  repeat (first | refine gw ?_ | (refine ks ?_; intro w hM))
  try simp only [bst_size]
  by_cases q1 : (key.length : Int) > 64
  · rw [decide_eq_true q1]
    repeat (first | refine gw ?_ | (refine ks ?_; intro w hM))
    refine c_condb rfl (fun _ => ?_) (fun h => by cases h)
    repeat (first | refine gw ?_ | (refine ks ?_; intro w hM))
    refine out1 rfl ⟨?_, hM.ch⟩
    exact congrArg Value.bool (goodR_no (x := (sc, key, to, (A3, ps.length, c3))) (ps := ps) (fun h => by obtain ⟨h1, h2, h3, h4⟩ := h; dsimp only at h1 h2 h3; omega)).symm
  rw [decide_eq_false q1]
  repeat (first | refine gw ?_ | (refine ks ?_; intro w hM))
  try simp only [bst_size]
  by_cases q2 : (to.length : Int) > 64
  · rw [decide_eq_true q2]
    repeat (first | refine gw ?_ | (refine ks ?_; intro w hM))
    refine c_condb rfl (fun _ => ?_) (fun h => by cases h)
    repeat (first | refine gw ?_ | (refine ks ?_; intro w hM))
    refine out1 rfl ⟨?_, hM.ch⟩
    exact congrArg Value.bool (goodR_no (x := (sc, key, to, (A3, ps.length, c3))) (ps := ps) (fun h => by obtain ⟨h1, h2, h3, h4⟩ := h; dsimp only at h1 h2 h3; omega)).symm
  rw [decide_eq_false q2]
  repeat (first | refine gw ?_ | (refine ks ?_; intro w hM))
  try simp only [bst_size]
  by_cases q3 : (ps.length : Int) > 200
  · rw [decide_eq_true q3]
    repeat (first | refine gw ?_ | (refine ks ?_; intro w hM))
    refine c_condb rfl (fun _ => ?_) (fun h => by cases h)
    repeat (first | refine gw ?_ | (refine ks ?_; intro w hM))
    refine out1 rfl ⟨?_, hM.ch⟩
    exact congrArg Value.bool (goodR_no (x := (sc, key, to, (A3, ps.length, c3))) (ps := ps) (fun h => by obtain ⟨h1, h2, h3, h4⟩ := h; dsimp only at h1 h2 h3; omega)).symm
  rw [decide_eq_false q3]
  repeat (first | refine gw ?_ | (refine ks ?_; intro w hM))
  try simp only [bst_size]
  (try ((with_reducible apply is_gd); first | refine gt ?_ | refine gf ?_ | refine gu ?_)); refine kca hM (rgood08_any _ ps w (hRs.ch hM.ch) hb) (fun w hM => ?_)
  cases hg : goodL none ps with
  | false =>
    repeat (first | refine gw ?_ | (refine ks ?_; intro w hM))
    refine c_condb rfl (fun _ => ?_) (fun h => by cases h)
    repeat (first | refine gw ?_ | (refine ks ?_; intro w hM))
    refine out1 rfl ⟨?_, hM.ch⟩
    exact congrArg Value.bool (goodR_no (x := (sc, key, to, (A3, ps.length, c3))) (ps := ps) (fun h => by rw [hg] at h; cases h.2.2.2)).symm
  | true =>
    rw [goodR_yes (x := (sc, key, to, (A3, ps.length, c3))) (show key.length ≤ 64 by omega) (show to.length ≤ 64 by omega) (show ps.length ≤ 200 by omega) hg]
    simp only
    repeat (first | refine gw ?_ | (refine ks ?_; intro w hM))
    refine c_condb rfl (fun h => by cases h) (fun _ => ?_)
    repeat (first | refine gw ?_ | (refine ks ?_; intro w hM))
    
    refine c_loop (fun n l w => ∃ (j : Nat), (∃ jj : Nat → Value, l = [jj 0, .pointer (some ⟨b1, 0, none⟩), .bool false, jj 3, jj 4, jj 5, jj 6, jj 7, jj 8, jj 9, jj 10, jj 11, jj 12, jj 13, jj 14, jj 15, jj 16, jj 17, jj 18, jj 19, jj 20, jj 21, jj 22, jj 23, jj 24, jj 25, jj 26, jj 27, .slice A3 ps.length c3, .int .i64 (ps.length : Int), .int .i64 (j : Int), jj 31, jj 32, jj 33, jj 34, jj 35, jj 36, jj 37, jj 38, jj 39, jj 40, jj 41, jj 42, jj 43, jj 44, jj 45, jj 46, jj 47, jj 48, jj 49, jj 50, jj 51, jj 52, jj 53, jj 54, jj 55, jj 56, jj 57, jj 58, jj 59, jj 60, jj 61, jj 62, jj 63, jj 64, jj 65, jj 66, jj 67, jj 68, jj 69, jj 70, jj 71, jj 72, jj 73, jj 74, jj 75, jj 76, jj 77, jj 78, jj 79, jj 80, jj 81, jj 82, jj 83, jj 84, jj 85]) ∧ n + j = ps.length ∧ Mem [] w0 w [.cell b1 (eRr.f (sc, key, to, (A3, ps.length, c3))) 135] ∧ ps.all (inB (sc, key, to, (A3, ps.length, c3))) = (ps.drop j).all (inB (sc, key, to, (A3, ps.length, c3)))) ps.length
      ⟨0, exj rfl, rfl, hM, rfl⟩ ?_
    clear hM
    rintro n l w ⟨j, ⟨jj, rfl⟩, hnj, hM, hf⟩
    repeat (first | refine gw ?_ | (refine ks ?_; intro w hM))
    refine c_cond rfl (fun hj => ?_) (fun hj => ?_)
    · repeat (first | refine gw ?_ | (refine ks ?_; intro w hM))
      refine kix hRs (fun b o p hp hA => ?_)
      rw [Int.toNat_natCast] at hp
      have hd : ps.drop j = p :: ps.drop (j + 1) := by
        obtain ⟨hlt, he⟩ := List.getElem?_eq_some_iff.1 hp
        rw [List.drop_eq_getElem_cons hlt, he]
      rw [hd, List.all_cons] at hf
      obtain ⟨k, v, d⟩ := p
      refine katr hM hA ?_
      refine kal hM (fun w b4 hM => ?_)
      repeat (first | refine gw ?_ | (refine ks ?_; intro w hM))
      have hM : Mem [] w0 w [.cell b4 (ePr.f (k, v, d)) 70, .cell b1 (eRr.f (sc, key, to, (A3, ps.length, c3))) 135] := hM
      cases d with
      | true =>
        have hi : inB (sc, key, to, (A3, ps.length, c3)) (k, v, true) = false := by simp [inB]
        repeat (first | refine gw ?_ | (refine ks ?_; intro w hM))
        refine c_condb rfl (fun _ => ?_) (fun h => by cases h)
        repeat (first | refine gw ?_ | (refine ks ?_; intro w hM))
        exact out1 rfl ⟨by rw [hf, hi]; simp [ev, nth], hM.ch⟩
      | false =>
        repeat (first | refine gw ?_ | (refine ks ?_; intro w hM))
        cases sc with
        | true =>
          repeat (first | refine gw ?_ | (refine ks ?_; intro w hM))
          (try ((with_reducible apply is_gd); first | refine gt ?_ | refine gf ?_ | refine gu ?_)); refine wl_val (r_ltS (a := k) (b := key)) ?_
          cases h1 : ltB k key with
          | true =>
            have hi : inB (true, key, to, (A3, ps.length, c3)) (k, v, false) = false := by simp [inB, h1]
            repeat (first | refine gw ?_ | (refine ks ?_; intro w hM))
            refine c_condb rfl (fun _ => ?_) (fun h => by cases h)
            repeat (first | refine gw ?_ | (refine ks ?_; intro w hM))
            exact out1 rfl ⟨by rw [hf, hi]; simp [ev, nth], hM.ch⟩
          | false =>
            repeat (first | refine gw ?_ | (refine ks ?_; intro w hM))
            (try ((with_reducible apply is_gd); first | refine gt ?_ | refine gf ?_ | refine gu ?_)); refine wl_val (r_geS (a := k) (b := to)) ?_
            cases h2 : ltB k to with
            | false =>
              have hi : inB (true, key, to, (A3, ps.length, c3)) (k, v, false) = false := by simp [inB, h1, h2]
              repeat (first | refine gw ?_ | (refine ks ?_; intro w hM))
              refine c_condb rfl (fun _ => ?_) (fun h => by cases h)
              repeat (first | refine gw ?_ | (refine ks ?_; intro w hM))
              exact out1 rfl ⟨by rw [hf, hi]; simp [ev, nth], hM.ch⟩
            | true =>
              have hi : inB (true, key, to, (A3, ps.length, c3)) (k, v, false) = true := by simp [inB, h1, h2]
              repeat (first | refine gw ?_ | (refine ks ?_; intro w hM))
              refine c_condb rfl (fun h => by cases h) (fun _ => ?_)
              repeat (first | refine gw ?_ | (refine ks ?_; intro w hM))
              exact x_goes (n - 1) rfl (by omega) ⟨j + 1, exj rfl, by omega, hM.sub (by (repeat constructor)), by rw [hf, hi]; rfl⟩
        | false =>
          repeat (first | refine gw ?_ | (refine ks ?_; intro w hM))
          (try ((with_reducible apply is_gd); first | refine gt ?_ | refine gf ?_ | refine gu ?_)); refine wl_val (r_neqst (a := k) (b := key)) ?_
          by_cases h1 : k = key
          · rw [decide_eq_true h1]
            have hi : inB (false, key, to, (A3, ps.length, c3)) (k, v, false) = true := by simp [inB, h1]
            repeat (first | refine gw ?_ | (refine ks ?_; intro w hM))
            refine c_condb rfl (fun h => by cases h) (fun _ => ?_)
            repeat (first | refine gw ?_ | (refine ks ?_; intro w hM))
            exact x_goes (n - 1) rfl (by omega) ⟨j + 1, exj rfl, by omega, hM.sub (by (repeat constructor)), by rw [hf, hi]; rfl⟩
          · rw [decide_eq_false h1]
            have hi : inB (false, key, to, (A3, ps.length, c3)) (k, v, false) = false := by simp [inB, h1]
            repeat (first | refine gw ?_ | (refine ks ?_; intro w hM))
            refine c_condb rfl (fun _ => ?_) (fun h => by cases h)
            repeat (first | refine gw ?_ | (refine ks ?_; intro w hM))
            exact out1 rfl ⟨by rw [hf, hi]; simp [ev, nth], hM.ch⟩
    · rw [List.drop_eq_nil_of_le (by omega)] at hf
      rw [hf]
      repeat (first | refine gw ?_ | (refine ks ?_; intro w hM))
      cases sc with
      | true =>
        repeat (first | refine gw ?_ | (refine ks ?_; intro w hM))
        exact out1 rfl ⟨by simp [ev, nth], hM.ch⟩
      | false =>
        repeat (first | refine gw ?_ | (refine ks ?_; intro w hM))
        try simp only [bst_size]
        by_cases r1 : (key.length : Int) > 0
        rotate_left
        · rw [decide_eq_false r1]
          repeat (first | refine gw ?_ | (refine ks ?_; intro w hM))
          have r5 : key = [] := List.eq_nil_of_length_eq_zero (by omega)
          exact out1 rfl ⟨by simp [r5, ev, nth], hM.ch⟩
        rw [decide_eq_true r1]
        repeat (first | refine gw ?_ | (refine ks ?_; intro w hM))
        have r5 : ¬ key = [] := fun h => by subst h; simp at r1
        (try ((with_reducible apply is_gd); first | refine gt ?_ | refine gf ?_ | refine gu ?_)); refine wl_val (r_eqst (a := to) (b := [])) ?_
        by_cases r2 : to = []
        rotate_left
        · rw [decide_eq_false r2]
          repeat (first | refine gw ?_ | (refine ks ?_; intro w hM))
          exact out1 rfl ⟨by simp [r2, ev, nth], hM.ch⟩
        rw [decide_eq_true r2]
        repeat (first | refine gw ?_ | (refine ks ?_; intro w hM))
        refine out1 rfl ⟨?_, hM.ch⟩
        have r6 : decide ((ps.length : Int) ≤ 1) = decide (ps.length ≤ 1) := by
          rw [Bool.eq_iff_iff, decide_eq_true_eq, decide_eq_true_eq]
          omega
        simp [r2, r5, r6, ev, nth]
end Go.Proofs.YtoimhmphhffelaaGreatDoor

/- Walks: whether a record is right, both; maps from texts to truths.
   Walks: Good and Bytes of records, both.
   Walks: ref14.Light.
   Walks: whether records are alike, both.
   Walks: Same, both; the law's own.
   The plain law of records as bytes: no two have the same.
   Walks: record.Copy.
   Walk: the law RecordOwn. -/
import Derived.Test.YtoimhmphhffelaaGreatDoorQReceiptBytes12
import Derived.MapKept
set_option linter.unusedVariables false
set_option linter.unusedSimpArgs false
namespace Go.Proofs.E
open Go Go.RowKit Go.Proofs.YtoimhmphhffelaaGreatDoor
def MapOf (es : Array MapEntry) (ks : List (List UInt8)) : Prop := es.toList.map (fun e => (e.key, e.val)) = ks.map fun k => (Value.string (bst k), Value.bool true)
theorem findNow_map (s : List UInt8) : ∀ (es : List MapEntry) (ks : List (List UInt8)) (i : Nat), es.map (fun e => (e.key, e.val)) = ks.map (fun k => (Value.string (bst k), Value.bool true)) →
    (s ∉ ks ∧ Instr.findNow .string (.string (bst s)) es i = some none) ∨ (s ∈ ks ∧ ∃ j, Instr.findNow .string (.string (bst s)) es i = some (some (j, .bool true)))
  | [], [], i, _ => .inl ⟨by simp, rfl⟩
  | [], k :: ks, i, h => by simp at h
  | e :: es, [], i, h => by simp at h
  | e :: es, k :: ks, i, h => by
    simp only [List.map_cons, List.cons.injEq, Prod.mk.injEq] at h
    obtain ⟨⟨hk, hv⟩, ht⟩ := h
    by_cases q : s = k
    · subst q
      refine .inr ⟨by simp, i, ?_⟩
      have h1 : Instr.sameNow .string (.string (bst s)) e.key = some true := by
        rw [hk]
        show some (bst s == bst s) = some true
        rw [bst_beq, decide_eq_true rfl]
      unfold Instr.findNow
      rw [h1, hv]
    · have h1 : Instr.sameNow .string (.string (bst s)) e.key = some false := by
        rw [hk]
        show some (bst s == bst k) = some false
        rw [bst_beq, decide_eq_false q]
      rcases findNow_map s es ks (i + 1) ht with ⟨h2, h3⟩ | ⟨h2, j, h3⟩
      · exact .inl ⟨by simp [q, h2], by unfold Instr.findNow; rw [h1]; exact h3⟩
      · exact .inr ⟨by simp [h2], j, by unfold Instr.findNow; rw [h1]; exact h3⟩
section
variable {P : Program} {ops : Array Oper} {Q : Exit → Act → World → Prop} {rest : List Oper} {l l' : List Value} {O : List Nat} {w0 w : World} {L L' : List As} {T : TypeId} {pos : String} {after : Array Edge}
theorem kmk {d : Nat} {t : TypeId} (hM : Mem O w0 w L) (h : ∀ w' b, Mem O w0 w' (.obj b (.map #[] 0) :: L) → wpList P ops Q rest (fr (l.set d (.map (some b)))) w') :
    wpList P ops Q ({ dst := some d, op := .makeMap t none, type := T, pos := pos, after := after, guard := none } :: rest) (fr l) w := by
  refine wl_val (w' := w.alloc (.map #[] 0)) (v := .map (some w.heap.size)) (by simp [exec, execOp, Instr.makeMap, newObj, Sem.run]) (h _ _ ?_)
  have hc : Ch [] w (w.alloc (.map #[] 0)) := Ch.of_below ((Below.refl _ w).alloc (Nat.le_refl _) _)
  exact hM.res (a := .obj w.heap.size (.map #[] 0)) hc (heap_alloc_new w _) (fun k hk => by rw [show k = w.heap.size from hk]; exact Nat.le_refl _)
theorem klk {d : Nat} {t k e : TypeId} {m x : Operand} {b : Nat} {es : Array MapEntry} {c : Nat} {ks : List (List UInt8)} {s : List UInt8} {n by_ : Nat} [hu : Und P t (.map k e)] [hk : Und P k .string] [hi : Inf P e (.bool false) n by_]
    (hM : Mem O w0 w L) (hE : MapOf es ks) (h : wpList P ops Q rest (fr (l.set d (.bool (decide (s ∈ ks))))) w)
    (hm : ev l m = .map (some b) := by exact rfl) (hx : ev l x = .string (bst s) := by exact rfl) (hp : Pick L (.obj b (.map es c)) L' := by (repeat (first | exact Go.Proofs.E.Pick.here | apply Go.Proofs.E.Pick.there))) :
    wpList P ops Q ({ dst := some d, op := .lookup t m x false, type := T, pos := pos, after := after, guard := none } :: rest) (fr l) w := by
  refine wl_val (w' := w) (v := .bool (decide (s ∈ ks))) ?_ h
  have hb : w.heap[b]? = some (.map es c) := (hM.pick hp).head
  have hz := run_zero (w := w) (hi := hi)
  have hck : (Instr.checkKey es.isEmpty 10000 k (.string (bst s))).run P w = .ok () w := MapKept.run_checkKey (d := .string) hk.out (by exact trivial) _ 9999
  rcases findNow_map s es.toList ks 0 hE with ⟨h2, h3⟩ | ⟨h2, j, h3⟩
  · have hf := MapKept.run_findKey (w := w) hk.out h3
    simp [exec, execOp, Instr.lookup, hm, hx, run_underlying hu.out, MapKept.run_getObj_map hb, Result.andThen, hck, hf, hz, h2]
  · have hf := MapKept.run_findKey (w := w) hk.out h3
    simp [exec, execOp, Instr.lookup, hm, hx, run_underlying hu.out, MapKept.run_getObj_map hb, Result.andThen, hck, hf, h2]
theorem kmu {t k e : TypeId} {m x y : Operand} {b : Nat} {es : Array MapEntry} {c : Nat} {ks : List (List UInt8)} {s : List UInt8} [hu : Und P t (.map k e)] [hk : Und P k .string]
    (hM : Mem O w0 w L) (hE : MapOf es ks) (hs : s ∉ ks) (h : ∀ w' es' c', Mem O w0 w' (.obj b (.map es' c') :: L') → MapOf es' (ks ++ [s]) → wpList P ops Q rest (fr l) w')
    (hm : ev l m = .map (some b) := by exact rfl) (hx : ev l x = .string (bst s) := by exact rfl) (hy : ev l y = .bool true := by exact rfl) (hp : Pick L (.obj b (.map es c)) L' := by (repeat (first | exact Go.Proofs.E.Pick.here | apply Go.Proofs.E.Pick.there))) :
    wpList P ops Q ({ dst := none, op := .mapUpdate t m x y, type := T, pos := pos, after := after, guard := none } :: rest) (fr l) w := by
  have hM' := hM.pick hp
  have hb : w.heap[b]? = some (.map es c) := hM'.head
  have hck : (Instr.checkKey false 10000 k (.string (bst s))).run P w = .ok () w := MapKept.run_checkKey (d := .string) hk.out (by exact trivial) _ 9999
  have h3 : Instr.findNow .string (.string (bst s)) es.toList 0 = some none := by
    rcases findNow_map s es.toList ks 0 hE with ⟨h2, h3⟩ | ⟨h2, j, h3⟩
    · exact h3
    · exact absurd h2 hs
  have hf := MapKept.run_findKey (w := w) hk.out h3
  have hlt : b < w.heap.size := (Array.getElem?_eq_some_iff.1 hb).1
  refine wl_skip (w' := { w with heap := w.heap.setIfInBounds b (.map (es.push { key := .string (bst s), val := .bool true, born := c }) (c + 1)) }) ?_ (h _ (es.push { key := .string (bst s), val := .bool true, born := c }) (c + 1) ?_ ?_)
  · simp [exec, execOp, Instr.mapUpdate, hm, hx, hy, run_underlying hu.out, MapKept.run_getObj_map hb, Result.andThen, hck, hf, MapKept.run_setObj_map _ hb]
  · refine hM'.put (S := [b]) (a' := .obj b (.map (es.push { key := .string (bst s), val := .bool true, born := c }) (c + 1))) ⟨rfl, rfl, rfl, by simp, fun k' hk' hn => ?_⟩ (fun k' hk' => show k' = b by simpa using hk') ?_ (fun k' hk' => .inl hk')
    · have : k' ≠ b := fun e => hn (by simp [e])
      simp [Ne.symm this]
    · show (w.heap.setIfInBounds b _)[b]? = _
      simp [hlt]
  · unfold MapOf at hE ⊢
    rw [Array.toList_push, List.map_append, List.map_append, hE]
    rfl
end
end Go.Proofs.E
namespace Go.Proofs.YtoimhmphhffelaaGreatDoor
open Go Go.RowKit Go.Proofs.E
attribute [local irreducible] Go.wpList Go.Code.wp Go.Proofs.E.exec Go.Proofs.E.wpLexG
def keysOf (us : List (RR × List Pr)) : List Bs := us.filterMap fun u => if u.1.1 = true then none else some u.1.2.1
def readsGo : List Bs → List (RR × List Pr) → Bool
  | _, [] => true
  | ks, u :: us => goodRB u.1 u.2 && ((u.1.1 || !decide (u.1.2.1 ∈ ks)) && readsGo (if u.1.1 = true then ks else ks ++ [u.1.2.1]) us)
theorem readsGo_cons (ks : List Bs) (u : RR × List Pr) (us : List (RR × List Pr)) : readsGo ks (u :: us) = (goodRB u.1 u.2 && ((u.1.1 || !decide (u.1.2.1 ∈ ks)) && readsGo (if u.1.1 = true then ks else ks ++ [u.1.2.1]) us)) := rfl
def rightB (ses snap : Int) (us : List (RR × List Pr)) (wz : List Pr) : Bool :=
  decide (1 ≤ ses ∧ ses ≤ 8 ∧ 0 ≤ snap ∧ snap ≤ 1099511627776 ∧ us.length ≤ 64 ∧ wz.length ≤ 64 ∧ goodL none wz = true) && readsGo [] us
theorem right_no {ses snap : Int} {us : List (RR × List Pr)} {wz : List Pr} (h : ¬ (1 ≤ ses ∧ ses ≤ 8 ∧ 0 ≤ snap ∧ snap ≤ 1099511627776 ∧ us.length ≤ 64 ∧ wz.length ≤ 64 ∧ goodL none wz = true)) : rightB ses snap us wz = false := by
  unfold rightB
  rw [decide_eq_false h, Bool.false_and]
theorem right_yes {ses snap : Int} {us : List (RR × List Pr)} {wz : List Pr} (h : 1 ≤ ses ∧ ses ≤ 8 ∧ 0 ≤ snap ∧ snap ≤ 1099511627776 ∧ us.length ≤ 64 ∧ wz.length ≤ 64 ∧ goodL none wz = true) : rightB ses snap us wz = readsGo [] us := by
  unfold rightB
  rw [decide_eq_true h, Bool.true_and]
theorem keysOf_step {us : List (RR × List Pr)} {j : Nat} {u : RR × List Pr} (h : us[j]? = some u) : keysOf (us.take (j + 1)) = if u.1.1 = true then keysOf (us.take j) else keysOf (us.take j) ++ [u.1.2.1] := by
  rw [List.take_add_one, h]
  unfold keysOf
  rw [List.filterMap_append]
  cases hu : u.1.1 <;> simp [hu]

set_option maxHeartbeats 16000000 in
theorem right_any (ses snap : Int) (strict : Bool) (vr vw : Value) (us : List (RR × List Pr)) (wz : List Pr) (w0 : World) (hR : (Ty.enc eRr).Rd [] w0 vr (us.map (fun u : RR × List Pr => u.1))) (hU : ∀ u ∈ us, (Ty.enc ePr).Rd [] w0 (slv u.1.2.2.2) u.2) (hW : (Ty.enc ePr).Rd [] w0 vw wz)
    (hk : ∀ u ∈ us, u.1.2.1.length ≤ 140737488355328 ∧ u.1.2.2.1.length ≤ 140737488355328 ∧ ∀ p ∈ u.2, p.1.length ≤ 140737488355328 ∧ p.2.1.length ≤ 140737488355328) (hb : ∀ p ∈ wz, p.1.length ≤ 140737488355328 ∧ p.2.1.length ≤ 140737488355328) :
    Calls Tryz.prog 119 #[.agg (rC ses snap strict vr vw).toArray] w0 (Ret fun u w' => u = .bool (rightB ses snap us wz) ∧ Ch [] w0 w') := by
  have hM := Mem.start w0
  obtain ⟨A, c, rfl⟩ := hR.form
  obtain ⟨A2, c2, rfl⟩ := hW.form
  have hl1 := hR.le
  have hl2 := hW.le
  simp only [List.length_map] at hR hl1 ⊢
  refine enter [.agg (rC ses snap strict (.slice A us.length c) (.slice A2 wz.length c2)).toArray, undef, undef, undef, undef, undef, undef, undef, undef, undef, undef, undef, undef, undef, undef, undef, undef, undef, undef, undef, undef, undef, undef, undef, undef, undef, undef, undef, undef, undef, undef, undef, undef, undef, undef, undef, undef, undef, undef, undef, undef, undef, undef, undef, undef, undef, undef, undef, undef, undef, undef, undef, undef, undef, undef, undef, undef, undef, undef, undef, undef, undef, undef, undef, undef, undef, undef, undef, undef] Tryz.func119 rfl rfl ?_
  repeat (first | refine gw ?_ | (refine ks ?_; intro w hM))
  refine kbx hM (fun w b1 hM => ?_)
  have hM : Mem [] w0 w [.cell b1 (rC ses snap strict (.slice A us.length c) (.slice A2 wz.length c2)) 25] := hM
  repeat (first | refine gw ?_ | (refine ks ?_; intro w hM))
  by_cases q1 : ses < 1
  · rw [decide_eq_true q1]
    repeat (first | refine gw ?_ | (refine ks ?_; intro w hM))
    refine c_condb rfl (fun _ => ?_) (fun h => by cases h)
    repeat (first | refine gw ?_ | (refine ks ?_; intro w hM))
    refine out1 rfl ⟨?_, hM.ch⟩
    exact congrArg Value.bool (right_no (fun h => by obtain ⟨h1, h2, h3, h4, h5, h6, h7⟩ := h; omega)).symm
  rw [decide_eq_false q1]
  repeat (first | refine gw ?_ | (refine ks ?_; intro w hM))
  by_cases q2 : ses > 8
  · rw [decide_eq_true q2]
    repeat (first | refine gw ?_ | (refine ks ?_; intro w hM))
    refine c_condb rfl (fun _ => ?_) (fun h => by cases h)
    repeat (first | refine gw ?_ | (refine ks ?_; intro w hM))
    refine out1 rfl ⟨?_, hM.ch⟩
    exact congrArg Value.bool (right_no (fun h => by obtain ⟨h1, h2, h3, h4, h5, h6, h7⟩ := h; omega)).symm
  rw [decide_eq_false q2]
  repeat (first | refine gw ?_ | (refine ks ?_; intro w hM))
  by_cases q3 : snap < 0
  · rw [decide_eq_true q3]
    repeat (first | refine gw ?_ | (refine ks ?_; intro w hM))
    refine c_condb rfl (fun _ => ?_) (fun h => by cases h)
    repeat (first | refine gw ?_ | (refine ks ?_; intro w hM))
    refine out1 rfl ⟨?_, hM.ch⟩
    exact congrArg Value.bool (right_no (fun h => by obtain ⟨h1, h2, h3, h4, h5, h6, h7⟩ := h; omega)).symm
  rw [decide_eq_false q3]
  repeat (first | refine gw ?_ | (refine ks ?_; intro w hM))
  by_cases q4 : snap > 1099511627776
  · rw [decide_eq_true q4]
    repeat (first | refine gw ?_ | (refine ks ?_; intro w hM))
    refine c_condb rfl (fun _ => ?_) (fun h => by cases h)
    repeat (first | refine gw ?_ | (refine ks ?_; intro w hM))
    refine out1 rfl ⟨?_, hM.ch⟩
    exact congrArg Value.bool (right_no (fun h => by obtain ⟨h1, h2, h3, h4, h5, h6, h7⟩ := h; omega)).symm
  rw [decide_eq_false q4]
  repeat (first | refine gw ?_ | (refine ks ?_; intro w hM))
  refine c_condb rfl (fun h => by cases h) (fun _ => ?_)
  repeat (first | refine gw ?_ | (refine ks ?_; intro w hM))
  by_cases q5 : (us.length : Int) > 64
  · rw [decide_eq_true q5]
    repeat (first | refine gw ?_ | (refine ks ?_; intro w hM))
    refine c_condb rfl (fun _ => ?_) (fun h => by cases h)
    repeat (first | refine gw ?_ | (refine ks ?_; intro w hM))
    refine out1 rfl ⟨?_, hM.ch⟩
    exact congrArg Value.bool (right_no (fun h => by obtain ⟨h1, h2, h3, h4, h5, h6, h7⟩ := h; omega)).symm
  rw [decide_eq_false q5]
  repeat (first | refine gw ?_ | (refine ks ?_; intro w hM))
  by_cases q6 : (wz.length : Int) > 64
  · rw [decide_eq_true q6]
    repeat (first | refine gw ?_ | (refine ks ?_; intro w hM))
    refine c_condb rfl (fun _ => ?_) (fun h => by cases h)
    repeat (first | refine gw ?_ | (refine ks ?_; intro w hM))
    refine out1 rfl ⟨?_, hM.ch⟩
    exact congrArg Value.bool (right_no (fun h => by obtain ⟨h1, h2, h3, h4, h5, h6, h7⟩ := h; omega)).symm
  rw [decide_eq_false q6]
  repeat (first | refine gw ?_ | (refine ks ?_; intro w hM))
  (try ((with_reducible apply is_gd); first | refine gt ?_ | refine gf ?_ | refine gu ?_)); refine kca hM (sgood_any _ wz w (hW.ch hM.ch) hb) (fun w hM => ?_)
  cases hg : goodL none wz with
  | false =>
    repeat (first | refine gw ?_ | (refine ks ?_; intro w hM))
    refine c_condb rfl (fun _ => ?_) (fun h => by cases h)
    repeat (first | refine gw ?_ | (refine ks ?_; intro w hM))
    refine out1 rfl ⟨?_, hM.ch⟩
    exact congrArg Value.bool (right_no (fun h => by rw [hg] at h; cases h.2.2.2.2.2.2)).symm
  | true =>
    rw [right_yes ⟨by omega, by omega, by omega, by omega, by omega, by omega, hg⟩]
    repeat (first | refine gw ?_ | (refine ks ?_; intro w hM))
    refine c_condb rfl (fun h => by cases h) (fun _ => ?_)
    repeat (first | refine gw ?_ | (refine ks ?_; intro w hM))
    refine kmk hM (fun w b2 hM => ?_)
    repeat (first | refine gw ?_ | (refine ks ?_; intro w hM))
    
    refine c_loop (fun n l w => ∃ (j : Nat) (es : Array MapEntry) (ck : Nat), (∃ jj : Nat → Value, l = [jj 0, .pointer (some ⟨b1, 0, none⟩), .bool false, .map (some b2), jj 4, jj 5, jj 6, jj 7, jj 8, jj 9, jj 10, jj 11, jj 12, jj 13, jj 14, jj 15, jj 16, jj 17, jj 18, jj 19, jj 20, jj 21, jj 22, jj 23, jj 24, jj 25, jj 26, jj 27, jj 28, jj 29, jj 30, jj 31, jj 32, jj 33, jj 34, jj 35, jj 36, jj 37, jj 38, jj 39, jj 40, jj 41, .slice A us.length c, .int .i64 (us.length : Int), .int .i64 (j : Int), jj 45, jj 46, jj 47, jj 48, jj 49, jj 50, jj 51, jj 52, jj 53, jj 54, jj 55, jj 56, jj 57, jj 58, jj 59, jj 60, jj 61, jj 62, jj 63, jj 64, jj 65, jj 66, jj 67, jj 68]) ∧ n + j = us.length ∧ Mem [] w0 w [.obj b2 (.map es ck), .cell b1 (rC ses snap strict (.slice A us.length c) (.slice A2 wz.length c2)) 25] ∧ MapOf es (keysOf (us.take j)) ∧ readsGo [] us = readsGo (keysOf (us.take j)) (us.drop j)) us.length
      ⟨0, #[], 0, exj rfl, rfl, hM, rfl, rfl⟩ ?_
    clear hM
    rintro n l w ⟨j, es, ck, ⟨jj, rfl⟩, hnj, hM, hE, hf⟩
    repeat (first | refine gw ?_ | (refine ks ?_; intro w hM))
    refine c_cond rfl (fun hj => ?_) (fun hj => ?_)
    · repeat (first | refine gw ?_ | (refine ks ?_; intro w hM))
      refine kix hR (fun b o x hp hA => ?_) (h1 := by rw [List.length_map]; omega)
      rw [Int.toNat_natCast, List.getElem?_map] at hp
      obtain ⟨u, hu, hux⟩ := Option.map_eq_some_iff.1 hp
      have hd : us.drop j = u :: us.drop (j + 1) := by
        obtain ⟨hlt, he⟩ := List.getElem?_eq_some_iff.1 hu
        rw [List.drop_eq_getElem_cons hlt, he]
      have hum : u ∈ us := List.mem_of_getElem? hu
      have hkk := hk u hum
      have hUu := hU u hum
      have hks := keysOf_step hu
      rw [hd] at hf
      rw [readsGo_cons] at hf
      obtain ⟨x2, ps⟩ := u
      simp only at hux hkk hUu hks hf
      subst hux
      obtain ⟨sc, key, to, A3, n3, c3⟩ := x2
      refine katr hM hA ?_
      refine kal hM (fun w b4 hM => ?_)
      refine kstw (vs := eRr.f (sc, key, to, (A3, n3, c3))) hM (fun w hM => ?_) (h1 := eRr.h1 (sc, key, to, (A3, n3, c3)))
      repeat (first | refine gw ?_ | (refine ks ?_; intro w hM))
      have hM : Mem [] w0 w [.cell b4 (eRr.f (sc, key, to, (A3, n3, c3))) 135, .obj b2 (.map es ck), .cell b1 (rC ses snap strict (.slice A us.length c) (.slice A2 wz.length c2)) 25] := hM
      refine kca hM (goodRead_any (sc, key, to, (A3, n3, c3)) ps w (hUu.ch hM.ch) hkk.1 hkk.2.1 hkk.2.2) (fun w hM => ?_)
      cases hgr : goodRB (sc, key, to, (A3, n3, c3)) ps with
      | false =>
        repeat (first | refine gw ?_ | (refine ks ?_; intro w hM))
        refine c_condb rfl (fun _ => ?_) (fun h => by cases h)
        repeat (first | refine gw ?_ | (refine ks ?_; intro w hM))
        exact out1 rfl ⟨by rw [hf]; simp [hgr, ev, nth], hM.ch⟩
      | true =>
        repeat (first | refine gw ?_ | (refine ks ?_; intro w hM))
        cases sc with
        | true =>
          repeat (first | refine gw ?_ | (refine ks ?_; intro w hM))
          refine c_condb rfl (fun h => by cases h) (fun _ => ?_)
          repeat (first | refine gw ?_ | (refine ks ?_; intro w hM))
          refine c_condb rfl (fun h => by cases h) (fun _ => ?_)
          repeat (first | refine gw ?_ | (refine ks ?_; intro w hM))
          exact x_goes (n - 1) rfl (by omega) ⟨j + 1, es, ck, exj rfl, by omega, hM.sub (by (repeat constructor)), by rw [hks]; exact hE, by rw [hf, hks]; simp [hgr]⟩
        | false =>
          repeat (first | refine gw ?_ | (refine ks ?_; intro w hM))
          refine klk (s := key) hM hE ?_
          by_cases hin : key ∈ keysOf (us.take j)
          · rw [decide_eq_true hin]
            repeat (first | refine gw ?_ | (refine ks ?_; intro w hM))
            refine c_condb rfl (fun _ => ?_) (fun h => by cases h)
            repeat (first | refine gw ?_ | (refine ks ?_; intro w hM))
            exact out1 rfl ⟨by rw [hf]; simp [hgr, hin, ev, nth], hM.ch⟩
          · rw [decide_eq_false hin]
            repeat (first | refine gw ?_ | (refine ks ?_; intro w hM))
            refine c_condb rfl (fun h => by cases h) (fun _ => ?_)
            repeat (first | refine gw ?_ | (refine ks ?_; intro w hM))
            refine c_condb rfl (fun _ => ?_) (fun h => by cases h)
            repeat (first | refine gw ?_ | (refine ks ?_; intro w hM))
            refine kmu (s := key) hM hE hin (fun w es2 ck2 hM hE2 => ?_)
            repeat (first | refine gw ?_ | (refine ks ?_; intro w hM))
            exact x_goes (n - 1) rfl (by omega) ⟨j + 1, es2, ck2, exj rfl, by omega, hM.sub (by (repeat constructor)), by rw [hks]; exact hE2, by rw [hf, hks]; simp [hgr, hin]⟩
    · rw [List.drop_eq_nil_of_le (by omega)] at hf
      repeat (first | refine gw ?_ | (refine ks ?_; intro w hM))
      exact out1 rfl ⟨by rw [hf]; rfl, hM.ch⟩
set_option maxHeartbeats 16000000 in
theorem rright_any (ses snap : Int) (strict : Bool) (vr vw : Value) (us : List (RR × List Pr)) (wz : List Pr) (w0 : World) (hR : (Ty.enc eRr).Rd [] w0 vr (us.map (fun u : RR × List Pr => u.1))) (hU : ∀ u ∈ us, (Ty.enc ePr).Rd [] w0 (slv u.1.2.2.2) u.2) (hW : (Ty.enc ePr).Rd [] w0 vw wz)
    (hk : ∀ u ∈ us, u.1.2.1.length ≤ 140737488355328 ∧ u.1.2.2.1.length ≤ 140737488355328 ∧ ∀ p ∈ u.2, p.1.length ≤ 140737488355328 ∧ p.2.1.length ≤ 140737488355328) (hb : ∀ p ∈ wz, p.1.length ≤ 140737488355328 ∧ p.2.1.length ≤ 140737488355328) :
    Calls Tryz.prog 121 #[.agg (rC ses snap strict vr vw).toArray] w0 (Ret fun u w' => u = .bool (rightB ses snap us wz) ∧ Ch [] w0 w') := by
  have hM := Mem.start w0
  obtain ⟨A, c, rfl⟩ := hR.form
  obtain ⟨A2, c2, rfl⟩ := hW.form
  have hl1 := hR.le
  have hl2 := hW.le
  simp only [List.length_map] at hR hl1 ⊢
  refine enter [.agg (rC ses snap strict (.slice A us.length c) (.slice A2 wz.length c2)).toArray, undef, undef, undef, undef, undef, undef, undef, undef, undef, undef, undef, undef, undef, undef, undef, undef, undef, undef, undef, undef, undef, undef, undef, undef, undef, undef, undef, undef, undef, undef, undef, undef, undef, undef, undef, undef, undef, undef, undef, undef, undef, undef, undef, undef, undef, undef, undef, undef, undef, undef, undef, undef, undef, undef, undef, undef, undef, undef, undef, undef, undef, undef, undef, undef, undef, undef, undef, undef, undef, undef, undef, undef, undef, undef, undef, undef, undef, undef, undef] Tryz.func121 rfl rfl ?_
  repeat (first | refine gw ?_ | (refine ks ?_; intro w hM))
  refine kbx hM (fun w b1 hM => ?_)
  have hM : Mem [] w0 w [.cell b1 (rC ses snap strict (.slice A us.length c) (.slice A2 wz.length c2)) 25] := hM
  repeat (first | refine gw ?_ | (refine ks ?_; intro w hM))
  by_cases q1 : ses < 1
  · rw [decide_eq_true q1]
    repeat (first | refine gw ?_ | (refine ks ?_; intro w hM))
    refine c_condb rfl (fun _ => ?_) (fun h => by cases h)
    repeat (first | refine gw ?_ | (refine ks ?_; intro w hM))
    refine out1 rfl ⟨?_, hM.ch⟩
    exact congrArg Value.bool (right_no (fun h => by obtain ⟨h1, h2, h3, h4, h5, h6, h7⟩ := h; omega)).symm
  rw [decide_eq_false q1]
  repeat (first | refine gw ?_ | (refine ks ?_; intro w hM))
  by_cases q2 : ses > 8
  · rw [decide_eq_true q2]
    repeat (first | refine gw ?_ | (refine ks ?_; intro w hM))
    refine c_condb rfl (fun _ => ?_) (fun h => by cases h)
    repeat (first | refine gw ?_ | (refine ks ?_; intro w hM))
    refine out1 rfl ⟨?_, hM.ch⟩
    exact congrArg Value.bool (right_no (fun h => by obtain ⟨h1, h2, h3, h4, h5, h6, h7⟩ := h; omega)).symm
  rw [decide_eq_false q2]
  repeat (first | refine gw ?_ | (refine ks ?_; intro w hM))
  by_cases q3 : snap < 0
  · rw [decide_eq_true q3]
    repeat (first | refine gw ?_ | (refine ks ?_; intro w hM))
    refine c_condb rfl (fun _ => ?_) (fun h => by cases h)
    repeat (first | refine gw ?_ | (refine ks ?_; intro w hM))
    refine out1 rfl ⟨?_, hM.ch⟩
    exact congrArg Value.bool (right_no (fun h => by obtain ⟨h1, h2, h3, h4, h5, h6, h7⟩ := h; omega)).symm
  rw [decide_eq_false q3]
  repeat (first | refine gw ?_ | (refine ks ?_; intro w hM))
  by_cases q4 : snap > 1099511627776
  · rw [decide_eq_true q4]
    repeat (first | refine gw ?_ | (refine ks ?_; intro w hM))
    refine c_condb rfl (fun _ => ?_) (fun h => by cases h)
    repeat (first | refine gw ?_ | (refine ks ?_; intro w hM))
    refine out1 rfl ⟨?_, hM.ch⟩
    exact congrArg Value.bool (right_no (fun h => by obtain ⟨h1, h2, h3, h4, h5, h6, h7⟩ := h; omega)).symm
  rw [decide_eq_false q4]
  repeat (first | refine gw ?_ | (refine ks ?_; intro w hM))
  by_cases q5 : (us.length : Int) > 64
  · rw [decide_eq_true q5]
    repeat (first | refine gw ?_ | (refine ks ?_; intro w hM))
    refine c_condb rfl (fun _ => ?_) (fun h => by cases h)
    repeat (first | refine gw ?_ | (refine ks ?_; intro w hM))
    refine out1 rfl ⟨?_, hM.ch⟩
    exact congrArg Value.bool (right_no (fun h => by obtain ⟨h1, h2, h3, h4, h5, h6, h7⟩ := h; omega)).symm
  rw [decide_eq_false q5]
  repeat (first | refine gw ?_ | (refine ks ?_; intro w hM))
  by_cases q6 : (wz.length : Int) > 64
  · rw [decide_eq_true q6]
    repeat (first | refine gw ?_ | (refine ks ?_; intro w hM))
    refine c_condb rfl (fun _ => ?_) (fun h => by cases h)
    repeat (first | refine gw ?_ | (refine ks ?_; intro w hM))
    refine out1 rfl ⟨?_, hM.ch⟩
    exact congrArg Value.bool (right_no (fun h => by obtain ⟨h1, h2, h3, h4, h5, h6, h7⟩ := h; omega)).symm
  rw [decide_eq_false q6]
  repeat (first | refine gw ?_ | (refine ks ?_; intro w hM))
  (try ((with_reducible apply is_gd); first | refine gt ?_ | refine gf ?_ | refine gu ?_)); refine kca hM (rgood08_any _ wz w (hW.ch hM.ch) hb) (fun w hM => ?_)
  cases hg : goodL none wz with
  | false =>
    repeat (first | refine gw ?_ | (refine ks ?_; intro w hM))
    refine c_condb rfl (fun _ => ?_) (fun h => by cases h)
    repeat (first | refine gw ?_ | (refine ks ?_; intro w hM))
    refine out1 rfl ⟨?_, hM.ch⟩
    exact congrArg Value.bool (right_no (fun h => by rw [hg] at h; cases h.2.2.2.2.2.2)).symm
  | true =>
    rw [right_yes ⟨by omega, by omega, by omega, by omega, by omega, by omega, hg⟩]
    repeat (first | refine gw ?_ | (refine ks ?_; intro w hM))
    refine c_condb rfl (fun h => by cases h) (fun _ => ?_)
    repeat (first | refine gw ?_ | (refine ks ?_; intro w hM))
    
    refine c_loop (fun n l w => ∃ (j : Nat), (∃ jj : Nat → Value, l = [jj 0, .pointer (some ⟨b1, 0, none⟩), .bool false, jj 3, jj 4, jj 5, jj 6, jj 7, jj 8, jj 9, jj 10, jj 11, jj 12, jj 13, jj 14, jj 15, jj 16, jj 17, jj 18, jj 19, jj 20, jj 21, jj 22, jj 23, jj 24, jj 25, jj 26, jj 27, jj 28, jj 29, jj 30, jj 31, jj 32, jj 33, jj 34, jj 35, jj 36, jj 37, jj 38, jj 39, jj 40, jj 41, jj 42, jj 43, .slice A us.length c, .int .i64 (us.length : Int), .int .i64 (j : Int), jj 47, jj 48, jj 49, jj 50, jj 51, jj 52, jj 53, jj 54, jj 55, jj 56, jj 57, jj 58, jj 59, jj 60, jj 61, jj 62, jj 63, jj 64, jj 65, jj 66, jj 67, jj 68, jj 69, jj 70, jj 71, jj 72, jj 73, jj 74, jj 75, jj 76, jj 77, jj 78, jj 79]) ∧ n + j = us.length ∧ Mem [] w0 w [.cell b1 (rC ses snap strict (.slice A us.length c) (.slice A2 wz.length c2)) 25] ∧ readsGo [] us = readsGo (keysOf (us.take j)) (us.drop j)) us.length
      ⟨0, exj rfl, rfl, hM, rfl⟩ ?_
    clear hM
    rintro n l w ⟨j, ⟨jj, rfl⟩, hnj, hM, hf⟩
    repeat (first | refine gw ?_ | (refine ks ?_; intro w hM))
    refine c_cond rfl (fun hj => ?_) (fun hj => ?_)
    · repeat (first | refine gw ?_ | (refine ks ?_; intro w hM))
      refine kix hR (fun b o x hp hA => ?_) (h1 := by rw [List.length_map]; omega)
      rw [Int.toNat_natCast, List.getElem?_map] at hp
      obtain ⟨u, hu, hux⟩ := Option.map_eq_some_iff.1 hp
      have hd : us.drop j = u :: us.drop (j + 1) := by
        obtain ⟨hlt, he⟩ := List.getElem?_eq_some_iff.1 hu
        rw [List.drop_eq_getElem_cons hlt, he]
      have hum : u ∈ us := List.mem_of_getElem? hu
      have hkk := hk u hum
      have hUu := hU u hum
      have hks := keysOf_step hu
      rw [hd] at hf
      rw [readsGo_cons] at hf
      obtain ⟨x2, ps⟩ := u
      simp only at hux hkk hUu hks hf
      subst hux
      obtain ⟨sc, key, to, A3, n3, c3⟩ := x2
      refine katr hM hA ?_
      refine kal hM (fun w b4 hM => ?_)
      repeat (first | refine gw ?_ | (refine ks ?_; intro w hM))
      refine kstw (vs := eRr.f (sc, key, to, (A3, n3, c3))) hM (fun w hM => ?_) (h1 := eRr.h1 (sc, key, to, (A3, n3, c3)))
      have hM : Mem [] w0 w [.cell b4 (eRr.f (sc, key, to, (A3, n3, c3))) 135, .cell b1 (rC ses snap strict (.slice A us.length c) (.slice A2 wz.length c2)) 25] := hM
      repeat (first | refine gw ?_ | (refine ks ?_; intro w hM))
      refine kca hM (rgoodRead_any (sc, key, to, (A3, n3, c3)) ps w (hUu.ch hM.ch) hkk.1 hkk.2.1 hkk.2.2) (fun w hM => ?_)
      cases hgr : goodRB (sc, key, to, (A3, n3, c3)) ps with
      | false =>
        repeat (first | refine gw ?_ | (refine ks ?_; intro w hM))
        refine c_condb rfl (fun _ => ?_) (fun h => by cases h)
        repeat (first | refine gw ?_ | (refine ks ?_; intro w hM))
        exact out1 rfl ⟨by rw [hf]; simp [hgr, ev, nth], hM.ch⟩
      | true =>
        repeat (first | refine gw ?_ | (refine ks ?_; intro w hM))
        refine c_condb rfl (fun h => by cases h) (fun _ => ?_)
        repeat (first | refine gw ?_ | (refine ks ?_; intro w hM))
        refine kcuth hR (fun v5 hV => ?_) (h1 := by rw [List.length_map]; omega)
        rw [Int.toNat_natCast, ← List.map_take] at hV
        obtain ⟨A5, c5, rfl⟩ := hV.form
        have hl5 : (us.take j).length = j := by rw [List.length_take]; omega
        rw [List.length_map, hl5] at hV ⊢
        repeat (first | refine gw ?_ | (refine ks ?_; intro w hM))
        
        refine c_loop (fun m l w => ∃ (i : Nat), (∃ jj : Nat → Value, l = [jj 0, .pointer (some ⟨b1, 0, none⟩), .bool false, .int .i64 (j : Int), .pointer (some ⟨b4, 0, none⟩), jj 5, jj 6, jj 7, jj 8, jj 9, jj 10, jj 11, jj 12, jj 13, jj 14, jj 15, jj 16, jj 17, jj 18, jj 19, jj 20, jj 21, jj 22, jj 23, jj 24, jj 25, jj 26, jj 27, jj 28, jj 29, jj 30, jj 31, jj 32, jj 33, jj 34, jj 35, jj 36, jj 37, jj 38, jj 39, jj 40, jj 41, jj 42, jj 43, .slice A us.length c, .int .i64 (us.length : Int), .int .i64 (j : Int), jj 47, jj 48, jj 49, jj 50, jj 51, jj 52, jj 53, jj 54, jj 55, jj 56, .slice A5 j c5, .int .i64 (j : Int), .int .i64 (i : Int), jj 60, jj 61, jj 62, jj 63, jj 64, jj 65, jj 66, jj 67, jj 68, jj 69, jj 70, jj 71, jj 72, jj 73, jj 74, jj 75, jj 76, jj 77, jj 78, jj 79]) ∧ m + i = j ∧ Mem [] w0 w [.cell b4 (eRr.f (sc, key, to, (A3, n3, c3))) 135, .cell b1 (rC ses snap strict (.slice A us.length c) (.slice A2 wz.length c2)) 25] ∧ (sc = true ∨ key ∉ keysOf (us.take i))) j
          ⟨0, exj rfl, rfl, hM, .inr (by simp [keysOf])⟩ ?_
        clear hM
        rintro m l w ⟨i, ⟨jj, rfl⟩, hmi, hM, hin⟩
        repeat (first | refine gw ?_ | (refine ks ?_; intro w hM))
        refine c_cond rfl (fun hi => ?_) (fun hi => ?_)
        · repeat (first | refine gw ?_ | (refine ks ?_; intro w hM))
          refine kix hV (fun b o x hp hA => ?_) (h1 := by rw [List.length_map]; omega)
          rw [Int.toNat_natCast, List.getElem?_map, List.getElem?_take_of_lt (by omega)] at hp
          obtain ⟨u2, hu2, hux2⟩ := Option.map_eq_some_iff.1 hp
          have hks2 := keysOf_step hu2
          obtain ⟨x3, ps2⟩ := u2
          simp only at hux2 hks2
          subst hux2
          obtain ⟨sc2, key2, to2, A6, n6, c6⟩ := x3
          refine katr hM hA ?_
          refine kal hM (fun w b6 hM => ?_)
          refine kstw (vs := eRr.f (sc2, key2, to2, (A6, n6, c6))) hM (fun w hM => ?_) (h1 := eRr.h1 (sc2, key2, to2, (A6, n6, c6)))
          have hM : Mem [] w0 w [.cell b6 (eRr.f (sc2, key2, to2, (A6, n6, c6))) 135, .cell b4 (eRr.f (sc, key, to, (A3, n3, c3))) 135, .cell b1 (rC ses snap strict (.slice A us.length c) (.slice A2 wz.length c2)) 25] := hM
          repeat (first | refine gw ?_ | (refine ks ?_; intro w hM))
          cases sc with
          | true =>
            repeat (first | refine gw ?_ | (refine ks ?_; intro w hM))
            refine c_condb rfl (fun h => by cases h) (fun _ => ?_)
            repeat (first | refine gw ?_ | (refine ks ?_; intro w hM))
            exact x_goes (m - 1) rfl (by omega) ⟨i + 1, exj rfl, by omega, hM.sub (by (repeat constructor)), .inl rfl⟩
          | false =>
            have hin := hin.resolve_left (by simp)
            repeat (first | refine gw ?_ | (refine ks ?_; intro w hM))
            cases sc2 with
            | true =>
              repeat (first | refine gw ?_ | (refine ks ?_; intro w hM))
              refine c_condb rfl (fun h => by cases h) (fun _ => ?_)
              repeat (first | refine gw ?_ | (refine ks ?_; intro w hM))
              exact x_goes (m - 1) rfl (by omega) ⟨i + 1, exj rfl, by omega, hM.sub (by (repeat constructor)), .inr (by rw [hks2]; exact hin)⟩
            | false =>
              repeat (first | refine gw ?_ | (refine ks ?_; intro w hM))
              (try ((with_reducible apply is_gd); first | refine gt ?_ | refine gf ?_ | refine gu ?_)); refine wl_val (r_eqst (a := key) (b := key2)) ?_
              by_cases he : key = key2
              · rw [decide_eq_true he]
                repeat (first | refine gw ?_ | (refine ks ?_; intro w hM))
                refine c_condb rfl (fun _ => ?_) (fun h => by cases h)
                repeat (first | refine gw ?_ | (refine ks ?_; intro w hM))
                have hmem : key ∈ keysOf (us.take j) := by
                  unfold keysOf
                  rw [List.mem_filterMap]
                  refine ⟨_, List.mem_of_getElem? (l := us.take j) (i := i) (by rw [List.getElem?_take_of_lt (by omega)]; exact hu2), by simp [he]⟩
                exact out1 rfl ⟨by rw [hf]; simp [hgr, hmem, ev, nth], hM.ch⟩
              · rw [decide_eq_false he]
                repeat (first | refine gw ?_ | (refine ks ?_; intro w hM))
                refine c_condb rfl (fun h => by cases h) (fun _ => ?_)
                repeat (first | refine gw ?_ | (refine ks ?_; intro w hM))
                exact x_goes (m - 1) rfl (by omega) ⟨i + 1, exj rfl, by omega, hM.sub (by (repeat constructor)), .inr (by rw [hks2]; simp [hin, he])⟩
        · repeat (first | refine gw ?_ | (refine ks ?_; intro w hM))
          have hij : i = j := by omega
          subst hij
          exact x_goes (n - 1) rfl (by omega) ⟨i + 1, exj rfl, by omega, hM.sub (by (repeat constructor)), by rw [hf, hks, hgr]; rcases hin with h | h <;> simp [h]⟩
    · rw [List.drop_eq_nil_of_le (by omega)] at hf
      repeat (first | refine gw ?_ | (refine ks ?_; intro w hM))
      exact out1 rfl ⟨by rw [hf]; rfl, hM.ch⟩
end Go.Proofs.YtoimhmphhffelaaGreatDoor
set_option linter.unusedVariables false
set_option linter.unusedSimpArgs false
namespace Go.Proofs.YtoimhmphhffelaaGreatDoor
open Go Go.RowKit Go.Proofs.E
attribute [local irreducible] Go.wpList Go.Code.wp Go.Proofs.E.exec Go.Proofs.E.wpLexG
abbrev ShortL (ps : List Pr) : Prop := ∀ p ∈ ps, p.1.length ≤ 140737488355328 ∧ p.2.1.length ≤ 140737488355328
abbrev ShortR (us : List (RR × List Pr)) : Prop := ∀ u ∈ us, u.1.2.1.length ≤ 140737488355328 ∧ u.1.2.2.1.length ≤ 140737488355328 ∧ ∀ p ∈ u.2, p.1.length ≤ 140737488355328 ∧ p.2.1.length ≤ 140737488355328
theorem goodPB_small {p : Pr} (h : goodPB p = true) : SmallP p := by
  unfold goodPB at h
  simp only [Bool.and_eq_true, decide_eq_true_eq] at h
  exact ⟨by omega, by omega⟩
theorem goodL_all : ∀ (q : Option Bs) (ps : List Pr), goodL q ps = true → ∀ p ∈ ps, goodPB p = true
  | _, [], _, p, hp => by cases hp
  | q, x :: r, h, p, hp => by
    rw [goodL_cons, Bool.and_eq_true, Bool.and_eq_true] at h
    rcases List.mem_cons.1 hp with rfl | hp
    · exact h.1
    · exact goodL_all _ r h.2.2 p hp
theorem goodR_parts {x : RR} {ps : List Pr} (h : goodRB x ps = true) : x.2.1.length ≤ 64 ∧ x.2.2.1.length ≤ 64 ∧ ps.length ≤ 200 ∧ goodL none ps = true ∧ (x.1 = true ∨ x.2.1 ≠ [] ∧ x.2.2.1 = [] ∧ ps.length ≤ 1) ∧ ps.all (inB x) = true := by
  unfold goodRB at h
  simp only [Bool.and_eq_true, Bool.or_eq_true, decide_eq_true_eq] at h
  exact h
theorem readsGo_all : ∀ (ks : List Bs) (us : List (RR × List Pr)), readsGo ks us = true → ∀ u ∈ us, goodRB u.1 u.2 = true
  | _, [], _, p, hp => by cases hp
  | ks, x :: r, h, p, hp => by
    rw [readsGo_cons, Bool.and_eq_true, Bool.and_eq_true] at h
    rcases List.mem_cons.1 hp with rfl | hp
    · exact h.1
    · exact readsGo_all _ r h.2.2 p hp
theorem right_parts {ses snap : Int} {us : List (RR × List Pr)} {wz : List Pr} (h : rightB ses snap us wz = true) : (1 ≤ ses ∧ ses ≤ 8 ∧ 0 ≤ snap ∧ snap ≤ 1099511627776 ∧ us.length ≤ 64 ∧ wz.length ≤ 64 ∧ goodL none wz = true) ∧ readsGo [] us = true := by
  unfold rightB at h
  rw [Bool.and_eq_true, decide_eq_true_eq] at h
  exact h
theorem right_small {ses snap : Int} {us : List (RR × List Pr)} {wz : List Pr} (h : rightB ses snap us wz = true) : SmallR us wz := by
  obtain ⟨⟨h1, h2, h3, h4, h5, h6, h7⟩, h8⟩ := right_parts h
  refine ⟨by omega, by omega, fun u hu => ?_, fun p hp => goodPB_small (goodL_all _ _ h7 p hp)⟩
  obtain ⟨g1, g2, g3, g4, _, _⟩ := goodR_parts (readsGo_all _ _ h8 u hu)
  exact ⟨by omega, by omega, by omega, fun p hp => goodPB_small (goodL_all _ _ g4 p hp)⟩
def bytesB (ses snap : Int) (strict : Bool) (us : List (RR × List Pr)) (wz : List Pr) : Bs := if rightB ses snap us wz = true then recB ses.toNat snap.toNat strict us wz else []
def recGood (ses snap : Int) (strict : Bool) (us : List (RR × List Pr)) (wz : List Pr) : Bool := rightB ses snap us wz && decide ((recB ses.toNat snap.toNat strict us wz).length ≤ 8192)
theorem recB_len {ses snap : Nat} {strict : Bool} {us : List (RR × List Pr)} {wz : List Pr} (h1 : ses < 2 ^ 63) (h2 : snap < 2 ^ 63) (hS : SmallR us wz) : (recB ses snap strict us wz).length ≤ 19000000 := by
  unfold recB
  have n1 := numB_len (n := ses) (by omega)
  have n2 := numB_len (n := snap) (by omega)
  obtain ⟨hs1, hs2, hs3, hs4⟩ := hS
  have n3 := numB_len (n := us.length) (by omega)
  have n4 := numB_len (n := wz.length) (by omega)
  have h4 := flat_le (f := readB) (C := 186500) us (fun u hu => readB_len (hs3 u hu))
  have h5 := flat_le (f := writeB) (C := 619) wz (fun u hu => writeB_len (hs4 u hu))
  have h6 : us.length * 186500 ≤ 100 * 186500 := Nat.mul_le_mul_right _ hs1
  have h7 : wz.length * 619 ≤ 100 * 619 := Nat.mul_le_mul_right _ hs2
  simp only [List.length_append, flagB_len]
  omega

set_option maxHeartbeats 8000000 in
theorem recGood_any (ses snap : Int) (strict : Bool) (vr vw : Value) (us : List (RR × List Pr)) (wz : List Pr) (w0 : World) (hR : (Ty.enc eRr).Rd [] w0 vr (us.map (fun u : RR × List Pr => u.1))) (hU : ∀ u ∈ us, (Ty.enc ePr).Rd [] w0 (slv u.1.2.2.2) u.2) (hW : (Ty.enc ePr).Rd [] w0 vw wz)
    (hk : ShortR us) (hb : ShortL wz) :
    Calls Tryz.prog 112 #[.agg (rC ses snap strict vr vw).toArray] w0 (Ret fun u w' => u = .bool (recGood ses snap strict us wz) ∧ Ch [] w0 w') := by
  have hM := Mem.start w0
  obtain ⟨A, c, rfl⟩ := hR.form
  obtain ⟨A2, c2, rfl⟩ := hW.form
  simp only [List.length_map] at hR ⊢
  unfold recGood
  refine enter [.agg (rC ses snap strict (.slice A us.length c) (.slice A2 wz.length c2)).toArray, undef, undef, undef, undef, undef, undef, undef, undef, undef, undef] Tryz.func112 rfl rfl ?_
  repeat (first | refine gw ?_ | (refine ks ?_; intro w hM))
  refine kbx hM (fun w b1 hM => ?_)
  have hM : Mem [] w0 w [.cell b1 (rC ses snap strict (.slice A us.length c) (.slice A2 wz.length c2)) 25] := hM
  repeat (first | refine gw ?_ | (refine ks ?_; intro w hM))
  refine kca hM (right_any ses snap strict _ _ us wz w (hR.ch hM.ch) (fun u hu => (hU u hu).ch hM.ch) (hW.ch hM.ch) hk hb) (fun w hM => ?_)
  cases hr : rightB ses snap us wz with
  | false =>
    repeat (first | refine gw ?_ | (refine ks ?_; intro w hM))
    exact out1 rfl ⟨rfl, hM.ch⟩
  | true =>
    have hS := right_small hr
    obtain ⟨⟨h1, h2, h3, h4, h5, h6, h7⟩, h8⟩ := right_parts hr
    obtain ⟨sn, rfl⟩ := Int.eq_ofNat_of_zero_le (show 0 ≤ ses by omega)
    obtain ⟨pn, rfl⟩ := Int.eq_ofNat_of_zero_le (show 0 ≤ snap by omega)
    have hlen := recB_len (ses := sn) (snap := pn) (strict := strict) (by omega) (by omega) hS
    repeat (first | refine gw ?_ | (refine ks ?_; intro w hM))
    (try ((with_reducible apply is_gd); first | refine gt ?_ | refine gf ?_ | refine gu ?_)); refine kcr hM (written_any sn pn strict _ _ us wz w (hR.ch hM.ch) (fun u hu => (hU u hu).ch hM.ch) (hW.ch hM.ch) hS (by omega) (by omega)) (fun v w hM => ?_)
    have hV := hM.rowRd (en := eU8) (v := v) (by (repeat constructor)) (by omega)
    obtain ⟨A9, c9, rfl⟩ := hV.form
    repeat (first | refine gw ?_ | (refine ks ?_; intro w hM))
    refine out1 rfl ⟨?_, hM.ch⟩
    simp only [Int.toNat_natCast, Bool.true_and]
    show Value.bool _ = _
    congr 1
    rw [Bool.eq_iff_iff, decide_eq_true_eq, decide_eq_true_eq]
    omega
set_option maxHeartbeats 8000000 in
theorem rgood16_any (ses snap : Int) (strict : Bool) (vr vw : Value) (us : List (RR × List Pr)) (wz : List Pr) (w0 : World) (hR : (Ty.enc eRr).Rd [] w0 vr (us.map (fun u : RR × List Pr => u.1))) (hU : ∀ u ∈ us, (Ty.enc ePr).Rd [] w0 (slv u.1.2.2.2) u.2) (hW : (Ty.enc ePr).Rd [] w0 vw wz)
    (hk : ShortR us) (hb : ShortL wz) :
    Calls Tryz.prog 118 #[.agg (rC ses snap strict vr vw).toArray] w0 (Ret fun u w' => u = .bool (recGood ses snap strict us wz) ∧ Ch [] w0 w') := by
  have hM := Mem.start w0
  obtain ⟨A, c, rfl⟩ := hR.form
  obtain ⟨A2, c2, rfl⟩ := hW.form
  simp only [List.length_map] at hR ⊢
  unfold recGood
  refine enter [.agg (rC ses snap strict (.slice A us.length c) (.slice A2 wz.length c2)).toArray, undef, undef, undef, undef, undef, undef, undef, undef, undef, undef] Tryz.func118 rfl rfl ?_
  repeat (first | refine gw ?_ | (refine ks ?_; intro w hM))
  refine kbx hM (fun w b1 hM => ?_)
  have hM : Mem [] w0 w [.cell b1 (rC ses snap strict (.slice A us.length c) (.slice A2 wz.length c2)) 25] := hM
  repeat (first | refine gw ?_ | (refine ks ?_; intro w hM))
  refine kca hM (rright_any ses snap strict _ _ us wz w (hR.ch hM.ch) (fun u hu => (hU u hu).ch hM.ch) (hW.ch hM.ch) hk hb) (fun w hM => ?_)
  cases hr : rightB ses snap us wz with
  | false =>
    repeat (first | refine gw ?_ | (refine ks ?_; intro w hM))
    exact out1 rfl ⟨rfl, hM.ch⟩
  | true =>
    have hS := right_small hr
    obtain ⟨⟨h1, h2, h3, h4, h5, h6, h7⟩, h8⟩ := right_parts hr
    obtain ⟨sn, rfl⟩ := Int.eq_ofNat_of_zero_le (show 0 ≤ ses by omega)
    obtain ⟨pn, rfl⟩ := Int.eq_ofNat_of_zero_le (show 0 ≤ snap by omega)
    have hlen := recB_len (ses := sn) (snap := pn) (strict := strict) (by omega) (by omega) hS
    repeat (first | refine gw ?_ | (refine ks ?_; intro w hM))
    (try ((with_reducible apply is_gd); first | refine gt ?_ | refine gf ?_ | refine gu ?_)); refine kcr hM (rbytes16_any sn pn strict _ _ us wz w (hR.ch hM.ch) (fun u hu => (hU u hu).ch hM.ch) (hW.ch hM.ch) hS (by omega) (by omega)) (fun v w hM => ?_)
    have hV := hM.rowRd (en := eU8) (v := v) (by (repeat constructor)) (by omega)
    obtain ⟨A9, c9, rfl⟩ := hV.form
    repeat (first | refine gw ?_ | (refine ks ?_; intro w hM))
    refine out1 rfl ⟨?_, hM.ch⟩
    simp only [Int.toNat_natCast, Bool.true_and]
    show Value.bool _ = _
    congr 1
    rw [Bool.eq_iff_iff, decide_eq_true_eq, decide_eq_true_eq]
    omega
set_option maxHeartbeats 8000000 in
theorem recBytes_any (ses snap : Int) (strict : Bool) (vr vw : Value) (us : List (RR × List Pr)) (wz : List Pr) (w0 : World) (hR : (Ty.enc eRr).Rd [] w0 vr (us.map (fun u : RR × List Pr => u.1))) (hU : ∀ u ∈ us, (Ty.enc ePr).Rd [] w0 (slv u.1.2.2.2) u.2) (hW : (Ty.enc ePr).Rd [] w0 vw wz)
    (hk : ShortR us) (hb : ShortL wz) :
    Calls Tryz.prog 51 #[.agg (rC ses snap strict vr vw).toArray] w0 (Ret fun u w' => Ch [] w0 w' ∧ Go.Proofs.E.Own eU8 w' w0.heap.size 5 u (bytesB ses snap strict us wz)) := by
  have hM := Mem.start w0
  obtain ⟨A, c, rfl⟩ := hR.form
  obtain ⟨A2, c2, rfl⟩ := hW.form
  simp only [List.length_map] at hR ⊢
  unfold bytesB
  refine enter [.agg (rC ses snap strict (.slice A us.length c) (.slice A2 wz.length c2)).toArray, undef, undef, undef, undef, undef, undef, undef] Tryz.func51 rfl rfl ?_
  repeat (first | refine gw ?_ | (refine ks ?_; intro w hM))
  refine kbx hM (fun w b1 hM => ?_)
  have hM : Mem [] w0 w [.cell b1 (rC ses snap strict (.slice A us.length c) (.slice A2 wz.length c2)) 25] := hM
  repeat (first | refine gw ?_ | (refine ks ?_; intro w hM))
  refine kca hM (right_any ses snap strict _ _ us wz w (hR.ch hM.ch) (fun u hu => (hU u hu).ch hM.ch) (hW.ch hM.ch) hk hb) (fun w hM => ?_)
  cases hr : rightB ses snap us wz with
  | false =>
    repeat (first | refine gw ?_ | (refine ks ?_; intro w hM))
    refine c_condb rfl (fun _ => ?_) (fun h => by cases h)
    repeat (first | refine gw ?_ | (refine ks ?_; intro w hM))
    exact out1 rfl ⟨hM.ch, Own.nil _ _ _ _⟩
  | true =>
    have hS := right_small hr
    obtain ⟨⟨h1, h2, h3, h4, h5, h6, h7⟩, h8⟩ := right_parts hr
    obtain ⟨sn, rfl⟩ := Int.eq_ofNat_of_zero_le (show 0 ≤ ses by omega)
    obtain ⟨pn, rfl⟩ := Int.eq_ofNat_of_zero_le (show 0 ≤ snap by omega)
    repeat (first | refine gw ?_ | (refine ks ?_; intro w hM))
    refine c_condb rfl (fun h => by cases h) (fun _ => ?_)
    repeat (first | refine gw ?_ | (refine ks ?_; intro w hM))
    refine kcr hM (written_any sn pn strict _ _ us wz w (hR.ch hM.ch) (fun u hu => (hU u hu).ch hM.ch) (hW.ch hM.ch) hS (by omega) (by omega)) (fun v w hM => ?_)
    repeat (first | refine gw ?_ | (refine ks ?_; intro w hM))
    exact out1 rfl ⟨hM.ch, hM.row (v := v) (by (repeat constructor))⟩
end Go.Proofs.YtoimhmphhffelaaGreatDoor
set_option linter.unusedVariables false
set_option linter.unusedSimpArgs false
namespace Go.Proofs.E
open Go Go.RowKit Go.Proofs.YtoimhmphhffelaaGreatDoor
theorem quo16 {a : Int} (ha : 0 ≤ a) (h2 : a ≤ 9223372036854775807) : IntKind.i64.wrap (a.tdiv 16) = a / 16 := by
  rw [Int.tdiv_eq_ediv_of_nonneg ha]
  exact wrap_rng (k := .i64) rfl (by omega) (by omega)
end Go.Proofs.E
namespace Go.Proofs.YtoimhmphhffelaaGreatDoor
open Go Go.RowKit Go.Proofs.E
attribute [local irreducible] Go.wpList Go.Code.wp Go.Proofs.E.exec Go.Proofs.E.wpLexG
def LightP (p : Pr) : Prop := p.1.length ≤ 10000 ∧ p.2.1.length ≤ 10000
def LightR (us : List (RR × List Pr)) (wz : List Pr) : Prop :=
  us.length ≤ 100 ∧ wz.length ≤ 100 ∧ (∀ u ∈ us, u.1.2.1.length ≤ 10000 ∧ u.1.2.2.1.length ≤ 10000 ∧ u.2.length ≤ 500 ∧ ∀ p ∈ u.2, LightP p) ∧ ∀ p ∈ wz, LightP p
theorem take_next {α : Type} {l : List α} {j : Nat} {x : α} {F : α → Prop} (h : l[j]? = some x) (hx : F x) (ht : ∀ y ∈ l.take j, F y) : ∀ y ∈ l.take (j + 1), F y := by
  intro y hy
  rw [List.take_add_one, h] at hy
  rcases List.mem_append.1 hy with hy | hy
  · exact ht y hy
  · simp at hy
    exact hy ▸ hx
set_option maxHeartbeats 16000000 in
theorem rlight_any (ses snap : Int) (strict : Bool) (vr vw : Value) (us : List (RR × List Pr)) (wz : List Pr) (w0 : World) (hR : (Ty.enc eRr).Rd [] w0 vr (us.map (fun u : RR × List Pr => u.1))) (hU : ∀ u ∈ us, (Ty.enc ePr).Rd [] w0 (slv u.1.2.2.2) u.2) (hW : (Ty.enc ePr).Rd [] w0 vw wz)
    (hk : ShortR us) (hb : ShortL wz) :
    Calls Tryz.prog 35 #[.agg (rC ses snap strict vr vw).toArray, .int .i64 500] w0 (Ret fun u w' => (∃ v : Int, u = .int .i64 v ∧ (0 ≤ v → LightR us wz)) ∧ Ch [] w0 w') := by
  have hM := Mem.start w0
  obtain ⟨A, c, rfl⟩ := hR.form
  obtain ⟨A2, c2, rfl⟩ := hW.form
  have hl1 := hR.le
  have hl2 := hW.le
  simp only [List.length_map] at hR hl1 ⊢
  refine enter [.agg (rC ses snap strict (.slice A us.length c) (.slice A2 wz.length c2)).toArray, .int .i64 500, undef, undef, undef, undef, undef, undef, undef, undef, undef, undef, undef, undef, undef, undef, undef, undef, undef, undef, undef, undef, undef, undef, undef, undef, undef, undef, undef, undef, undef, undef, undef, undef, undef, undef, undef, undef, undef, undef, undef, undef, undef, undef, undef, undef, undef, undef, undef, undef, undef, undef, undef, undef, undef, undef, undef, undef, undef, undef, undef, undef, undef, undef, undef, undef, undef, undef, undef, undef, undef, undef, undef, undef, undef, undef, undef, undef, undef, undef, undef, undef, undef, undef, undef, undef, undef, undef, undef, undef, undef, undef, undef, undef, undef, undef, undef, undef, undef, undef, undef, undef, undef] Tryz.func35 rfl rfl ?_
  repeat (first | refine gw ?_ | (refine ks ?_; intro w hM))
  refine kbx hM (fun w b1 hM => ?_)
  have hM : Mem [] w0 w [.cell b1 (rC ses snap strict (.slice A us.length c) (.slice A2 wz.length c2)) 25] := hM
  by_cases hs : us.length ≤ 100 ∧ wz.length ≤ 100
  rotate_left
  · repeat (first | refine gw ?_ | (refine ks ?_; intro w hM))
    generalize IntKind.i64.wrap (500 - IntKind.i64.wrap (IntKind.i64.wrap (1 + (us.length : Int)) + (wz.length : Int))) = X
    repeat (first | refine gw ?_ | (refine ks ?_; intro w hM))
    by_cases q1 : X < 0
    · rw [decide_eq_true q1]
      repeat (first | refine gw ?_ | (refine ks ?_; intro w hM))
      refine c_condb rfl (fun _ => ?_) (fun h => by cases h)
      repeat (first | refine gw ?_ | (refine ks ?_; intro w hM))
      exact out1 rfl ⟨⟨-1, rfl, fun h => by omega⟩, hM.ch⟩
    rw [decide_eq_false q1]
    repeat (first | refine gw ?_ | (refine ks ?_; intro w hM))
    by_cases q2 : (us.length : Int) > 100
    · rw [decide_eq_true q2]
      repeat (first | refine gw ?_ | (refine ks ?_; intro w hM))
      refine c_condb rfl (fun _ => ?_) (fun h => by cases h)
      repeat (first | refine gw ?_ | (refine ks ?_; intro w hM))
      exact out1 rfl ⟨⟨-1, rfl, fun h => by omega⟩, hM.ch⟩
    rw [decide_eq_false q2]
    repeat (first | refine gw ?_ | (refine ks ?_; intro w hM))
    rw [decide_eq_true (by omega : (wz.length : Int) > 100)]
    refine c_condb rfl (fun _ => ?_) (fun h => by cases h)
    repeat (first | refine gw ?_ | (refine ks ?_; intro w hM))
    exact out1 rfl ⟨⟨-1, rfl, fun h => by omega⟩, hM.ch⟩
  obtain ⟨hs1, hs2⟩ := hs
  repeat (first | refine gw ?_ | (refine ks ?_; intro w hM))
  rw [decide_eq_false (by omega : ¬ 500 - (1 + (us.length : Int) + (wz.length : Int)) < 0)]
  repeat (first | refine gw ?_ | (refine ks ?_; intro w hM))
  rw [decide_eq_false (by omega : ¬ (us.length : Int) > 100)]
  repeat (first | refine gw ?_ | (refine ks ?_; intro w hM))
  refine c_cond rfl (fun h => by omega) (fun _ => ?_)
  repeat (first | refine gw ?_ | (refine ks ?_; intro w hM))
  
  refine c_loop (fun n l w => ∃ (j : Nat) (v : Int), (∃ jj : Nat → Value, l = [jj 0, .int .i64 v, .pointer (some ⟨b1, 0, none⟩), jj 3, .int .i64 0, jj 5, jj 6, jj 7, jj 8, jj 9, jj 10, jj 11, jj 12, jj 13, jj 14, jj 15, jj 16, jj 17, jj 18, jj 19, jj 20, jj 21, jj 22, jj 23, jj 24, jj 25, jj 26, jj 27, jj 28, jj 29, jj 30, jj 31, jj 32, jj 33, jj 34, jj 35, .slice A2 wz.length c2, .int .i64 (wz.length : Int), .int .i64 (j : Int), jj 39, jj 40, jj 41, jj 42, jj 43, jj 44, jj 45, jj 46, jj 47, jj 48, jj 49, jj 50, jj 51, jj 52, jj 53, jj 54, jj 55, jj 56, jj 57, jj 58, jj 59, jj 60, jj 61, jj 62, jj 63, jj 64, jj 65, jj 66, jj 67, jj 68, jj 69, jj 70, jj 71, jj 72, jj 73, jj 74, jj 75, jj 76, jj 77, jj 78, jj 79, jj 80, jj 81, jj 82, jj 83, jj 84, jj 85, jj 86, jj 87, jj 88, jj 89, jj 90, jj 91, jj 92, jj 93, jj 94, jj 95, jj 96, jj 97, jj 98, jj 99, jj 100, jj 101, jj 102]) ∧ n + j = wz.length ∧ Mem [] w0 w [.cell b1 (rC ses snap strict (.slice A us.length c) (.slice A2 wz.length c2)) 25] ∧ 0 ≤ v ∧ v ≤ 500 ∧ ∀ p ∈ wz.take j, LightP p) wz.length
    ⟨0, _, exj rfl, rfl, hM, by omega, by omega, by simp⟩ ?_
  clear hM
  rintro n l w ⟨j, v, ⟨jj, rfl⟩, hnj, hM, hv0, hv1, hlp⟩
  repeat (first | refine gw ?_ | (refine ks ?_; intro w hM))
  refine c_cond rfl (fun hj => ?_) (fun hj => ?_)
  · repeat (first | refine gw ?_ | (refine ks ?_; intro w hM))
    refine kix hW (fun b o x hx hA => ?_)
    rw [Int.toNat_natCast] at hx
    obtain ⟨k, z, d⟩ := x
    have hbk := hb _ (List.mem_of_getElem? hx)
    simp only at hbk
    refine katr hM hA ?_
    refine kal hM (fun w b4 hM => ?_)
    repeat (first | refine gw ?_ | (refine ks ?_; intro w hM))
    have hM : Mem [] w0 w [.cell b4 (ePr.f (k, z, d)) 70, .cell b1 (rC ses snap strict (.slice A us.length c) (.slice A2 wz.length c2)) 25] := hM
    have ha : IntKind.i64.wrap ((k.length : Int) + (z.length : Int)) = (k.length : Int) + (z.length : Int) := wrap_rng (k := .i64) rfl (by omega) (by omega)
    have hq := quo16 (a := (k.length : Int) + (z.length : Int)) (by omega) (by omega)
    have hq2 : IntKind.i64.wrap (v - ((k.length : Int) + (z.length : Int)) / 16) = v - ((k.length : Int) + (z.length : Int)) / 16 := wrap_rng (k := .i64) rfl (by omega) (by omega)
    simp only [bst_size, ha, hq, hq2]
    refine c_cond rfl (fun q2 => ?_) (fun q2 => ?_)
    · repeat (first | refine gw ?_ | (refine ks ?_; intro w hM))
      exact out1 rfl ⟨⟨-1, rfl, fun h => by omega⟩, hM.ch⟩
    · repeat (first | refine gw ?_ | (refine ks ?_; intro w hM))
      exact x_goes (n - 1) rfl (by omega) ⟨j + 1, _, exj rfl, by omega, hM.sub (by (repeat constructor)), by omega, by omega, take_next hx ⟨by simp only; omega, by simp only; omega⟩ hlp⟩
  · rw [List.take_of_length_le (by omega)] at hlp
    clear hnj hj
    repeat (first | refine gw ?_ | (refine ks ?_; intro w hM))
    have hw := hlp
    clear hlp
    
    refine c_loop (fun n l w => ∃ (i : Nat) (v : Int), (∃ jj : Nat → Value, l = [jj 0, .int .i64 v, .pointer (some ⟨b1, 0, none⟩), jj 3, .int .i64 0, jj 5, jj 6, jj 7, jj 8, jj 9, jj 10, jj 11, jj 12, jj 13, jj 14, jj 15, jj 16, jj 17, jj 18, jj 19, jj 20, jj 21, jj 22, jj 23, jj 24, jj 25, jj 26, jj 27, jj 28, jj 29, jj 30, jj 31, jj 32, jj 33, jj 34, jj 35, jj 36, jj 37, jj 38, jj 39, jj 40, jj 41, jj 42, jj 43, jj 44, jj 45, jj 46, jj 47, jj 48, jj 49, jj 50, jj 51, jj 52, jj 53, jj 54, jj 55, .slice A us.length c, .int .i64 (us.length : Int), .int .i64 (i : Int), jj 59, jj 60, jj 61, jj 62, jj 63, jj 64, jj 65, jj 66, jj 67, jj 68, jj 69, jj 70, jj 71, jj 72, jj 73, jj 74, jj 75, jj 76, jj 77, jj 78, jj 79, jj 80, jj 81, jj 82, jj 83, jj 84, jj 85, jj 86, jj 87, jj 88, jj 89, jj 90, jj 91, jj 92, jj 93, jj 94, jj 95, jj 96, jj 97, jj 98, jj 99, jj 100, jj 101, jj 102]) ∧ n + i = us.length ∧ Mem [] w0 w [.cell b1 (rC ses snap strict (.slice A us.length c) (.slice A2 wz.length c2)) 25] ∧ -20000000000000 ≤ v ∧ v ≤ 500 ∧ (0 ≤ v → ∀ u ∈ us.take i, u.1.2.1.length ≤ 10000 ∧ u.1.2.2.1.length ≤ 10000 ∧ u.2.length ≤ 500 ∧ ∀ p ∈ u.2, LightP p)) us.length
      ⟨0, _, exj rfl, rfl, hM, by omega, by omega, by simp⟩ ?_
    clear hM hv0 hv1 v
    rintro n l w ⟨i, v, ⟨jj, rfl⟩, hnj, hM, hv0, hv1, hlp⟩
    repeat (first | refine gw ?_ | (refine ks ?_; intro w hM))
    refine c_cond rfl (fun hj => ?_) (fun hj => ?_)
    · repeat (first | refine gw ?_ | (refine ks ?_; intro w hM))
      refine kix hR (fun b o x hp hA => ?_) (h1 := by rw [List.length_map]; omega)
      rw [Int.toNat_natCast, List.getElem?_map] at hp
      obtain ⟨u, hu, hux⟩ := Option.map_eq_some_iff.1 hp
      have hum : u ∈ us := List.mem_of_getElem? hu
      have hkk := hk u hum
      have hUu := hU u hum
      obtain ⟨x2, ps⟩ := u
      simp only at hux hkk hUu
      subst hux
      obtain ⟨sc, key, to, A3, n3, c3⟩ := x2
      have hvl : n3 = ps.length := by
        obtain ⟨A, c, h⟩ := hUu.form
        unfold slv at h
        injection h
      subst hvl
      have hple := hUu.le
      simp only at hkk
      refine katr hM hA ?_
      refine kal hM (fun w b4 hM => ?_)
      refine kstw (vs := eRr.f (sc, key, to, (A3, ps.length, c3))) hM (fun w hM => ?_) (h1 := eRr.h1 (sc, key, to, (A3, ps.length, c3)))
      have hM : Mem [] w0 w [.cell b4 (eRr.f (sc, key, to, (A3, ps.length, c3))) 135, .cell b1 (rC ses snap strict (.slice A us.length c) (.slice A2 wz.length c2)) 25] := hM
      repeat (first | refine gw ?_ | (refine ks ?_; intro w hM))
      refine c_cond rfl (fun q2 => ?_) (fun q2 => ?_)
      · repeat (first | refine gw ?_ | (refine ks ?_; intro w hM))
        exact out1 rfl ⟨⟨-1, rfl, fun h => by omega⟩, hM.ch⟩
      · repeat (first | refine gw ?_ | (refine ks ?_; intro w hM))
        have ha : IntKind.i64.wrap ((key.length : Int) + (to.length : Int)) = (key.length : Int) + (to.length : Int) := wrap_rng (k := .i64) rfl (by omega) (by omega)
        have hq := quo16 (a := (key.length : Int) + (to.length : Int)) (by omega) (by omega)
        have hb2 : IntKind.i64.wrap ((ps.length : Int) + ((key.length : Int) + (to.length : Int)) / 16) = (ps.length : Int) + ((key.length : Int) + (to.length : Int)) / 16 := wrap_rng (k := .i64) rfl (by omega) (by omega)
        have hq2 : IntKind.i64.wrap (v - ((ps.length : Int) + ((key.length : Int) + (to.length : Int)) / 16)) = v - ((ps.length : Int) + ((key.length : Int) + (to.length : Int)) / 16) := wrap_rng (k := .i64) rfl (by omega) (by omega)
        simp only [bst_size, ha, hq, hb2, hq2]
        
        refine c_loop (fun n l w => ∃ (m : Nat) (v2 : Int), (∃ jj : Nat → Value, l = [jj 0, .int .i64 v2, .pointer (some ⟨b1, 0, none⟩), jj 3, .int .i64 0, jj 5, jj 6, jj 7, jj 8, jj 9, jj 10, jj 11, jj 12, jj 13, jj 14, jj 15, jj 16, jj 17, jj 18, jj 19, jj 20, jj 21, jj 22, jj 23, jj 24, jj 25, jj 26, jj 27, jj 28, jj 29, jj 30, jj 31, jj 32, jj 33, jj 34, jj 35, jj 36, jj 37, jj 38, jj 39, jj 40, jj 41, jj 42, jj 43, jj 44, jj 45, jj 46, jj 47, jj 48, jj 49, jj 50, jj 51, jj 52, jj 53, jj 54, jj 55, .slice A us.length c, .int .i64 (us.length : Int), .int .i64 (i : Int), jj 59, jj 60, jj 61, jj 62, jj 63, jj 64, jj 65, jj 66, jj 67, jj 68, jj 69, jj 70, jj 71, jj 72, jj 73, jj 74, jj 75, jj 76, jj 77, jj 78, jj 79, jj 80, jj 81, .slice A3 ps.length c3, .int .i64 (ps.length : Int), .int .i64 (m : Int), jj 85, jj 86, jj 87, jj 88, jj 89, jj 90, jj 91, jj 92, jj 93, jj 94, jj 95, jj 96, jj 97, jj 98, jj 99, jj 100, jj 101, jj 102]) ∧ n + m = ps.length ∧ Mem [] w0 w [.cell b1 (rC ses snap strict (.slice A us.length c) (.slice A2 wz.length c2)) 25] ∧ -20000000000000 ≤ v2 ∧ v2 ≤ v - ((ps.length : Int) + ((key.length : Int) + (to.length : Int)) / 16) ∧ (0 ≤ v2 → ∀ p ∈ ps.take m, LightP p)) ps.length
          ⟨0, _, exj rfl, rfl, hM.sub (by (repeat constructor)), by omega, by omega, by simp⟩ ?_
        clear hM
        rintro n2 l w ⟨m, v2, ⟨jj, rfl⟩, hnm, hM, hv20, hv21, hlp2⟩
        repeat (first | refine gw ?_ | (refine ks ?_; intro w hM))
        refine c_cond rfl (fun hi => ?_) (fun hi => ?_)
        · repeat (first | refine gw ?_ | (refine ks ?_; intro w hM))
          refine kix hUu (fun b o x hx hA => ?_)
          rw [Int.toNat_natCast] at hx
          obtain ⟨k, z, d⟩ := x
          have hbk := hkk.2.2 _ (List.mem_of_getElem? hx)
          simp only at hbk
          refine katr hM hA ?_
          refine kal hM (fun w b6 hM => ?_)
          repeat (first | refine gw ?_ | (refine ks ?_; intro w hM))
          have hM : Mem [] w0 w [.cell b6 (ePr.f (k, z, d)) 70, .cell b1 (rC ses snap strict (.slice A us.length c) (.slice A2 wz.length c2)) 25] := hM
          have ha : IntKind.i64.wrap ((k.length : Int) + (z.length : Int)) = (k.length : Int) + (z.length : Int) := wrap_rng (k := .i64) rfl (by omega) (by omega)
          have hq := quo16 (a := (k.length : Int) + (z.length : Int)) (by omega) (by omega)
          have hq2 : IntKind.i64.wrap (v2 - ((k.length : Int) + (z.length : Int)) / 16) = v2 - ((k.length : Int) + (z.length : Int)) / 16 := wrap_rng (k := .i64) rfl (by omega) (by omega)
          simp only [bst_size, ha, hq, hq2]
          refine c_cond rfl (fun q2 => ?_) (fun q2 => ?_)
          · repeat (first | refine gw ?_ | (refine ks ?_; intro w hM))
            exact out1 rfl ⟨⟨-1, rfl, fun h => by omega⟩, hM.ch⟩
          · repeat (first | refine gw ?_ | (refine ks ?_; intro w hM))
            exact x_goes (n2 - 1) rfl (by omega) ⟨m + 1, _, exj rfl, by omega, hM.sub (by (repeat constructor)), by omega, by omega, fun _ => take_next hx ⟨by simp only; omega, by simp only; omega⟩ (hlp2 (by omega))⟩
        · rw [List.take_of_length_le (by omega)] at hlp2
          repeat (first | refine gw ?_ | (refine ks ?_; intro w hM))
          exact x_goes (n - 1) rfl (by omega) ⟨i + 1, _, exj rfl, by omega, hM, by omega, by omega, fun _ => take_next hu ⟨by simp only; omega, by simp only; omega, by simp only; omega, hlp2 (by omega)⟩ (hlp (by omega))⟩
    · rw [List.take_of_length_le (by omega)] at hlp
      repeat (first | refine gw ?_ | (refine ks ?_; intro w hM))
      exact out1 rfl ⟨⟨_, rfl, fun hz => ⟨hs1, hs2, hlp hz, hw⟩⟩, hM.ch⟩
end Go.Proofs.YtoimhmphhffelaaGreatDoor
set_option linter.unusedVariables false
set_option linter.unusedSimpArgs false
namespace Go.Proofs.E
open Go Go.RowKit Go.Proofs.YtoimhmphhffelaaGreatDoor
theorem Ty.At.part {α β : Type} {en : En α} {e2 : En β} {S : List Nat} {w : World} {b o : Nat} {x : α} {y : β} (k : Nat) (h : (Ty.enc en).At S w b o x) (hp : ((en.f x).drop k).take e2.n = e2.f y) : (Ty.enc e2).At S w b (o + k) y := by
  obtain ⟨hb, hn, cs, hR, hr⟩ := h
  have hR : cs = en.f x := hR
  subst hR
  refine ⟨hb, hn, _, rfl, fun j v hv => ?_⟩
  have hlt : j < e2.n := by
    rw [← e2.hl y]
    exact (List.getElem?_eq_some_iff.1 hv).1
  rw [← hp, List.getElem?_take_of_lt hlt, List.getElem?_drop] at hv
  have := hr (k + j) v hv
  rw [Nat.add_assoc]
  exact this
section
variable {P : Program} {l : List Value} {w : World} {T : TypeId}
theorem r_neqB {x y : Operand} {t u : TypeId} {a b : Bool} [hU : Und P t .bool] (hx : ev l x = .bool a := by exact rfl) (hy : ev l y = .bool b := by exact rfl) : (exec (ev l) (.binOp .neq t x y u) T).run P w = .ok (.value (.bool (!decide (a = b)))) w := by
  have : (a == b) = decide (a = b) := by cases a <;> cases b <;> rfl
  rw [← this]
  have h := run_neq_bool (P := P) w t a b hU.out
  simp [exec, execOp, hx, hy, eqGuard, h]
end
abbrev eBst : En (List UInt8) := { f := fun s => [.string (bst s)], n := 1, hl := fun _ => rfl, h1 := fun _ u hu => by simp at hu; subst hu; rfl }
end Go.Proofs.E
namespace Go.Proofs.YtoimhmphhffelaaGreatDoor
open Go Go.RowKit Go.Proofs.E
attribute [local irreducible] Go.wpList Go.Code.wp Go.Proofs.E.exec Go.Proofs.E.wpLexG
theorem bool_beq (a b : Bool) : (a == b) = decide (a = b) := by cases a <;> cases b <;> rfl
theorem pr_cmp (p q : Pr) : CmpFs Tryz.prog 9999 (ePr.f p) (ePr.f q) (Tryz.prog.fieldsOf 70).toList (decide (p = q)) := by
  obtain ⟨a, b, c⟩ := p
  obtain ⟨x, y, z⟩ := q
  have e : decide ((a, b, c) = (x, y, z)) = ((bst a == bst x) && ((bst b == bst y) && ((c == z) && true))) := by
    rw [bst_beq, bst_beq, bool_beq, Bool.and_true, Bool.eq_iff_iff]
    simp
  rw [e]
  simp only [Program.fieldsOf, Tryz.underlying70]
  exact .cons (by decide) (cmp_str (t := 9)) rfl rfl (.cons (by decide) (cmp_str (t := 9)) rfl rfl (.cons (by decide) (cmp_bool (t := 4)) rfl rfl .nil))
theorem take_eq_iff {α : Type} {xs ys : List α} (hl : xs.length = ys.length) {j : Nat} (hj : xs.length ≤ j) (h : xs.take j = ys.take j) : xs = ys := by
  rwa [List.take_of_length_le hj, List.take_of_length_le (hl ▸ hj)] at h
theorem take_step {α : Type} {xs ys : List α} {j : Nat} {x y : α} (hx : xs[j]? = some x) (hy : ys[j]? = some y) (h : xs.take j = ys.take j) (he : x = y) : xs.take (j + 1) = ys.take (j + 1) := by
  rw [List.take_add_one, List.take_add_one, hx, hy, h, he]
abbrev Dat := Bool × Bs × Bs × List Pr
instance decPr : DecidableEq Pr := inferInstanceAs (DecidableEq (List UInt8 × List UInt8 × Bool))
instance decDat : DecidableEq Dat := inferInstanceAs (DecidableEq (Bool × List UInt8 × List UInt8 × List Pr))
def dat (u : RR × List Pr) : Dat := (u.1.1, u.1.2.1, u.1.2.2.1, u.2)

set_option maxHeartbeats 4000000 in
theorem equal_any (va vb : Value) (xs ys : List Pr) (w0 : World) (hX : (Ty.enc ePr).Rd [] w0 va xs) (hY : (Ty.enc ePr).Rd [] w0 vb ys) :
    Calls Tryz.prog 127 #[va, vb] w0 (Ret fun u w' => u = .bool (decide (xs = ys)) ∧ Ch [] w0 w') := by
  have hM := Mem.start w0
  obtain ⟨A, c, rfl⟩ := hX.form
  obtain ⟨A2, c2, rfl⟩ := hY.form
  have hl1 := hX.le
  have hl2 := hY.le
  refine enter [.slice A xs.length c, .slice A2 ys.length c2, undef, undef, undef, undef, undef, undef, undef, undef, undef, undef, undef, undef, undef, undef, undef, undef, undef, undef, undef, undef, undef, undef, undef, undef] Tryz.func127 rfl rfl ?_
  repeat (first | refine gw ?_ | (refine ks ?_; intro w hM))
  refine c_cond rfl (fun q1 => ?_) (fun q1 => ?_)
  · repeat (first | refine gw ?_ | (refine ks ?_; intro w hM))
    refine out1 rfl ⟨congrArg Value.bool (decide_eq_false (fun h => q1 (by rw [h]))).symm, hM.ch⟩
  have hl : xs.length = ys.length := by omega
  repeat (first | refine gw ?_ | (refine ks ?_; intro w hM))
  
  refine c_loop (fun n l w => ∃ (j : Nat), (∃ jj : Nat → Value, l = [.slice A xs.length c, .slice A2 ys.length c2, jj 2, jj 3, .bool false, jj 5, jj 6, jj 7, jj 8, jj 9, jj 10, jj 11, .int .i64 (xs.length : Int), .int .i64 (j : Int), jj 14, jj 15, jj 16, jj 17, jj 18, jj 19, jj 20, jj 21, jj 22, jj 23, jj 24, jj 25]) ∧ n + j = xs.length ∧ Mem [] w0 w [] ∧ xs.take j = ys.take j) xs.length
    ⟨0, exj rfl, rfl, hM, rfl⟩ ?_
  clear hM
  rintro n l w ⟨j, ⟨jj, rfl⟩, hnj, hM, hf⟩
  repeat (first | refine gw ?_ | (refine ks ?_; intro w hM))
  refine c_cond rfl (fun hj => ?_) (fun hj => ?_)
  · repeat (first | refine gw ?_ | (refine ks ?_; intro w hM))
    refine kdr hM (by kernel_rfl) (by kernel_rfl) (fun w hM => ?_)
    (try refine gwg ?_)
    refine kixg hX (fun o1 o2 x hx hA => ?_)
    refine katrg hM hA ?_
    (try refine gwg ?_)
    refine kixg hY (fun o3 o4 y hy hA' => ?_)
    refine katrg hM hA' ?_
    rw [Int.toNat_natCast] at hx hy
    (try ((with_reducible apply is_gg); first | refine gtg ?_ | refine gfg ?_ | refine gug ?_)); refine wg_val (fun _ _ => r_neqS (by kernel_rfl) (by kernel_rfl) (by kernel_rfl) rfl rfl (pr_cmp x y)) ?_
    (try refine gwg ?_)
    (intro w hc; have hM := hM.call hc)
    repeat (first | refine gw ?_ | (refine ks ?_; intro w hM))
    by_cases hxy : x = y
    · rw [decide_eq_true hxy]
      refine c_condb rfl (fun h => by cases h) (fun _ => ?_)
      repeat (first | refine gw ?_ | (refine ks ?_; intro w hM))
      exact x_goes (n - 1) rfl (by omega) ⟨j + 1, exj rfl, by omega, hM.sub (by (repeat constructor)), take_step hx hy hf hxy⟩
    · rw [decide_eq_false hxy]
      refine c_condb rfl (fun _ => ?_) (fun h => by cases h)
      repeat (first | refine gw ?_ | (refine ks ?_; intro w hM))
      exact out1 rfl ⟨congrArg Value.bool (decide_eq_false (fun h => hxy (by rw [h, hy] at hx; injection hx with hx; exact hx.symm))).symm, hM.ch⟩
  · repeat (first | refine gw ?_ | (refine ks ?_; intro w hM))
    exact out1 rfl ⟨congrArg Value.bool (decide_eq_true (take_eq_iff hl (by omega) hf)).symm, hM.ch⟩
set_option maxHeartbeats 4000000 in
theorem rsameL_any (va vb : Value) (xs ys : List Pr) (w0 : World) (hX : (Ty.enc ePr).Rd [] w0 va xs) (hY : (Ty.enc ePr).Rd [] w0 vb ys) :
    Calls Tryz.prog 124 #[va, vb] w0 (Ret fun u w' => u = .bool (decide (xs = ys)) ∧ Ch [] w0 w') := by
  have hM := Mem.start w0
  obtain ⟨A, c, rfl⟩ := hX.form
  obtain ⟨A2, c2, rfl⟩ := hY.form
  have hl1 := hX.le
  have hl2 := hY.le
  refine enter [.slice A xs.length c, .slice A2 ys.length c2, undef, undef, undef, undef, undef, undef, undef, undef, undef, undef, undef, undef, undef, undef, undef, undef, undef, undef, undef, undef, undef, undef, undef, undef] Tryz.func124 rfl rfl ?_
  repeat (first | refine gw ?_ | (refine ks ?_; intro w hM))
  refine c_cond rfl (fun q1 => ?_) (fun q1 => ?_)
  · repeat (first | refine gw ?_ | (refine ks ?_; intro w hM))
    refine out1 rfl ⟨congrArg Value.bool (decide_eq_false (fun h => q1 (by rw [h]))).symm, hM.ch⟩
  have hl : xs.length = ys.length := by omega
  repeat (first | refine gw ?_ | (refine ks ?_; intro w hM))
  
  refine c_loop (fun n l w => ∃ (j : Nat), (∃ jj : Nat → Value, l = [.slice A xs.length c, .slice A2 ys.length c2, jj 2, jj 3, .bool false, jj 5, jj 6, jj 7, jj 8, jj 9, jj 10, jj 11, .int .i64 (xs.length : Int), .int .i64 (j : Int), jj 14, jj 15, jj 16, jj 17, jj 18, jj 19, jj 20, jj 21, jj 22, jj 23, jj 24, jj 25]) ∧ n + j = xs.length ∧ Mem [] w0 w [] ∧ xs.take j = ys.take j) xs.length
    ⟨0, exj rfl, rfl, hM, rfl⟩ ?_
  clear hM
  rintro n l w ⟨j, ⟨jj, rfl⟩, hnj, hM, hf⟩
  repeat (first | refine gw ?_ | (refine ks ?_; intro w hM))
  refine c_cond rfl (fun hj => ?_) (fun hj => ?_)
  · repeat (first | refine gw ?_ | (refine ks ?_; intro w hM))
    refine kdr hM (by kernel_rfl) (by kernel_rfl) (fun w hM => ?_)
    (try refine gwg ?_)
    refine kixg hX (fun o1 o2 x hx hA => ?_)
    refine katrg hM hA ?_
    (try refine gwg ?_)
    refine kixg hY (fun o3 o4 y hy hA' => ?_)
    refine katrg hM hA' ?_
    rw [Int.toNat_natCast] at hx hy
    (try ((with_reducible apply is_gg); first | refine gtg ?_ | refine gfg ?_ | refine gug ?_)); refine wg_val (fun _ _ => r_neqS (by kernel_rfl) (by kernel_rfl) (by kernel_rfl) rfl rfl (pr_cmp x y)) ?_
    (try refine gwg ?_)
    (intro w hc; have hM := hM.call hc)
    repeat (first | refine gw ?_ | (refine ks ?_; intro w hM))
    by_cases hxy : x = y
    · rw [decide_eq_true hxy]
      refine c_condb rfl (fun h => by cases h) (fun _ => ?_)
      repeat (first | refine gw ?_ | (refine ks ?_; intro w hM))
      exact x_goes (n - 1) rfl (by omega) ⟨j + 1, exj rfl, by omega, hM.sub (by (repeat constructor)), take_step hx hy hf hxy⟩
    · rw [decide_eq_false hxy]
      refine c_condb rfl (fun _ => ?_) (fun h => by cases h)
      repeat (first | refine gw ?_ | (refine ks ?_; intro w hM))
      exact out1 rfl ⟨congrArg Value.bool (decide_eq_false (fun h => hxy (by rw [h, hy] at hx; injection hx with hx; exact hx.symm))).symm, hM.ch⟩
  · repeat (first | refine gw ?_ | (refine ks ?_; intro w hM))
    exact out1 rfl ⟨congrArg Value.bool (decide_eq_true (take_eq_iff hl (by omega) hf)).symm, hM.ch⟩
set_option maxHeartbeats 4000000 in
theorem sameRead_any (x y : RR) (ps qs : List Pr) (w0 : World) (hX : (Ty.enc ePr).Rd [] w0 (slv x.2.2.2) ps) (hY : (Ty.enc ePr).Rd [] w0 (slv y.2.2.2) qs) :
    Calls Tryz.prog 126 #[.agg (eRr.f x).toArray, .agg (eRr.f y).toArray] w0 (Ret fun u w' => u = .bool (decide (dat (x, ps) = dat (y, qs))) ∧ Ch [] w0 w') := by
  have hM := Mem.start w0
  obtain ⟨sc, key, to, A3, n3, c3⟩ := x
  obtain ⟨sc2, key2, to2, A4, n4, c4⟩ := y
  refine enter [.agg (eRr.f (sc, key, to, (A3, n3, c3))).toArray, .agg (eRr.f (sc2, key2, to2, (A4, n4, c4))).toArray, undef, undef, undef, undef, undef, undef, undef, undef, undef, undef, undef, undef, undef, undef, undef, undef, undef, undef, undef, undef, undef, undef, undef, undef, undef, undef, undef, undef, undef] Tryz.func126 rfl rfl ?_
  repeat (first | refine gw ?_ | (refine ks ?_; intro w hM))
  refine kbx hM (fun w b2 hM => ?_)
  refine kbx hM (fun w b3 hM => ?_)
  have hM : Mem [] w0 w [.cell b3 (eRr.f (sc2, key2, to2, (A4, n4, c4))) 135, .cell b2 (eRr.f (sc, key, to, (A3, n3, c3))) 135] := hM
  repeat (first | refine gw ?_ | (refine ks ?_; intro w hM))
  (try ((with_reducible apply is_gd); first | refine gt ?_ | refine gf ?_ | refine gu ?_)); refine wl_val (r_eqbb (a := sc) (b := sc2) rfl rfl) ?_
  rw [bool_beq]
  by_cases q1 : sc = sc2
  rotate_left
  · rw [decide_eq_false q1]
    repeat (first | refine gw ?_ | (refine ks ?_; intro w hM))
    exact out1 rfl ⟨by simp [dat, q1, ev, nth], hM.ch⟩
  rw [decide_eq_true q1]
  repeat (first | refine gw ?_ | (refine ks ?_; intro w hM))
  (try ((with_reducible apply is_gd); first | refine gt ?_ | refine gf ?_ | refine gu ?_)); refine wl_val (r_eqst (a := key) (b := key2)) ?_
  by_cases q2 : key = key2
  rotate_left
  · rw [decide_eq_false q2]
    repeat (first | refine gw ?_ | (refine ks ?_; intro w hM))
    exact out1 rfl ⟨by simp [dat, q2, ev, nth], hM.ch⟩
  rw [decide_eq_true q2]
  repeat (first | refine gw ?_ | (refine ks ?_; intro w hM))
  (try ((with_reducible apply is_gd); first | refine gt ?_ | refine gf ?_ | refine gu ?_)); refine wl_val (r_eqst (a := to) (b := to2)) ?_
  by_cases q3 : to = to2
  rotate_left
  · rw [decide_eq_false q3]
    repeat (first | refine gw ?_ | (refine ks ?_; intro w hM))
    exact out1 rfl ⟨by simp [dat, q3, ev, nth], hM.ch⟩
  rw [decide_eq_true q3]
  repeat (first | refine gw ?_ | (refine ks ?_; intro w hM))
  (try ((with_reducible apply is_gd); first | refine gt ?_ | refine gf ?_ | refine gu ?_)); refine kca hM (equal_any _ _ ps qs w (hX.ch hM.ch) (hY.ch hM.ch)) (fun w hM => ?_)
  repeat (first | refine gw ?_ | (refine ks ?_; intro w hM))
  exact out1 rfl ⟨by simp [dat, q1, q2, q3, ev, nth], hM.ch⟩
theorem dat_iff {u v : RR × List Pr} : dat u = dat v ↔ u.1.1 = v.1.1 ∧ u.1.2.1 = v.1.2.1 ∧ u.1.2.2.1 = v.1.2.2.1 ∧ u.2 = v.2 := by
  simp [dat]
theorem map_at {α β : Type} {f : α → β} {l : List α} {i : Nat} {b : β} (h : (l.map f)[i]? = some b) : ∃ a, l[i]? = some a ∧ f a = b := by
  rw [List.getElem?_map] at h
  exact Option.map_eq_some_iff.1 h
theorem map_take_step {α β : Type} {f : α → β} {xs ys : List α} {j : Nat} {x y : α} (hx : xs[j]? = some x) (hy : ys[j]? = some y) (h : (xs.take j).map f = (ys.take j).map f) (he : f x = f y) : (xs.take (j + 1)).map f = (ys.take (j + 1)).map f := by
  rw [List.take_add_one, List.take_add_one, hx, hy, List.map_append, List.map_append, h]
  simp [he]
theorem map_at_eq {α β : Type} {f : α → β} {xs ys : List α} {j : Nat} {x y : α} (hx : xs[j]? = some x) (hy : ys[j]? = some y) (h : xs.map f = ys.map f) : f x = f y := by
  have h1 : (xs.map f)[j]? = some (f x) := by rw [List.getElem?_map, hx]; rfl
  rw [h, List.getElem?_map, hy] at h1
  injection h1 with h1
  exact h1.symm
set_option maxHeartbeats 16000000 in
theorem equalFunc_any (va vb : Value) (us vs : List (RR × List Pr)) (w0 : World) (hX : (Ty.enc eRr).Rd [] w0 va (us.map (fun u : RR × List Pr => u.1))) (hY : (Ty.enc eRr).Rd [] w0 vb (vs.map (fun u : RR × List Pr => u.1)))
    (hU : ∀ u ∈ us, (Ty.enc ePr).Rd [] w0 (slv u.1.2.2.2) u.2) (hV : ∀ u ∈ vs, (Ty.enc ePr).Rd [] w0 (slv u.1.2.2.2) u.2) :
    Calls Tryz.prog 125 #[va, vb, .func (.func 126) #[] #[]] w0 (Ret fun u w' => u = .bool (decide (us.map dat = vs.map dat)) ∧ Ch [] w0 w') := by
  have hM := Mem.start w0
  obtain ⟨A, c, rfl⟩ := hX.form
  obtain ⟨A2, c2, rfl⟩ := hY.form
  have hl1 := hX.le
  have hl2 := hY.le
  simp only [List.length_map] at hX hY hl1 hl2 ⊢
  refine enter [.slice A us.length c, .slice A2 vs.length c2, .func (.func 126) #[] #[], undef, undef, undef, undef, undef, undef, undef, undef, undef, undef, undef, undef, undef, undef, undef, undef, undef, undef, undef, undef, undef, undef, undef, undef, undef, undef, undef, undef, undef] Tryz.func125 rfl rfl ?_
  repeat (first | refine gw ?_ | (refine ks ?_; intro w hM))
  refine c_cond rfl (fun q1 => ?_) (fun q1 => ?_)
  · repeat (first | refine gw ?_ | (refine ks ?_; intro w hM))
    refine out1 rfl ⟨congrArg Value.bool (decide_eq_false (fun h => q1 (by have h2 := congrArg List.length h; rw [List.length_map, List.length_map] at h2; rw [h2]))).symm, hM.ch⟩
  have hl : us.length = vs.length := by omega
  repeat (first | refine gw ?_ | (refine ks ?_; intro w hM))
  
  refine c_loop (fun n l w => ∃ (j : Nat), (∃ jj : Nat → Value, l = [.slice A us.length c, .slice A2 vs.length c2, .func (.func 126) #[] #[], jj 3, jj 4, jj 5, .bool false, jj 7, jj 8, jj 9, jj 10, jj 11, jj 12, jj 13, jj 14, .slice A us.length c, .int .i64 (us.length : Int), .int .i64 (j : Int), jj 18, jj 19, jj 20, jj 21, jj 22, jj 23, jj 24, jj 25, jj 26, jj 27, jj 28, jj 29, jj 30, jj 31]) ∧ n + j = us.length ∧ Mem [] w0 w [] ∧ (us.take j).map dat = (vs.take j).map dat) us.length
    ⟨0, exj rfl, rfl, hM, rfl⟩ ?_
  clear hM
  rintro n l w ⟨j, ⟨jj, rfl⟩, hnj, hM, hf⟩
  repeat (first | refine gw ?_ | (refine ks ?_; intro w hM))
  refine c_cond rfl (fun hj => ?_) (fun hj => ?_)
  · repeat (first | refine gw ?_ | (refine ks ?_; intro w hM))
    refine kix hX (fun o1 o2 x hp hA => ?_) (h1 := by rw [List.length_map]; omega)
    rw [Int.toNat_natCast] at hp
    obtain ⟨sc, key, to, A3, n3, c3⟩ := x
    refine katr hM hA ?_
    refine kal hM (fun w b4 hM => ?_)
    repeat (first | refine gw ?_ | (refine ks ?_; intro w hM))
    refine kstw (vs := eRr.f (sc, key, to, (A3, n3, c3))) hM (fun w hM => ?_) (h1 := eRr.h1 (sc, key, to, (A3, n3, c3)))
    repeat (first | refine gw ?_ | (refine ks ?_; intro w hM))
    refine kix hY (fun o3 o4 y hq hA2 => ?_) (h1 := by rw [List.length_map]; omega)
    rw [Int.toNat_natCast] at hq
    obtain ⟨sc2, key2, to2, A4, n4, c4⟩ := y
    refine katr hM hA2 ?_
    refine kal hM (fun w b5 hM => ?_)
    refine kstw (vs := eRr.f (sc2, key2, to2, (A4, n4, c4))) hM (fun w hM => ?_) (h1 := eRr.h1 (sc2, key2, to2, (A4, n4, c4)))
    have hM : Mem [] w0 w [.cell b5 (eRr.f (sc2, key2, to2, (A4, n4, c4))) 135, .cell b4 (eRr.f (sc, key, to, (A3, n3, c3))) 135] := hM
    obtain ⟨u, hu, hux⟩ := map_at hp
    obtain ⟨v, hv, hvx⟩ := map_at hq
    have hUu := hU u (List.mem_of_getElem? hu)
    have hVv := hV v (List.mem_of_getElem? hv)
    obtain ⟨x2, ps⟩ := u
    obtain ⟨y2, qs⟩ := v
    simp only at hux hvx hUu hVv
    subst hux
    subst hvx
    repeat (first | refine gw ?_ | (refine ks ?_; intro w hM))
    refine kcd (vs := [.agg (eRr.f (sc, key, to, (A3, n3, c3))).toArray, .agg (eRr.f (sc2, key2, to2, (A4, n4, c4))).toArray]) (lb := #[]) (sameRead_any (sc, key, to, (A3, n3, c3)) (sc2, key2, to2, (A4, n4, c4)) ps qs w (hUu.ch hM.ch) (hVv.ch hM.ch)) (fun v w' hv => ?_)
    obtain ⟨rfl, hc⟩ := hv
    have hM := hM.call hc
    by_cases hxy : dat ((sc, key, to, (A3, n3, c3)), ps) = dat ((sc2, key2, to2, (A4, n4, c4)), qs)
    · rw [decide_eq_true hxy]
      repeat (first | refine gw ?_ | (refine ks ?_; intro w hM))
      refine c_condb rfl (fun h => by cases h) (fun _ => ?_)
      repeat (first | refine gw ?_ | (refine ks ?_; intro w hM))
      exact x_goes (n - 1) rfl (by omega) ⟨j + 1, exj rfl, by omega, hM.sub (by (repeat constructor)), map_take_step hu hv hf hxy⟩
    · rw [decide_eq_false hxy]
      repeat (first | refine gw ?_ | (refine ks ?_; intro w hM))
      refine c_condb rfl (fun _ => ?_) (fun h => by cases h)
      repeat (first | refine gw ?_ | (refine ks ?_; intro w hM))
      exact out1 rfl ⟨congrArg Value.bool (decide_eq_false (fun h => hxy (map_at_eq hu hv h))).symm, hM.ch⟩
  · repeat (first | refine gw ?_ | (refine ks ?_; intro w hM))
    exact out1 rfl ⟨congrArg Value.bool (decide_eq_true (by rwa [List.take_of_length_le (by omega), List.take_of_length_le (by omega)] at hf)).symm, hM.ch⟩
set_option maxHeartbeats 16000000 in
theorem rsameReads_any (va vb : Value) (us vs : List (RR × List Pr)) (w0 : World) (hX : (Ty.enc eRr).Rd [] w0 va (us.map (fun u : RR × List Pr => u.1))) (hY : (Ty.enc eRr).Rd [] w0 vb (vs.map (fun u : RR × List Pr => u.1)))
    (hU : ∀ u ∈ us, (Ty.enc ePr).Rd [] w0 (slv u.1.2.2.2) u.2) (hV : ∀ u ∈ vs, (Ty.enc ePr).Rd [] w0 (slv u.1.2.2.2) u.2) :
    Calls Tryz.prog 123 #[va, vb] w0 (Ret fun u w' => u = .bool (decide (us.map dat = vs.map dat)) ∧ Ch [] w0 w') := by
  have hM := Mem.start w0
  obtain ⟨A, c, rfl⟩ := hX.form
  obtain ⟨A2, c2, rfl⟩ := hY.form
  have hl1 := hX.le
  have hl2 := hY.le
  simp only [List.length_map] at hX hY hl1 hl2 ⊢
  refine enter [.slice A us.length c, .slice A2 vs.length c2, undef, undef, undef, undef, undef, undef, undef, undef, undef, undef, undef, undef, undef, undef, undef, undef, undef, undef, undef, undef, undef, undef, undef, undef, undef, undef, undef, undef, undef, undef, undef, undef, undef, undef, undef, undef, undef, undef, undef, undef, undef, undef, undef, undef, undef, undef, undef, undef, undef, undef, undef, undef, undef, undef, undef, undef, undef, undef, undef, undef, undef, undef, undef, undef, undef, undef] Tryz.func123 rfl rfl ?_
  repeat (first | refine gw ?_ | (refine ks ?_; intro w hM))
  refine c_cond rfl (fun q1 => ?_) (fun q1 => ?_)
  · repeat (first | refine gw ?_ | (refine ks ?_; intro w hM))
    refine out1 rfl ⟨congrArg Value.bool (decide_eq_false (fun h => q1 (by have h2 := congrArg List.length h; rw [List.length_map, List.length_map] at h2; rw [h2]))).symm, hM.ch⟩
  have hl : us.length = vs.length := by omega
  repeat (first | refine gw ?_ | (refine ks ?_; intro w hM))
  
  refine c_loop (fun n l w => ∃ (j : Nat), (∃ jj : Nat → Value, l = [.slice A us.length c, .slice A2 vs.length c2, jj 2, jj 3, .bool false, jj 5, jj 6, jj 7, jj 8, jj 9, jj 10, jj 11, .int .i64 (us.length : Int), .int .i64 (j : Int), jj 14, jj 15, jj 16, jj 17, jj 18, jj 19, jj 20, jj 21, jj 22, jj 23, jj 24, jj 25, jj 26, jj 27, jj 28, jj 29, jj 30, jj 31, jj 32, jj 33, jj 34, jj 35, jj 36, jj 37, jj 38, jj 39, jj 40, jj 41, jj 42, jj 43, jj 44, jj 45, jj 46, jj 47, jj 48, jj 49, jj 50, jj 51, jj 52, jj 53, jj 54, jj 55, jj 56, jj 57, jj 58, jj 59, jj 60, jj 61, jj 62, jj 63, jj 64, jj 65, jj 66, jj 67]) ∧ n + j = us.length ∧ Mem [] w0 w [] ∧ (us.take j).map dat = (vs.take j).map dat) us.length
    ⟨0, exj rfl, rfl, hM, rfl⟩ ?_
  clear hM
  rintro n l w ⟨j, ⟨jj, rfl⟩, hnj, hM, hf⟩
  repeat (first | refine gw ?_ | (refine ks ?_; intro w hM))
  refine c_cond rfl (fun hj => ?_) (fun hj => ?_)
  · repeat (first | refine gw ?_ | (refine ks ?_; intro w hM))
    have hx1 : ∃ u, us[j]? = some u := ⟨_, List.getElem?_eq_getElem (by omega)⟩
    obtain ⟨u, hu⟩ := hx1
    have hx2 : ∃ v, vs[j]? = some v := ⟨_, List.getElem?_eq_getElem (by omega)⟩
    obtain ⟨v, hv⟩ := hx2
    have hUu := hU u (List.mem_of_getElem? hu)
    have hVv := hV v (List.mem_of_getElem? hv)
    obtain ⟨⟨sc, key, to, A3, n3, c3⟩, ps⟩ := u
    obtain ⟨⟨sc2, key2, to2, A4, n4, c4⟩, qs⟩ := v
    simp only at hUu hVv
    refine kdr hM (by kernel_rfl) (by kernel_rfl) (fun w hM => ?_)
    (try refine gwg ?_)
    (try ((with_reducible apply is_gg); first | refine gtg ?_ | refine gfg ?_ | refine gug ?_)); refine kixg hX (fun o1 o2 x0 hp hA => ?_) (h1 := by rw [List.length_map]; omega)
    rw [Int.toNat_natCast, List.getElem?_map, hu] at hp
    injection hp with hp
    subst hp
    (try refine gwg ?_)
    (try ((with_reducible apply is_gg); first | refine gtg ?_ | refine gfg ?_ | refine gug ?_)); refine katg hM (hA.part (e2 := eBool) (y := sc) 0 rfl) ?_
    (try refine gwg ?_)
    (try ((with_reducible apply is_gg); first | refine gtg ?_ | refine gfg ?_ | refine gug ?_)); refine kixg hY (fun o1 o2 y0 hp hA => ?_) (h1 := by rw [List.length_map]; omega)
    rw [Int.toNat_natCast, List.getElem?_map, hv] at hp
    injection hp with hp
    subst hp
    (try refine gwg ?_)
    (try ((with_reducible apply is_gg); first | refine gtg ?_ | refine gfg ?_ | refine gug ?_)); refine katg hM (hA.part (e2 := eBool) (y := sc2) 0 rfl) ?_
    (try refine gwg ?_)
    (try ((with_reducible apply is_gg); first | refine gtg ?_ | refine gfg ?_ | refine gug ?_)); refine wg_val (fun _ _ => r_neqB (a := sc) (b := sc2)) ?_
    by_cases q1 : sc = sc2
    rotate_left
    · rw [decide_eq_false q1]
      (try refine gwg ?_)
      (intro w hc; have hM := hM.call hc)
      repeat (first | refine gw ?_ | (refine ks ?_; intro w hM))
      refine c_condb rfl (fun _ => ?_) (fun h => by cases h)
      repeat (first | refine gw ?_ | (refine ks ?_; intro w hM))
      exact out1 rfl ⟨congrArg Value.bool (decide_eq_false (fun h => q1 (by have h2 := map_at_eq hu hv h; simp [dat] at h2; simp [h2]))).symm, hM.ch⟩
    rw [decide_eq_true q1]
    (try refine gwg ?_)
    (try ((with_reducible apply is_gg); first | refine gtg ?_ | refine gfg ?_ | refine gug ?_)); refine kixg hX (fun o1 o2 x1 hp hA => ?_) (h1 := by rw [List.length_map]; omega)
    rw [Int.toNat_natCast, List.getElem?_map, hu] at hp
    injection hp with hp
    subst hp
    (try refine gwg ?_)
    (try ((with_reducible apply is_gg); first | refine gtg ?_ | refine gfg ?_ | refine gug ?_)); refine katg hM (hA.part (e2 := eBst) (y := key) 1 rfl) ?_
    (try refine gwg ?_)
    (try ((with_reducible apply is_gg); first | refine gtg ?_ | refine gfg ?_ | refine gug ?_)); refine kixg hY (fun o1 o2 y1 hp hA => ?_) (h1 := by rw [List.length_map]; omega)
    rw [Int.toNat_natCast, List.getElem?_map, hv] at hp
    injection hp with hp
    subst hp
    (try refine gwg ?_)
    (try ((with_reducible apply is_gg); first | refine gtg ?_ | refine gfg ?_ | refine gug ?_)); refine katg hM (hA.part (e2 := eBst) (y := key2) 1 rfl) ?_
    (try refine gwg ?_)
    (try ((with_reducible apply is_gg); first | refine gtg ?_ | refine gfg ?_ | refine gug ?_)); refine wg_val (fun _ _ => r_neqst (a := key) (b := key2)) ?_
    by_cases q2 : key = key2
    rotate_left
    · rw [decide_eq_false q2]
      (try refine gwg ?_)
      (intro w hc; have hM := hM.call hc)
      repeat (first | refine gw ?_ | (refine ks ?_; intro w hM))
      refine c_condb rfl (fun _ => ?_) (fun h => by cases h)
      repeat (first | refine gw ?_ | (refine ks ?_; intro w hM))
      exact out1 rfl ⟨congrArg Value.bool (decide_eq_false (fun h => q2 (by have h2 := map_at_eq hu hv h; simp [dat] at h2; simp [h2]))).symm, hM.ch⟩
    rw [decide_eq_true q2]
    (try refine gwg ?_)
    (try ((with_reducible apply is_gg); first | refine gtg ?_ | refine gfg ?_ | refine gug ?_)); refine kixg hX (fun o1 o2 x2 hp hA => ?_) (h1 := by rw [List.length_map]; omega)
    rw [Int.toNat_natCast, List.getElem?_map, hu] at hp
    injection hp with hp
    subst hp
    (try refine gwg ?_)
    (try ((with_reducible apply is_gg); first | refine gtg ?_ | refine gfg ?_ | refine gug ?_)); refine katg hM (hA.part (e2 := eBst) (y := to) 2 rfl) ?_
    (try refine gwg ?_)
    (try ((with_reducible apply is_gg); first | refine gtg ?_ | refine gfg ?_ | refine gug ?_)); refine kixg hY (fun o1 o2 y2 hp hA => ?_) (h1 := by rw [List.length_map]; omega)
    rw [Int.toNat_natCast, List.getElem?_map, hv] at hp
    injection hp with hp
    subst hp
    (try refine gwg ?_)
    (try ((with_reducible apply is_gg); first | refine gtg ?_ | refine gfg ?_ | refine gug ?_)); refine katg hM (hA.part (e2 := eBst) (y := to2) 2 rfl) ?_
    (try refine gwg ?_)
    (try ((with_reducible apply is_gg); first | refine gtg ?_ | refine gfg ?_ | refine gug ?_)); refine wg_val (fun _ _ => r_neqst (a := to) (b := to2)) ?_
    by_cases q3 : to = to2
    rotate_left
    · rw [decide_eq_false q3]
      (try refine gwg ?_)
      (intro w hc; have hM := hM.call hc)
      repeat (first | refine gw ?_ | (refine ks ?_; intro w hM))
      refine c_condb rfl (fun _ => ?_) (fun h => by cases h)
      repeat (first | refine gw ?_ | (refine ks ?_; intro w hM))
      exact out1 rfl ⟨congrArg Value.bool (decide_eq_false (fun h => q3 (by have h2 := map_at_eq hu hv h; simp [dat] at h2; simp [h2]))).symm, hM.ch⟩
    rw [decide_eq_true q3]
    (try refine gwg ?_)
    (try ((with_reducible apply is_gg); first | refine gtg ?_ | refine gfg ?_ | refine gug ?_)); refine kixg hX (fun o1 o2 x3 hp hA => ?_) (h1 := by rw [List.length_map]; omega)
    rw [Int.toNat_natCast, List.getElem?_map, hu] at hp
    injection hp with hp
    subst hp
    (try refine gwg ?_)
    (try ((with_reducible apply is_gg); first | refine gtg ?_ | refine gfg ?_ | refine gug ?_)); refine katg hM (hA.part (e2 := eSl) (y := (A3, n3, c3)) 3 rfl) ?_
    (try refine gwg ?_)
    (try ((with_reducible apply is_gg); first | refine gtg ?_ | refine gfg ?_ | refine gug ?_)); refine kixg hY (fun o1 o2 y3 hp hA => ?_) (h1 := by rw [List.length_map]; omega)
    rw [Int.toNat_natCast, List.getElem?_map, hv] at hp
    injection hp with hp
    subst hp
    (try refine gwg ?_)
    (try ((with_reducible apply is_gg); first | refine gtg ?_ | refine gfg ?_ | refine gug ?_)); refine katg hM (hA.part (e2 := eSl) (y := (A4, n4, c4)) 3 rfl) ?_
    (try refine gwg ?_)
    (try ((with_reducible apply is_gg); first | refine gtg ?_ | refine gfg ?_ | refine gug ?_)); refine kcag hM (fun w1 hM => rsameL_any _ _ ps qs w1 (hUu.ch hM.ch) (hVv.ch hM.ch)) ?_
    by_cases q4 : ps = qs
    rotate_left
    · rw [decide_eq_false q4]
      (try refine gwg ?_)
      (intro w hc; have hM := hM.call hc)
      repeat (first | refine gw ?_ | (refine ks ?_; intro w hM))
      refine c_condb rfl (fun _ => ?_) (fun h => by cases h)
      repeat (first | refine gw ?_ | (refine ks ?_; intro w hM))
      exact out1 rfl ⟨congrArg Value.bool (decide_eq_false (fun h => q4 (by have h2 := map_at_eq hu hv h; simp [dat] at h2; simp [h2]))).symm, hM.ch⟩
    rw [decide_eq_true q4]
    (try refine gwg ?_)
    (intro w hc; have hM := hM.call hc)
    repeat (first | refine gw ?_ | (refine ks ?_; intro w hM))
    refine c_condb rfl (fun h => by cases h) (fun _ => ?_)
    repeat (first | refine gw ?_ | (refine ks ?_; intro w hM))
    exact x_goes (n - 1) rfl (by omega) ⟨j + 1, exj rfl, by omega, hM.sub (by (repeat constructor)), map_take_step hu hv hf (by simp [dat, q1, q2, q3, q4])⟩
  · repeat (first | refine gw ?_ | (refine ks ?_; intro w hM))
    exact out1 rfl ⟨congrArg Value.bool (decide_eq_true (by rwa [List.take_of_length_le (by omega), List.take_of_length_le (by omega)] at hf)).symm, hM.ch⟩
end Go.Proofs.YtoimhmphhffelaaGreatDoor
set_option linter.unusedVariables false
set_option linter.unusedSimpArgs false
namespace Go.Proofs.YtoimhmphhffelaaGreatDoor
open Go Go.RowKit Go.Proofs.E
attribute [local irreducible] Go.wpList Go.Code.wp Go.Proofs.E.exec Go.Proofs.E.wpLexG
/-- A record's value in memory. -/
structure RecM (w : World) (vr vw : Value) (us : List (RR × List Pr)) (wz : List Pr) : Prop where
  r : (Ty.enc eRr).Rd [] w vr (us.map (fun u : RR × List Pr => u.1))
  u : ∀ u ∈ us, (Ty.enc ePr).Rd [] w (slv u.1.2.2.2) u.2
  w : (Ty.enc ePr).Rd [] w vw wz
theorem RecM.ch {w w' : World} {vr vw : Value} {us : List (RR × List Pr)} {wz : List Pr} (h : RecM w vr vw us wz) (hc : Ch [] w w') : RecM w' vr vw us wz := ⟨h.r.ch hc, fun u hu => (h.u u hu).ch hc, h.w.ch hc⟩
def sameB (ses snap : Int) (strict : Bool) (us : List (RR × List Pr)) (wz : List Pr) (ses2 snap2 : Int) (strict2 : Bool) (vs : List (RR × List Pr)) (zs : List Pr) : Bool :=
  decide (ses = ses2) && (decide (snap = snap2) && (decide (strict = strict2) && (decide (us.map dat = vs.map dat) && decide (wz = zs))))

set_option maxHeartbeats 8000000 in
theorem same_any (ses snap : Int) (strict : Bool) (vr vw : Value) (us : List (RR × List Pr)) (wz : List Pr) (ses2 snap2 : Int) (strict2 : Bool) (vr2 vw2 : Value) (vs : List (RR × List Pr)) (zs : List Pr) (w0 : World) (hA : RecM w0 vr vw us wz) (hB : RecM w0 vr2 vw2 vs zs) :
    Calls Tryz.prog 59 #[.agg (rC ses snap strict vr vw).toArray, .agg (rC ses2 snap2 strict2 vr2 vw2).toArray] w0 (Ret fun u w' => u = .bool (sameB ses snap strict us wz ses2 snap2 strict2 vs zs) ∧ Ch [] w0 w') := by
  have hM := Mem.start w0
  obtain ⟨A, c, rfl⟩ := hA.r.form
  obtain ⟨A2, c2, rfl⟩ := hA.w.form
  obtain ⟨A3, c3, rfl⟩ := hB.r.form
  obtain ⟨A4, c4, rfl⟩ := hB.w.form
  obtain ⟨hR, hU, hW⟩ := hA
  obtain ⟨hR2, hU2, hW2⟩ := hB
  simp only [List.length_map] at hR hR2 ⊢
  unfold sameB
  refine enter [.agg (rC ses snap strict (.slice A us.length c) (.slice A2 wz.length c2)).toArray, .agg (rC ses2 snap2 strict2 (.slice A3 vs.length c3) (.slice A4 zs.length c4)).toArray, undef, undef, undef, undef, undef, undef, undef, undef, undef, undef, undef, undef, undef, undef, undef, undef, undef, undef, undef, undef, undef, undef, undef, undef, undef, undef, undef, undef, undef, undef, undef, undef, undef, undef, undef, undef] Tryz.func59 rfl rfl ?_
  repeat (first | refine gw ?_ | (refine ks ?_; intro w hM))
  refine kbx hM (fun w b2 hM => ?_)
  refine kbx hM (fun w b3 hM => ?_)
  have hM : Mem [] w0 w [.cell b3 (rC ses2 snap2 strict2 (.slice A3 vs.length c3) (.slice A4 zs.length c4)) 25, .cell b2 (rC ses snap strict (.slice A us.length c) (.slice A2 wz.length c2)) 25] := hM
  repeat (first | refine gw ?_ | (refine ks ?_; intro w hM))
  by_cases q1 : ses = ses2
  rotate_left
  · rw [decide_eq_false q1]
    repeat (first | refine gw ?_ | (refine ks ?_; intro w hM))
    exact out1 rfl ⟨rfl, hM.ch⟩
  rw [decide_eq_true q1]
  repeat (first | refine gw ?_ | (refine ks ?_; intro w hM))
  by_cases q2 : snap = snap2
  rotate_left
  · rw [decide_eq_false q2]
    repeat (first | refine gw ?_ | (refine ks ?_; intro w hM))
    exact out1 rfl ⟨rfl, hM.ch⟩
  rw [decide_eq_true q2]
  repeat (first | refine gw ?_ | (refine ks ?_; intro w hM))
  (try ((with_reducible apply is_gd); first | refine gt ?_ | refine gf ?_ | refine gu ?_)); refine wl_val (r_eqbb (a := strict) (b := strict2) rfl rfl) ?_
  rw [bool_beq]
  by_cases q3 : strict = strict2
  rotate_left
  · rw [decide_eq_false q3]
    repeat (first | refine gw ?_ | (refine ks ?_; intro w hM))
    exact out1 rfl ⟨rfl, hM.ch⟩
  rw [decide_eq_true q3]
  repeat (first | refine gw ?_ | (refine ks ?_; intro w hM))
  (try ((with_reducible apply is_gd); first | refine gt ?_ | refine gf ?_ | refine gu ?_)); refine kca hM (equalFunc_any _ _ us vs w (hR.ch hM.ch) (hR2.ch hM.ch) (fun u hu => (hU u hu).ch hM.ch) (fun u hu => (hU2 u hu).ch hM.ch)) (fun w hM => ?_)
  by_cases q4 : us.map dat = vs.map dat
  rotate_left
  · rw [decide_eq_false q4]
    repeat (first | refine gw ?_ | (refine ks ?_; intro w hM))
    exact out1 rfl ⟨rfl, hM.ch⟩
  rw [decide_eq_true q4]
  repeat (first | refine gw ?_ | (refine ks ?_; intro w hM))
  (try ((with_reducible apply is_gd); first | refine gt ?_ | refine gf ?_ | refine gu ?_)); refine kca hM (equal_any _ _ wz zs w (hW.ch hM.ch) (hW2.ch hM.ch)) (fun w hM => ?_)
  repeat (first | refine gw ?_ | (refine ks ?_; intro w hM))
  exact out1 rfl ⟨rfl, hM.ch⟩
set_option maxHeartbeats 8000000 in
theorem rsame_any (ses snap : Int) (strict : Bool) (vr vw : Value) (us : List (RR × List Pr)) (wz : List Pr) (ses2 snap2 : Int) (strict2 : Bool) (vr2 vw2 : Value) (vs : List (RR × List Pr)) (zs : List Pr) (w0 : World) (hA : RecM w0 vr vw us wz) (hB : RecM w0 vr2 vw2 vs zs) :
    Calls Tryz.prog 56 #[.agg (rC ses snap strict vr vw).toArray, .agg (rC ses2 snap2 strict2 vr2 vw2).toArray] w0 (Ret fun u w' => u = .bool (sameB ses snap strict us wz ses2 snap2 strict2 vs zs) ∧ Ch [] w0 w') := by
  have hM := Mem.start w0
  obtain ⟨A, c, rfl⟩ := hA.r.form
  obtain ⟨A2, c2, rfl⟩ := hA.w.form
  obtain ⟨A3, c3, rfl⟩ := hB.r.form
  obtain ⟨A4, c4, rfl⟩ := hB.w.form
  obtain ⟨hR, hU, hW⟩ := hA
  obtain ⟨hR2, hU2, hW2⟩ := hB
  simp only [List.length_map] at hR hR2 ⊢
  unfold sameB
  refine enter [.agg (rC ses snap strict (.slice A us.length c) (.slice A2 wz.length c2)).toArray, .agg (rC ses2 snap2 strict2 (.slice A3 vs.length c3) (.slice A4 zs.length c4)).toArray, undef, undef, undef, undef, undef, undef, undef, undef, undef, undef, undef, undef, undef, undef, undef, undef, undef, undef, undef, undef, undef, undef, undef, undef, undef, undef, undef, undef, undef, undef, undef, undef, undef, undef, undef, undef] Tryz.func56 rfl rfl ?_
  repeat (first | refine gw ?_ | (refine ks ?_; intro w hM))
  refine kbx hM (fun w b2 hM => ?_)
  refine kbx hM (fun w b3 hM => ?_)
  have hM : Mem [] w0 w [.cell b3 (rC ses2 snap2 strict2 (.slice A3 vs.length c3) (.slice A4 zs.length c4)) 25, .cell b2 (rC ses snap strict (.slice A us.length c) (.slice A2 wz.length c2)) 25] := hM
  repeat (first | refine gw ?_ | (refine ks ?_; intro w hM))
  by_cases q1 : ses = ses2
  rotate_left
  · rw [decide_eq_false q1]
    repeat (first | refine gw ?_ | (refine ks ?_; intro w hM))
    exact out1 rfl ⟨rfl, hM.ch⟩
  rw [decide_eq_true q1]
  repeat (first | refine gw ?_ | (refine ks ?_; intro w hM))
  by_cases q2 : snap = snap2
  rotate_left
  · rw [decide_eq_false q2]
    repeat (first | refine gw ?_ | (refine ks ?_; intro w hM))
    exact out1 rfl ⟨rfl, hM.ch⟩
  rw [decide_eq_true q2]
  repeat (first | refine gw ?_ | (refine ks ?_; intro w hM))
  (try ((with_reducible apply is_gd); first | refine gt ?_ | refine gf ?_ | refine gu ?_)); refine wl_val (r_eqbb (a := strict) (b := strict2) rfl rfl) ?_
  rw [bool_beq]
  by_cases q3 : strict = strict2
  rotate_left
  · rw [decide_eq_false q3]
    repeat (first | refine gw ?_ | (refine ks ?_; intro w hM))
    exact out1 rfl ⟨rfl, hM.ch⟩
  rw [decide_eq_true q3]
  repeat (first | refine gw ?_ | (refine ks ?_; intro w hM))
  (try ((with_reducible apply is_gd); first | refine gt ?_ | refine gf ?_ | refine gu ?_)); refine kca hM (rsameReads_any _ _ us vs w (hR.ch hM.ch) (hR2.ch hM.ch) (fun u hu => (hU u hu).ch hM.ch) (fun u hu => (hU2 u hu).ch hM.ch)) (fun w hM => ?_)
  by_cases q4 : us.map dat = vs.map dat
  rotate_left
  · rw [decide_eq_false q4]
    repeat (first | refine gw ?_ | (refine ks ?_; intro w hM))
    exact out1 rfl ⟨rfl, hM.ch⟩
  rw [decide_eq_true q4]
  repeat (first | refine gw ?_ | (refine ks ?_; intro w hM))
  (try ((with_reducible apply is_gd); first | refine gt ?_ | refine gf ?_ | refine gu ?_)); refine kca hM (rsameL_any _ _ wz zs w (hW.ch hM.ch) (hW2.ch hM.ch)) (fun w hM => ?_)
  repeat (first | refine gw ?_ | (refine ks ?_; intro w hM))
  exact out1 rfl ⟨rfl, hM.ch⟩
end Go.Proofs.YtoimhmphhffelaaGreatDoor
set_option linter.unusedVariables false
set_option linter.unusedSimpArgs false
namespace Go.Proofs.YtoimhmphhffelaaGreatDoor
open Go Go.RowKit Go.Proofs.E
def valB (bs : Bs) : Nat := bs.foldl (fun a b => a * 256 + b.toNat) 0
theorem valB_snoc (bs : Bs) (b : UInt8) : valB (bs ++ [b]) = valB bs * 256 + b.toNat := by
  unfold valB
  rw [List.foldl_append]
  rfl
/-- What is alike has the same bytes. -/
theorem readB_dat {u v : RR × List Pr} (h : dat u = dat v) : readB u = readB v := by
  obtain ⟨h1, h2, h3, h4⟩ := dat_iff.1 h
  unfold readB
  rw [h1, h2, h3, h4]
theorem flat_dat : ∀ {us vs : List (RR × List Pr)}, us.map dat = vs.map dat → us.flatMap readB = vs.flatMap readB
  | [], [], _ => rfl
  | [], _ :: _, h => by simp at h
  | _ :: _, [], h => by simp at h
  | u :: us, v :: vs, h => by
    simp only [List.map_cons, List.cons.injEq] at h
    rw [List.flatMap_cons, List.flatMap_cons, readB_dat h.1, flat_dat h.2]
theorem recB_dat {ses snap : Nat} {strict : Bool} {us vs : List (RR × List Pr)} {wz : List Pr} (h : us.map dat = vs.map dat) : recB ses snap strict us wz = recB ses snap strict vs wz := by
  have hl : us.length = vs.length := by simpa using congrArg List.length h
  unfold recB
  rw [hl, flat_dat h]
end Go.Proofs.YtoimhmphhffelaaGreatDoor
set_option linter.unusedVariables false
set_option linter.unusedSimpArgs false
namespace Go.Proofs.E
open Go Go.RowKit
theorem Own.get {α : Type} {en : En α} {w : World} {base : Nat} {E : TypeId} {v : Value} {xs : List α} (h : Own en w base E v xs) (hne : xs ≠ []) : ∃ g c, v = .slice (some ⟨g, 0, none⟩) xs.length c := by
  rcases h.2 with ⟨_, h⟩ | ⟨g, c, cur, rfl, _⟩
  · exact absurd (List.eq_nil_of_length_eq_zero h) hne
  · exact ⟨g, c, rfl⟩
section
variable {P : Program} {ops : Array Oper} {Q : Exit → Act → World → Prop} {rest : List Oper} {l l' : List Value} {O : List Nat} {w0 w : World} {L L' : List As} {T : TypeId} {pos : String} {after : Array Edge}
end
section
variable {P : Program} {ops : Array Oper} {N : Nat} {S : List Nat} {Q : Exit → Act → World → Prop} {z : List Nat × List Nat} {fuel : Nat} {listed : Array Bool} {l : List Value} {w : World} {T : TypeId} {pos : String} {after : Array Edge}
end
end Go.Proofs.E
namespace Go.Proofs.YtoimhmphhffelaaGreatDoor
open Go Go.RowKit Go.Proofs.E
attribute [local irreducible] Go.wpList Go.Code.wp Go.Proofs.E.exec Go.Proofs.E.wpLexG
abbrev prow (u : RR × List Pr) : As := .row ePr 70 (slv u.1.2.2.2) u.2
/-- All that a copy owns. -/
abbrev rows16 (vr vw : Value) (us : List (RR × List Pr)) (wz : List Pr) : List As := .row eRr 135 vr (us.map (fun u : RR × List Pr => u.1)) :: .row ePr 70 vw wz :: us.map prow
end Go.Proofs.YtoimhmphhffelaaGreatDoor
set_option linter.unusedVariables false
set_option linter.unusedSimpArgs false
namespace Go.Proofs.E
open Go Go.RowKit
theorem Pick.of_mem {a : As} : ∀ {L : List As}, a ∈ L → ∃ L', Pick L a L'
  | b :: L, h => by
    rcases List.mem_cons.1 h with rfl | h
    · exact ⟨L, .here⟩
    · obtain ⟨L', h'⟩ := Pick.of_mem h
      exact ⟨b :: L', .there h'⟩
theorem drop_set {α : Type} {l l' : List α} {i : Nat} {y : α} (h : l.drop i = l'.drop i) : (l.set i y).drop (i + 1) = l'.drop (i + 1) := by
  rw [List.drop_set_of_lt (by omega)]
  have := congrArg (List.drop 1) h
  rwa [List.drop_drop, List.drop_drop] at this
end Go.Proofs.E
namespace Go.Proofs.YtoimhmphhffelaaGreatDoor
open Go Go.RowKit Go.Proofs.E
attribute [local irreducible] Go.wpList Go.Code.wp Go.Proofs.E.exec Go.Proofs.E.wpLexG
theorem rows_recM {O : List Nat} {w0 w : World} {vr vw : Value} {us : List (RR × List Pr)} {wz : List Pr} (h : Mem O w0 w (rows16 vr vw us wz)) : RecM w vr vw us wz := by
  refine ⟨h.rowRdO (en := eRr) .here, fun u hu => ?_, h.rowRdO (en := ePr) (.there .here)⟩
  obtain ⟨L', hp⟩ := Pick.of_mem (a := prow u) (L := rows16 vr vw us wz) (List.mem_cons_of_mem _ (List.mem_cons_of_mem _ (List.mem_map_of_mem hu)))
  exact h.rowRdO (en := ePr) hp
theorem rows_plain {vr vw : Value} {us : List (RR × List Pr)} {wz : List Pr} : ∀ a ∈ rows16 vr vw us wz, a.plain := by
  intro a ha
  rcases List.mem_cons.1 ha with rfl | ha
  · trivial
  rcases List.mem_cons.1 ha with rfl | ha
  · trivial
  obtain ⟨u, _, rfl⟩ := List.mem_map.1 ha
  trivial
end Go.Proofs.YtoimhmphhffelaaGreatDoor

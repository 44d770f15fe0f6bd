/- Walks of law 34: the document's reader of words; a test.
   Walks of law 34: tests, both. -/
import Derived.Test.YtoimhmphhffelaaGreatDoorQQueryParses20
set_option linter.unusedVariables false
set_option linter.unusedSimpArgs false
namespace Go.Proofs.E
open Go Go.RowKit
theorem out0r {P : Program} {l : List Value} {w : World} {fn : Func} {R : Value → World → Prop} (hr : fn.results = #[]) (h : R (.tuple #[]) w) : bodyPost P fn (Ret R) .ret (fr l) w :=
  ⟨rfl, _, results_none hr l.toArray P w, _, rfl, h⟩
end Go.Proofs.E
namespace Go.Proofs.YtoimhmphhffelaaGreatDoor
open Go Go.RowKit Go.Proofs.E
attribute [local irreducible] Go.wpList Go.Code.wp Go.Proofs.E.exec Go.Proofs.E.wpLexG
set_option maxHeartbeats 8000000 in
theorem rword_any (bR : Nat) (vl : Value) (wo : List (List UInt8)) (s : PS) (w0 : World) (hB : Blk w0 bR (rdC vl s) 113) (hW : (Ty.enc eBs).Rd [] w0 vl wo) (hl : wo.length ≤ 100000) :
    Calls Tryz.prog 78 #[.pointer (some ⟨bR, 0, none⟩)] w0 (Ret fun u w' => u = .string (bst ((wo[s.1]?).getD [])) ∧ Ch [] w0 w') := by
  obtain ⟨i, bad⟩ := s
  have hM := Mem.start w0
  obtain ⟨A, c, rfl⟩ := hW.form
  have hlt := hB.lt
  refine enter [.pointer (some ⟨bR, 0, none⟩), undef, undef, undef, undef, undef, undef, undef, undef, undef, undef, undef, undef, undef, undef, undef, undef, undef, undef, undef, undef, undef, undef] Tryz.func78 rfl rfl ?_
  repeat (first | refine gs ?_ | (refine ks ?_; intro w hM))
  refine c_draw [] (by kernel_rfl) (by kernel_rfl) (fun w hc hs => ?_)
  have hM := hM.call hc
  have hB := hB.ch hc (by simp)
  have hW := hW.ch hc
  repeat (first | ((with_reducible apply is_ldg); first | refine kldg hM ?_ | refine kldwg hM ?_) | ((with_reducible apply is_sg); (first | refine ssg ?_ | refine sgu ?_)) | ((with_reducible apply is_gg); first | refine gtg ?_ | refine gfg ?_ | refine gug ?_) | ((with_reducible apply is_eg); refine eg ?_))
  refine ldbg (o := 1) (v := .int .i64 (i : Int)) hB (by simp) (by exact rfl) rfl ?_
  repeat (first | ((with_reducible apply is_ldg); first | refine kldg hM ?_ | refine kldwg hM ?_) | ((with_reducible apply is_sg); (first | refine ssg ?_ | refine sgu ?_)) | ((with_reducible apply is_gg); first | refine gtg ?_ | refine gfg ?_ | refine gug ?_) | ((with_reducible apply is_eg); refine eg ?_))
  refine ldbg (o := 0) (v := .slice A wo.length c) hB (by simp) (by exact rfl) rfl ?_
  repeat (first | ((with_reducible apply is_ldg); first | refine kldg hM ?_ | refine kldwg hM ?_) | ((with_reducible apply is_sg); (first | refine ssg ?_ | refine sgu ?_)) | ((with_reducible apply is_gg); first | refine gtg ?_ | refine gfg ?_ | refine gug ?_) | ((with_reducible apply is_eg); refine eg ?_))
  intro w1 h1
  have hM := hM.call h1
  have hB := hB.ch h1 (by simp)
  have hW := hW.ch h1
  by_cases hi : i < wo.length
  rotate_left
  · rw [decide_eq_true (by omega)]
    repeat (first | refine gs ?_ | (refine ks ?_; intro w hM))
    refine c_condb rfl (fun _ => ?_) (fun h => by cases h)
    repeat (first | refine gs ?_ | (refine ks ?_; intro w hM))
    refine out1 rfl ⟨?_, hM.ch⟩
    rw [List.getElem?_eq_none (by simp only; omega)]
    rfl
  rw [decide_eq_false (by omega)]
  repeat (first | refine gs ?_ | (refine ks ?_; intro w hM))
  refine c_condb rfl (fun h => by cases h) (fun _ => ?_)
  repeat (first | refine gs ?_ | (refine ks ?_; intro w hM))
  refine c_draw [] (by kernel_rfl) (by kernel_rfl) (fun w hc hs => ?_)
  have hM := hM.call hc
  have hB := hB.ch hc (by simp)
  have hW := hW.ch hc
  repeat (first | ((with_reducible apply is_ldg); first | refine kldg hM ?_ | refine kldwg hM ?_) | ((with_reducible apply is_sg); (first | refine ssg ?_ | refine sgu ?_)) | ((with_reducible apply is_gg); first | refine gtg ?_ | refine gfg ?_ | refine gug ?_) | ((with_reducible apply is_eg); refine eg ?_))
  refine ldbg (o := 0) (v := .slice A wo.length c) hB (by simp) (by exact rfl) rfl ?_
  repeat (first | ((with_reducible apply is_ldg); first | refine kldg hM ?_ | refine kldwg hM ?_) | ((with_reducible apply is_sg); (first | refine ssg ?_ | refine sgu ?_)) | ((with_reducible apply is_gg); first | refine gtg ?_ | refine gfg ?_ | refine gug ?_) | ((with_reducible apply is_eg); refine eg ?_))
  refine ldbg (o := 1) (v := .int .i64 (i : Int)) hB (by simp) (by exact rfl) rfl ?_
  repeat (first | ((with_reducible apply is_ldg); first | refine kldg hM ?_ | refine kldwg hM ?_) | ((with_reducible apply is_sg); (first | refine ssg ?_ | refine sgu ?_)) | ((with_reducible apply is_gg); first | refine gtg ?_ | refine gfg ?_ | refine gug ?_) | ((with_reducible apply is_eg); refine eg ?_))
  have hM2 := Mem.start w
  refine kixg hW (fun o1 o2 y hy hA => ?_)
  rw [Int.toNat_natCast] at hy
  refine katg hM2 hA ?_
  repeat (first | ((with_reducible apply is_ldg); first | refine kldg hM ?_ | refine kldwg hM ?_) | ((with_reducible apply is_sg); (first | refine ssg ?_ | refine sgu ?_)) | ((with_reducible apply is_gg); first | refine gtg ?_ | refine gfg ?_ | refine gug ?_) | ((with_reducible apply is_eg); refine eg ?_))
  intro w1 h1
  have hM := hM.call h1
  repeat (first | refine gs ?_ | (refine ks ?_; intro w hM))
  exact out1 rfl ⟨by simp only; rw [hy]; rfl, hM.ch⟩
def takeS (wo : List (List UInt8)) (ok : Bool) (s : PS) : PS := if s.2 = true ∨ wo.length ≤ s.1 ∨ ok = false then (s.1, true) else (s.1 + 1, s.2)
theorem take_aft {α : Type} {wo : List (List UInt8)} {f : List UInt8 → Option α} {s : PS} : takeS wo (f ((wo[s.1]?).getD [])).isSome s = qAft (qGet wo f s) s := by
  obtain ⟨i, bad⟩ := s
  unfold takeS qAft qGet
  cases bad with
  | true => simp
  | false =>
    by_cases hi : i < wo.length
    · rw [List.getElem?_eq_getElem (show (i, false).1 < wo.length from hi)]
      simp only [Bool.false_eq_true, false_or, Option.getD_some, if_false, Option.bind_some]
      cases f wo[i] with
      | none => simp
      | some a => simp; omega
    · rw [List.getElem?_eq_none (show wo.length ≤ (i, false).1 by simp only; omega)]
      simp
      omega
set_option maxHeartbeats 8000000 in
theorem rtake_any (bR : Nat) (vl : Value) (wo : List (List UInt8)) (s : PS) (ok : Bool) (w0 : World) (hB : Blk w0 bR (rdC vl s) 113) (hV : ∃ A c, vl = .slice A wo.length c) (hs : s.1 ≤ 100000) (hl : wo.length ≤ 100000) :
    Calls Tryz.prog 77 #[.pointer (some ⟨bR, 0, none⟩), .bool ok] w0 (Ret fun u w' => Ch [bR] w0 w' ∧ Blk w' bR (rdC vl (takeS wo ok s)) 113) := by
  obtain ⟨i, bad⟩ := s
  simp only at hs
  have hM := Mem.take hB
  obtain ⟨A, c, rfl⟩ := hV
  unfold takeS
  refine enter [.pointer (some ⟨bR, 0, none⟩), .bool ok, undef, undef, undef, undef, undef, undef, undef, undef, undef, undef, undef, undef, undef, undef, undef, undef, undef, undef, undef, undef, undef, undef, undef, undef, undef, undef, undef, undef, undef, undef, undef, undef] Tryz.func77 rfl rfl ?_
  repeat (first | refine gs ?_ | (refine ks ?_; intro w hM))
  refine kdr hM (by kernel_rfl) (by kernel_rfl) (fun w hM => ?_)
  repeat (first | ((with_reducible apply is_ldg); first | refine kldg hM ?_ | refine kldwg hM ?_) | ((with_reducible apply is_sg); (first | refine ssg ?_ | refine sgu ?_)) | ((with_reducible apply is_gg); first | refine gtg ?_ | refine gfg ?_ | refine gug ?_) | ((with_reducible apply is_eg); refine eg ?_))
  cases bad with
  | true =>
    repeat (first | ((with_reducible apply is_ldg); first | refine kldg hM ?_ | refine kldwg hM ?_) | ((with_reducible apply is_sg); (first | refine ssg ?_ | refine sgu ?_)) | ((with_reducible apply is_gg); first | refine gtg ?_ | refine gfg ?_ | refine gug ?_) | ((with_reducible apply is_eg); refine eg ?_))
    (intro w hc; have hM := hM.call hc)
    repeat (first | refine gs ?_ | (refine ks ?_; intro w hM))
    refine c_condb rfl (fun _ => ?_) (fun h => by cases h)
    repeat (first | refine gs ?_ | (refine ks ?_; intro w hM))
    exact out0r rfl ⟨hM.ch, by rw [if_pos (.inl rfl)]; exact hM.blk (b := bR) (by (repeat constructor))⟩
  | false =>
  repeat (first | ((with_reducible apply is_ldg); first | refine kldg hM ?_ | refine kldwg hM ?_) | ((with_reducible apply is_sg); (first | refine ssg ?_ | refine sgu ?_)) | ((with_reducible apply is_gg); first | refine gtg ?_ | refine gfg ?_ | refine gug ?_) | ((with_reducible apply is_eg); refine eg ?_))
  by_cases hi : i < wo.length
  rotate_left
  · rw [decide_eq_true (by omega : _)]
    repeat (first | ((with_reducible apply is_ldg); first | refine kldg hM ?_ | refine kldwg hM ?_) | ((with_reducible apply is_sg); (first | refine ssg ?_ | refine sgu ?_)) | ((with_reducible apply is_gg); first | refine gtg ?_ | refine gfg ?_ | refine gug ?_) | ((with_reducible apply is_eg); refine eg ?_))
    (intro w hc; have hM := hM.call hc)
    repeat (first | refine gs ?_ | (refine ks ?_; intro w hM))
    refine c_condb rfl (fun _ => ?_) (fun h => by cases h)
    repeat (first | refine gs ?_ | (refine ks ?_; intro w hM))
    exact out0r rfl ⟨hM.ch, by rw [if_pos (.inr (.inl (by simp only; omega)))]; exact hM.blk (b := bR) (by (repeat constructor))⟩
  rw [decide_eq_false (by omega)]
  repeat (first | ((with_reducible apply is_ldg); first | refine kldg hM ?_ | refine kldwg hM ?_) | ((with_reducible apply is_sg); (first | refine ssg ?_ | refine sgu ?_)) | ((with_reducible apply is_gg); first | refine gtg ?_ | refine gfg ?_ | refine gug ?_) | ((with_reducible apply is_eg); refine eg ?_))
  cases ok with
  | false =>
    repeat (first | ((with_reducible apply is_ldg); first | refine kldg hM ?_ | refine kldwg hM ?_) | ((with_reducible apply is_sg); (first | refine ssg ?_ | refine sgu ?_)) | ((with_reducible apply is_gg); first | refine gtg ?_ | refine gfg ?_ | refine gug ?_) | ((with_reducible apply is_eg); refine eg ?_))
    (intro w hc; have hM := hM.call hc)
    repeat (first | refine gs ?_ | (refine ks ?_; intro w hM))
    refine c_condb rfl (fun _ => ?_) (fun h => by cases h)
    repeat (first | refine gs ?_ | (refine ks ?_; intro w hM))
    exact out0r rfl ⟨hM.ch, by rw [if_pos (.inr (.inr rfl))]; exact hM.blk (b := bR) (by (repeat constructor))⟩
  | true =>
    repeat (first | ((with_reducible apply is_ldg); first | refine kldg hM ?_ | refine kldwg hM ?_) | ((with_reducible apply is_sg); (first | refine ssg ?_ | refine sgu ?_)) | ((with_reducible apply is_gg); first | refine gtg ?_ | refine gfg ?_ | refine gug ?_) | ((with_reducible apply is_eg); refine eg ?_))
    (intro w hc; have hM := hM.call hc)
    repeat (first | refine gs ?_ | (refine ks ?_; intro w hM))
    refine c_condb rfl (fun h => by cases h) (fun _ => ?_)
    repeat (first | refine gs ?_ | (refine ks ?_; intro w hM))
    exact out0 rfl ⟨hM.ch, by rw [if_neg (by simp; omega)]; exact hM.blk (b := bR) (by (repeat constructor))⟩
theorem word_len {wo : List (List UInt8)} (h : ∀ x ∈ wo, x.length ≤ 100000) (i : Nat) : ((wo[i]?).getD []).length ≤ 100000 := by
  cases hi : wo[i]? with
  | none => simp
  | some y => exact h y (List.mem_of_getElem? hi)
set_option maxHeartbeats 8000000 in
theorem rnum34_any (bR : Nat) (vl : Value) (wo : List (List UInt8)) (s : PS) (w0 : World) (hB : Blk w0 bR (rdC vl s) 113) (hW : (Ty.enc eBs).Rd [bR] w0 vl wo) (hs : s.1 ≤ wo.length) (hl : wo.length ≤ 100000) (hx : ∀ x ∈ wo, x.length ≤ 100000) :
    Calls Tryz.prog 79 #[.pointer (some ⟨bR, 0, none⟩)] w0 (Ret fun u w' => (∃ n : Int, u = .int .i64 n ∧ ∀ a, qGet wo numI s = some a → n = a) ∧ Ch [bR] w0 w' ∧ Blk w' bR (rdC vl (qAft (qGet wo numI s) s)) 113) := by
  have hM := Mem.take hB
  have hwl := word_len hx s.1
  refine enter [.pointer (some ⟨bR, 0, none⟩), undef, undef, undef, undef, undef, undef, undef, undef, undef, undef, undef, undef, undef, undef] Tryz.func79 rfl rfl ?_
  repeat (first | refine gs ?_ | (refine ks ?_; intro w hM))
  refine kca hM (rword_any bR vl wo s w0 hB hW.off hl) (fun w hM => ?_)
  repeat (first | refine gs ?_ | (refine ks ?_; intro w hM))
  refine kca hM (rnumber_any _ w hwl) (fun w hM => ?_)
  repeat (first | refine gs ?_ | (refine ks ?_; intro w hM))
  obtain ⟨A, c, hv⟩ := hW.form
  refine ca (rtake_any bR vl wo s _ w (hM.blk (b := bR) (by (repeat constructor))) ⟨A, c, hv⟩ (by omega) hl) ?_
  rintro _ w2 ⟨hc, hB2⟩
  have hM := hM.cellSet hB2 hc
  rw [take_aft (f := numI)] at hM
  repeat (first | refine gs ?_ | (refine ks ?_; intro w hM))
  refine out1 rfl ⟨⟨_, rfl, fun a ha => ?_⟩, hM.ch, hM.blk (b := bR) (by (repeat constructor))⟩
  unfold qGet at ha
  split at ha
  · cases ha
  · cases hi : wo[s.1]? with
    | none => rw [hi] at ha; cases ha
    | some y =>
      rw [hi] at ha
      have ha : numI y = some a := ha
      rw [Option.getD_some, ha]
      rfl
set_option maxHeartbeats 8000000 in
theorem rtxt34_any (bR : Nat) (vl : Value) (wo : List (List UInt8)) (s : PS) (w0 : World) (hB : Blk w0 bR (rdC vl s) 113) (hW : (Ty.enc eBs).Rd [bR] w0 vl wo) (hs : s.1 ≤ wo.length) (hl : wo.length ≤ 100000) (hx : ∀ x ∈ wo, x.length ≤ 100000) :
    Calls Tryz.prog 80 #[.pointer (some ⟨bR, 0, none⟩)] w0 (Ret fun u w' => (∃ n : List UInt8, u = .string (bst n) ∧ ∀ a, qGet wo textQ s = some a → n = a) ∧ Ch [bR] w0 w' ∧ Blk w' bR (rdC vl (qAft (qGet wo textQ s) s)) 113) := by
  have hM := Mem.take hB
  have hwl := word_len hx s.1
  refine enter [.pointer (some ⟨bR, 0, none⟩), undef, undef, undef, undef, undef, undef, undef, undef, undef, undef, undef, undef, undef, undef] Tryz.func80 rfl rfl ?_
  repeat (first | refine gs ?_ | (refine ks ?_; intro w hM))
  refine kca hM (rword_any bR vl wo s w0 hB hW.off hl) (fun w hM => ?_)
  repeat (first | refine gs ?_ | (refine ks ?_; intro w hM))
  refine kca hM (rtext_any _ w hwl) (fun w hM => ?_)
  repeat (first | refine gs ?_ | (refine ks ?_; intro w hM))
  obtain ⟨A, c, hv⟩ := hW.form
  refine ca (rtake_any bR vl wo s _ w (hM.blk (b := bR) (by (repeat constructor))) ⟨A, c, hv⟩ (by omega) hl) ?_
  rintro _ w2 ⟨hc, hB2⟩
  have hM := hM.cellSet hB2 hc
  rw [take_aft (f := textQ)] at hM
  repeat (first | refine gs ?_ | (refine ks ?_; intro w hM))
  refine out1 rfl ⟨⟨_, rfl, fun a ha => ?_⟩, hM.ch, hM.blk (b := bR) (by (repeat constructor))⟩
  unfold qGet at ha
  split at ha
  · cases ha
  · cases hi : wo[s.1]? with
    | none => rw [hi] at ha; cases ha
    | some y =>
      rw [hi] at ha
      have ha : textQ y = some a := ha
      rw [Option.getD_some]
      exact textV_of ha
theorem one_no {l : List (List UInt8)} {x : List UInt8} (h : ∀ y ∈ l, y ≠ x) : oneB ([] :: l) x = none := by
  unfold oneB
  rw [if_neg]
  unfold idxB
  by_cases h0 : ([] : List UInt8) = x
  · rw [if_pos h0]; omega
  · rw [if_neg h0, idxB_no h]
    simp
theorem rfield_any (x : List UInt8) (w : World) : Calls Tryz.prog 136 #[.string (bst x)] w (Ret fun u w' => u = .int .i64 ((oneB fieldsW x).getD 0) ∧ w' = w) := by
  refine enter [.string (bst x), undef, undef, undef, undef, undef, undef, undef] Tryz.func136 rfl rfl ?_
  repeat (first | refine gs ?_ | (refine ks ?_; intro w hM))
  by_cases h1 : x = [107, 101, 121]
  · subst h1
    repeat (first | refine gs ?_ | (refine ks ?_; intro w hM))
    refine c_condb rfl (fun _ => ?_) (fun h => by cases h)
    repeat (first | refine gs ?_ | (refine ks ?_; intro w hM))
    exact out1 rfl ⟨rfl, rfl⟩
  rw [decide_eq_false h1]
  refine c_condb rfl (fun h => by cases h) (fun _ => ?_)
  repeat (first | refine gs ?_ | (refine ks ?_; intro w hM))
  by_cases h2 : x = [118, 97, 108, 117, 101]
  · subst h2
    repeat (first | refine gs ?_ | (refine ks ?_; intro w hM))
    refine c_condb rfl (fun _ => ?_) (fun h => by cases h)
    repeat (first | refine gs ?_ | (refine ks ?_; intro w hM))
    exact out1 rfl ⟨rfl, rfl⟩
  rw [decide_eq_false h2]
  refine c_condb rfl (fun h => by cases h) (fun _ => ?_)
  repeat (first | refine gs ?_ | (refine ks ?_; intro w hM))
  refine out1 rfl ⟨?_, rfl⟩
  have : oneB fieldsW x = none := one_no (l := [[107, 101, 121], [118, 97, 108, 117, 101]]) (fun y hy => by
    simp only [List.mem_cons, List.not_mem_nil, or_false] at hy
    rcases hy with rfl | rfl
    · exact fun e => h1 e.symm
    · exact fun e => h2 e.symm)
  rw [this]
  rfl
theorem rops_any (n : Nat) (w : World) (hn : n < 9) : Calls Tryz.prog 96 #[.int .i64 (n : Int)] w (Ret fun u w' => u = .string (bst (opsW.getD n [])) ∧ w' = w) := by
  refine enter [.int .i64 (n : Int), undef, undef, undef, undef, undef] Tryz.func96 rfl rfl ?_
  repeat (first | refine gs ?_ | (refine ks ?_; intro w hM))
  (try ((with_reducible apply is_gd); first | refine gt ?_ | refine gf ?_ | refine gu ?_)); refine wl_val (r_bld (vs := [(0, .string (bst [])), (1, .string (bst [61])), (2, .string (bst [33, 61])), (3, .string (bst [60])), (4, .string (bst [60, 61])), (5, .string (bst [62])), (6, .string (bst [62, 61])), (7, .string (bst [104, 97, 115])), (8, .string (bst [115, 116, 97, 114, 116, 115]))]) (cells := (opsW.map fun x => Value.string (bst x)).toArray) rfl (by kernel_rfl)) ?_
  repeat (first | refine gs ?_ | (refine ks ?_; intro w hM))
  (try ((with_reducible apply is_gd); first | refine gt ?_ | refine gf ?_ | refine gu ?_)); refine wl_val (r_idx1 (n := 9) (k := n) (v := .string (bst (opsW.getD n []))) rfl rfl hn (by rw [List.getElem?_map, List.getD_eq_getElem?_getD, List.getElem?_eq_getElem (show n < opsW.length from hn)]; rfl)) ?_
  repeat (first | refine gs ?_ | (refine ks ?_; intro w hM))
  exact out1 rfl ⟨rfl, rfl⟩
set_option maxHeartbeats 8000000 in
theorem rop_any (x : List UInt8) (w0 : World) : Calls Tryz.prog 137 #[.string (bst x)] w0 (Ret fun u w' => u = .int .i64 ((oneB opsW x).getD 0) ∧ w' = w0) := by
  refine enter [.string (bst x), undef, undef, undef, undef, undef, undef, undef, undef, undef, undef, undef, undef] Tryz.func137 rfl rfl ?_
  repeat (first | refine gs ?_ | (refine ks ?_; intro w hM))
  
  refine c_loop (fun n l w => ∃ (i : Nat), (∃ jj : Nat → Value, l = [.string (bst x), jj 1, jj 2, .int .i64 (i : Int), jj 4, jj 5, jj 6, jj 7, jj 8, jj 9, jj 10, jj 11, jj 12]) ∧ n + i = 9 ∧ 1 ≤ i ∧ (∀ y ∈ (opsW.take i).drop 1, y ≠ x) ∧ w = w0) 8
    ⟨1, exj rfl, rfl, by omega, by simp, rfl⟩ ?_
  rintro n l w ⟨i, ⟨jj, rfl⟩, hn, hi1, hx, rfl⟩
  repeat (first | refine gs ?_ | (refine ks ?_; intro w hM))
  refine c_cond rfl (fun hi => ?_) (fun hi => ?_)
  · have hi9 : i < 9 := by omega
    have hoi : opsW[i]? = some (opsW.getD i []) := by rw [List.getD_eq_getElem?_getD, List.getElem?_eq_getElem (show i < opsW.length from hi9)]; rfl
    have hne : opsW.getD i [] ≠ [] := by
      have : ∀ k : Fin 9, 1 ≤ k.1 → opsW.getD k.1 [] ≠ [] := by decide
      exact this ⟨i, hi9⟩ hi1
    repeat (first | refine gs ?_ | (refine ks ?_; intro w hM))
    refine kcs (rops_any i w hi9) ?_
    repeat (first | refine gs ?_ | (refine ks ?_; intro w hM))
    by_cases hxy : opsW.getD i [] = x
    · rw [decide_eq_true hxy]
      refine c_condb rfl (fun _ => ?_) (fun h => by cases h)
      repeat (first | refine gs ?_ | (refine ks ?_; intro w hM))
      refine out1 rfl ⟨?_, rfl⟩
      have hix : idxB opsW x = (i : Int) := by
        refine idxB_take (fun y hy => ?_) (by rw [hoi, hxy])
        by_cases hy0 : y = []
        · rw [hy0, ← hxy]; exact hne.symm
        · refine hx y ?_
          have : opsW.take i = [] :: (opsW.take i).drop 1 := by
            obtain ⟨k, rfl⟩ : ∃ k, i = k + 1 := ⟨i - 1, by omega⟩
            rfl
          rw [this] at hy
          rcases List.mem_cons.1 hy with h | h
          · exact absurd h hy0
          · exact h
      unfold oneB
      rw [hix, if_pos (by omega)]
      rfl
    · rw [decide_eq_false hxy]
      refine c_condb rfl (fun h => by cases h) (fun _ => ?_)
      repeat (first | refine gs ?_ | (refine ks ?_; intro w hM))
      refine x_goes (n - 1) rfl (by omega) ⟨i + 1, exj rfl, by omega, by omega, fun y hy => ?_, rfl⟩
      rw [List.take_add_one, hoi, List.drop_append] at hy
      rcases List.mem_append.1 hy with hy | hy
      · exact hx y hy
      · have hy := List.mem_of_mem_drop hy
        have : y = opsW.getD i [] := by simpa using hy
        rw [this]
        exact hxy
  · repeat (first | refine gs ?_ | (refine ks ?_; intro w hM))
    refine out1 rfl ⟨?_, rfl⟩
    have hi9 : i = 9 := by omega
    subst hi9
    have : oneB opsW x = none := one_no (l := (opsW.take 9).drop 1) hx
    rw [this]
    rfl
end Go.Proofs.YtoimhmphhffelaaGreatDoor
set_option linter.unusedVariables false
set_option linter.unusedSimpArgs false
namespace Go.Proofs.YtoimhmphhffelaaGreatDoor
open Go Go.RowKit Go.Proofs.E
attribute [local irreducible] Go.wpList Go.Code.wp Go.Proofs.E.exec Go.Proofs.E.wpLexG
abbrev tsC (t : TsV) : List Value := [.int .i64 t.1, .int .i64 t.2.1, .string (bst t.2.2)]
abbrev eTs : En TsV := { f := tsC, n := 3, hl := fun _ => rfl, h1 := fun t u hu => by simp at hu; rcases hu with rfl | rfl | rfl <;> rfl }
theorem aft_bad {α : Type} {wo : List (List UInt8)} {f : List UInt8 → Option α} {s : PS} (h : s.2 = true) : qAft (qGet wo f s) s = s ∧ qGet wo f s = none := by
  have e : qGet wo f s = none := get_none (.inl h)
  rw [e]
  exact ⟨Prod.ext rfl h.symm, rfl⟩
theorem test_bad1 {wo : List (List UInt8)} {s s1 : PS} {o1 : Option Int} (h1 : qGet wo (oneB fieldsW) s = o1) (h2 : qAft o1 s = s1) (hb : s1.2 = true) : qTest wo s = (none, s1) := by
  have ho : o1 = none := by
    cases o1 with
    | none => rfl
    | some a => rw [← h2] at hb; cases hb
  unfold qTest
  rw [h1, h2]
  have a1 := aft_bad (wo := wo) (f := oneB opsW) hb
  rw [a1.1]
  have a2 := aft_bad (wo := wo) (f := textQ) hb
  rw [a2.1, ho]
  rfl
theorem test_bad2 {wo : List (List UInt8)} {s s1 s2 : PS} {o1 o2 : Option Int} (h1 : qGet wo (oneB fieldsW) s = o1) (h2 : qAft o1 s = s1) (h3 : qGet wo (oneB opsW) s1 = o2) (h4 : qAft o2 s1 = s2) (hb : s2.2 = true) : qTest wo s = (none, s2) := by
  have ho : o2 = none := by
    cases o2 with
    | none => rfl
    | some a => rw [← h4] at hb; cases hb
  unfold qTest
  rw [h1, h2, h3, h4]
  have a2 := aft_bad (wo := wo) (f := textQ) hb
  rw [a2.1, ho]
  cases o1 <;> rfl
theorem test_eq {wo : List (List UInt8)} {s s1 s2 s3 : PS} {o1 o2 : Option Int} {o3 : Option (List UInt8)} (h1 : qGet wo (oneB fieldsW) s = o1) (h2 : qAft o1 s = s1) (h3 : qGet wo (oneB opsW) s1 = o2) (h4 : qAft o2 s1 = s2) (h5 : qGet wo textQ s2 = o3) (h6 : qAft o3 s2 = s3) :
    qTest wo s = (qTestV o1 o2 o3, s3) := by
  unfold qTest
  rw [h1, h2, h3, h4, h5, h6]
theorem aft_le {α : Type} {wo : List (List UInt8)} {f : List UInt8 → Option α} {s : PS} (h : s.1 ≤ wo.length) : (qAft (qGet wo f s) s).1 ≤ wo.length := by
  unfold qAft
  split
  · rename_i q
    unfold qGet at q
    split at q
    · cases q
    · cases hi : wo[s.1]? with
      | none => rw [hi] at q; cases q
      | some y =>
        have := (List.getElem?_eq_some_iff.1 hi).1
        simp only
        omega
  · exact h
theorem some_pos {l : List (List UInt8)} {x : List UInt8} : decide (0 < (oneB l x).getD 0) = (oneB l x).isSome := by
  cases h : oneB l x with
  | none => rfl
  | some i =>
    have := one_le h
    simp
    omega
theorem get_word {α : Type} {wo : List (List UInt8)} {f : List UInt8 → Option α} {s : PS} {a : α} (h : qGet wo f s = some a) : f ((wo[s.1]?).getD []) = some a := by
  unfold qGet at h
  split at h
  · cases h
  · cases hi : wo[s.1]? with
    | none => rw [hi] at h; cases h
    | some y => rw [hi] at h; exact h
set_option maxHeartbeats 8000000 in
theorem rtest_any (bR : Nat) (vl : Value) (wo : List (List UInt8)) (s : PS) (w0 : World) (hB : Blk w0 bR (rdC vl s) 113) (hW : (Ty.enc eBs).Rd [bR] w0 vl wo) (hs : s.1 ≤ wo.length) (hl : wo.length ≤ 100000) (hx : ∀ x ∈ wo, x.length ≤ 100000) :
    Calls Tryz.prog 81 #[.pointer (some ⟨bR, 0, none⟩)] w0 (Ret fun u w' => (∃ t : TsV, u = .agg (tsC t).toArray ∧ ∀ a, (qTest wo s).1 = some a → t = a) ∧ Ch [bR] w0 w' ∧ Blk w' bR (rdC vl (qTest wo s).2) 113) := by
  have hM := Mem.take hB
  obtain ⟨A, c, hv⟩ := hW.form
  obtain ⟨o1, ho1⟩ : ∃ o, qGet wo (oneB fieldsW) s = o := ⟨_, rfl⟩
  obtain ⟨s1, hs1⟩ : ∃ o, qAft o1 s = o := ⟨_, rfl⟩
  obtain ⟨o2, ho2⟩ : ∃ o, qGet wo (oneB opsW) s1 = o := ⟨_, rfl⟩
  obtain ⟨s2, hs2⟩ : ∃ o, qAft o2 s1 = o := ⟨_, rfl⟩
  have hl1 : s1.1 ≤ wo.length := by rw [← hs1, ← ho1]; exact aft_le hs
  have hl2 : s2.1 ≤ wo.length := by rw [← hs2, ← ho2]; exact aft_le hl1
  refine enter [.pointer (some ⟨bR, 0, none⟩), undef, undef, undef, undef, undef, undef, undef, undef, undef, undef, undef, undef, undef, undef, undef, undef, undef, undef, undef, undef, undef, undef, undef, undef, undef, undef, undef, undef, undef, undef, undef, undef, undef, undef, undef] Tryz.func81 rfl rfl ?_
  repeat (first | refine gs ?_ | (refine ks ?_; intro w hM))
  refine kal hM (fun w b2 hM => ?_)
  have hM : Mem [bR] w0 w [.cell b2 (tsC (0, 0, [])) 118, .cell bR (rdC vl s) 113] := hM
  repeat (first | refine gs ?_ | (refine ks ?_; intro w hM))
  refine kal hM (fun w b3 hM => ?_)
  have hM : Mem [bR] w0 w [.cell b3 (tsC (0, 0, [])) 118, .cell b2 (tsC (0, 0, [])) 118, .cell bR (rdC vl s) 113] := hM
  repeat (first | refine gs ?_ | (refine ks ?_; intro w hM))
  refine kca hM (rword_any bR vl wo s w (hM.blk (b := bR) (by (repeat constructor))) (hW.ch hM.ch).off hl) (fun w hM => ?_)
  refine kcs (rfield_any _ w) ?_
  repeat (first | refine gs ?_ | (refine ks ?_; intro w hM))
  rw [some_pos]
  have hB1 := hM.blk (b := bR) (by (repeat constructor))
  refine ca (rtake_any bR vl wo s _ _ hB1 ⟨A, c, hv⟩ (by omega) hl) ?_
  rintro _ w2 ⟨hc, hB2⟩
  have hM := hM.cellSet hB2 hc
  rw [take_aft (f := oneB fieldsW), ho1, hs1] at hM
  clear hB1 hB2
  repeat (first | refine gs ?_ | (refine ks ?_; intro w hM))
  cases hb1 : s1.2 with
  | true =>
    repeat (first | refine gs ?_ | (refine ks ?_; intro w hM))
    refine c_condb rfl (fun _ => ?_) (fun h => by cases h)
    repeat (first | refine gs ?_ | (refine ks ?_; intro w hM))
    have e := test_bad1 ho1 hs1 hb1
    exact koc hM rfl ⟨⟨(_, 0, []), rfl, fun a ha => by rw [e] at ha; cases ha⟩, hM.ch, by rw [e]; exact hM.blk (b := bR) (by (repeat constructor))⟩
  | false =>
  refine c_condb rfl (fun h => by cases h) (fun _ => ?_)
  repeat (first | refine gs ?_ | (refine ks ?_; intro w hM))
  refine kca hM (rword_any bR vl wo s1 _ (hM.blk (b := bR) (by (repeat constructor))) (hW.ch hM.ch).off hl) (fun w hM => ?_)
  refine kcs (rop_any _ w) ?_
  repeat (first | refine gs ?_ | (refine ks ?_; intro w hM))
  rw [some_pos]
  have hB1 := hM.blk (b := bR) (by (repeat constructor))
  refine ca (rtake_any bR vl wo s1 _ _ hB1 ⟨A, c, hv⟩ (by omega) hl) ?_
  rintro _ w2 ⟨hc, hB2⟩
  have hM := hM.cellSet hB2 hc
  rw [take_aft (f := oneB opsW), ho2, hs2] at hM
  clear hB1 hB2
  repeat (first | refine gs ?_ | (refine ks ?_; intro w hM))
  cases hb2 : s2.2 with
  | true =>
    repeat (first | refine gs ?_ | (refine ks ?_; intro w hM))
    refine c_condb rfl (fun _ => ?_) (fun h => by cases h)
    repeat (first | refine gs ?_ | (refine ks ?_; intro w hM))
    have e := test_bad2 ho1 hs1 ho2 hs2 hb2
    exact koc hM rfl ⟨⟨(_, _, []), rfl, fun a ha => by rw [e] at ha; cases ha⟩, hM.ch, by rw [e]; exact hM.blk (b := bR) (by (repeat constructor))⟩
  | false =>
  refine c_condb rfl (fun h => by cases h) (fun _ => ?_)
  repeat (first | refine gs ?_ | (refine ks ?_; intro w hM))
  refine ca (rtxt34_any bR vl wo s2 _ (hM.blk (b := bR) (by (repeat constructor))) (hW.ch hM.ch) hl2 hl hx) ?_
  rintro _ w3 ⟨⟨t, rfl, ht⟩, hc, hB3⟩
  have hM := hM.cellSet hB3 hc
  repeat (first | refine gs ?_ | (refine ks ?_; intro w hM))
  have e := test_eq ho1 hs1 ho2 hs2 rfl rfl
  refine koc hM rfl ⟨⟨(_, _, t), rfl, fun a ha => ?_⟩, hM.ch, by rw [e]; exact hM.blk (b := bR) (by (repeat constructor))⟩
  rw [e] at ha
  obtain ⟨a1, q1⟩ : ∃ a, o1 = some a := by cases o1 with | none => cases ha | some a => exact ⟨a, rfl⟩
  obtain ⟨a2, q2⟩ : ∃ a, o2 = some a := by rw [q1] at ha; cases o2 with | none => cases ha | some a => exact ⟨a, rfl⟩
  obtain ⟨a3, q3⟩ : ∃ a, qGet wo textQ s2 = some a := by
    rw [q1, q2] at ha
    cases h3 : qGet wo textQ s2 with
    | none => rw [h3] at ha; cases ha
    | some a => exact ⟨a, rfl⟩
  rw [q1, q2, q3] at ha
  injection ha with ha
  rw [← ha, ht a3 q3, get_word (ho1.trans q1), get_word (ho2.trans q2)]
end Go.Proofs.YtoimhmphhffelaaGreatDoor

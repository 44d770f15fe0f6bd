/- Walk: the document's Read of records. -/
import Derived.Test.YtoimhmphhffelaaGreatDoorQReceiptBytes31
import Derived.Test.YtoimhmphhffelaaGreatDoorQReceiptBytes29
import Derived.Test.YtoimhmphhffelaaGreatDoorQReceiptBytes00
set_option linter.unusedVariables false
set_option linter.unusedSimpArgs false
namespace Go.Proofs.YtoimhmphhffelaaGreatDoor
open Go Go.RowKit Go.Proofs.E
attribute [local irreducible] Go.wpList Go.Code.wp Go.Proofs.E.exec Go.Proofs.E.wpLexG
theorem readS_eq (s : Sr) : readS s = (((flagT s).1, (strT 64 (flagT s).2).1, (toS (flagT s).1 (strT 64 (flagT s).2).2).1, (timesT 200 pairS (toS (flagT s).1 (strT 64 (flagT s).2).2).2).1), (timesT 200 pairS (toS (flagT s).1 (strT 64 (flagT s).2).2).2).2) := rfl
theorem writeS_eq (s : Sr) : writeS s = (((strT 64 s).1, (valS (flagT (strT 64 s).2).1 (flagT (strT 64 s).2).2).1, (flagT (strT 64 s).2).1), (valS (flagT (strT 64 s).2).1 (flagT (strT 64 s).2).2).2) := rfl
theorem pairS_eq (s : Sr) : pairS s = (((strT 64 s).1, (strT 256 (strT 64 s).2).1, false), (strT 256 (strT 64 s).2).2) := rfl
set_option maxHeartbeats 32000000 in
theorem rrecRead_any (v : Value) (bs : Bs) (w0 : World) (hR : tU8.Rd [] w0 v bs) :
    Calls Tryz.prog 46 #[v] w0 (Ret fun u w' => ReadPost bs w0 u w') := by
  have hM := Mem.start w0
  have hle := hR.le
  obtain ⟨A, c, rfl⟩ := hR.form
  refine enter [.slice A bs.length c, undef, undef, undef, undef, undef, undef, undef, undef, undef, undef, undef, undef, undef, undef, undef, undef, undef, undef, undef, undef, undef, undef, undef, undef, undef, undef, undef, undef, undef, undef, undef, undef, undef, undef, undef, undef, undef, undef, undef, undef, undef, undef, undef, undef, undef, undef, undef, undef, undef, undef, undef, undef, undef, undef, undef, undef, undef, undef, undef, undef, undef, undef, undef, undef, undef, undef, undef, undef, undef, undef, undef, undef, undef, undef, undef, undef, undef, undef, undef, undef, undef, undef, undef, undef, undef, undef, undef, undef, undef, undef, undef, undef, undef, undef, undef, undef, undef, undef, undef, undef, undef, undef, undef, undef, undef, undef, undef, undef, undef, undef, undef, undef, undef, undef, undef, undef, undef, undef, undef, undef, undef, undef, undef, undef, undef] Tryz.func46 rfl rfl ?_
  repeat (first | refine gw ?_ | (refine ks ?_; intro w hM))
  refine kal hM (fun w b2 hM => ?_)
  have hM : Mem [] w0 w [.cell b2 (rC 0 0 false (.slice none 0 0) (.slice none 0 0)) 25] := hM
  repeat (first | refine gw ?_ | (refine ks ?_; intro w hM))
  by_cases q : 8192 < bs.length
  · rw [decide_eq_true (by omega : (8192 : Int) < (bs.length : Int))]
    refine c_condb rfl (fun _ => ?_) (fun h => by cases h)
    repeat (first | refine gw ?_ | (refine ks ?_; intro w hM))
    (try ((with_reducible apply is_gd); first | refine gt ?_ | refine gf ?_ | refine gu ?_)); refine wl_val (r_bldS (vs := []) (rC 0 0 false (.slice none 0 0) (.slice none 0 0)) (z := rC 0 0 false (.slice none 0 0) (.slice none 0 0)) (place := (#[(0, 1), (1, 1), (2, 1), (3, 1), (4, 1)][·]?)) (by intro ps; kernel_rfl) rfl (.nil rfl)) ?_
    repeat (first | refine gw ?_ | (refine ks ?_; intro w hM))
    exact koc2 hM rfl (readPost_none (readZ_long q) hM)
  rw [decide_eq_false (by omega : ¬ (8192 : Int) < (bs.length : Int))]
  refine c_condb rfl (fun h => by cases h) (fun _ => ?_)
  repeat (first | refine gw ?_ | (refine ks ?_; intro w hM))
  (try ((with_reducible apply is_gd); first | refine gt ?_ | refine gf ?_ | refine gu ?_)); refine wl_val (r_bldS (vs := [(0, .slice A bs.length c)]) (sC (.slice A bs.length c) false) (z := sC (.slice none 0 0) false) (place := (#[(0, 1), (1, 1)][·]?)) (by intro ps; kernel_rfl) rfl (.cons rfl rfl (by simp) (.nil rfl))) ?_
  refine kbx (v := .agg (sC (.slice A bs.length c) false).toArray) hM (fun w bS hM => ?_)
  have hM : Mem [] w0 w [.cell bS (sC (.slice A bs.length c) false) 150, .cell b2 (rC 0 0 false (.slice none 0 0) (.slice none 0 0)) 25] := hM
  obtain ⟨s, hs⟩ : ∃ s : Sr, s = (bs, false) := ⟨_, rfl⟩
  have hx : tU8.Rd [] w0 (.slice A bs.length c) s.1 := by rw [hs]; exact hR
  have hM : Mem [] w0 w [.cell bS (sC (.slice A bs.length c) s.2) 150, .cell b2 (rC 0 0 false (.slice none 0 0) (.slice none 0 0)) 25] := by rw [hs]; exact hM
  have hrec := recS_eq s
  unfold timesT at hrec
  repeat (first | refine gw ?_ | (refine ks ?_; intro w hM))
  refine ca (tnum_any bS _ s 8 w0 _ (hM.blk (b := bS) (by (repeat constructor))) (hx.ch hM.ch) hx (by omega)) ?_
  rintro _ w ⟨rfl, vb1, hc, hB1, hx'⟩
  have hM := hM.cellSet hB1 hc
  generalize numT 8 s = q1 at hB1 hx' hM hrec ⊢
  obtain ⟨ses, s1⟩ := q1
  simp only at hx' hM hrec ⊢
  clear hB1 hx hc
  have hx := hx'
  clear hx'
  repeat (first | refine gw ?_ | (refine ks ?_; intro w hM))
  refine ca (tnum_any bS _ s1 1099511627776 w0 _ (hM.blk (b := bS) (by (repeat constructor))) (hx.ch hM.ch) hx (by omega)) ?_
  rintro _ w ⟨rfl, vb2, hc, hB1, hx'⟩
  have hM := hM.cellSet hB1 hc
  generalize numT 1099511627776 s1 = q1 at hB1 hx' hM hrec ⊢
  obtain ⟨snap, s2⟩ := q1
  simp only at hx' hM hrec ⊢
  clear hB1 hx hc
  have hx := hx'
  clear hx'
  repeat (first | refine gw ?_ | (refine ks ?_; intro w hM))
  refine ca (tflag_any bS _ s2 w0 _ (hM.blk (b := bS) (by (repeat constructor))) (hx.ch hM.ch) hx) ?_
  rintro _ w ⟨rfl, vb3, hc, hB1, hx'⟩
  have hM := hM.cellSet hB1 hc
  generalize flagT s2 = q1 at hB1 hx' hM hrec ⊢
  obtain ⟨strict, s3⟩ := q1
  simp only at hx' hM hrec ⊢
  clear hB1 hx hc
  have hx := hx'
  clear hx'
  repeat (first | refine gw ?_ | (refine ks ?_; intro w hM))
  (try ((with_reducible apply is_gd); first | refine gt ?_ | refine gf ?_ | refine gu ?_)); refine wl_val (r_bldS (vs := [(0, .int .i64 (ses : Int)), (1, .int .i64 (snap : Int)), (2, .bool strict)]) (rC ses snap strict (.slice none 0 0) (.slice none 0 0)) (z := (rC 0 0 false (.slice none 0 0) (.slice none 0 0))) (place := (#[(0, 1), (1, 1), (2, 1), (3, 1), (4, 1)][·]?)) (by intro ps; kernel_rfl) rfl (.cons rfl rfl (by simp) (.cons rfl rfl (by simp [spl, Value.cells]) (.cons rfl rfl (by simp [spl, Value.cells]) (.nil rfl))))) ?_
  refine kal hM (fun w bR hM => ?_)
  refine kstw (vs := rC ses snap strict (.slice none 0 0) (.slice none 0 0)) hM (fun w hM => ?_)
  repeat (first | refine gw ?_ | (refine ks ?_; intro w hM))
  have hn3 := numT_le (most := 64) (s := s3)
  refine ca (tnum_any bS _ s3 64 w0 _ (hM.blk (b := bS) (by (repeat constructor))) (hx.ch hM.ch) hx (by omega)) ?_
  rintro _ w ⟨rfl, vb4, hc, hB1, hx'⟩
  have hM := hM.cellSet hB1 hc
  generalize numT 64 s3 = q1 at hB1 hx' hM hrec hn3 ⊢
  obtain ⟨n4, s4⟩ := q1
  simp only at hx' hM hrec hn3 ⊢
  clear hB1 hx hc
  have hx := hx'
  clear hx'
  repeat (first | refine gw ?_ | (refine ks ?_; intro w hM))
  have hM0 : Mem [] w0 w (.cell bS (sC vb4 s4.2) 150 :: .cell bR (rC ses snap strict (.slice none 0 0) (.slice none 0 0)) 25 :: .cell b2 (rC 0 0 false (.slice none 0 0) (.slice none 0 0)) 25 :: .row eRr 135 (.slice none 0 0) (([] : List (RR × List Pr)).map (fun u : RR × List Pr => u.1)) :: ([] : List (RR × List Pr)).map prow) := (hM.nilRow eRr 135).sub (by (repeat constructor))
  clear hM
  
  
  
  
  refine c_loopJ (fun n l w => ∃ (us : List (RR × List Pr)) (s : Sr) (vb vr : Value), (∃ jj : Nat → Value, l = [.slice A bs.length c, jj 1, .pointer (some ⟨b2, 0, none⟩), .int .i64 0, .pointer (some ⟨bS, 0, none⟩), .pointer (some ⟨bR, 0, none⟩), .int .i64 (n : Int), jj 7, jj 8, jj 9, jj 10, jj 11, jj 12, jj 13, jj 14, jj 15, jj 16, jj 17, jj 18, jj 19, jj 20, jj 21, jj 22, jj 23, jj 24, jj 25, jj 26, jj 27, jj 28, jj 29, jj 30, jj 31, jj 32, jj 33, jj 34, jj 35, jj 36, jj 37, jj 38, jj 39, jj 40, jj 41, jj 42, jj 43, jj 44, jj 45, jj 46, jj 47, jj 48, jj 49, jj 50, jj 51, jj 52, jj 53, jj 54, jj 55, jj 56, jj 57, jj 58, jj 59, jj 60, jj 61, jj 62, jj 63, jj 64, jj 65, jj 66, jj 67, jj 68, jj 69, jj 70, jj 71, jj 72, jj 73, jj 74, jj 75, jj 76, jj 77, jj 78, jj 79, jj 80, jj 81, jj 82, jj 83, jj 84, jj 85, jj 86, jj 87, jj 88, jj 89, jj 90, jj 91, jj 92, jj 93, jj 94, jj 95, jj 96, jj 97, jj 98, jj 99, jj 100, jj 101, jj 102, jj 103, jj 104, jj 105, jj 106, jj 107, jj 108, jj 109, jj 110, jj 111, jj 112, jj 113, jj 114, jj 115, jj 116, jj 117, jj 118, jj 119, jj 120, jj 121, jj 122, jj 123, jj 124, jj 125]) ∧ us.length + n ≤ 64 ∧ Mem [] w0 w (.cell bS (sC vb s.2) 150 :: .cell bR (rC ses snap strict vr (.slice none 0 0)) 25 :: .cell b2 (rC 0 0 false (.slice none 0 0) (.slice none 0 0)) 25 :: .row eRr 135 vr (us.map (fun u : RR × List Pr => u.1)) :: us.map prow) ∧ tU8.Rd [] w0 vb s.1 ∧ loopT readS n (us.map dat) s = loopT readS n4 [] s4)
    (fun l w => ∃ (us : List (RR × List Pr)) (s : Sr) (vb vr : Value), (∃ jj : Nat → Value, l = [.slice A bs.length c, jj 1, .pointer (some ⟨b2, 0, none⟩), .int .i64 0, .pointer (some ⟨bS, 0, none⟩), .pointer (some ⟨bR, 0, none⟩), jj 6, jj 7, jj 8, jj 9, jj 10, jj 11, jj 12, jj 13, jj 14, jj 15, jj 16, jj 17, jj 18, jj 19, jj 20, jj 21, jj 22, jj 23, jj 24, jj 25, jj 26, jj 27, jj 28, jj 29, jj 30, jj 31, jj 32, jj 33, jj 34, jj 35, jj 36, jj 37, jj 38, jj 39, jj 40, jj 41, jj 42, jj 43, jj 44, jj 45, jj 46, jj 47, jj 48, jj 49, jj 50, jj 51, jj 52, jj 53, jj 54, jj 55, jj 56, jj 57, jj 58, jj 59, jj 60, jj 61, jj 62, jj 63, jj 64, jj 65, jj 66, jj 67, jj 68, jj 69, jj 70, jj 71, jj 72, jj 73, jj 74, jj 75, jj 76, jj 77, jj 78, jj 79, jj 80, jj 81, jj 82, jj 83, jj 84, jj 85, jj 86, jj 87, jj 88, jj 89, jj 90, jj 91, jj 92, jj 93, jj 94, jj 95, jj 96, jj 97, jj 98, jj 99, jj 100, jj 101, jj 102, jj 103, jj 104, jj 105, jj 106, jj 107, jj 108, jj 109, jj 110, jj 111, jj 112, jj 113, jj 114, jj 115, jj 116, jj 117, jj 118, jj 119, jj 120, jj 121, jj 122, jj 123, jj 124, jj 125]) ∧ Mem [] w0 w (.cell bS (sC vb s.2) 150 :: .cell bR (rC ses snap strict vr (.slice none 0 0)) 25 :: .cell b2 (rC 0 0 false (.slice none 0 0) (.slice none 0 0)) 25 :: .row eRr 135 vr (us.map (fun u : RR × List Pr => u.1)) :: us.map prow) ∧ tU8.Rd [] w0 vb s.1 ∧ (us.map dat, s) = loopT readS n4 [] s4)
    n4 ⟨[], s4, vb4, _, exj rfl, by simpa using hn3, hM0, hx, rfl⟩ ?_ ?_
  · clear hM0 hx hrec
    rintro n l w ⟨us, s, vb, vr, ⟨jj, rfl⟩, hul, hM, hx, hlp⟩
    repeat (first | refine gw ?_ | (refine ks ?_; intro w hM))
    cases n with
    | zero =>
      rw [decide_eq_false (by omega : ¬ ((0 : Nat) : Int) > 0)]
      repeat (first | refine gw ?_ | (refine ks ?_; intro w hM))
      refine c_condb rfl (fun h => by cases h) (fun _ => ?_)
      repeat (first | refine gw ?_ | (refine ks ?_; intro w hM))
      exact outJ ⟨us, s, vb, vr, exj rfl, hM, hx, hlp⟩
    | succ n =>
      rw [decide_eq_true (by omega : ((n + 1 : Nat) : Int) > 0)]
      obtain ⟨sb, bad⟩ := s
      simp only at hM hx
      repeat (first | refine gw ?_ | (refine ks ?_; intro w hM))
      rw [loopT_succ] at hlp
      cases bad with
      | true =>
        rw [if_pos rfl] at hlp
        repeat (first | refine gw ?_ | (refine ks ?_; intro w hM))
        refine c_condb rfl (fun h => by cases h) (fun _ => ?_)
        repeat (first | refine gw ?_ | (refine ks ?_; intro w hM))
        exact outJ ⟨us, (sb, true), vb, vr, exj rfl, hM, hx, hlp⟩
      | false =>
        rw [if_neg (by simp)] at hlp
        repeat (first | refine gw ?_ | (refine ks ?_; intro w hM))
        refine c_condb rfl (fun _ => ?_) (fun h => by cases h)
        repeat (first | refine gw ?_ | (refine ks ?_; intro w hM))
        have hrd := readS_eq (sb, false)
        unfold timesT at hrd
        have hM : Mem [] w0 w (.cell bS (sC vb (sb, false).2) 150 :: .cell bR (rC ses snap strict vr (.slice none 0 0)) 25 :: .cell b2 (rC 0 0 false (.slice none 0 0) (.slice none 0 0)) 25 :: .row eRr 135 vr (us.map (fun u : RR × List Pr => u.1)) :: us.map prow) := hM
        have hx : tU8.Rd [] w0 vb ((sb, false) : Sr).1 := hx
        obtain ⟨s, hs0⟩ : ∃ s : Sr, s = (sb, false) := ⟨_, rfl⟩
        rw [← hs0] at hM hx hrd hlp
        clear hs0
        obtain ⟨LL, hLL⟩ : ∃ LL, LL = (.cell bR (rC ses snap strict vr (.slice none 0 0)) 25 :: .cell b2 (rC 0 0 false (.slice none 0 0) (.slice none 0 0)) 25 :: .row eRr 135 vr (us.map (fun u : RR × List Pr => u.1)) :: us.map prow : List As) := ⟨_, rfl⟩
        rw [← hLL] at hM
        refine ca (tflag_any bS _ s w0 _ (hM.blk (b := bS) (by (repeat constructor))) (hx.ch hM.ch) hx) ?_
        rintro _ w ⟨rfl, vb5, hc, hB1, hx'⟩
        have hM := hM.cellSet hB1 hc
        generalize flagT s = q1 at hB1 hx' hM hrd ⊢
        obtain ⟨sc, s5⟩ := q1
        simp only at hx' hM hrd ⊢
        clear hB1 hx hc
        have hx := hx'
        clear hx'
        repeat (first | refine gw ?_ | (refine ks ?_; intro w hM))
        refine ca (tstr_any bS _ s5 64 w0 _ (hM.blk (b := bS) (by (repeat constructor))) (hx.ch hM.ch) hx (by omega)) ?_
        rintro _ w ⟨rfl, vb6, hc, hB1, hx'⟩
        have hM := hM.cellSet hB1 hc
        generalize strT 64 s5 = q1 at hB1 hx' hM hrd ⊢
        obtain ⟨key, s6⟩ := q1
        simp only at hx' hM hrd ⊢
        clear hB1 hx hc
        have hx := hx'
        clear hx'
        repeat (first | refine gw ?_ | (refine ks ?_; intro w hM))
        (try ((with_reducible apply is_gd); first | refine gt ?_ | refine gf ?_ | refine gu ?_)); refine wl_val (r_bldS (vs := [(0, .bool sc), (1, .string (bst key))]) (eRr.f (sc, key, [], (none, 0, 0))) (z := [.bool false, .string (bst []), .string (bst []), .slice none 0 0]) (place := (#[(0, 1), (1, 1), (2, 1), (3, 1)][·]?)) (by intro ps; kernel_rfl) rfl (.cons rfl rfl (by simp) (.cons rfl rfl (by simp [spl, Value.cells]) (.nil rfl)))) ?_
        refine kal hM (fun w bX hM => ?_)
        refine kstw (vs := eRr.f (sc, key, [], (none, 0, 0))) hM (fun w hM => ?_) (h1 := eRr.h1 _)
        repeat (first | refine gw ?_ | (refine ks ?_; intro w hM))
        refine c_condJ (fun l w => ∃ (to : Bs) (s : Sr) (vb : Value), (∃ jj : Nat → Value, l = [.slice A bs.length c, jj 1, .pointer (some ⟨b2, 0, none⟩), .int .i64 0, .pointer (some ⟨bS, 0, none⟩), .pointer (some ⟨bR, 0, none⟩), .int .i64 ((n + 1 : Nat) : Int), .pointer (some ⟨bX, 0, none⟩), jj 8, jj 9, jj 10, jj 11, jj 12, jj 13, jj 14, jj 15, jj 16, jj 17, jj 18, jj 19, jj 20, jj 21, jj 22, jj 23, jj 24, jj 25, jj 26, jj 27, jj 28, jj 29, jj 30, jj 31, jj 32, jj 33, jj 34, jj 35, jj 36, jj 37, jj 38, jj 39, jj 40, jj 41, jj 42, jj 43, jj 44, jj 45, jj 46, jj 47, jj 48, jj 49, jj 50, jj 51, jj 52, jj 53, jj 54, jj 55, jj 56, jj 57, jj 58, jj 59, jj 60, jj 61, jj 62, jj 63, jj 64, jj 65, jj 66, jj 67, jj 68, jj 69, jj 70, jj 71, jj 72, jj 73, jj 74, jj 75, jj 76, jj 77, jj 78, jj 79, jj 80, jj 81, jj 82, jj 83, jj 84, jj 85, jj 86, jj 87, jj 88, jj 89, jj 90, jj 91, jj 92, jj 93, jj 94, jj 95, jj 96, jj 97, jj 98, jj 99, jj 100, jj 101, jj 102, jj 103, jj 104, jj 105, jj 106, jj 107, jj 108, jj 109, jj 110, jj 111, jj 112, jj 113, jj 114, jj 115, jj 116, jj 117, jj 118, jj 119, jj 120, jj 121, jj 122, jj 123, jj 124, jj 125]) ∧ Mem [] w0 w (.cell bS (sC vb s.2) 150 :: .cell bX [.bool sc, .string (bst key), .string (bst to), (.slice none 0 0)] 135 :: LL) ∧ tU8.Rd [] w0 vb s.1 ∧ toS sc s6 = (to, s)) rfl (fun hsc => ?_) (fun hsc => ?_) ?_
        · subst hsc
          have hto : toS true s6 = strT 64 s6 := rfl
          repeat (first | refine gw ?_ | (refine ks ?_; intro w hM))
          refine ca (tstr_any bS _ s6 64 w0 _ (hM.blk (b := bS) (by (repeat constructor))) (hx.ch hM.ch) hx (by omega)) ?_
          rintro _ w ⟨rfl, vb7, hc, hB1, hx'⟩
          have hM := hM.cellSet hB1 hc
          generalize strT 64 s6 = q1 at hB1 hx' hM hto ⊢
          obtain ⟨to, s7⟩ := q1
          simp only at hx' hM hto ⊢
          clear hB1 hx hc
          have hx := hx'
          clear hx'
          repeat (first | refine gw ?_ | (refine ks ?_; intro w hM))
          exact outJ ⟨to, s7, vb7, exj rfl, hM.sub (by (repeat (first | exact Go.Proofs.E.Sub.refl _ | exact Go.Proofs.E.Sub.nil | (apply Go.Proofs.E.Sub.cons; (repeat (first | exact Go.Proofs.E.Pick.here | apply Go.Proofs.E.Pick.there))) | apply Go.Proofs.E.Sub.tail))), hx, hto⟩
        · subst hsc
          repeat (first | refine gw ?_ | (refine ks ?_; intro w hM))
          exact outJ ⟨[], s6, vb6, exj rfl, hM.sub (by (repeat (first | exact Go.Proofs.E.Sub.refl _ | exact Go.Proofs.E.Sub.nil | (apply Go.Proofs.E.Sub.cons; (repeat (first | exact Go.Proofs.E.Pick.here | apply Go.Proofs.E.Pick.there))) | apply Go.Proofs.E.Sub.tail))), hx, rfl⟩
        clear hM hx
        rintro l w ⟨to, s7, vb7, ⟨jj, rfl⟩, hM, hx, hto⟩
        rw [hto] at hrd
        simp only at hrd
        clear hto
        repeat (first | refine gw ?_ | (refine ks ?_; intro w hM))
        have hk3 := numT_le (most := 200) (s := s7)
        refine ca (tnum_any bS _ s7 200 w0 _ (hM.blk (b := bS) (by (repeat constructor))) (hx.ch hM.ch) hx (by omega)) ?_
        rintro _ w ⟨rfl, vb8, hc, hB1, hx'⟩
        have hM := hM.cellSet hB1 hc
        generalize numT 200 s7 = q1 at hB1 hx' hM hrd hk3 ⊢
        obtain ⟨k8, s8⟩ := q1
        simp only at hx' hM hrd hk3 ⊢
        clear hB1 hx hc
        have hx := hx'
        clear hx'
        repeat (first | refine gw ?_ | (refine ks ?_; intro w hM))
        have hM0 : Mem [] w0 w (.cell bS (sC vb8 s8.2) 150 :: .cell bX [.bool sc, .string (bst key), .string (bst to), (.slice none 0 0)] 135 :: .row ePr 70 (.slice none 0 0) [] :: LL) := (hM.nilRow ePr 70).sub (by (repeat (first | exact Go.Proofs.E.Sub.refl _ | exact Go.Proofs.E.Sub.nil | (apply Go.Proofs.E.Sub.cons; (repeat (first | exact Go.Proofs.E.Pick.here | apply Go.Proofs.E.Pick.there))) | apply Go.Proofs.E.Sub.tail)))
        clear hM
        refine c_loopJ (fun k l w => ∃ (ps : List Pr) (s : Sr) (vb vp : Value), (∃ jj : Nat → Value, l = [.slice A bs.length c, jj 1, .pointer (some ⟨b2, 0, none⟩), .int .i64 0, .pointer (some ⟨bS, 0, none⟩), .pointer (some ⟨bR, 0, none⟩), .int .i64 ((n + 1 : Nat) : Int), .pointer (some ⟨bX, 0, none⟩), .int .i64 (k : Int), jj 9, jj 10, jj 11, jj 12, jj 13, jj 14, jj 15, jj 16, jj 17, jj 18, jj 19, jj 20, jj 21, jj 22, jj 23, jj 24, jj 25, jj 26, jj 27, jj 28, jj 29, jj 30, jj 31, jj 32, jj 33, jj 34, jj 35, jj 36, jj 37, jj 38, jj 39, jj 40, jj 41, jj 42, jj 43, jj 44, jj 45, jj 46, jj 47, jj 48, jj 49, jj 50, jj 51, jj 52, jj 53, jj 54, jj 55, jj 56, jj 57, jj 58, jj 59, jj 60, jj 61, jj 62, jj 63, jj 64, jj 65, jj 66, jj 67, jj 68, jj 69, jj 70, jj 71, jj 72, jj 73, jj 74, jj 75, jj 76, jj 77, jj 78, jj 79, jj 80, jj 81, jj 82, jj 83, jj 84, jj 85, jj 86, jj 87, jj 88, jj 89, jj 90, jj 91, jj 92, jj 93, jj 94, jj 95, jj 96, jj 97, jj 98, jj 99, jj 100, jj 101, jj 102, jj 103, jj 104, jj 105, jj 106, jj 107, jj 108, jj 109, jj 110, jj 111, jj 112, jj 113, jj 114, jj 115, jj 116, jj 117, jj 118, jj 119, jj 120, jj 121, jj 122, jj 123, jj 124, jj 125]) ∧ ps.length + k ≤ 200 ∧ Mem [] w0 w (.cell bS (sC vb s.2) 150 :: .cell bX [.bool sc, .string (bst key), .string (bst to), vp] 135 :: .row ePr 70 vp ps :: LL) ∧ tU8.Rd [] w0 vb s.1 ∧ loopT pairS k ps s = loopT pairS k8 [] s8)
          (fun l w => ∃ (ps : List Pr) (s : Sr) (vb vp : Value), (∃ jj : Nat → Value, l = [.slice A bs.length c, jj 1, .pointer (some ⟨b2, 0, none⟩), .int .i64 0, .pointer (some ⟨bS, 0, none⟩), .pointer (some ⟨bR, 0, none⟩), .int .i64 ((n + 1 : Nat) : Int), .pointer (some ⟨bX, 0, none⟩), jj 8, jj 9, jj 10, jj 11, jj 12, jj 13, jj 14, jj 15, jj 16, jj 17, jj 18, jj 19, jj 20, jj 21, jj 22, jj 23, jj 24, jj 25, jj 26, jj 27, jj 28, jj 29, jj 30, jj 31, jj 32, jj 33, jj 34, jj 35, jj 36, jj 37, jj 38, jj 39, jj 40, jj 41, jj 42, jj 43, jj 44, jj 45, jj 46, jj 47, jj 48, jj 49, jj 50, jj 51, jj 52, jj 53, jj 54, jj 55, jj 56, jj 57, jj 58, jj 59, jj 60, jj 61, jj 62, jj 63, jj 64, jj 65, jj 66, jj 67, jj 68, jj 69, jj 70, jj 71, jj 72, jj 73, jj 74, jj 75, jj 76, jj 77, jj 78, jj 79, jj 80, jj 81, jj 82, jj 83, jj 84, jj 85, jj 86, jj 87, jj 88, jj 89, jj 90, jj 91, jj 92, jj 93, jj 94, jj 95, jj 96, jj 97, jj 98, jj 99, jj 100, jj 101, jj 102, jj 103, jj 104, jj 105, jj 106, jj 107, jj 108, jj 109, jj 110, jj 111, jj 112, jj 113, jj 114, jj 115, jj 116, jj 117, jj 118, jj 119, jj 120, jj 121, jj 122, jj 123, jj 124, jj 125]) ∧ Mem [] w0 w (.cell bS (sC vb s.2) 150 :: .cell bX [.bool sc, .string (bst key), .string (bst to), vp] 135 :: .row ePr 70 vp ps :: LL) ∧ tU8.Rd [] w0 vb s.1 ∧ (ps, s) = loopT pairS k8 [] s8)
          k8 ⟨[], s8, vb8, _, exj rfl, by simpa using hk3, hM0, hx, rfl⟩ ?_ ?_
        · clear hM0 hx hrd
          rintro k l w ⟨ps, s, vb, vp, ⟨jj, rfl⟩, hpl, hM, hx, hlq⟩
          repeat (first | refine gw ?_ | (refine ks ?_; intro w hM))
          cases k with
          | zero =>
            rw [decide_eq_false (by omega : ¬ ((0 : Nat) : Int) > 0)]
            repeat (first | refine gw ?_ | (refine ks ?_; intro w hM))
            refine c_condb rfl (fun h => by cases h) (fun _ => ?_)
            repeat (first | refine gw ?_ | (refine ks ?_; intro w hM))
            exact outJ ⟨ps, s, vb, vp, exj rfl, hM, hx, hlq⟩
          | succ k =>
            rw [decide_eq_true (by omega : ((k + 1 : Nat) : Int) > 0)]
            obtain ⟨sb, bad⟩ := s
            simp only at hM hx
            repeat (first | refine gw ?_ | (refine ks ?_; intro w hM))
            rw [loopT_succ] at hlq
            cases bad with
            | true =>
              rw [if_pos rfl] at hlq
              repeat (first | refine gw ?_ | (refine ks ?_; intro w hM))
              refine c_condb rfl (fun h => by cases h) (fun _ => ?_)
              repeat (first | refine gw ?_ | (refine ks ?_; intro w hM))
              exact outJ ⟨ps, (sb, true), vb, vp, exj rfl, hM, hx, hlq⟩
            | false =>
              rw [if_neg (by simp)] at hlq
              repeat (first | refine gw ?_ | (refine ks ?_; intro w hM))
              refine c_condb rfl (fun _ => ?_) (fun h => by cases h)
              repeat (first | refine gw ?_ | (refine ks ?_; intro w hM))
              have hM : Mem [] w0 w (.cell bS (sC vb (sb, false).2) 150 :: .cell bX [.bool sc, .string (bst key), .string (bst to), vp] 135 :: .row ePr 70 vp ps :: LL) := hM
              have hx : tU8.Rd [] w0 vb ((sb, false) : Sr).1 := hx
              have hpd := pairS_eq (sb, false)
              obtain ⟨s, hs0⟩ : ∃ s : Sr, s = (sb, false) := ⟨_, rfl⟩
              rw [← hs0] at hM hx hpd hlq
              clear hs0
              obtain ⟨A9, c9, rfl, _⟩ := Own.form (hM.row (v := vp) (xs := ps) (by (repeat constructor)))
              repeat (first | refine gwb ?_ | (refine ks ?_; intro w hM))
              refine c_ordY ([8, 10], []) [bS] (by kernel_rfl) (by kernel_rfl) (by kernel_rfl) (fun w hc hs => ?_)
              have hM := hM.call hc
              have hl1 := Blk.lt (hM.blk (b := bX) (by (repeat constructor)))
              (first | refine yn 0 rfl ?_ | refine ynt 0 rfl ?_ | refine ynff 0 rfl ?_)
              refine ynl 1 rfl (hM.blk (b := bX) (by (repeat constructor))) (by omega) (hM.nin (b := bS) (c := bX) (by (repeat constructor)) (by (repeat constructor))) rfl rfl ?_
              (first | refine yn 2 rfl ?_ | refine ynt 2 rfl ?_ | refine ynff 2 rfl ?_); (first | refine yn 4 rfl ?_ | refine ynt 4 rfl ?_ | refine ynff 4 rfl ?_)
              clear hc
              refine yk1 3 hM (by kernel_rfl) rfl (fun w h0 hM => ?_)
              refine ca (tstr_any bS _ s 64 w0 _ (hM.blk (b := bS) (by (repeat constructor))) (hx.ch hM.ch) hx (by omega)) ?_
              rintro _ w ⟨rfl, vb10, hc, hB1, hx'⟩
              have hbw := hc.bwn (N := _) (S := [bS]) h0 (.inr (by simp))
              have hM := hM.cellSet hB1 hc
              generalize strT 64 s = q1 at hB1 hx' hM hpd ⊢
              obtain ⟨pk, s10⟩ := q1
              simp only at hx' hM hpd 
              clear hB1 hx hc
              have hx := hx'
              clear hx'
              refine x_wy (.inl hbw) rfl ?_
              clear hbw
              refine yk1 5 hM (by kernel_rfl) rfl (fun w h0 hM => ?_)
              refine ca (tstr_any bS _ s10 256 w0 _ (hM.blk (b := bS) (by (repeat constructor))) (hx.ch hM.ch) hx (by omega)) ?_
              rintro _ w ⟨rfl, vb11, hc, hB1, hx'⟩
              have hbw := hc.bwn (N := _) (S := [bS]) h0 (.inr (by simp))
              have hM := hM.cellSet hB1 hc
              generalize strT 256 s10 = q1 at hB1 hx' hM hpd ⊢
              obtain ⟨pv, s11⟩ := q1
              simp only at hx' hM hpd 
              clear hB1 hx hc
              have hx := hx'
              clear hx'
              refine x_wy (.inl hbw) rfl ?_
              refine ynp 6 rfl (by kernel_rfl) (by kernel_rfl) (fun _ => r_bldS (vs := [(0, .string (bst pk)), (1, .string (bst pv))]) (ePr.f (pk, pv, false)) (z := [.string (bst []), .string (bst []), .bool false]) (place := (#[(0, 1), (1, 1), (2, 1)][·]?)) (by intro ps; kernel_rfl) rfl (.cons rfl rfl (by simp) (.cons rfl rfl (by simp [spl, Value.cells]) (.nil rfl)))) rfl ?_
              refine yk1 7 hM (by kernel_rfl) rfl (fun w h0 hM => ?_)
              refine kbsC (en := ePr) (vs := [.agg (ePr.f (pk, pv, false)).toArray]) [(pk, pv, false)] hM (fun w b hc hM => ?_) (hxs := by simp [Value.cells])
              refine x_wy (.inl (hc.gy h0)) rfl ?_
              refine yk1 8 hM (by kernel_rfl) rfl (fun w h0 hM => ?_)
              have hR1 := hM.rowRdO (en := ePr) (v := .slice (some ⟨b, 0, none⟩) 1 1) (xs := [(pk, pv, false)]) (by (repeat constructor))
              refine kapC (en := ePr) (v := .slice A9 ps.length c9) (xs := ps) (ys := [(pk, pv, false)]) hM hR1 (fun v7 w hs hM => ?_) (hb := by simp; omega) (h63 := by simp; omega)
              refine x_wy (.inr ⟨by decide, Nat.le_trans h0 hs⟩) rfl ?_
              obtain ⟨A7, c7, rfl, _⟩ := Own.form (hM.row (v := v7) (by (repeat constructor)))
              (first | refine yn 9 rfl ?_ | refine ynt 9 rfl ?_ | refine ynff 9 rfl ?_)
              refine yk1 10 hM (by kernel_rfl) rfl (fun w h0 hM => ?_)
              refine kstC hM (fun w hc hM => ?_)
              refine x_wy (.inr ⟨by decide, Nat.le_trans h0 hc.size⟩) rfl ?_
              refine wy_done (by kernel_rfl) (fun w hc => ?_)
              have hM := hM.call hc
              repeat (first | refine gw ?_ | (refine ks ?_; intro w hM))
              rw [show ((k + 1 : Nat) : Int) - 1 = (k : Int) by omega]
              exact x_goes k rfl (by omega) ⟨ps ++ [(pk, pv, false)], s11, vb11, _, exj rfl, by rw [List.length_append, List.length_singleton]; omega, hM.sub (by (repeat (first | exact Go.Proofs.E.Sub.refl _ | exact Go.Proofs.E.Sub.nil | (apply Go.Proofs.E.Sub.cons; (repeat (first | exact Go.Proofs.E.Pick.here | apply Go.Proofs.E.Pick.there))) | apply Go.Proofs.E.Sub.tail))), hx, by rw [← hlq, hpd]⟩
        clear hM0 hx
        rintro l w ⟨ps, s9, vb9, vp, ⟨jj, rfl⟩, hM, hx, hps⟩
        rw [← hps] at hrd
        simp only at hrd
        obtain ⟨A9, c9, rfl, _⟩ := Own.form (hM.row (v := vp) (xs := ps) (by (repeat constructor)))
        rw [hLL] at hM
        repeat (first | refine gw ?_ | (refine ks ?_; intro w hM))
        refine kpu (en := eRr) (sc, key, to, (A9, ps.length, c9)) hM (fun _ v13 w hM => ?_) (hb := by simp; omega) (h63 := by simp; omega)
        obtain ⟨A13, c13, rfl, _⟩ := Own.form (hM.row (v := v13) (by (repeat constructor)))
        repeat (first | refine gw ?_ | (refine ks ?_; intro w hM))
        rw [show ((n + 1 : Nat) : Int) - 1 = (n : Int) by omega]
        refine x_goes n rfl (by omega) ⟨us ++ [((sc, key, to, (A9, ps.length, c9)), ps)], s9, vb9, .slice A13 (us.map (fun u : RR × List Pr => u.1) ++ [(sc, key, to, (A9, ps.length, c9))]).length c13, exj rfl, by rw [List.length_append, List.length_singleton]; omega, ?_, hx, ?_⟩
        · rw [List.map_append, List.map_append]
          refine ((hM.pick (a := .cell bX [.bool sc, .string (bst key), .string (bst to), .slice A9 ps.length c9] 135) (by (repeat constructor))).drop.pick (a := prow ((sc, key, to, (A9, ps.length, c9)), ps)) (by (repeat constructor))).perm ?_
          classical exact List.perm_iff_count.2 (fun x => by simp only [rC, List.count_cons, List.count_append, List.map_cons, List.map_nil, List.count_nil] <;> omega)
        · rw [← hlp, hrd, List.map_append]
          rfl
  · clear hM0 hx
    rintro l w ⟨us, s5, vb5, vr, ⟨jj, rfl⟩, hM, hx, hus⟩
    rw [← hus] at hrec
    simp only at hrec
    obtain ⟨Ar, cr, rfl, _⟩ := Own.form (hM.row (v := vr) (xs := us.map (fun u : RR × List Pr => u.1)) (by (repeat constructor)))
    obtain ⟨LL, hLL⟩ : ∃ LL, LL = (.cell b2 (rC 0 0 false (.slice none 0 0) (.slice none 0 0)) 25 :: .row eRr 135 (.slice Ar (us.map (fun u : RR × List Pr => u.1)).length cr) (us.map (fun u : RR × List Pr => u.1)) :: us.map prow : List As) := ⟨_, rfl⟩
    rw [← hLL] at hM
    repeat (first | refine gw ?_ | (refine ks ?_; intro w hM))
    have hn5 := numT_le (most := 64) (s := s5)
    refine ca (tnum_any bS _ s5 64 w0 _ (hM.blk (b := bS) (by (repeat constructor))) (hx.ch hM.ch) hx (by omega)) ?_
    rintro _ w ⟨rfl, vb6, hc, hB1, hx'⟩
    have hM := hM.cellSet hB1 hc
    generalize numT 64 s5 = q1 at hB1 hx' hM hrec hn5 ⊢
    obtain ⟨n6, s6⟩ := q1
    simp only at hx' hM hrec hn5 ⊢
    clear hB1 hx hc
    have hx := hx'
    clear hx'
    repeat (first | refine gw ?_ | (refine ks ?_; intro w hM))
    have hM0 : Mem [] w0 w (.cell bS (sC vb6 s6.2) 150 :: .cell bR (rC ses snap strict (.slice Ar (us.map (fun u : RR × List Pr => u.1)).length cr) (.slice none 0 0)) 25 :: .row ePr 70 (.slice none 0 0) [] :: LL) := (hM.nilRow ePr 70).sub (by (repeat (first | exact Go.Proofs.E.Sub.refl _ | exact Go.Proofs.E.Sub.nil | (apply Go.Proofs.E.Sub.cons; (repeat (first | exact Go.Proofs.E.Pick.here | apply Go.Proofs.E.Pick.there))) | apply Go.Proofs.E.Sub.tail)))
    clear hM
  
  
    refine c_loopJ (fun n l w => ∃ (wz : List Pr) (s : Sr) (vb vw : Value), (∃ jj : Nat → Value, l = [.slice A bs.length c, jj 1, .pointer (some ⟨b2, 0, none⟩), .int .i64 0, .pointer (some ⟨bS, 0, none⟩), .pointer (some ⟨bR, 0, none⟩), jj 6, jj 7, jj 8, .int .i64 (n : Int), jj 10, jj 11, jj 12, jj 13, jj 14, jj 15, jj 16, jj 17, jj 18, jj 19, jj 20, jj 21, jj 22, jj 23, jj 24, jj 25, jj 26, jj 27, jj 28, jj 29, jj 30, jj 31, jj 32, jj 33, jj 34, jj 35, jj 36, jj 37, jj 38, jj 39, jj 40, jj 41, jj 42, jj 43, jj 44, jj 45, jj 46, jj 47, jj 48, jj 49, jj 50, jj 51, jj 52, jj 53, jj 54, jj 55, jj 56, jj 57, jj 58, jj 59, jj 60, jj 61, jj 62, jj 63, jj 64, jj 65, jj 66, jj 67, jj 68, jj 69, jj 70, jj 71, jj 72, jj 73, jj 74, jj 75, jj 76, jj 77, jj 78, jj 79, jj 80, jj 81, jj 82, jj 83, jj 84, jj 85, jj 86, jj 87, jj 88, jj 89, jj 90, jj 91, jj 92, jj 93, jj 94, jj 95, jj 96, jj 97, jj 98, jj 99, jj 100, jj 101, jj 102, jj 103, jj 104, jj 105, jj 106, jj 107, jj 108, jj 109, jj 110, jj 111, jj 112, jj 113, jj 114, jj 115, jj 116, jj 117, jj 118, jj 119, jj 120, jj 121, jj 122, jj 123, jj 124, jj 125]) ∧ wz.length + n ≤ 64 ∧ Mem [] w0 w (.cell bS (sC vb s.2) 150 :: .cell bR (rC ses snap strict (.slice Ar (us.map (fun u : RR × List Pr => u.1)).length cr) vw) 25 :: .row ePr 70 vw wz :: LL) ∧ tU8.Rd [] w0 vb s.1 ∧ loopT writeS n wz s = loopT writeS n6 [] s6)
      (fun l w => ∃ (wz : List Pr) (s : Sr) (vb vw : Value), (∃ jj : Nat → Value, l = [.slice A bs.length c, jj 1, .pointer (some ⟨b2, 0, none⟩), .int .i64 0, .pointer (some ⟨bS, 0, none⟩), .pointer (some ⟨bR, 0, none⟩), jj 6, jj 7, jj 8, jj 9, jj 10, jj 11, jj 12, jj 13, jj 14, jj 15, jj 16, jj 17, jj 18, jj 19, jj 20, jj 21, jj 22, jj 23, jj 24, jj 25, jj 26, jj 27, jj 28, jj 29, jj 30, jj 31, jj 32, jj 33, jj 34, jj 35, jj 36, jj 37, jj 38, jj 39, jj 40, jj 41, jj 42, jj 43, jj 44, jj 45, jj 46, jj 47, jj 48, jj 49, jj 50, jj 51, jj 52, jj 53, jj 54, jj 55, jj 56, jj 57, jj 58, jj 59, jj 60, jj 61, jj 62, jj 63, jj 64, jj 65, jj 66, jj 67, jj 68, jj 69, jj 70, jj 71, jj 72, jj 73, jj 74, jj 75, jj 76, jj 77, jj 78, jj 79, jj 80, jj 81, jj 82, jj 83, jj 84, jj 85, jj 86, jj 87, jj 88, jj 89, jj 90, jj 91, jj 92, jj 93, jj 94, jj 95, jj 96, jj 97, jj 98, jj 99, jj 100, jj 101, jj 102, jj 103, jj 104, jj 105, jj 106, jj 107, jj 108, jj 109, jj 110, jj 111, jj 112, jj 113, jj 114, jj 115, jj 116, jj 117, jj 118, jj 119, jj 120, jj 121, jj 122, jj 123, jj 124, jj 125]) ∧ Mem [] w0 w (.cell bS (sC vb s.2) 150 :: .cell bR (rC ses snap strict (.slice Ar (us.map (fun u : RR × List Pr => u.1)).length cr) vw) 25 :: .row ePr 70 vw wz :: LL) ∧ tU8.Rd [] w0 vb s.1 ∧ (wz, s) = loopT writeS n6 [] s6)
      n6 ⟨[], s6, vb6, _, exj rfl, by simpa using hn5, hM0, hx, rfl⟩ ?_ ?_
    · clear hM0 hx hrec
      rintro n l w ⟨wz, s, vb, vw, ⟨jj, rfl⟩, hul, hM, hx, hlp⟩
      repeat (first | refine gw ?_ | (refine ks ?_; intro w hM))
      cases n with
      | zero =>
        rw [decide_eq_false (by omega : ¬ ((0 : Nat) : Int) > 0)]
        repeat (first | refine gw ?_ | (refine ks ?_; intro w hM))
        refine c_condb rfl (fun h => by cases h) (fun _ => ?_)
        repeat (first | refine gw ?_ | (refine ks ?_; intro w hM))
        exact outJ ⟨wz, s, vb, vw, exj rfl, hM, hx, hlp⟩
      | succ n =>
        rw [decide_eq_true (by omega : ((n + 1 : Nat) : Int) > 0)]
        obtain ⟨sb, bad⟩ := s
        simp only at hM hx
        repeat (first | refine gw ?_ | (refine ks ?_; intro w hM))
        rw [loopT_succ] at hlp
        cases bad with
        | true =>
          rw [if_pos rfl] at hlp
          repeat (first | refine gw ?_ | (refine ks ?_; intro w hM))
          refine c_condb rfl (fun h => by cases h) (fun _ => ?_)
          repeat (first | refine gw ?_ | (refine ks ?_; intro w hM))
          exact outJ ⟨wz, (sb, true), vb, vw, exj rfl, hM, hx, hlp⟩
        | false =>
          rw [if_neg (by simp)] at hlp
          repeat (first | refine gw ?_ | (refine ks ?_; intro w hM))
          refine c_condb rfl (fun _ => ?_) (fun h => by cases h)
          repeat (first | refine gw ?_ | (refine ks ?_; intro w hM))
          have hM : Mem [] w0 w (.cell bS (sC vb (sb, false).2) 150 :: .cell bR (rC ses snap strict (.slice Ar (us.map (fun u : RR × List Pr => u.1)).length cr) vw) 25 :: .row ePr 70 vw wz :: LL) := hM
          have hx : tU8.Rd [] w0 vb ((sb, false) : Sr).1 := hx
          have hrd := writeS_eq (sb, false)
          obtain ⟨s, hs0⟩ : ∃ s : Sr, s = (sb, false) := ⟨_, rfl⟩
          rw [← hs0] at hM hx hrd hlp
          clear hs0
          obtain ⟨Aw, cw, rfl, _⟩ := Own.form (hM.row (v := vw) (xs := wz) (by (repeat constructor)))
          repeat (first | refine gw ?_ | (refine ks ?_; intro w hM))
          refine ca (tstr_any bS _ s 64 w0 _ (hM.blk (b := bS) (by (repeat constructor))) (hx.ch hM.ch) hx (by omega)) ?_
          rintro _ w ⟨rfl, vb7, hc, hB1, hx'⟩
          have hM := hM.cellSet hB1 hc
          generalize strT 64 s = q1 at hB1 hx' hM hrd ⊢
          obtain ⟨key, s7⟩ := q1
          simp only at hx' hM hrd ⊢
          clear hB1 hx hc
          have hx := hx'
          clear hx'
          repeat (first | refine gw ?_ | (refine ks ?_; intro w hM))
          refine ca (tflag_any bS _ s7 w0 _ (hM.blk (b := bS) (by (repeat constructor))) (hx.ch hM.ch) hx) ?_
          rintro _ w ⟨rfl, vb8, hc, hB1, hx'⟩
          have hM := hM.cellSet hB1 hc
          generalize flagT s7 = q1 at hB1 hx' hM hrd ⊢
          obtain ⟨dead, s8⟩ := q1
          simp only at hx' hM hrd ⊢
          clear hB1 hx hc
          have hx := hx'
          clear hx'
          repeat (first | refine gw ?_ | (refine ks ?_; intro w hM))
          (try ((with_reducible apply is_gd); first | refine gt ?_ | refine gf ?_ | refine gu ?_)); refine wl_val (r_bldS (vs := [(0, .string (bst key)), (2, .bool dead)]) (ePr.f (key, [], dead)) (z := [.string (bst []), .string (bst []), .bool false]) (place := (#[(0, 1), (1, 1), (2, 1)][·]?)) (by intro ps; kernel_rfl) rfl (.cons rfl rfl (by simp) (.cons rfl rfl (by simp [spl, Value.cells]) (.nil rfl)))) ?_
          refine kal hM (fun w bX hM => ?_)
          refine kstw (vs := ePr.f (key, [], dead)) hM (fun w hM => ?_) (h1 := ePr.h1 _)
          repeat (first | refine gw ?_ | (refine ks ?_; intro w hM))
          refine c_condJ (fun l w => ∃ (val : Bs) (s : Sr) (vb : Value), (∃ jj : Nat → Value, l = [.slice A bs.length c, jj 1, .pointer (some ⟨b2, 0, none⟩), .int .i64 0, .pointer (some ⟨bS, 0, none⟩), .pointer (some ⟨bR, 0, none⟩), jj 6, jj 7, jj 8, .int .i64 ((n + 1 : Nat) : Int), .pointer (some ⟨bX, 0, none⟩), jj 11, jj 12, jj 13, jj 14, jj 15, jj 16, jj 17, jj 18, jj 19, jj 20, jj 21, jj 22, jj 23, jj 24, jj 25, jj 26, jj 27, jj 28, jj 29, jj 30, jj 31, jj 32, jj 33, jj 34, jj 35, jj 36, jj 37, jj 38, jj 39, jj 40, jj 41, jj 42, jj 43, jj 44, jj 45, jj 46, jj 47, jj 48, jj 49, jj 50, jj 51, jj 52, jj 53, jj 54, jj 55, jj 56, jj 57, jj 58, jj 59, jj 60, jj 61, jj 62, jj 63, jj 64, jj 65, jj 66, jj 67, jj 68, jj 69, jj 70, jj 71, jj 72, jj 73, jj 74, jj 75, jj 76, jj 77, jj 78, jj 79, jj 80, jj 81, jj 82, jj 83, jj 84, jj 85, jj 86, jj 87, jj 88, jj 89, jj 90, jj 91, jj 92, jj 93, jj 94, jj 95, jj 96, jj 97, jj 98, jj 99, jj 100, jj 101, jj 102, jj 103, jj 104, jj 105, jj 106, jj 107, jj 108, jj 109, jj 110, jj 111, jj 112, jj 113, jj 114, jj 115, jj 116, jj 117, jj 118, jj 119, jj 120, jj 121, jj 122, jj 123, jj 124, jj 125]) ∧ Mem [] w0 w (.cell bS (sC vb s.2) 150 :: .cell bX [.string (bst key), .string (bst val), .bool dead] 70 :: .cell bR (rC ses snap strict (.slice Ar (us.map (fun u : RR × List Pr => u.1)).length cr) (.slice Aw wz.length cw)) 25 :: .row ePr 70 (.slice Aw wz.length cw) wz :: LL) ∧ tU8.Rd [] w0 vb s.1 ∧ valS dead s8 = (val, s)) rfl (fun hsc => ?_) (fun hsc => ?_) ?_
          · have hsc : dead = false := by simpa using hsc
            subst hsc
            have hto : valS false s8 = strT 256 s8 := rfl
            repeat (first | refine gw ?_ | (refine ks ?_; intro w hM))
            refine ca (tstr_any bS _ s8 256 w0 _ (hM.blk (b := bS) (by (repeat constructor))) (hx.ch hM.ch) hx (by omega)) ?_
            rintro _ w ⟨rfl, vb9, hc, hB1, hx'⟩
            have hM := hM.cellSet hB1 hc
            generalize strT 256 s8 = q1 at hB1 hx' hM hto ⊢
            obtain ⟨val, s9⟩ := q1
            simp only at hx' hM hto ⊢
            clear hB1 hx hc
            have hx := hx'
            clear hx'
            repeat (first | refine gw ?_ | (refine ks ?_; intro w hM))
            exact outJ ⟨val, s9, vb9, exj rfl, hM.sub (by (repeat (first | exact Go.Proofs.E.Sub.refl _ | exact Go.Proofs.E.Sub.nil | (apply Go.Proofs.E.Sub.cons; (repeat (first | exact Go.Proofs.E.Pick.here | apply Go.Proofs.E.Pick.there))) | apply Go.Proofs.E.Sub.tail))), hx, hto⟩
          · have hsc : dead = true := by simpa using hsc
            subst hsc
            repeat (first | refine gw ?_ | (refine ks ?_; intro w hM))
            exact outJ ⟨[], s8, vb8, exj rfl, hM.sub (by (repeat (first | exact Go.Proofs.E.Sub.refl _ | exact Go.Proofs.E.Sub.nil | (apply Go.Proofs.E.Sub.cons; (repeat (first | exact Go.Proofs.E.Pick.here | apply Go.Proofs.E.Pick.there))) | apply Go.Proofs.E.Sub.tail))), hx, rfl⟩
          clear hM hx
          rintro l w ⟨val, s9, vb9, ⟨jj, rfl⟩, hM, hx, hto⟩
          rw [hto] at hrd
          simp only at hrd
          repeat (first | refine gw ?_ | (refine ks ?_; intro w hM))
          refine kpu (en := ePr) (key, val, dead) hM (fun _ v13 w hM => ?_)
          obtain ⟨A13, c13, rfl, _⟩ := Own.form (hM.row (v := v13) (by (repeat constructor)))
          repeat (first | refine gw ?_ | (refine ks ?_; intro w hM))
          rw [show ((n + 1 : Nat) : Int) - 1 = (n : Int) by omega]
          exact x_goes n rfl (by omega) ⟨wz ++ [(key, val, dead)], s9, vb9, _, exj rfl, by rw [List.length_append, List.length_singleton]; omega, hM.sub (by (repeat (first | exact Go.Proofs.E.Sub.refl _ | exact Go.Proofs.E.Sub.nil | (apply Go.Proofs.E.Sub.cons; (repeat (first | exact Go.Proofs.E.Pick.here | apply Go.Proofs.E.Pick.there))) | apply Go.Proofs.E.Sub.tail))), hx, by rw [← hlp, hrd]⟩
    clear hM0 hx
    rintro l w ⟨wz, s7, vb7, vw, ⟨jj, rfl⟩, hM, hx, hwz⟩
    rw [← hwz] at hrec
    obtain ⟨rest, bad⟩ := s7
    simp only at hM hx hrec
    rw [hs] at hrec
    have hsm := recS_sm (bs, false)
    rw [hrec] at hsm
    simp only at hsm
    obtain ⟨hk, hb⟩ := smV_short (us := us) hsm rfl
    have hbad := readZ_bad (bs := bs)
    have hgd := readZ_good (bs := bs) q
    rw [hrec] at hbad hgd
    simp only at hbad hgd
    obtain ⟨A5, c5, rfl⟩ := hx.form
    obtain ⟨Aw, cw, rfl, _⟩ := Own.form (hM.row (v := vw) (xs := wz) (by (repeat constructor)))
    rw [hLL] at hM
    have hM : Mem [] w0 w (.cell bS (sC (.slice A5 rest.length c5) bad) 150 :: .cell bR (rC ses snap strict (.slice Ar (us.map (fun u : RR × List Pr => u.1)).length cr) (.slice Aw wz.length cw)) 25 :: .cell b2 (rC 0 0 false (.slice none 0 0) (.slice none 0 0)) 25 :: rows16 (.slice Ar (us.map (fun u : RR × List Pr => u.1)).length cr) (.slice Aw wz.length cw) us wz) := hM.perm (by
      classical exact List.perm_iff_count.2 (fun x => by simp only [rows16, List.count_cons, List.count_append, List.count_nil] <;> omega))
    obtain ⟨TL, hTL⟩ : ∃ TL, TL = rows16 (.slice Ar (us.map (fun u : RR × List Pr => u.1)).length cr) (.slice Aw wz.length cw) us wz := ⟨_, rfl⟩
    rw [← hTL] at hM
    have hrm : RecM w (.slice Ar (us.map (fun u : RR × List Pr => u.1)).length cr) (.slice Aw wz.length cw) us wz := rows_recM (hM.drop.drop.drop.perm (by rw [hTL]))
    clear hrec hwz hLL
    repeat (first | refine gw ?_ | (refine ks ?_; intro w hM))
    cases bad with
    | true =>
      repeat (first | refine gw ?_ | (refine ks ?_; intro w hM))
      refine c_condb rfl (fun _ => ?_) (fun h => by cases h)
      repeat (first | refine gw ?_ | (refine ks ?_; intro w hM))
      (try ((with_reducible apply is_gd); first | refine gt ?_ | refine gf ?_ | refine gu ?_)); refine wl_val (r_bldS (vs := []) (rC 0 0 false (.slice none 0 0) (.slice none 0 0)) (z := (rC 0 0 false (.slice none 0 0) (.slice none 0 0))) (place := (#[(0, 1), (1, 1), (2, 1), (3, 1), (4, 1)][·]?)) (by intro ps; kernel_rfl) rfl (.nil rfl)) ?_
      repeat (first | refine gw ?_ | (refine ks ?_; intro w hM))
      exact koc2 hM rfl (readPost_none (hbad (.inl rfl)) hM)
    | false =>
      repeat (first | refine gw ?_ | (refine ks ?_; intro w hM))
      by_cases q1 : (0 : Int) < (rest.length : Int)
      · rw [decide_eq_true q1]
        repeat (first | refine gw ?_ | (refine ks ?_; intro w hM))
        refine c_condb rfl (fun _ => ?_) (fun h => by cases h)
        repeat (first | refine gw ?_ | (refine ks ?_; intro w hM))
        (try ((with_reducible apply is_gd); first | refine gt ?_ | refine gf ?_ | refine gu ?_)); refine wl_val (r_bldS (vs := []) (rC 0 0 false (.slice none 0 0) (.slice none 0 0)) (z := (rC 0 0 false (.slice none 0 0) (.slice none 0 0))) (place := (#[(0, 1), (1, 1), (2, 1), (3, 1), (4, 1)][·]?)) (by intro ps; kernel_rfl) rfl (.nil rfl)) ?_
        repeat (first | refine gw ?_ | (refine ks ?_; intro w hM))
        exact koc2 hM rfl (readPost_none (hbad (.inr (.inl (by intro h; subst h; simp at q1)))) hM)
      rw [decide_eq_false q1]
      have hrest : rest = [] := List.eq_nil_of_length_eq_zero (by omega)
      repeat (first | refine gw ?_ | (refine ks ?_; intro w hM))
      (try ((with_reducible apply is_gd); first | refine gt ?_ | refine gf ?_ | refine gu ?_)); refine kca hM (rgood16_any ses snap strict _ _ us wz w hrm.r hrm.u hrm.w hk hb) (fun w hM => ?_)
      rw [recGood_V]
      cases hg : goodV (ses, snap, strict, us.map dat, wz) with
      | false =>
        repeat (first | refine gw ?_ | (refine ks ?_; intro w hM))
        refine c_condb rfl (fun _ => ?_) (fun h => by cases h)
        repeat (first | refine gw ?_ | (refine ks ?_; intro w hM))
        (try ((with_reducible apply is_gd); first | refine gt ?_ | refine gf ?_ | refine gu ?_)); refine wl_val (r_bldS (vs := []) (rC 0 0 false (.slice none 0 0) (.slice none 0 0)) (z := (rC 0 0 false (.slice none 0 0) (.slice none 0 0))) (place := (#[(0, 1), (1, 1), (2, 1), (3, 1), (4, 1)][·]?)) (by intro ps; kernel_rfl) rfl (.nil rfl)) ?_
        repeat (first | refine gw ?_ | (refine ks ?_; intro w hM))
        exact koc2 hM rfl (readPost_none (hbad (.inr (.inr hg))) hM)
      | true =>
        repeat (first | refine gw ?_ | (refine ks ?_; intro w hM))
        refine c_condb rfl (fun h => by cases h) (fun _ => ?_)
        repeat (first | refine gw ?_ | (refine ks ?_; intro w hM))
        refine koc2 hM rfl ?_
        unfold ReadPost
        rw [hgd rfl hrest hg]
        refine ⟨_, _, us, rfl, rfl, ?_⟩
        show Mem [] w0 w (rows16 _ _ us wz)
        rw [← hTL]
        exact hM.sub (by (repeat (first | exact Go.Proofs.E.Sub.refl _ | exact Go.Proofs.E.Sub.nil | (apply Go.Proofs.E.Sub.cons; (repeat (first | exact Go.Proofs.E.Pick.here | apply Go.Proofs.E.Pick.there))) | apply Go.Proofs.E.Sub.tail)))
end Go.Proofs.YtoimhmphhffelaaGreatDoor

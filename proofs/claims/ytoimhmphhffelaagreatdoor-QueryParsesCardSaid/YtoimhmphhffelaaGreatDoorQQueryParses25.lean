/- Walk of law 34: the document's Parse, whole. -/
import Derived.Test.YtoimhmphhffelaaGreatDoorQQueryParses23
set_option linter.unusedVariables false
set_option linter.unusedSimpArgs false
namespace Go.Proofs.YtoimhmphhffelaaGreatDoor
open Go Go.RowKit Go.Proofs.E
attribute [local irreducible] Go.wpList Go.Code.wp Go.Proofs.E.exec Go.Proofs.E.wpLexG
set_option maxHeartbeats 32000000 in
theorem rparse_any (s : List UInt8) (w0 : World) (hs0 : s.length ≤ 9223372036854775807) :
    Calls Tryz.prog 17 #[.string (bst s)] w0 (Ret fun u w' => ParsePost 118 s w0 u w') := by
  have hM := Mem.start w0
  refine enter [.string (bst s), undef, undef, undef, undef, undef, undef, undef, undef, undef, undef, undef, undef, undef, undef, undef, undef, undef, undef, undef, undef, undef, undef, undef, undef, undef, undef, undef, undef, undef, undef, undef, undef, undef, undef, undef, undef, undef, undef, undef, undef, undef, undef, undef, undef, undef, undef, undef, undef, undef, undef, undef, undef, undef, undef, undef, undef, undef, undef, undef, undef, undef, undef, undef, undef, undef, undef, undef, undef, undef, undef, undef, undef, undef, undef, undef, undef, undef, undef, undef, undef, undef, undef, undef, undef, undef, undef, undef, undef, undef, undef, undef, undef, undef, undef, undef, undef, undef, undef, undef, undef, undef, undef, undef, undef, undef, undef, undef, undef, undef] Tryz.func17 rfl rfl ?_
  repeat (first | refine gs ?_ | (refine ks ?_; intro w hM))
  refine kal hM (fun w b2 hM => ?_)
  have hM : Mem [] w0 w [.cell b2 (quC 0 [] [] (.slice none 0 0) false 0 0 false) 51] := hM
  repeat (first | refine gs ?_ | (refine ks ?_; intro w hM))
  by_cases q1 : 2000 < s.length
  · rw [decide_eq_true (by omega : (2000 : Int) < (s.length : Int))]
    refine c_condb rfl (fun _ => ?_) (fun h => by cases h)
    repeat (first | refine gs ?_ | (refine ks ?_; intro w hM))
    (try ((with_reducible apply is_gd); first | refine gt ?_ | refine gf ?_ | refine gu ?_)); refine wl_val (r_bldS (vs := []) (quC 0 [] [] (.slice none 0 0) false 0 0 false) (z := quC 0 [] [] (.slice none 0 0) false 0 0 false) (place := (#[(0, 1), (1, 1), (2, 1), (3, 1), (4, 1), (5, 1), (6, 1), (7, 1)][·]?)) (by intro ps; kernel_rfl) rfl (.nil rfl)) ?_
    repeat (first | refine gs ?_ | (refine ks ?_; intro w hM))
    refine koc12 hM rfl ⟨.slice none 0 0, ?_, ?_⟩
    · rw [parse_long q1]; rfl
    · rw [parse_long q1]
      exact hM.nil.nilRow _ _
  rw [decide_eq_false (by omega : ¬ (2000 : Int) < (s.length : Int))]
  refine c_condb rfl (fun h => by cases h) (fun _ => ?_)
  repeat (first | refine gs ?_ | (refine ks ?_; intro w hM))
  refine kcr hM (rwords_any s w (by omega)) (fun vW w hM => ?_)
  obtain ⟨Aw, cw, rfl, _⟩ := Own.form (hM.row (v := vW) (by (repeat constructor)))
  obtain ⟨hwl, hwx⟩ := words_len s
  have hpq : parseQ s = if (st8 (wordsB s)).2 = true ∨ (st8 (wordsB s)).1 < (wordsB s).length then (zeroQ, (st8 (wordsB s)).1 + 1, 15) else (qAll (wordsB s), 0, 0) := by
    unfold parseQ
    rw [if_neg (by omega)]
  have hwx : ∀ x ∈ wordsB s, x.length ≤ 100000 := fun x hx => by have := hwx x hx; omega
  have hwl : (wordsB s).length ≤ 2000 := by omega
  generalize wordsB s = wo at hM hwl hwx hpq
  repeat (first | refine gs ?_ | (refine ks ?_; intro w hM))
  (try ((with_reducible apply is_gd); first | refine gt ?_ | refine gf ?_ | refine gu ?_)); refine wl_val (r_bldS (vs := [(0, .slice Aw wo.length cw)]) (rdC (.slice Aw wo.length cw) (0, false)) (z := rdC (.slice none 0 0) (0, false)) (place := (#[(0, 1), (1, 1), (2, 1)][·]?)) (by intro ps; kernel_rfl) rfl (.cons rfl rfl (by simp) (.nil rfl))) ?_
  refine kbx (v := .agg (rdC (.slice Aw wo.length cw) (0, false)).toArray) hM (fun w b5 hM => ?_)
  repeat (first | refine gs ?_ | (refine ks ?_; intro w hM))
  (try ((with_reducible apply is_gd); first | refine gt ?_ | refine gf ?_ | refine gu ?_)); refine wl_val (r_bldS (vs := [(0, .int .i64 (-1)), (6, .int .i64 (-1))]) (quC (-1) [] [] (.slice none 0 0) false 0 (-1) false) (z := quC 0 [] [] (.slice none 0 0) false 0 0 false) (place := (#[(0, 1), (1, 1), (2, 1), (3, 1), (4, 1), (5, 1), (6, 1), (7, 1)][·]?)) (by intro ps; kernel_rfl) rfl (.cons rfl rfl (by simp) (.cons rfl rfl (by simp [spl, Value.cells]) (.nil rfl)))) ?_
  refine kal hM (fun w b6 hM => ?_)
  refine kstw (vs := quC (-1) [] [] (.slice none 0 0) false 0 (-1) false) hM (fun w hM => ?_)
  have hM := hM.nilRow eTs 118
  have hM : Mem [] w0 w (.cell b6 (quC (-1) [] [] (.slice none 0 0) false 0 (-1) false) 51 :: .cell b5 (rdC (.slice Aw wo.length cw) (0, false)) 113 :: .row eTs 118 (.slice none 0 0) [] :: .row eBs 9 (.slice Aw wo.length cw) wo :: .cell b2 (quC 0 [] [] (.slice none 0 0) false 0 0 false) 51 :: []) := hM.sub (by (repeat (first | exact Go.Proofs.E.Sub.refl _ | exact Go.Proofs.E.Sub.nil | (apply Go.Proofs.E.Sub.cons; (repeat (first | exact Go.Proofs.E.Pick.here | apply Go.Proofs.E.Pick.there))) | apply Go.Proofs.E.Sub.tail)))
  have hz : ((0, false) : PS).1 ≤ wo.length := Nat.zero_le _
  repeat (first | refine gs ?_ | (refine ks ?_; intro w hM))
  have hW := hM.rowRd1 (en := eBs) (v := .slice Aw wo.length cw) (xs := wo) (b := b5) (by omega)
  refine ca (ris_any b5 _ wo (0, false) wCount w (hM.blk (b := b5) (by (repeat constructor))) hW (by omega) (by omega)) ?_
  rintro _ w2 ⟨rfl, hc, hB5⟩
  have hM := hM.cellSet hB5 hc
  clear hW hc hB5
  repeat (first | refine gs ?_ | (refine ks ?_; intro w hM))
  
  refine c_cutJ (fun l w => (∃ jj : Nat → Value, l = [.string (bst s), jj 1, .pointer (some ⟨b2, 0, none⟩), jj 3, jj 4, .pointer (some ⟨b5, 0, none⟩), .pointer (some ⟨b6, 0, none⟩), jj 7, jj 8, jj 9, jj 10, jj 11, jj 12, jj 13, jj 14, jj 15, jj 16, jj 17, jj 18, jj 19, jj 20, jj 21, jj 22, jj 23, jj 24, jj 25, jj 26, jj 27, jj 28, jj 29, jj 30, jj 31, jj 32, jj 33, jj 34, jj 35, jj 36, jj 37, jj 38, jj 39, jj 40, jj 41, jj 42, jj 43, jj 44, jj 45, jj 46, jj 47, jj 48, jj 49, jj 50, jj 51, jj 52, jj 53, jj 54, jj 55, jj 56, jj 57, jj 58, jj 59, jj 60, jj 61, jj 62, jj 63, jj 64, jj 65, jj 66, jj 67, jj 68, jj 69, jj 70, jj 71, jj 72, jj 73, jj 74, jj 75, jj 76, jj 77, jj 78, jj 79, jj 80, jj 81, jj 82, jj 83, jj 84, jj 85, jj 86, jj 87, jj 88, jj 89, jj 90, jj 91, jj 92, jj 93, jj 94, jj 95, jj 96, jj 97, jj 98, jj 99, jj 100, jj 101, jj 102, jj 103, jj 104, jj 105, jj 106, jj 107, jj 108, jj 109]) ∧ Mem [] w0 w (.cell b6 (quC (-1) [] [] (.slice none 0 0) false 0 (-1) (decide (qGet wo (oneB headsW) (0, false) = some 2))) 51 :: .cell b5 (rdC (.slice Aw wo.length cw) (st1 wo)) 113 :: .row eTs 118 (.slice none 0 0) [] :: .row eBs 9 (.slice Aw wo.length cw) wo :: .cell b2 (quC 0 [] [] (.slice none 0 0) false 0 0 false) 51 :: [])) ?_ ?_
  · cases hq : qSees wo wCount (0, false) with
    | true =>
      obtain ⟨e1, e2⟩ := head_count hq
      rw [hq] at hM
      rw [(see_t (α := Int) hq).2.2.1] at hM
      repeat (first | refine gs ?_ | (refine ks ?_; intro w hM))
      refine c_condb rfl (fun h => by cases h) (fun _ => ?_)
      repeat (first | refine gs ?_ | (refine ks ?_; intro w hM))
      refine outJ ⟨exj rfl, ?_⟩
      rw [e1, e2]
      exact hM.sub (by (repeat (first | exact Go.Proofs.E.Sub.refl _ | exact Go.Proofs.E.Sub.nil | (apply Go.Proofs.E.Sub.cons; (repeat (first | exact Go.Proofs.E.Pick.here | apply Go.Proofs.E.Pick.there))) | apply Go.Proofs.E.Sub.tail)))
    | false =>
      obtain ⟨e1, e2⟩ := head_get hq
      rw [hq] at hM
      rw [(see_f (α := Int) hq).1] at hM
      repeat (first | refine gs ?_ | (refine ks ?_; intro w hM))
      refine c_condb rfl (fun _ => ?_) (fun h => by cases h)
      repeat (first | refine gs ?_ | (refine ks ?_; intro w hM))
      have hW := hM.rowRd1 (en := eBs) (v := .slice Aw wo.length cw) (xs := wo) (b := b5) (by omega)
      refine kca hM (rword_any b5 _ wo (0, false) w (hM.blk (b := b5) (by (repeat constructor))) hW.off (by omega)) (fun w hM => ?_)
      repeat (first | refine gs ?_ | (refine ks ?_; intro w hM))
      refine ca (rtake_any b5 _ wo (0, false) _ w (hM.blk (b := b5) (by (repeat constructor))) ⟨Aw, cw, rfl⟩ (by omega) (by omega)) ?_
      rintro _ w2 ⟨hc, hB5⟩
      have hM := hM.cellSet hB5 hc
      repeat (first | refine gs ?_ | (refine ks ?_; intro w hM))
      refine outJ ⟨exj rfl, ?_⟩
      rw [e2, ← e1]
      exact hM.sub (by (repeat (first | exact Go.Proofs.E.Sub.refl _ | exact Go.Proofs.E.Sub.nil | (apply Go.Proofs.E.Sub.cons; (repeat (first | exact Go.Proofs.E.Pick.here | apply Go.Proofs.E.Pick.there))) | apply Go.Proofs.E.Sub.tail)))
  clear hM hz
  have hz1 : (st1 wo).1 ≤ wo.length := aft_le (Nat.zero_le _)
  have hz2 : (st2 wo).1 ≤ wo.length := st_le hz1
  have hz3 : (st3 wo).1 ≤ wo.length := st_le hz2
  have hz4 : (st4 wo).1 ≤ wo.length := st_le hz3
  obtain ⟨cnt, hcnt⟩ : ∃ c, decide (qGet wo (oneB headsW) (0, false) = some 2) = c := ⟨_, rfl⟩
  rw [hcnt]
  rintro l w ⟨⟨jj, rfl⟩, hM⟩
  repeat (first | refine gs ?_ | (refine ks ?_; intro w hM))
  have hW := hM.rowRd1 (en := eBs) (v := .slice Aw wo.length cw) (xs := wo) (b := b5) (by omega)
  refine ca (ris_any b5 _ wo (st1 wo) wAt w (hM.blk (b := b5) (by (repeat constructor))) hW (by omega) (by omega)) ?_
  rintro _ w2 ⟨rfl, hc, hB5⟩
  have hM := hM.cellSet hB5 hc
  clear hW hc hB5
  repeat (first | refine gs ?_ | (refine ks ?_; intro w hM))
  refine c_condJ (fun l w => (∃ jj : Nat → Value, l = [.string (bst s), jj 1, .pointer (some ⟨b2, 0, none⟩), jj 3, jj 4, .pointer (some ⟨b5, 0, none⟩), .pointer (some ⟨b6, 0, none⟩), jj 7, jj 8, jj 9, jj 10, jj 11, jj 12, jj 13, jj 14, jj 15, jj 16, jj 17, jj 18, jj 19, jj 20, jj 21, jj 22, jj 23, jj 24, jj 25, jj 26, jj 27, jj 28, jj 29, jj 30, jj 31, jj 32, jj 33, jj 34, jj 35, jj 36, jj 37, jj 38, jj 39, jj 40, jj 41, jj 42, jj 43, jj 44, jj 45, jj 46, jj 47, jj 48, jj 49, jj 50, jj 51, jj 52, jj 53, jj 54, jj 55, jj 56, jj 57, jj 58, jj 59, jj 60, jj 61, jj 62, jj 63, jj 64, jj 65, jj 66, jj 67, jj 68, jj 69, jj 70, jj 71, jj 72, jj 73, jj 74, jj 75, jj 76, jj 77, jj 78, jj 79, jj 80, jj 81, jj 82, jj 83, jj 84, jj 85, jj 86, jj 87, jj 88, jj 89, jj 90, jj 91, jj 92, jj 93, jj 94, jj 95, jj 96, jj 97, jj 98, jj 99, jj 100, jj 101, jj 102, jj 103, jj 104, jj 105, jj 106, jj 107, jj 108, jj 109]) ∧ ∃ av : Int, (∀ a, qVal wo wAt numI (-1) (st1 wo) = some a → av = a) ∧ Mem [] w0 w (.cell b6 (quC av [] [] (.slice none 0 0) false 0 (-1) cnt) 51 :: .cell b5 (rdC (.slice Aw wo.length cw) (st2 wo)) 113 :: .row eTs 118 (.slice none 0 0) [] :: .row eBs 9 (.slice Aw wo.length cw) wo :: .cell b2 (quC 0 [] [] (.slice none 0 0) false 0 0 false) 51 :: [])) rfl (fun hq => ?_) (fun hq => ?_) ?_
  · obtain ⟨hb, hi, e1, e2⟩ := see_t (α := Int) hq
    rw [e1] at hM
    repeat (first | refine gs ?_ | (refine ks ?_; intro w hM))
    have hW := hM.rowRd1 (en := eBs) (v := .slice Aw wo.length cw) (xs := wo) (b := b5) (by omega)
    refine ca (rnum34_any b5 _ wo ((st1 wo).1 + 1, false) _ (hM.blk (b := b5) (by (repeat constructor))) hW (by show _ + 1 ≤ _; omega) (by omega) hwx) ?_
    rintro _ w2 ⟨⟨x, rfl, hx⟩, hc, hB5⟩
    have hM := hM.cellSet hB5 hc
    rw [← (e2 numI (-1)).1] at hM
    rw [← (e2 numI (-1)).2] at hx
    repeat (first | refine gs ?_ | (refine ks ?_; intro w hM))
    exact outJ ⟨exj rfl, x, hx, hM.sub (by (repeat (first | exact Go.Proofs.E.Sub.refl _ | exact Go.Proofs.E.Sub.nil | (apply Go.Proofs.E.Sub.cons; (repeat (first | exact Go.Proofs.E.Pick.here | apply Go.Proofs.E.Pick.there))) | apply Go.Proofs.E.Sub.tail)))⟩
  · obtain ⟨e1, e2⟩ := see_f (α := Int) hq
    rw [e1, ← (e2 numI (-1)).1] at hM
    have hx : ∀ a, qVal wo wAt numI (-1) (st1 wo) = some a → (-1) = a := fun a ha => by rw [(e2 numI (-1)).2] at ha; injection ha
    repeat (first | refine gs ?_ | (refine ks ?_; intro w hM))
    exact outJ ⟨exj rfl, (-1), hx, hM.sub (by (repeat (first | exact Go.Proofs.E.Sub.refl _ | exact Go.Proofs.E.Sub.nil | (apply Go.Proofs.E.Sub.cons; (repeat (first | exact Go.Proofs.E.Pick.here | apply Go.Proofs.E.Pick.there))) | apply Go.Proofs.E.Sub.tail)))⟩
  clear hM
  rintro l w ⟨⟨jj, rfl⟩, av, hav, hM⟩
  repeat (first | refine gs ?_ | (refine ks ?_; intro w hM))
  have hW := hM.rowRd1 (en := eBs) (v := .slice Aw wo.length cw) (xs := wo) (b := b5) (by omega)
  refine ca (ris_any b5 _ wo (st2 wo) wFrom w (hM.blk (b := b5) (by (repeat constructor))) hW (by omega) (by omega)) ?_
  rintro _ w2 ⟨rfl, hc, hB5⟩
  have hM := hM.cellSet hB5 hc
  clear hW hc hB5
  repeat (first | refine gs ?_ | (refine ks ?_; intro w hM))
  refine c_condJ (fun l w => (∃ jj : Nat → Value, l = [.string (bst s), jj 1, .pointer (some ⟨b2, 0, none⟩), jj 3, jj 4, .pointer (some ⟨b5, 0, none⟩), .pointer (some ⟨b6, 0, none⟩), jj 7, jj 8, jj 9, jj 10, jj 11, jj 12, jj 13, jj 14, jj 15, jj 16, jj 17, jj 18, jj 19, jj 20, jj 21, jj 22, jj 23, jj 24, jj 25, jj 26, jj 27, jj 28, jj 29, jj 30, jj 31, jj 32, jj 33, jj 34, jj 35, jj 36, jj 37, jj 38, jj 39, jj 40, jj 41, jj 42, jj 43, jj 44, jj 45, jj 46, jj 47, jj 48, jj 49, jj 50, jj 51, jj 52, jj 53, jj 54, jj 55, jj 56, jj 57, jj 58, jj 59, jj 60, jj 61, jj 62, jj 63, jj 64, jj 65, jj 66, jj 67, jj 68, jj 69, jj 70, jj 71, jj 72, jj 73, jj 74, jj 75, jj 76, jj 77, jj 78, jj 79, jj 80, jj 81, jj 82, jj 83, jj 84, jj 85, jj 86, jj 87, jj 88, jj 89, jj 90, jj 91, jj 92, jj 93, jj 94, jj 95, jj 96, jj 97, jj 98, jj 99, jj 100, jj 101, jj 102, jj 103, jj 104, jj 105, jj 106, jj 107, jj 108, jj 109]) ∧ ∃ av : Int, ∃ fv : List UInt8, (∀ a, qVal wo wAt numI (-1) (st1 wo) = some a → av = a) ∧ (∀ a, qVal wo wFrom textQ [] (st2 wo) = some a → fv = a) ∧ Mem [] w0 w (.cell b6 (quC av fv [] (.slice none 0 0) false 0 (-1) cnt) 51 :: .cell b5 (rdC (.slice Aw wo.length cw) (st3 wo)) 113 :: .row eTs 118 (.slice none 0 0) [] :: .row eBs 9 (.slice Aw wo.length cw) wo :: .cell b2 (quC 0 [] [] (.slice none 0 0) false 0 0 false) 51 :: [])) rfl (fun hq => ?_) (fun hq => ?_) ?_
  · obtain ⟨hb, hi, e1, e2⟩ := see_t (α := List UInt8) hq
    rw [e1] at hM
    repeat (first | refine gs ?_ | (refine ks ?_; intro w hM))
    have hW := hM.rowRd1 (en := eBs) (v := .slice Aw wo.length cw) (xs := wo) (b := b5) (by omega)
    refine ca (rtxt34_any b5 _ wo ((st2 wo).1 + 1, false) _ (hM.blk (b := b5) (by (repeat constructor))) hW (by show _ + 1 ≤ _; omega) (by omega) hwx) ?_
    rintro _ w2 ⟨⟨x, rfl, hx⟩, hc, hB5⟩
    have hM := hM.cellSet hB5 hc
    rw [← (e2 textQ []).1] at hM
    rw [← (e2 textQ []).2] at hx
    repeat (first | refine gs ?_ | (refine ks ?_; intro w hM))
    exact outJ ⟨exj rfl, av, x, hav, hx, hM.sub (by (repeat (first | exact Go.Proofs.E.Sub.refl _ | exact Go.Proofs.E.Sub.nil | (apply Go.Proofs.E.Sub.cons; (repeat (first | exact Go.Proofs.E.Pick.here | apply Go.Proofs.E.Pick.there))) | apply Go.Proofs.E.Sub.tail)))⟩
  · obtain ⟨e1, e2⟩ := see_f (α := List UInt8) hq
    rw [e1, ← (e2 textQ []).1] at hM
    have hx : ∀ a, qVal wo wFrom textQ [] (st2 wo) = some a → [] = a := fun a ha => by rw [(e2 textQ []).2] at ha; injection ha
    repeat (first | refine gs ?_ | (refine ks ?_; intro w hM))
    exact outJ ⟨exj rfl, av, [], hav, hx, hM.sub (by (repeat (first | exact Go.Proofs.E.Sub.refl _ | exact Go.Proofs.E.Sub.nil | (apply Go.Proofs.E.Sub.cons; (repeat (first | exact Go.Proofs.E.Pick.here | apply Go.Proofs.E.Pick.there))) | apply Go.Proofs.E.Sub.tail)))⟩
  clear hM
  rintro l w ⟨⟨jj, rfl⟩, av, fv, hav, hfv, hM⟩
  repeat (first | refine gs ?_ | (refine ks ?_; intro w hM))
  have hW := hM.rowRd1 (en := eBs) (v := .slice Aw wo.length cw) (xs := wo) (b := b5) (by omega)
  refine ca (ris_any b5 _ wo (st3 wo) wTo w (hM.blk (b := b5) (by (repeat constructor))) hW (by omega) (by omega)) ?_
  rintro _ w2 ⟨rfl, hc, hB5⟩
  have hM := hM.cellSet hB5 hc
  clear hW hc hB5
  repeat (first | refine gs ?_ | (refine ks ?_; intro w hM))
  refine c_condJ (fun l w => (∃ jj : Nat → Value, l = [.string (bst s), jj 1, .pointer (some ⟨b2, 0, none⟩), jj 3, jj 4, .pointer (some ⟨b5, 0, none⟩), .pointer (some ⟨b6, 0, none⟩), jj 7, jj 8, jj 9, jj 10, jj 11, jj 12, jj 13, jj 14, jj 15, jj 16, jj 17, jj 18, jj 19, jj 20, jj 21, jj 22, jj 23, jj 24, jj 25, jj 26, jj 27, jj 28, jj 29, jj 30, jj 31, jj 32, jj 33, jj 34, jj 35, jj 36, jj 37, jj 38, jj 39, jj 40, jj 41, jj 42, jj 43, jj 44, jj 45, jj 46, jj 47, jj 48, jj 49, jj 50, jj 51, jj 52, jj 53, jj 54, jj 55, jj 56, jj 57, jj 58, jj 59, jj 60, jj 61, jj 62, jj 63, jj 64, jj 65, jj 66, jj 67, jj 68, jj 69, jj 70, jj 71, jj 72, jj 73, jj 74, jj 75, jj 76, jj 77, jj 78, jj 79, jj 80, jj 81, jj 82, jj 83, jj 84, jj 85, jj 86, jj 87, jj 88, jj 89, jj 90, jj 91, jj 92, jj 93, jj 94, jj 95, jj 96, jj 97, jj 98, jj 99, jj 100, jj 101, jj 102, jj 103, jj 104, jj 105, jj 106, jj 107, jj 108, jj 109]) ∧ ∃ av : Int, ∃ fv : List UInt8, ∃ tv : List UInt8, (∀ a, qVal wo wAt numI (-1) (st1 wo) = some a → av = a) ∧ (∀ a, qVal wo wFrom textQ [] (st2 wo) = some a → fv = a) ∧ (∀ a, qVal wo wTo textQ [] (st3 wo) = some a → tv = a) ∧ Mem [] w0 w (.cell b6 (quC av fv tv (.slice none 0 0) false 0 (-1) cnt) 51 :: .cell b5 (rdC (.slice Aw wo.length cw) (st4 wo)) 113 :: .row eTs 118 (.slice none 0 0) [] :: .row eBs 9 (.slice Aw wo.length cw) wo :: .cell b2 (quC 0 [] [] (.slice none 0 0) false 0 0 false) 51 :: [])) rfl (fun hq => ?_) (fun hq => ?_) ?_
  · obtain ⟨hb, hi, e1, e2⟩ := see_t (α := List UInt8) hq
    rw [e1] at hM
    repeat (first | refine gs ?_ | (refine ks ?_; intro w hM))
    have hW := hM.rowRd1 (en := eBs) (v := .slice Aw wo.length cw) (xs := wo) (b := b5) (by omega)
    refine ca (rtxt34_any b5 _ wo ((st3 wo).1 + 1, false) _ (hM.blk (b := b5) (by (repeat constructor))) hW (by show _ + 1 ≤ _; omega) (by omega) hwx) ?_
    rintro _ w2 ⟨⟨x, rfl, hx⟩, hc, hB5⟩
    have hM := hM.cellSet hB5 hc
    rw [← (e2 textQ []).1] at hM
    rw [← (e2 textQ []).2] at hx
    repeat (first | refine gs ?_ | (refine ks ?_; intro w hM))
    exact outJ ⟨exj rfl, av, fv, x, hav, hfv, hx, hM.sub (by (repeat (first | exact Go.Proofs.E.Sub.refl _ | exact Go.Proofs.E.Sub.nil | (apply Go.Proofs.E.Sub.cons; (repeat (first | exact Go.Proofs.E.Pick.here | apply Go.Proofs.E.Pick.there))) | apply Go.Proofs.E.Sub.tail)))⟩
  · obtain ⟨e1, e2⟩ := see_f (α := List UInt8) hq
    rw [e1, ← (e2 textQ []).1] at hM
    have hx : ∀ a, qVal wo wTo textQ [] (st3 wo) = some a → [] = a := fun a ha => by rw [(e2 textQ []).2] at ha; injection ha
    repeat (first | refine gs ?_ | (refine ks ?_; intro w hM))
    exact outJ ⟨exj rfl, av, fv, [], hav, hfv, hx, hM.sub (by (repeat (first | exact Go.Proofs.E.Sub.refl _ | exact Go.Proofs.E.Sub.nil | (apply Go.Proofs.E.Sub.cons; (repeat (first | exact Go.Proofs.E.Pick.here | apply Go.Proofs.E.Pick.there))) | apply Go.Proofs.E.Sub.tail)))⟩
  clear hM
  rintro l w ⟨⟨jj, rfl⟩, av, fv, tv, hav, hfv, htv, hM⟩
  obtain ⟨TS, s5, hTS⟩ : ∃ TS s5, qTests wo 52 wWhere [] (st4 wo) = (TS, s5) := ⟨_, _, rfl⟩
  have h5e : st5 wo = s5 := by unfold st5; rw [hTS]
  repeat (first | refine gs ?_ | (refine ks ?_; intro w hM))
  have hW := hM.rowRd1 (en := eBs) (v := .slice Aw wo.length cw) (xs := wo) (b := b5) (by omega)
  refine ca (ris_any b5 _ wo (st4 wo) wWhere w (hM.blk (b := b5) (by (repeat constructor))) hW (by omega) (by omega)) ?_
  rintro _ w2 ⟨rfl, hc, hB5⟩
  have hM := hM.cellSet hB5 hc
  clear hW hc hB5
  repeat (first | refine gs ?_ | (refine ks ?_; intro w hM))
  refine c_condJ (fun l w => (∃ jj : Nat → Value, l = [.string (bst s), jj 1, .pointer (some ⟨b2, 0, none⟩), jj 3, jj 4, .pointer (some ⟨b5, 0, none⟩), .pointer (some ⟨b6, 0, none⟩), jj 7, jj 8, jj 9, jj 10, jj 11, jj 12, jj 13, jj 14, jj 15, jj 16, jj 17, jj 18, jj 19, jj 20, jj 21, jj 22, jj 23, jj 24, jj 25, jj 26, jj 27, jj 28, jj 29, jj 30, jj 31, jj 32, jj 33, jj 34, jj 35, jj 36, jj 37, jj 38, jj 39, jj 40, jj 41, jj 42, jj 43, jj 44, jj 45, jj 46, jj 47, jj 48, jj 49, jj 50, jj 51, jj 52, jj 53, jj 54, jj 55, jj 56, jj 57, jj 58, jj 59, jj 60, jj 61, jj 62, jj 63, jj 64, jj 65, jj 66, jj 67, jj 68, jj 69, jj 70, jj 71, jj 72, jj 73, jj 74, jj 75, jj 76, jj 77, jj 78, jj 79, jj 80, jj 81, jj 82, jj 83, jj 84, jj 85, jj 86, jj 87, jj 88, jj 89, jj 90, jj 91, jj 92, jj 93, jj 94, jj 95, jj 96, jj 97, jj 98, jj 99, jj 100, jj 101, jj 102, jj 103, jj 104, jj 105, jj 106, jj 107, jj 108, jj 109]) ∧ ∃ (tl : List TsV) (vt : Value), tl.length = TS.length ∧ (s5.2 = false → tl = TS) ∧ Mem [] w0 w (.cell b6 (quC av fv tv vt false 0 (-1) cnt) 51 :: .cell b5 (rdC (.slice Aw wo.length cw) s5) 113 :: .row eTs 118 vt tl :: .row eBs 9 (.slice Aw wo.length cw) wo :: .cell b2 (quC 0 [] [] (.slice none 0 0) false 0 0 false) 51 :: [])) rfl (fun hq => ?_) (fun hq => ?_) ?_
  · obtain ⟨hb, hi, e1, e2⟩ := see_t (α := Int) hq
    rw [e1] at hM
    rw [tests_step hq (by simp)] at hTS
    repeat (first | refine gs ?_ | (refine ks ?_; intro w hM))
    refine c_ordY ([5, 7], []) [b5] (by kernel_rfl) (by kernel_rfl) (by kernel_rfl) (fun w hc hs => ?_)
    have hM := hM.call hc
    have hl6 := Blk.lt (hM.blk (b := b6) (by (repeat constructor)))
    have hn6 := hM.nin (b := b5) (c := b6) (by (repeat constructor)) (by (repeat constructor))
    (first | refine yn 0 rfl ?_ | refine ynt 0 rfl ?_ | refine ynff 0 rfl ?_)
    refine ynl 1 rfl (hM.blk (b := b6) (by (repeat constructor))) (by omega) hn6 rfl rfl ?_
    (first | refine yn 2 rfl ?_ | refine ynt 2 rfl ?_ | refine ynff 2 rfl ?_)
    refine yk1 3 hM (by kernel_rfl) rfl (fun w h0 hM => ?_)
    have hW := hM.rowRd1 (en := eBs) (v := .slice Aw wo.length cw) (xs := wo) (b := b5) (by omega)
    refine ca (rtest_any b5 _ wo (((st4 wo).1 + 1, false)) w (hM.blk (b := b5) (by (repeat constructor))) hW (by show _ + 1 ≤ _; omega) (by omega) hwx) ?_
    rintro _ w2 ⟨⟨t, rfl, ht⟩, hc, hB5⟩
    have hM := hM.cellSet hB5 hc
    refine x_wy (.inl (hc.bwn h0 (.inr (by simp)))) rfl ?_
    refine yk1 4 hM (by kernel_rfl) rfl (fun w h0 hM => ?_)
    refine kbsC (en := eTs) (vs := [.agg (tsC t).toArray]) [t] hM (fun w b hc hM => ?_) (hm := by intro v q; simp only [List.mem_singleton] at q; subst q; rfl)
    refine x_wy (.inl (hc.gy h0)) rfl ?_
    refine yk1 5 hM (by kernel_rfl) rfl (fun w h0 hM => ?_)
    have hR1 := hM.rowRdO (en := eTs) (v := .slice (some ⟨b, 0, none⟩) 1 1) (xs := [t]) (by (repeat constructor))
    refine kapC (en := eTs) (v := .slice none 0 0) (xs := []) (ys := [t]) hM hR1 (fun v7 w hs hM => ?_) (hb := by first | (simp; done) | (simp; omega)) (h63 := by first | (simp; done) | (simp; omega))
    refine x_wy (.inr ⟨by decide, Nat.le_trans h0 hs⟩) rfl ?_
    obtain ⟨A7, c7, rfl, _⟩ := Own.form (hM.row (v := v7) (by (repeat constructor)))
    (first | refine yn 6 rfl ?_ | refine ynt 6 rfl ?_ | refine ynff 6 rfl ?_)
    refine yk1 7 hM (by kernel_rfl) rfl (fun w h0 hM => ?_)
    refine kstC hM (fun w hc hM => ?_)
    refine x_wy (.inr ⟨by decide, Nat.le_trans h0 hc.size⟩) rfl ?_
    refine wy_done (by kernel_rfl) (fun w hc => ?_)
    have hM := hM.call hc
    obtain ⟨g1, g2⟩ := test_val (l := []) (l' := []) (b := true) ht rfl rfl
    have hz0 := test_le (wo := wo) (s := ((st4 wo).1 + 1, false)) (by show (st4 wo).1 + 1 ≤ wo.length; omega)
    have hg3 : ([] ++ [(qTest wo ((st4 wo).1 + 1, false)).1.getD (0, 0, [])] : List TsV).length = 1 := rfl
    generalize ([] ++ [(qTest wo ((st4 wo).1 + 1, false)).1.getD (0, 0, [])] : List TsV) = tl0 at g1 g2 hTS hg3
    generalize (qTest wo ((st4 wo).1 + 1, false)).2 = sx at g1 g2 hTS hz0 hM
    clear e1 e2 hi hb hq ht
    repeat (first | refine gs ?_ | (refine ks ?_; intro w hM))
    refine c_loop (fun n l w => ∃ (tl0 tl : List TsV) (sx : PS) (At : Option Addr) (ct : Nat), (∃ jj : Nat → Value, l = [.string (bst s), jj 1, .pointer (some ⟨b2, 0, none⟩), jj 3, jj 4, .pointer (some ⟨b5, 0, none⟩), .pointer (some ⟨b6, 0, none⟩), jj 7, jj 8, jj 9, jj 10, jj 11, jj 12, jj 13, jj 14, jj 15, jj 16, jj 17, jj 18, jj 19, jj 20, jj 21, jj 22, jj 23, jj 24, jj 25, jj 26, jj 27, jj 28, jj 29, jj 30, jj 31, jj 32, jj 33, jj 34, jj 35, jj 36, jj 37, jj 38, jj 39, jj 40, jj 41, jj 42, jj 43, jj 44, jj 45, jj 46, jj 47, jj 48, jj 49, jj 50, jj 51, jj 52, jj 53, jj 54, jj 55, jj 56, jj 57, jj 58, jj 59, jj 60, jj 61, jj 62, jj 63, jj 64, jj 65, jj 66, jj 67, jj 68, jj 69, jj 70, jj 71, jj 72, jj 73, jj 74, jj 75, jj 76, jj 77, jj 78, jj 79, jj 80, jj 81, jj 82, jj 83, jj 84, jj 85, jj 86, jj 87, jj 88, jj 89, jj 90, jj 91, jj 92, jj 93, jj 94, jj 95, jj 96, jj 97, jj 98, jj 99, jj 100, jj 101, jj 102, jj 103, jj 104, jj 105, jj 106, jj 107, jj 108, jj 109]) ∧ qTests wo n wAnd tl0 sx = (TS, s5) ∧ tl.length = tl0.length ∧ (sx.2 = false → tl = tl0) ∧ tl0.length + n = 52 ∧ tl0.length ≤ 50 ∧ sx.1 ≤ wo.length ∧ Mem [] w0 w (.cell b6 (quC av fv tv (.slice At tl.length ct) false 0 (-1) cnt) 51 :: .cell b5 (rdC (.slice Aw wo.length cw) sx) 113 :: .row eTs 118 (.slice At tl.length ct) tl :: .row eBs 9 (.slice Aw wo.length cw) wo :: .cell b2 (quC 0 [] [] (.slice none 0 0) false 0 0 false) 51 :: [])) 51
      ⟨tl0, [t], sx, A7, c7, exj rfl, hTS, g1, g2, by omega, by omega, hz0, hM.sub (by (repeat (first | exact Go.Proofs.E.Sub.refl _ | exact Go.Proofs.E.Sub.nil | (apply Go.Proofs.E.Sub.cons; (repeat (first | exact Go.Proofs.E.Pick.here | apply Go.Proofs.E.Pick.there))) | apply Go.Proofs.E.Sub.tail)))⟩ ?_
    clear hM hTS g1 g2 hz0 hg3
    rintro n l w ⟨tl0, tl, sx, At, ct, ⟨jj, rfl⟩, hTS, g1, g2, g3, g4, hzx, hM⟩
    obtain ⟨n, rfl⟩ : ∃ m, n = m + 1 := ⟨n - 1, by omega⟩
    repeat (first | refine gs ?_ | (refine ks ?_; intro w hM))
    have hW := hM.rowRd1 (en := eBs) (v := .slice Aw wo.length cw) (xs := wo) (b := b5) (by omega)
    refine ca (ris_any b5 _ wo sx wAnd w (hM.blk (b := b5) (by (repeat constructor))) hW (by omega) (by omega)) ?_
    rintro _ w2 ⟨rfl, hc, hB5⟩
    have hM := hM.cellSet hB5 hc
    clear hW hc hB5
    repeat (first | refine gs ?_ | (refine ks ?_; intro w hM))
    cases hq : qSees wo wAnd sx with
    | false =>
      rw [tests_off hq] at hTS
      rw [(see_f (α := Int) hq).1] at hM
      refine c_condb rfl (fun h => by cases h) (fun _ => ?_)
      repeat (first | refine gs ?_ | (refine ks ?_; intro w hM))
      injection hTS with h1 h2
      subst h1 h2
      exact outJ ⟨exj rfl, tl, _, g1, g2, hM.sub (by (repeat (first | exact Go.Proofs.E.Sub.refl _ | exact Go.Proofs.E.Sub.nil | (apply Go.Proofs.E.Sub.cons; (repeat (first | exact Go.Proofs.E.Pick.here | apply Go.Proofs.E.Pick.there))) | apply Go.Proofs.E.Sub.tail)))⟩
    | true =>
    obtain ⟨hb, hi, e1, e2⟩ := see_t (α := Int) hq
    rw [e1] at hM
    refine c_condb rfl (fun _ => ?_) (fun h => by cases h)
    repeat (first | refine gs ?_ | (refine ks ?_; intro w hM))
    by_cases h50 : tl0.length = 50
    · rw [decide_eq_true (by omega : (tl.length : Int) = 50)]
      rw [tests_full hq h50] at hTS
      refine c_condb rfl (fun _ => ?_) (fun h => by cases h)
      repeat (first | refine gs ?_ | (refine ks ?_; intro w hM))
      injection hTS with h1 h2
      subst h1 h2
      refine outJ ⟨exj rfl, tl, .slice At tl.length ct, g1, (fun h => by cases h), ?_⟩
      have e9 : ((sx.1 + 1 : Nat) : Int) - 1 = (sx.1 : Int) := by omega
      simp only [e9] at hM
      exact hM.sub (by (repeat (first | exact Go.Proofs.E.Sub.refl _ | exact Go.Proofs.E.Sub.nil | (apply Go.Proofs.E.Sub.cons; (repeat (first | exact Go.Proofs.E.Pick.here | apply Go.Proofs.E.Pick.there))) | apply Go.Proofs.E.Sub.tail)))
    · rw [decide_eq_false (by omega : ¬ (tl.length : Int) = 50)]
      rw [tests_step hq h50] at hTS
      refine c_condb rfl (fun h => by cases h) (fun _ => ?_)
      repeat (first | refine gs ?_ | (refine ks ?_; intro w hM))
      refine c_ordY ([5, 7], []) [b5] (by kernel_rfl) (by kernel_rfl) (by kernel_rfl) (fun w hc hs => ?_)
      have hM := hM.call hc
      have hl6 := Blk.lt (hM.blk (b := b6) (by (repeat constructor)))
      have hn6 := hM.nin (b := b5) (c := b6) (by (repeat constructor)) (by (repeat constructor))
      (first | refine yn 0 rfl ?_ | refine ynt 0 rfl ?_ | refine ynff 0 rfl ?_)
      refine ynl 1 rfl (hM.blk (b := b6) (by (repeat constructor))) (by omega) hn6 rfl rfl ?_
      (first | refine yn 2 rfl ?_ | refine ynt 2 rfl ?_ | refine ynff 2 rfl ?_)
      refine yk1 3 hM (by kernel_rfl) rfl (fun w h0 hM => ?_)
      have hW := hM.rowRd1 (en := eBs) (v := .slice Aw wo.length cw) (xs := wo) (b := b5) (by omega)
      refine ca (rtest_any b5 _ wo ((sx.1 + 1, false)) w (hM.blk (b := b5) (by (repeat constructor))) hW (by show _ + 1 ≤ _; omega) (by omega) hwx) ?_
      rintro _ w2 ⟨⟨t, rfl, ht⟩, hc, hB5⟩
      have hM := hM.cellSet hB5 hc
      refine x_wy (.inl (hc.bwn h0 (.inr (by simp)))) rfl ?_
      refine yk1 4 hM (by kernel_rfl) rfl (fun w h0 hM => ?_)
      refine kbsC (en := eTs) (vs := [.agg (tsC t).toArray]) [t] hM (fun w b hc hM => ?_) (hm := by intro v q; simp only [List.mem_singleton] at q; subst q; rfl)
      refine x_wy (.inl (hc.gy h0)) rfl ?_
      refine yk1 5 hM (by kernel_rfl) rfl (fun w h0 hM => ?_)
      have hR1 := hM.rowRdO (en := eTs) (v := .slice (some ⟨b, 0, none⟩) 1 1) (xs := [t]) (by (repeat constructor))
      refine kapC (en := eTs) (v := .slice At tl.length ct) (xs := tl) (ys := [t]) hM hR1 (fun v7 w hs hM => ?_) (hb := by first | (simp; done) | (simp; omega)) (h63 := by first | (simp; done) | (simp; omega))
      refine x_wy (.inr ⟨by decide, Nat.le_trans h0 hs⟩) rfl ?_
      obtain ⟨A7, c7, rfl, _⟩ := Own.form (hM.row (v := v7) (by (repeat constructor)))
      (first | refine yn 6 rfl ?_ | refine ynt 6 rfl ?_ | refine ynff 6 rfl ?_)
      refine yk1 7 hM (by kernel_rfl) rfl (fun w h0 hM => ?_)
      refine kstC hM (fun w hc hM => ?_)
      refine x_wy (.inr ⟨by decide, Nat.le_trans h0 hc.size⟩) rfl ?_
      refine wy_done (by kernel_rfl) (fun w hc => ?_)
      have hM := hM.call hc
      obtain ⟨k1, k2⟩ := test_val (b := true) ht g1 (g2 hb)
      have hz0 := test_le (wo := wo) (s := (sx.1 + 1, false)) (by show sx.1 + 1 ≤ wo.length; omega)
      repeat (first | refine gs ?_ | (refine ks ?_; intro w hM))
      exact x_goes n rfl (by omega) ⟨_, tl ++ [t], _, A7, c7, exj rfl, hTS, k1, k2, by rw [List.length_append, List.length_singleton]; omega, by rw [List.length_append, List.length_singleton]; omega, hz0, hM.sub (by (repeat (first | exact Go.Proofs.E.Sub.refl _ | exact Go.Proofs.E.Sub.nil | (apply Go.Proofs.E.Sub.cons; (repeat (first | exact Go.Proofs.E.Pick.here | apply Go.Proofs.E.Pick.there))) | apply Go.Proofs.E.Sub.tail)))⟩
  · rw [tests_off hq] at hTS
    rw [(see_f (α := Int) hq).1] at hM
    repeat (first | refine gs ?_ | (refine ks ?_; intro w hM))
    injection hTS with h1 h2
    subst h1 h2
    exact outJ ⟨exj rfl, [], .slice none 0 0, rfl, fun _ => rfl, hM.sub (by (repeat (first | exact Go.Proofs.E.Sub.refl _ | exact Go.Proofs.E.Sub.nil | (apply Go.Proofs.E.Sub.cons; (repeat (first | exact Go.Proofs.E.Pick.here | apply Go.Proofs.E.Pick.there))) | apply Go.Proofs.E.Sub.tail)))⟩
  clear hM
  rintro l w ⟨⟨jj, rfl⟩, tl, vt, htl, htl2, hM⟩
  have hz5 : s5.1 ≤ wo.length := by
    have := tests_le (wo := wo) (n := 52) (j := wWhere) (l := []) hz4
    rw [hTS] at this
    exact this
  repeat (first | refine gs ?_ | (refine ks ?_; intro w hM))
  have hW := hM.rowRd1 (en := eBs) (v := .slice Aw wo.length cw) (xs := wo) (b := b5) (by omega)
  refine ca (ris_any b5 _ wo s5 wBack w (hM.blk (b := b5) (by (repeat constructor))) hW (by omega) (by omega)) ?_
  rintro _ w2 ⟨rfl, hc, hB5⟩
  have hM := hM.cellSet hB5 hc
  clear hW hc hB5
  obtain ⟨bk, hbk⟩ : ∃ b, qSees wo wBack s5 = b := ⟨_, rfl⟩
  have h6e : st6 wo = seeS wo wBack s5 := by
    unfold st6 seeS
    rw [h5e]
    cases hq : qSees wo wBack s5 with
    | false => rfl
    | true => rw [if_pos rfl, if_pos rfl, (see_t (α := Int) hq).1]
  rw [← h6e] at hM
  have hz6 : (st6 wo).1 ≤ wo.length := by
    rw [h6e]
    cases hq : qSees wo wBack s5 with
    | false => rw [(see_f (α := Int) hq).1]; exact hz5
    | true => rw [(see_t (α := Int) hq).2.2.1]; exact (see_t (α := Int) hq).2.1
  have hz7 : (st7 wo).1 ≤ wo.length := st_le hz6
  have hz8 : (st8 wo).1 ≤ wo.length := st_le hz7
  rw [hbk]
  repeat (first | refine gs ?_ | (refine ks ?_; intro w hM))
  have hW := hM.rowRd1 (en := eBs) (v := .slice Aw wo.length cw) (xs := wo) (b := b5) (by omega)
  refine ca (ris_any b5 _ wo (st6 wo) wSkip w (hM.blk (b := b5) (by (repeat constructor))) hW (by omega) (by omega)) ?_
  rintro _ w2 ⟨rfl, hc, hB5⟩
  have hM := hM.cellSet hB5 hc
  clear hW hc hB5
  repeat (first | refine gs ?_ | (refine ks ?_; intro w hM))
  refine c_condJ (fun l w => (∃ jj : Nat → Value, l = [.string (bst s), jj 1, .pointer (some ⟨b2, 0, none⟩), jj 3, jj 4, .pointer (some ⟨b5, 0, none⟩), .pointer (some ⟨b6, 0, none⟩), jj 7, jj 8, jj 9, jj 10, jj 11, jj 12, jj 13, jj 14, jj 15, jj 16, jj 17, jj 18, jj 19, jj 20, jj 21, jj 22, jj 23, jj 24, jj 25, jj 26, jj 27, jj 28, jj 29, jj 30, jj 31, jj 32, jj 33, jj 34, jj 35, jj 36, jj 37, jj 38, jj 39, jj 40, jj 41, jj 42, jj 43, jj 44, jj 45, jj 46, jj 47, jj 48, jj 49, jj 50, jj 51, jj 52, jj 53, jj 54, jj 55, jj 56, jj 57, jj 58, jj 59, jj 60, jj 61, jj 62, jj 63, jj 64, jj 65, jj 66, jj 67, jj 68, jj 69, jj 70, jj 71, jj 72, jj 73, jj 74, jj 75, jj 76, jj 77, jj 78, jj 79, jj 80, jj 81, jj 82, jj 83, jj 84, jj 85, jj 86, jj 87, jj 88, jj 89, jj 90, jj 91, jj 92, jj 93, jj 94, jj 95, jj 96, jj 97, jj 98, jj 99, jj 100, jj 101, jj 102, jj 103, jj 104, jj 105, jj 106, jj 107, jj 108, jj 109]) ∧ ∃ kv : Int, (∀ a, qVal wo wSkip numI 0 (st6 wo) = some a → kv = a) ∧ Mem [] w0 w (.cell b6 (quC av fv tv vt bk kv (-1) cnt) 51 :: .cell b5 (rdC (.slice Aw wo.length cw) (st7 wo)) 113 :: .row eTs 118 vt tl :: .row eBs 9 (.slice Aw wo.length cw) wo :: .cell b2 (quC 0 [] [] (.slice none 0 0) false 0 0 false) 51 :: [])) rfl (fun hq => ?_) (fun hq => ?_) ?_
  · obtain ⟨hb, hi, e1, e2⟩ := see_t (α := Int) hq
    rw [e1] at hM
    repeat (first | refine gs ?_ | (refine ks ?_; intro w hM))
    have hW := hM.rowRd1 (en := eBs) (v := .slice Aw wo.length cw) (xs := wo) (b := b5) (by omega)
    refine ca (rnum34_any b5 _ wo ((st6 wo).1 + 1, false) _ (hM.blk (b := b5) (by (repeat constructor))) hW (by show _ + 1 ≤ _; omega) (by omega) hwx) ?_
    rintro _ w2 ⟨⟨x, rfl, hx⟩, hc, hB5⟩
    have hM := hM.cellSet hB5 hc
    rw [← (e2 numI 0).1] at hM
    rw [← (e2 numI 0).2] at hx
    repeat (first | refine gs ?_ | (refine ks ?_; intro w hM))
    exact outJ ⟨exj rfl, x, hx, hM.sub (by (repeat (first | exact Go.Proofs.E.Sub.refl _ | exact Go.Proofs.E.Sub.nil | (apply Go.Proofs.E.Sub.cons; (repeat (first | exact Go.Proofs.E.Pick.here | apply Go.Proofs.E.Pick.there))) | apply Go.Proofs.E.Sub.tail)))⟩
  · obtain ⟨e1, e2⟩ := see_f (α := Int) hq
    rw [e1, ← (e2 numI 0).1] at hM
    have hx : ∀ a, qVal wo wSkip numI 0 (st6 wo) = some a → 0 = a := fun a ha => by rw [(e2 numI 0).2] at ha; injection ha
    repeat (first | refine gs ?_ | (refine ks ?_; intro w hM))
    exact outJ ⟨exj rfl, 0, hx, hM.sub (by (repeat (first | exact Go.Proofs.E.Sub.refl _ | exact Go.Proofs.E.Sub.nil | (apply Go.Proofs.E.Sub.cons; (repeat (first | exact Go.Proofs.E.Pick.here | apply Go.Proofs.E.Pick.there))) | apply Go.Proofs.E.Sub.tail)))⟩
  clear hM
  rintro l w ⟨⟨jj, rfl⟩, kv, hkv, hM⟩
  repeat (first | refine gs ?_ | (refine ks ?_; intro w hM))
  have hW := hM.rowRd1 (en := eBs) (v := .slice Aw wo.length cw) (xs := wo) (b := b5) (by omega)
  refine ca (ris_any b5 _ wo (st7 wo) wLimit w (hM.blk (b := b5) (by (repeat constructor))) hW (by omega) (by omega)) ?_
  rintro _ w2 ⟨rfl, hc, hB5⟩
  have hM := hM.cellSet hB5 hc
  clear hW hc hB5
  repeat (first | refine gs ?_ | (refine ks ?_; intro w hM))
  refine c_condJ (fun l w => (∃ jj : Nat → Value, l = [.string (bst s), jj 1, .pointer (some ⟨b2, 0, none⟩), jj 3, jj 4, .pointer (some ⟨b5, 0, none⟩), .pointer (some ⟨b6, 0, none⟩), jj 7, jj 8, jj 9, jj 10, jj 11, jj 12, jj 13, jj 14, jj 15, jj 16, jj 17, jj 18, jj 19, jj 20, jj 21, jj 22, jj 23, jj 24, jj 25, jj 26, jj 27, jj 28, jj 29, jj 30, jj 31, jj 32, jj 33, jj 34, jj 35, jj 36, jj 37, jj 38, jj 39, jj 40, jj 41, jj 42, jj 43, jj 44, jj 45, jj 46, jj 47, jj 48, jj 49, jj 50, jj 51, jj 52, jj 53, jj 54, jj 55, jj 56, jj 57, jj 58, jj 59, jj 60, jj 61, jj 62, jj 63, jj 64, jj 65, jj 66, jj 67, jj 68, jj 69, jj 70, jj 71, jj 72, jj 73, jj 74, jj 75, jj 76, jj 77, jj 78, jj 79, jj 80, jj 81, jj 82, jj 83, jj 84, jj 85, jj 86, jj 87, jj 88, jj 89, jj 90, jj 91, jj 92, jj 93, jj 94, jj 95, jj 96, jj 97, jj 98, jj 99, jj 100, jj 101, jj 102, jj 103, jj 104, jj 105, jj 106, jj 107, jj 108, jj 109]) ∧ ∃ lv : Int, (∀ a, qVal wo wLimit numI (-1) (st7 wo) = some a → lv = a) ∧ Mem [] w0 w (.cell b6 (quC av fv tv vt bk kv lv cnt) 51 :: .cell b5 (rdC (.slice Aw wo.length cw) (st8 wo)) 113 :: .row eTs 118 vt tl :: .row eBs 9 (.slice Aw wo.length cw) wo :: .cell b2 (quC 0 [] [] (.slice none 0 0) false 0 0 false) 51 :: [])) rfl (fun hq => ?_) (fun hq => ?_) ?_
  · obtain ⟨hb, hi, e1, e2⟩ := see_t (α := Int) hq
    rw [e1] at hM
    repeat (first | refine gs ?_ | (refine ks ?_; intro w hM))
    have hW := hM.rowRd1 (en := eBs) (v := .slice Aw wo.length cw) (xs := wo) (b := b5) (by omega)
    refine ca (rnum34_any b5 _ wo ((st7 wo).1 + 1, false) _ (hM.blk (b := b5) (by (repeat constructor))) hW (by show _ + 1 ≤ _; omega) (by omega) hwx) ?_
    rintro _ w2 ⟨⟨x, rfl, hx⟩, hc, hB5⟩
    have hM := hM.cellSet hB5 hc
    rw [← (e2 numI (-1)).1] at hM
    rw [← (e2 numI (-1)).2] at hx
    repeat (first | refine gs ?_ | (refine ks ?_; intro w hM))
    exact outJ ⟨exj rfl, x, hx, hM.sub (by (repeat (first | exact Go.Proofs.E.Sub.refl _ | exact Go.Proofs.E.Sub.nil | (apply Go.Proofs.E.Sub.cons; (repeat (first | exact Go.Proofs.E.Pick.here | apply Go.Proofs.E.Pick.there))) | apply Go.Proofs.E.Sub.tail)))⟩
  · obtain ⟨e1, e2⟩ := see_f (α := Int) hq
    rw [e1, ← (e2 numI (-1)).1] at hM
    have hx : ∀ a, qVal wo wLimit numI (-1) (st7 wo) = some a → (-1) = a := fun a ha => by rw [(e2 numI (-1)).2] at ha; injection ha
    repeat (first | refine gs ?_ | (refine ks ?_; intro w hM))
    exact outJ ⟨exj rfl, (-1), hx, hM.sub (by (repeat (first | exact Go.Proofs.E.Sub.refl _ | exact Go.Proofs.E.Sub.nil | (apply Go.Proofs.E.Sub.cons; (repeat (first | exact Go.Proofs.E.Pick.here | apply Go.Proofs.E.Pick.there))) | apply Go.Proofs.E.Sub.tail)))⟩
  clear hM
  rintro l w ⟨⟨jj, rfl⟩, lv, hlv, hM⟩
  repeat (first | refine gs ?_ | (refine ks ?_; intro w hM))
  refine kdr hM (by kernel_rfl) (by kernel_rfl) (fun w hM => ?_)
  repeat (first | ((with_reducible apply is_ldg); first | refine kldg hM ?_ | refine kldwg hM ?_) | ((with_reducible apply is_sg); (first | refine ssg ?_ | refine sgu ?_)) | ((with_reducible apply is_gg); first | refine gtg ?_ | refine gfg ?_ | refine gug ?_) | ((with_reducible apply is_eg); refine eg ?_))
  cases hb8 : (st8 wo).2 with
  | true =>
    repeat (first | ((with_reducible apply is_ldg); first | refine kldg hM ?_ | refine kldwg hM ?_) | ((with_reducible apply is_sg); (first | refine ssg ?_ | refine sgu ?_)) | ((with_reducible apply is_gg); first | refine gtg ?_ | refine gfg ?_ | refine gug ?_) | ((with_reducible apply is_eg); refine eg ?_))
    (intro w hc; have hM := hM.call hc)
    repeat (first | refine gs ?_ | (refine ks ?_; intro w hM))
    refine c_condb rfl (fun _ => ?_) (fun h => by cases h)
    repeat (first | refine gs ?_ | (refine ks ?_; intro w hM))
    refine c_ordY ([], []) [b2] (by kernel_rfl) (by kernel_rfl) (by kernel_rfl) (fun w hc hs => ?_)
    have hM := hM.call hc
    have hl5 := Blk.lt (hM.blk (b := b5) (by (repeat constructor)))
    have hn5 := hM.nin (b := b2) (c := b5) (by (repeat constructor)) (by (repeat constructor))
    refine ynp 0 rfl (by kernel_rfl) (by kernel_rfl) (fun _ => r_bldS (vs := []) (quC 0 [] [] (.slice none 0 0) false 0 0 false) (z := quC 0 [] [] (.slice none 0 0) false 0 0 false) (place := (#[(0, 1), (1, 1), (2, 1), (3, 1), (4, 1), (5, 1), (6, 1), (7, 1)][·]?)) (by intro ps; kernel_rfl) rfl (.nil rfl)) rfl ?_
    (first | refine yn 1 rfl ?_ | refine ynt 1 rfl ?_ | refine ynff 1 rfl ?_); (first | refine yn 2 rfl ?_ | refine ynt 2 rfl ?_ | refine ynff 2 rfl ?_); (first | refine yn 3 rfl ?_ | refine ynt 3 rfl ?_ | refine ynff 3 rfl ?_)
    refine ynl 4 rfl (hM.blk (b := b5) (by (repeat constructor))) (by omega) hn5 rfl rfl ?_
    (first | refine yn 5 rfl ?_ | refine ynt 5 rfl ?_ | refine ynff 5 rfl ?_)
    refine yk1 6 hM (by kernel_rfl) rfl (fun w h0 hM => ?_)
    refine kstH (b := b2) (vs := quC 0 [] [] (.slice none 0 0) false 0 0 false) hM (fun w hc hM => ?_) rfl rfl (h1 := by simp [Value.oneCell'])
    refine x_wy (.inl (hc.bwn h0 (.inr (by simp)))) rfl ?_
    (first | refine yn 7 rfl ?_ | refine ynt 7 rfl ?_ | refine ynff 7 rfl ?_); (first | refine yn 8 rfl ?_ | refine ynt 8 rfl ?_ | refine ynff 8 rfl ?_)
    refine wy_done (by kernel_rfl) (fun w hc => ?_)
    have hM := hM.call hc
    repeat (first | refine gs ?_ | (refine ks ?_; intro w hM))
    rw [if_pos (by first | exact .inl hb8 | exact .inr hlt)] at hpq
    refine koc12 hM rfl ⟨.slice none 0 0, ?_, ?_⟩
    · rw [hpq]; rfl
    · rw [hpq]
      exact hM.nil.nilRow _ _
  | false =>
  repeat (first | ((with_reducible apply is_ldg); first | refine kldg hM ?_ | refine kldwg hM ?_) | ((with_reducible apply is_sg); (first | refine ssg ?_ | refine sgu ?_)) | ((with_reducible apply is_gg); first | refine gtg ?_ | refine gfg ?_ | refine gug ?_) | ((with_reducible apply is_eg); refine eg ?_))
  by_cases hlt : (st8 wo).1 < wo.length
  · rw [decide_eq_true (by omega : _)]
    repeat (first | ((with_reducible apply is_ldg); first | refine kldg hM ?_ | refine kldwg hM ?_) | ((with_reducible apply is_sg); (first | refine ssg ?_ | refine sgu ?_)) | ((with_reducible apply is_gg); first | refine gtg ?_ | refine gfg ?_ | refine gug ?_) | ((with_reducible apply is_eg); refine eg ?_))
    (intro w hc; have hM := hM.call hc)
    repeat (first | refine gs ?_ | (refine ks ?_; intro w hM))
    refine c_condb rfl (fun _ => ?_) (fun h => by cases h)
    repeat (first | refine gs ?_ | (refine ks ?_; intro w hM))
    refine c_ordY ([], []) [b2] (by kernel_rfl) (by kernel_rfl) (by kernel_rfl) (fun w hc hs => ?_)
    have hM := hM.call hc
    have hl5 := Blk.lt (hM.blk (b := b5) (by (repeat constructor)))
    have hn5 := hM.nin (b := b2) (c := b5) (by (repeat constructor)) (by (repeat constructor))
    refine ynp 0 rfl (by kernel_rfl) (by kernel_rfl) (fun _ => r_bldS (vs := []) (quC 0 [] [] (.slice none 0 0) false 0 0 false) (z := quC 0 [] [] (.slice none 0 0) false 0 0 false) (place := (#[(0, 1), (1, 1), (2, 1), (3, 1), (4, 1), (5, 1), (6, 1), (7, 1)][·]?)) (by intro ps; kernel_rfl) rfl (.nil rfl)) rfl ?_
    (first | refine yn 1 rfl ?_ | refine ynt 1 rfl ?_ | refine ynff 1 rfl ?_); (first | refine yn 2 rfl ?_ | refine ynt 2 rfl ?_ | refine ynff 2 rfl ?_); (first | refine yn 3 rfl ?_ | refine ynt 3 rfl ?_ | refine ynff 3 rfl ?_)
    refine ynl 4 rfl (hM.blk (b := b5) (by (repeat constructor))) (by omega) hn5 rfl rfl ?_
    (first | refine yn 5 rfl ?_ | refine ynt 5 rfl ?_ | refine ynff 5 rfl ?_)
    refine yk1 6 hM (by kernel_rfl) rfl (fun w h0 hM => ?_)
    refine kstH (b := b2) (vs := quC 0 [] [] (.slice none 0 0) false 0 0 false) hM (fun w hc hM => ?_) rfl rfl (h1 := by simp [Value.oneCell'])
    refine x_wy (.inl (hc.bwn h0 (.inr (by simp)))) rfl ?_
    (first | refine yn 7 rfl ?_ | refine ynt 7 rfl ?_ | refine ynff 7 rfl ?_); (first | refine yn 8 rfl ?_ | refine ynt 8 rfl ?_ | refine ynff 8 rfl ?_)
    refine wy_done (by kernel_rfl) (fun w hc => ?_)
    have hM := hM.call hc
    repeat (first | refine gs ?_ | (refine ks ?_; intro w hM))
    rw [if_pos (by first | exact .inl hb8 | exact .inr hlt)] at hpq
    refine koc12 hM rfl ⟨.slice none 0 0, ?_, ?_⟩
    · rw [hpq]; rfl
    · rw [hpq]
      exact hM.nil.nilRow _ _
  rw [decide_eq_false (by omega)]
  repeat (first | ((with_reducible apply is_ldg); first | refine kldg hM ?_ | refine kldwg hM ?_) | ((with_reducible apply is_sg); (first | refine ssg ?_ | refine sgu ?_)) | ((with_reducible apply is_gg); first | refine gtg ?_ | refine gfg ?_ | refine gug ?_) | ((with_reducible apply is_eg); refine eg ?_))
  (intro w hc; have hM := hM.call hc)
  repeat (first | refine gs ?_ | (refine ks ?_; intro w hM))
  refine c_condb rfl (fun h => by cases h) (fun _ => ?_)
  repeat (first | refine gs ?_ | (refine ks ?_; intro w hM))
  rw [if_neg (by rw [hb8]; simp; omega)] at hpq
  obtain ⟨At9, ct9, rfl, _⟩ := Own.form (hM.row (v := vt) (by (repeat constructor)))
  repeat (first | refine gs ?_ | (refine ks ?_; intro w hM))
  obtain ⟨⟨x1, y1⟩, ⟨x2, y2⟩, ⟨x3, y3⟩, y4, ⟨x5, y5⟩, ⟨x6, y6⟩⟩ := all_vals hb8
  have hq : qAll wo = ⟨av, fv, tv, tl, bk, kv, lv, cnt⟩ := by
    unfold qAll
    rw [h5e] at y4
    rw [y1, y2, y3, y5, y6, hTS, h5e, hbk, hcnt, hav x1 y1, hfv x2 y2, htv x3 y3, hkv x5 y5, hlv x6 y6, htl2 y4]
    rfl
  refine koc12 hM rfl ⟨.slice At9 tl.length ct9, ?_, ?_⟩
  · rw [hpq, hq]; rfl
  · rw [hpq, hq]
    exact hM.sub (by (repeat (first | exact Go.Proofs.E.Sub.refl _ | exact Go.Proofs.E.Sub.nil | (apply Go.Proofs.E.Sub.cons; (repeat (first | exact Go.Proofs.E.Pick.here | apply Go.Proofs.E.Pick.there))) | apply Go.Proofs.E.Sub.tail)))
end Go.Proofs.YtoimhmphhffelaaGreatDoor

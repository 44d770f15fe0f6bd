/- Walk: the law RecordOwn. -/
import Derived.Test.YtnkkeehoejmcnaaRec9
set_option linter.unusedVariables false
set_option linter.unusedSimpArgs false
namespace Go.Proofs.E
open Go Go.RowKit
theorem Pick.of_mem {a : As} : ∀ {L : List As}, a ∈ L → ∃ L', Pick L a L'
  | b :: L, h => by
    rcases List.mem_cons.1 h with rfl | h
    · exact ⟨L, .here⟩
    · obtain ⟨L', h'⟩ := Pick.of_mem h
      exact ⟨b :: L', .there h'⟩
theorem set_split {α : Type} {l : List α} {i : Nat} {x y : α} (h : l[i]? = some x) : l.set i y = l.take i ++ y :: l.drop (i + 1) := by
  rw [List.set_eq_take_append_cons_drop, if_pos (List.getElem?_eq_some_iff.1 h).1]
theorem at_split {α : Type} {l : List α} {i : Nat} {x : α} (h : l[i]? = some x) : l = l.take i ++ x :: l.drop (i + 1) := by
  obtain ⟨hlt, he⟩ := List.getElem?_eq_some_iff.1 h
  rw [← he, ← List.drop_eq_getElem_cons hlt, List.take_append_drop]
theorem drop_same {α : Type} {l l' : List α} {i : Nat} (h : l.drop i = l'.drop i) : l[i]? = l'[i]? := by
  have := congrArg (·[0]?) h
  simpa using this
theorem drop_set {α : Type} {l l' : List α} {i : Nat} {y : α} (h : l.drop i = l'.drop i) : (l.set i y).drop (i + 1) = l'.drop (i + 1) := by
  rw [List.drop_set_of_lt (by omega)]
  have := congrArg (List.drop 1) h
  rwa [List.drop_drop, List.drop_drop] at this
end Go.Proofs.E
namespace Go.Proofs.Ytnkkeehoejmcnaa
open Go Go.RowKit Go.Proofs.E
attribute [local irreducible] Go.wpList Go.Code.wp Go.Proofs.E.exec Go.Proofs.E.wpLexG
theorem rows_recM {O : List Nat} {w0 w : World} {vr vw : Value} {us : List (RR × List Pr)} {wz : List Pr} (h : Mem O w0 w (rows16 vr vw us wz)) : RecM w vr vw us wz := by
  refine ⟨h.rowRdO (en := eRr) .here, fun u hu => ?_, h.rowRdO (en := ePr) (.there .here)⟩
  obtain ⟨L', hp⟩ := Pick.of_mem (a := prow u) (L := rows16 vr vw us wz) (List.mem_cons_of_mem _ (List.mem_cons_of_mem _ (List.mem_map_of_mem hu)))
  exact h.rowRdO (en := ePr) hp
theorem rows_plain {vr vw : Value} {us : List (RR × List Pr)} {wz : List Pr} : ∀ a ∈ rows16 vr vw us wz, a.plain := by
  intro a ha
  rcases List.mem_cons.1 ha with rfl | ha
  · trivial
  rcases List.mem_cons.1 ha with rfl | ha
  · trivial
  obtain ⟨u, _, rfl⟩ := List.mem_map.1 ha
  trivial
theorem light_dat {us vs : List (RR × List Pr)} {wz : List Pr} (h : vs.map dat = us.map dat) (hl : LightR us wz) : LightR vs wz := by
  obtain ⟨h1, h2, h3, h4⟩ := hl
  have hn : vs.length = us.length := by simpa using congrArg List.length h
  refine ⟨by omega, h2, fun v hv => ?_, h4⟩
  have : dat v ∈ us.map dat := by rw [← h]; exact List.mem_map_of_mem hv
  obtain ⟨u, hu, he⟩ := List.mem_map.1 this
  obtain ⟨e1, e2, e3, e4⟩ := dat_iff.1 he
  rw [← e2, ← e3, ← e4]
  exact h3 u hu
set_option maxHeartbeats 16000000 in
theorem recordOwn_any (ses snap : Int) (strict : Bool) (vr vw : Value) (us : List (RR × List Pr)) (wz : List Pr) (w0 : World) (hA : RecM w0 vr vw us wz) (hk : ShortR us) (hb : ShortL wz) :
    Calls Try.prog 3 #[.agg (rC ses snap strict vr vw).toArray] w0 (Ret fun u w' => u = .bool true ∧ Ch [] w0 w') := by
  have hM := Mem.start w0
  obtain ⟨A, c, rfl⟩ := hA.r.form
  obtain ⟨A2, c2, rfl⟩ := hA.w.form
  simp only [List.length_map] at hA ⊢
  refine enter [.agg (rC ses snap strict (.slice A us.length c) (.slice A2 wz.length c2)).toArray, undef, undef, undef, undef, undef, undef, undef, undef, undef, undef, undef, undef, undef, undef, undef, undef, undef, undef, undef, undef, undef, undef, undef, undef, undef, undef, undef, undef, undef, undef, undef, undef, undef, undef, undef, undef, undef, undef, undef, undef, undef, undef, undef, undef, undef, undef, undef, undef, undef, undef, undef, undef, undef, undef, undef, undef, undef, undef, undef, undef, undef, undef, undef, undef, undef, undef, undef, undef, undef, undef, undef, undef, undef, undef, undef, undef, undef, undef, undef, undef] Try.func3 rfl rfl ?_
  repeat (first | ((with_reducible apply is_ld); first | refine kld hM ?_ | refine kldw hM ?_ | refine kle hM ?_ | refine klew hM ?_) | ((with_reducible apply is_sto); first | (refine kst hM ?_; intro w hM) | (refine kstw hM ?_; intro w hM)) | ((with_reducible apply is_st); refine su ?_) | ((with_reducible apply is_gd); first | refine gt ?_ | refine gf ?_ | refine gu ?_) | ((with_reducible apply is_en); refine en ?_) | (with_reducible apply c_region) | refine ws ?_ | refine x_block_other (by decide) ?_)
  refine kbx hM (fun w b1 hM => ?_)
  have hM : Mem [] w0 w [.cell b1 (rC ses snap strict (.slice A us.length c) (.slice A2 wz.length c2)) 25] := hM
  repeat (first | ((with_reducible apply is_ld); first | refine kld hM ?_ | refine kldw hM ?_ | refine kle hM ?_ | refine klew hM ?_) | ((with_reducible apply is_sto); first | (refine kst hM ?_; intro w hM) | (refine kstw hM ?_; intro w hM)) | ((with_reducible apply is_st); refine su ?_) | ((with_reducible apply is_gd); first | refine gt ?_ | refine gf ?_ | refine gu ?_) | ((with_reducible apply is_en); refine en ?_) | (with_reducible apply c_region) | refine ws ?_ | refine x_block_other (by decide) ?_)
  refine ca (light_any ses snap strict _ _ us wz w (hA.ch hM.ch) hk hb) ?_
  rintro _ w1 ⟨⟨l1, rfl, hl1⟩, hc⟩
  have hM := hM.call hc
  cases l1 with
  | false =>
    repeat (first | ((with_reducible apply is_ld); first | refine kld hM ?_ | refine kldw hM ?_ | refine kle hM ?_ | refine klew hM ?_) | ((with_reducible apply is_sto); first | (refine kst hM ?_; intro w hM) | (refine kstw hM ?_; intro w hM)) | ((with_reducible apply is_st); refine su ?_) | ((with_reducible apply is_gd); first | refine gt ?_ | refine gf ?_ | refine gu ?_) | ((with_reducible apply is_en); refine en ?_) | (with_reducible apply c_region) | refine ws ?_ | refine x_block_other (by decide) ?_)
    refine c_condb rfl (fun _ => ?_) (fun h => by cases h)
    repeat (first | ((with_reducible apply is_ld); first | refine kld hM ?_ | refine kldw hM ?_ | refine kle hM ?_ | refine klew hM ?_) | ((with_reducible apply is_sto); first | (refine kst hM ?_; intro w hM) | (refine kstw hM ?_; intro w hM)) | ((with_reducible apply is_st); refine su ?_) | ((with_reducible apply is_gd); first | refine gt ?_ | refine gf ?_ | refine gu ?_) | ((with_reducible apply is_en); refine en ?_) | (with_reducible apply c_region) | refine ws ?_ | refine x_block_other (by decide) ?_)
    refine kca hM (lives_any _) (fun w hM => ?_)
    repeat (first | ((with_reducible apply is_ld); first | refine kld hM ?_ | refine kldw hM ?_ | refine kle hM ?_ | refine klew hM ?_) | ((with_reducible apply is_sto); first | (refine kst hM ?_; intro w hM) | (refine kstw hM ?_; intro w hM)) | ((with_reducible apply is_st); refine su ?_) | ((with_reducible apply is_gd); first | refine gt ?_ | refine gf ?_ | refine gu ?_) | ((with_reducible apply is_en); refine en ?_) | (with_reducible apply c_region) | refine ws ?_ | refine x_block_other (by decide) ?_)
    exact out1 rfl ⟨rfl, hM.ch⟩
  | true =>
  have hL := hl1 rfl
  repeat (first | ((with_reducible apply is_ld); first | refine kld hM ?_ | refine kldw hM ?_ | refine kle hM ?_ | refine klew hM ?_) | ((with_reducible apply is_sto); first | (refine kst hM ?_; intro w hM) | (refine kstw hM ?_; intro w hM)) | ((with_reducible apply is_st); refine su ?_) | ((with_reducible apply is_gd); first | refine gt ?_ | refine gf ?_ | refine gu ?_) | ((with_reducible apply is_en); refine en ?_) | (with_reducible apply c_region) | refine ws ?_ | refine x_block_other (by decide) ?_)
  refine c_condb rfl (fun h => by cases h) (fun _ => ?_)
  repeat (first | ((with_reducible apply is_ld); first | refine kld hM ?_ | refine kldw hM ?_ | refine kle hM ?_ | refine klew hM ?_) | ((with_reducible apply is_sto); first | (refine kst hM ?_; intro w hM) | (refine kstw hM ?_; intro w hM)) | ((with_reducible apply is_st); refine su ?_) | ((with_reducible apply is_gd); first | refine gt ?_ | refine gf ?_ | refine gu ?_) | ((with_reducible apply is_en); refine en ?_) | (with_reducible apply c_region) | refine ws ?_ | refine x_block_other (by decide) ?_)
  refine ca (copy_any ses snap strict _ _ us wz _ (hA.ch hM.ch) hL) ?_
  rintro _ w2 ⟨vr1, vw1, us1, rfl, hd1, hM1⟩
  have hM := hM.call hM1.ch
  have hC := rows_recM hM1
  obtain ⟨A3, c3, rfl⟩ := hC.r.form
  obtain ⟨A4, c4, rfl⟩ := hC.w.form
  simp only [List.length_map] at hC ⊢
  clear hM1
  have hN0 := hM.ch
  have hB1 := hM.blk (b := b1) (by (repeat constructor))
  have hA2 := hA.ch hN0
  clear hM
  have hM := Mem.start w2
  repeat (first | ((with_reducible apply is_ld); first | refine kld hM ?_ | refine kldw hM ?_ | refine kle hM ?_ | refine klew hM ?_) | ((with_reducible apply is_sto); first | (refine kst hM ?_; intro w hM) | (refine kstw hM ?_; intro w hM)) | ((with_reducible apply is_st); refine su ?_) | ((with_reducible apply is_gd); first | refine gt ?_ | refine gf ?_ | refine gu ?_) | ((with_reducible apply is_en); refine en ?_) | (with_reducible apply c_region) | refine ws ?_ | refine x_block_other (by decide) ?_)
  refine kal hM (fun w b3 hM => ?_)
  repeat (first | ((with_reducible apply is_ld); first | refine kld hM ?_ | refine kldw hM ?_ | refine kle hM ?_ | refine klew hM ?_) | ((with_reducible apply is_sto); first | (refine kst hM ?_; intro w hM) | (refine kstw hM ?_; intro w hM)) | ((with_reducible apply is_st); refine su ?_) | ((with_reducible apply is_gd); first | refine gt ?_ | refine gf ?_ | refine gu ?_) | ((with_reducible apply is_en); refine en ?_) | (with_reducible apply c_region) | refine ws ?_ | refine x_block_other (by decide) ?_)
  have hM : Mem [] w2 w [.cell b3 (rC ses snap strict (.slice A3 us1.length c3) (.slice A4 wz.length c4)) 25] := hM
  refine ca (copy_any ses snap strict _ _ us1 wz _ (hC.ch hM.ch) (light_dat hd1 hL)) ?_
  rintro _ w3 ⟨vr2, vw2, ds, rfl, hd2, hM2⟩
  have hdl := light_dat hd2 (light_dat hd1 hL)
  have hM := hM.join hM2 rows_plain
  obtain ⟨A5, c5, rfl⟩ := (rows_recM hM2).r.form
  obtain ⟨A6, c6, rfl⟩ := (rows_recM hM2).w.form
  simp only [List.length_map] at hM ⊢
  clear hM2
  repeat (first | ((with_reducible apply is_ld); first | refine kld hM ?_ | refine kldw hM ?_ | refine kle hM ?_ | refine klew hM ?_) | ((with_reducible apply is_sto); first | (refine kst hM ?_; intro w hM) | (refine kstw hM ?_; intro w hM)) | ((with_reducible apply is_st); refine su ?_) | ((with_reducible apply is_gd); first | refine gt ?_ | refine gf ?_ | refine gu ?_) | ((with_reducible apply is_en); refine en ?_) | (with_reducible apply c_region) | refine ws ?_ | refine x_block_other (by decide) ?_)
  refine kal hM (fun w b4 hM => ?_)
  repeat (first | ((with_reducible apply is_ld); first | refine kld hM ?_ | refine kldw hM ?_ | refine kle hM ?_ | refine klew hM ?_) | ((with_reducible apply is_sto); first | (refine kst hM ?_; intro w hM) | (refine kstw hM ?_; intro w hM)) | ((with_reducible apply is_st); refine su ?_) | ((with_reducible apply is_gd); first | refine gt ?_ | refine gf ?_ | refine gu ?_) | ((with_reducible apply is_en); refine en ?_) | (with_reducible apply c_region) | refine ws ?_ | refine x_block_other (by decide) ?_)
  have hd100 := hdl.1
  have hw100 := hdl.2.1
  have hlw := hdl.2.2.2
  have hM0 : Mem [] w2 w (.cell b4 (rC ses snap strict (.slice A5 ds.length c5) (.slice A6 wz.length c6)) 25 :: .cell b3 (rC ses snap strict (.slice A3 us1.length c3) (.slice A4 wz.length c4)) 25 :: .row eRr 30 (.slice A5 ds.length c5) (ds.map (fun u : RR × List Pr => u.1)) :: .row ePr 32 (.slice A6 wz.length c6) wz :: ds.map prow) := by
    refine hM.perm ?_
    classical exact List.perm_iff_count.2 (fun x => by simp only [rows16, List.cons_append, List.count_cons, List.count_append, List.count_nil]; omega)
  clear hM
  
  refine c_loop (fun n l w => ∃ (i : Nat) (es : List (RR × List Pr)), (∃ jj : Nat → Value, l = [jj 0, .pointer (some ⟨b1, 0, none⟩), .bool false, .pointer (some ⟨b3, 0, none⟩), .pointer (some ⟨b4, 0, none⟩), jj 5, jj 6, jj 7, jj 8, jj 9, jj 10, jj 11, jj 12, jj 13, jj 14, jj 15, jj 16, jj 17, .int .i64 (ds.length : Int), .int .i64 (i : Int), jj 20, jj 21, jj 22, jj 23, jj 24, jj 25, jj 26, jj 27, jj 28, jj 29, jj 30, jj 31, jj 32, jj 33, jj 34, jj 35, jj 36, jj 37, jj 38, jj 39, jj 40, jj 41, jj 42, jj 43, jj 44, jj 45, jj 46, jj 47, jj 48, jj 49, jj 50, jj 51, jj 52, jj 53, jj 54, jj 55, jj 56, jj 57, jj 58, jj 59, jj 60, jj 61, jj 62, jj 63, jj 64, jj 65, jj 66, jj 67, jj 68, jj 69, jj 70, jj 71, jj 72, jj 73, jj 74, jj 75, jj 76, jj 77, jj 78, jj 79, jj 80]) ∧ n + i = ds.length ∧ es.length = ds.length ∧ es.drop i = ds.drop i ∧ Mem [] w2 w (.cell b4 (rC ses snap strict (.slice A5 ds.length c5) (.slice A6 wz.length c6)) 25 :: .cell b3 (rC ses snap strict (.slice A3 us1.length c3) (.slice A4 wz.length c4)) 25 :: .row eRr 30 (.slice A5 ds.length c5) (es.map (fun u : RR × List Pr => u.1)) :: .row ePr 32 (.slice A6 wz.length c6) wz :: es.map prow)) ds.length
    ⟨0, ds, exj rfl, rfl, rfl, rfl, hM0⟩ ?_
  clear hM0
  rintro n l w ⟨i, es, ⟨jj, rfl⟩, hni, hel, hdr, hM⟩
  repeat (first | ((with_reducible apply is_ld); first | refine kld hM ?_ | refine kldw hM ?_ | refine kle hM ?_ | refine klew hM ?_) | ((with_reducible apply is_sto); first | (refine kst hM ?_; intro w hM) | (refine kstw hM ?_; intro w hM)) | ((with_reducible apply is_st); refine su ?_) | ((with_reducible apply is_gd); first | refine gt ?_ | refine gf ?_ | refine gu ?_) | ((with_reducible apply is_en); refine en ?_) | (with_reducible apply c_region) | refine ws ?_ | refine x_block_other (by decide) ?_)
  refine c_cond rfl (fun hi => ?_) (fun hi => ?_)
  · obtain ⟨u, hu⟩ : ∃ u, ds[i]? = some u := ⟨_, List.getElem?_eq_getElem (by omega)⟩
    have heu : es[i]? = some u := (drop_same hdr).trans hu
    have hsu := hdl.2.2.1 u (List.mem_of_getElem? hu)
    obtain ⟨⟨sc, key, to, A7, n7, c7⟩, ps⟩ := u
    simp only at hsu
    have hM1 : Mem [] w2 w (.cell b4 (rC ses snap strict (.slice A5 ds.length c5) (.slice A6 wz.length c6)) 25 :: .cell b3 (rC ses snap strict (.slice A3 us1.length c3) (.slice A4 wz.length c4)) 25 :: .row eRr 30 (.slice A5 ds.length c5) (es.map (fun u : RR × List Pr => u.1)) :: .row ePr 32 (.slice A6 wz.length c6) wz :: .row ePr 32 (slv (A7, n7, c7)) ps :: ((es.take i).map prow ++ (es.drop (i + 1)).map prow)) := by
      refine hM.perm ?_
      have h := congrArg (List.map prow) (at_split heu)
      rw [List.map_append, List.map_cons] at h
      refine List.Perm.cons _ (List.Perm.cons _ (List.Perm.cons _ (List.Perm.cons _ ?_)))
      rw [h]
      exact List.perm_middle
    clear hM
    have hM := hM1
    clear hM1
    have hn7 : n7 = ps.length := by
      obtain ⟨_, _, h, _⟩ := Own.form (hM.row (v := slv (A7, n7, c7)) (xs := ps) (by (repeat constructor)))
      unfold slv at h
      injection h
    subst hn7
    have hMv : Mem [] w2 w (.cell b4 (rC ses snap strict (.slice A5 ds.length c5) (.slice A6 wz.length c6)) 25 :: .cell b3 (rC ses snap strict (.slice A3 us1.length c3) (.slice A4 wz.length c4)) 25 :: .row eRr 30 (.slice A5 ds.length c5) (es.map (fun u : RR × List Pr => u.1)) :: .row ePr 32 (.slice A6 wz.length c6) wz :: .row ePr 32 (.slice A7 ps.length c7) ps :: ((es.take i).map prow ++ (es.drop (i + 1)).map prow)) := hM
    clear hM
    have hM := hMv
    clear hMv
    generalize hrest : (es.take i).map prow ++ (es.drop (i + 1)).map prow = rest at hM
    have hge : (es.map (fun u : RR × List Pr => u.1))[i]? = some (sc, key, to, (A7, ps.length, c7)) := by
      rw [List.getElem?_map, heu]
      rfl
    have hgl : (es.map (fun u : RR × List Pr => u.1)).length = ds.length := by rw [List.length_map, hel]
    obtain ⟨g5, c5', he⟩ := Own.get (hM.row (v := .slice A5 ds.length c5) (xs := es.map (fun u : RR × List Pr => u.1)) (by (repeat constructor))) (by intro h; rw [h] at hge; simp at hge)
    obtain ⟨hg5, _⟩ : A5 = some ⟨g5, 0, none⟩ ∧ c5 = c5' := by injection he with e1 e2 e3; exact ⟨e1, e3⟩
    repeat (first | ((with_reducible apply is_ld); first | refine kld hM ?_ | refine kldw hM ?_ | refine kle hM ?_ | refine klew hM ?_) | ((with_reducible apply is_sto); first | (refine kst hM ?_; intro w hM) | (refine kstw hM ?_; intro w hM)) | ((with_reducible apply is_st); refine su ?_) | ((with_reducible apply is_gd); first | refine gt ?_ | refine gf ?_ | refine gu ?_) | ((with_reducible apply is_en); refine en ?_) | (with_reducible apply c_region) | refine ws ?_ | refine x_block_other (by decide) ?_)
    refine ix (hM.rowRdO (en := eRr) (v := .slice A5 ds.length c5) (xs := es.map (fun u : RR × List Pr => u.1)) (by (repeat constructor))) (fun b o x hx hA => ?_) (h1 := by rw [hgl]; omega)
    rw [Int.toNat_natCast, hge] at hx
    injection hx with hx
    subst hx
    repeat (first | ((with_reducible apply is_ld); first | refine kld hM ?_ | refine kldw hM ?_ | refine kle hM ?_ | refine klew hM ?_) | ((with_reducible apply is_sto); first | (refine kst hM ?_; intro w hM) | (refine kstw hM ?_; intro w hM)) | ((with_reducible apply is_st); refine su ?_) | ((with_reducible apply is_gd); first | refine gt ?_ | refine gf ?_ | refine gu ?_) | ((with_reducible apply is_en); refine en ?_) | (with_reducible apply c_region) | refine ws ?_ | refine x_block_other (by decide) ?_)
    refine ld (hA.part (e2 := eSl) (y := (A7, ps.length, c7)) 3 rfl) ?_
    repeat (first | ((with_reducible apply is_ld); first | refine kld hM ?_ | refine kldw hM ?_ | refine kle hM ?_ | refine klew hM ?_) | ((with_reducible apply is_sto); first | (refine kst hM ?_; intro w hM) | (refine kstw hM ?_; intro w hM)) | ((with_reducible apply is_st); refine su ?_) | ((with_reducible apply is_gd); first | refine gt ?_ | refine gf ?_ | refine gu ?_) | ((with_reducible apply is_en); refine en ?_) | (with_reducible apply c_region) | refine ws ?_ | refine x_block_other (by decide) ?_)
    
    refine c_loop (fun n l w => ∃ (k : Nat) (qs : List Pr), (∃ jj : Nat → Value, l = [jj 0, .pointer (some ⟨b1, 0, none⟩), .bool false, .pointer (some ⟨b3, 0, none⟩), .pointer (some ⟨b4, 0, none⟩), .int .i64 (i : Int), jj 6, jj 7, jj 8, jj 9, jj 10, jj 11, jj 12, jj 13, jj 14, jj 15, jj 16, jj 17, .int .i64 (ds.length : Int), .int .i64 (i : Int), jj 20, jj 21, jj 22, jj 23, jj 24, jj 25, jj 26, jj 27, .int .i64 (ps.length : Int), .int .i64 (k : Int), jj 30, jj 31, jj 32, jj 33, jj 34, jj 35, jj 36, jj 37, jj 38, jj 39, jj 40, jj 41, jj 42, jj 43, jj 44, jj 45, jj 46, jj 47, jj 48, jj 49, jj 50, jj 51, jj 52, jj 53, jj 54, jj 55, jj 56, jj 57, jj 58, jj 59, jj 60, jj 61, jj 62, jj 63, jj 64, jj 65, jj 66, jj 67, jj 68, jj 69, jj 70, jj 71, jj 72, jj 73, jj 74, jj 75, jj 76, jj 77, jj 78, jj 79, jj 80]) ∧ n + k = ps.length ∧ qs.length = ps.length ∧ qs.drop k = ps.drop k ∧ Mem [] w2 w (.cell b4 (rC ses snap strict (.slice A5 ds.length c5) (.slice A6 wz.length c6)) 25 :: .cell b3 (rC ses snap strict (.slice A3 us1.length c3) (.slice A4 wz.length c4)) 25 :: .row eRr 30 (.slice A5 ds.length c5) (es.map (fun u : RR × List Pr => u.1)) :: .row ePr 32 (.slice A6 wz.length c6) wz :: .row ePr 32 (.slice A7 ps.length c7) qs :: rest)) ps.length
      ⟨0, ps, exj rfl, rfl, rfl, rfl, hM⟩ ?_
    clear hM
    rintro n3 l w ⟨k, qs, ⟨jj, rfl⟩, hnk, hql, hdq, hM⟩
    repeat (first | ((with_reducible apply is_ld); first | refine kld hM ?_ | refine kldw hM ?_ | refine kle hM ?_ | refine klew hM ?_) | ((with_reducible apply is_sto); first | (refine kst hM ?_; intro w hM) | (refine kstw hM ?_; intro w hM)) | ((with_reducible apply is_st); refine su ?_) | ((with_reducible apply is_gd); first | refine gt ?_ | refine gf ?_ | refine gu ?_) | ((with_reducible apply is_en); refine en ?_) | (with_reducible apply c_region) | refine ws ?_ | refine x_block_other (by decide) ?_)
    refine c_cond rfl (fun hk2 => ?_) (fun hk2 => ?_)
    · obtain ⟨p, hp⟩ : ∃ p, ps[k]? = some p := ⟨_, List.getElem?_eq_getElem (by omega)⟩
      have hqp : qs[k]? = some p := (drop_same hdq).trans hp
      have hsp := hsu.2.2.2 p (List.mem_of_getElem? hp)
      obtain ⟨pa, pb, pd⟩ := p
      unfold LightP at hsp
      simp only at hsp
      obtain ⟨g7, c7', he7⟩ := Own.get (hM.row (v := .slice A7 ps.length c7) (xs := qs) (by (repeat constructor))) (by intro h; rw [h] at hqp; simp at hqp)
      obtain ⟨hg7, _⟩ : A7 = some ⟨g7, 0, none⟩ ∧ c7 = c7' := by injection he7 with e1 e2 e3; exact ⟨e1, e3⟩
      subst hg7
      repeat (first | ((with_reducible apply is_ld); first | refine kld hM ?_ | refine kldw hM ?_ | refine kle hM ?_ | refine klew hM ?_) | ((with_reducible apply is_sto); first | (refine kst hM ?_; intro w hM) | (refine kstw hM ?_; intro w hM)) | ((with_reducible apply is_st); refine su ?_) | ((with_reducible apply is_gd); first | refine gt ?_ | refine gf ?_ | refine gu ?_) | ((with_reducible apply is_en); refine en ?_) | (with_reducible apply c_region) | refine ws ?_ | refine x_block_other (by decide) ?_)
      refine ix (hM.rowRdO (en := eRr) (v := .slice A5 ds.length c5) (xs := es.map (fun u : RR × List Pr => u.1)) (by (repeat constructor))) (fun b o x hx hA => ?_) (h1 := by rw [hgl]; omega)
      rw [Int.toNat_natCast, hge] at hx
      injection hx with hx
      subst hx
      repeat (first | ((with_reducible apply is_ld); first | refine kld hM ?_ | refine kldw hM ?_ | refine kle hM ?_ | refine klew hM ?_) | ((with_reducible apply is_sto); first | (refine kst hM ?_; intro w hM) | (refine kstw hM ?_; intro w hM)) | ((with_reducible apply is_st); refine su ?_) | ((with_reducible apply is_gd); first | refine gt ?_ | refine gf ?_ | refine gu ?_) | ((with_reducible apply is_en); refine en ?_) | (with_reducible apply c_region) | refine ws ?_ | refine x_block_other (by decide) ?_)
      refine ld (hA.part (e2 := eSl) (y := (some ⟨g7, 0, none⟩, ps.length, c7)) 3 rfl) ?_
      repeat (first | ((with_reducible apply is_ld); first | refine kld hM ?_ | refine kldw hM ?_ | refine kle hM ?_ | refine klew hM ?_) | ((with_reducible apply is_sto); first | (refine kst hM ?_; intro w hM) | (refine kstw hM ?_; intro w hM)) | ((with_reducible apply is_st); refine su ?_) | ((with_reducible apply is_gd); first | refine gt ?_ | refine gf ?_ | refine gu ?_) | ((with_reducible apply is_en); refine en ?_) | (with_reducible apply c_region) | refine ws ?_ | refine x_block_other (by decide) ?_)
      refine ix (hM.rowRdO (en := ePr) (v := .slice (some ⟨g7, 0, none⟩) ps.length c7) (xs := qs) (by (repeat constructor))) (fun b2 o2 x hx hA2 => ?_) (h1 := by rw [hql]; omega)
      rw [Int.toNat_natCast, hqp] at hx
      injection hx with hx
      subst hx
      repeat (first | ((with_reducible apply is_ld); first | refine kld hM ?_ | refine kldw hM ?_ | refine kle hM ?_ | refine klew hM ?_) | ((with_reducible apply is_sto); first | (refine kst hM ?_; intro w hM) | (refine kstw hM ?_; intro w hM)) | ((with_reducible apply is_st); refine su ?_) | ((with_reducible apply is_gd); first | refine gt ?_ | refine gf ?_ | refine gu ?_) | ((with_reducible apply is_en); refine en ?_) | (with_reducible apply c_region) | refine ws ?_ | refine x_block_other (by decide) ?_)
      refine ld (hA2.part (e2 := eBst) (y := pb) 1 rfl) ?_
      repeat (first | ((with_reducible apply is_ld); first | refine kld hM ?_ | refine kldw hM ?_ | refine kle hM ?_ | refine klew hM ?_) | ((with_reducible apply is_sto); first | (refine kst hM ?_; intro w hM) | (refine kstw hM ?_; intro w hM)) | ((with_reducible apply is_st); refine su ?_) | ((with_reducible apply is_gd); first | refine gt ?_ | refine gf ?_ | refine gu ?_) | ((with_reducible apply is_en); refine en ?_) | (with_reducible apply c_region) | refine ws ?_ | refine x_block_other (by decide) ?_)
      (try ((with_reducible apply is_gd); first | refine gt ?_ | refine gf ?_ | refine gu ?_)); refine wl_val (r_addS (a := pb) (b := [120]) rfl rfl (by simp; omega)) ?_
      repeat (first | ((with_reducible apply is_ld); first | refine kld hM ?_ | refine kldw hM ?_ | refine kle hM ?_ | refine klew hM ?_) | ((with_reducible apply is_sto); first | (refine kst hM ?_; intro w hM) | (refine kstw hM ?_; intro w hM)) | ((with_reducible apply is_st); refine su ?_) | ((with_reducible apply is_gd); first | refine gt ?_ | refine gf ?_ | refine gu ?_) | ((with_reducible apply is_en); refine en ?_) | (with_reducible apply c_region) | refine ws ?_ | refine x_block_other (by decide) ?_)
      (try ((with_reducible apply is_gd); first | refine gt ?_ | refine gf ?_ | refine gu ?_)); refine wl_val (r_indexAddr rfl rfl (by omega) (by omega)) ?_
      repeat (first | ((with_reducible apply is_ld); first | refine kld hM ?_ | refine kldw hM ?_ | refine kle hM ?_ | refine klew hM ?_) | ((with_reducible apply is_sto); first | (refine kst hM ?_; intro w hM) | (refine kstw hM ?_; intro w hM)) | ((with_reducible apply is_st); refine su ?_) | ((with_reducible apply is_gd); first | refine gt ?_ | refine gf ?_ | refine gu ?_) | ((with_reducible apply is_en); refine en ?_) | (with_reducible apply c_region) | refine ws ?_ | refine x_block_other (by decide) ?_)
      refine krs (en := ePr) (n := 3) (i := k) (k := 1) (xs := qs) (o := 0 + (k : Int).toNat * 3 + 1) (pa, pb ++ [120], pd) hM (fun w hc hM => ?_) hqp rfl (by rw [Int.toNat_natCast]; omega) (by omega)
      repeat (first | ((with_reducible apply is_ld); first | refine kld hM ?_ | refine kldw hM ?_ | refine kle hM ?_ | refine klew hM ?_) | ((with_reducible apply is_sto); first | (refine kst hM ?_; intro w hM) | (refine kstw hM ?_; intro w hM)) | ((with_reducible apply is_st); refine su ?_) | ((with_reducible apply is_gd); first | refine gt ?_ | refine gf ?_ | refine gu ?_) | ((with_reducible apply is_en); refine en ?_) | (with_reducible apply c_region) | refine ws ?_ | refine x_block_other (by decide) ?_)
      refine x_goes (n3 - 1) rfl (by omega) ⟨k + 1, qs.set k (pa, pb ++ [120], pd), exj rfl, by omega, by rw [List.length_set]; exact hql, drop_set hdq, ?_⟩
      refine hM.perm ?_
      classical exact List.perm_iff_count.2 (fun x => by simp only [List.count_cons]; omega)
    · subst hg5
      repeat (first | ((with_reducible apply is_ld); first | refine kld hM ?_ | refine kldw hM ?_ | refine kle hM ?_ | refine klew hM ?_) | ((with_reducible apply is_sto); first | (refine kst hM ?_; intro w hM) | (refine kstw hM ?_; intro w hM)) | ((with_reducible apply is_st); refine su ?_) | ((with_reducible apply is_gd); first | refine gt ?_ | refine gf ?_ | refine gu ?_) | ((with_reducible apply is_en); refine en ?_) | (with_reducible apply c_region) | refine ws ?_ | refine x_block_other (by decide) ?_)
      refine ix (hM.rowRdO (en := eRr) (v := .slice (some ⟨g5, 0, none⟩) ds.length c5) (xs := es.map (fun u : RR × List Pr => u.1)) (by (repeat constructor))) (fun b o x hx hA => ?_) (h1 := by rw [hgl]; omega)
      rw [Int.toNat_natCast, hge] at hx
      injection hx with hx
      subst hx
      repeat (first | ((with_reducible apply is_ld); first | refine kld hM ?_ | refine kldw hM ?_ | refine kle hM ?_ | refine klew hM ?_) | ((with_reducible apply is_sto); first | (refine kst hM ?_; intro w hM) | (refine kstw hM ?_; intro w hM)) | ((with_reducible apply is_st); refine su ?_) | ((with_reducible apply is_gd); first | refine gt ?_ | refine gf ?_ | refine gu ?_) | ((with_reducible apply is_en); refine en ?_) | (with_reducible apply c_region) | refine ws ?_ | refine x_block_other (by decide) ?_)
      refine ld (hA.part (e2 := eBst) (y := key) 1 rfl) ?_
      repeat (first | ((with_reducible apply is_ld); first | refine kld hM ?_ | refine kldw hM ?_ | refine kle hM ?_ | refine klew hM ?_) | ((with_reducible apply is_sto); first | (refine kst hM ?_; intro w hM) | (refine kstw hM ?_; intro w hM)) | ((with_reducible apply is_st); refine su ?_) | ((with_reducible apply is_gd); first | refine gt ?_ | refine gf ?_ | refine gu ?_) | ((with_reducible apply is_en); refine en ?_) | (with_reducible apply c_region) | refine ws ?_ | refine x_block_other (by decide) ?_)
      (try ((with_reducible apply is_gd); first | refine gt ?_ | refine gf ?_ | refine gu ?_)); refine wl_val (r_addS (a := key) (b := [120]) rfl rfl (by simp; omega)) ?_
      repeat (first | ((with_reducible apply is_ld); first | refine kld hM ?_ | refine kldw hM ?_ | refine kle hM ?_ | refine klew hM ?_) | ((with_reducible apply is_sto); first | (refine kst hM ?_; intro w hM) | (refine kstw hM ?_; intro w hM)) | ((with_reducible apply is_st); refine su ?_) | ((with_reducible apply is_gd); first | refine gt ?_ | refine gf ?_ | refine gu ?_) | ((with_reducible apply is_en); refine en ?_) | (with_reducible apply c_region) | refine ws ?_ | refine x_block_other (by decide) ?_)
      (try ((with_reducible apply is_gd); first | refine gt ?_ | refine gf ?_ | refine gu ?_)); refine wl_val (r_indexAddr rfl rfl (by omega) (by omega)) ?_
      repeat (first | ((with_reducible apply is_ld); first | refine kld hM ?_ | refine kldw hM ?_ | refine kle hM ?_ | refine klew hM ?_) | ((with_reducible apply is_sto); first | (refine kst hM ?_; intro w hM) | (refine kstw hM ?_; intro w hM)) | ((with_reducible apply is_st); refine su ?_) | ((with_reducible apply is_gd); first | refine gt ?_ | refine gf ?_ | refine gu ?_) | ((with_reducible apply is_en); refine en ?_) | (with_reducible apply c_region) | refine ws ?_ | refine x_block_other (by decide) ?_)
      refine krs (en := eRr) (n := 4) (i := i) (k := 1) (xs := es.map (fun u : RR × List Pr => u.1)) (o := 0 + (i : Int).toNat * 4 + 1) (sc, key ++ [120], to, (A7, ps.length, c7)) hM (fun w hc hM => ?_) hge rfl (by rw [Int.toNat_natCast]; omega) (by omega)
      repeat (first | ((with_reducible apply is_ld); first | refine kld hM ?_ | refine kldw hM ?_ | refine kle hM ?_ | refine klew hM ?_) | ((with_reducible apply is_sto); first | (refine kst hM ?_; intro w hM) | (refine kstw hM ?_; intro w hM)) | ((with_reducible apply is_st); refine su ?_) | ((with_reducible apply is_gd); first | refine gt ?_ | refine gf ?_ | refine gu ?_) | ((with_reducible apply is_en); refine en ?_) | (with_reducible apply c_region) | refine ws ?_ | refine x_block_other (by decide) ?_)
      refine x_goes (n - 1) rfl (by omega) ⟨i + 1, es.set i ((sc, key ++ [120], to, (A7, ps.length, c7)), qs), exj rfl, by omega, by rw [List.length_set]; exact hel, drop_set hdr, ?_⟩
      have e1 : (es.set i ((sc, key ++ [120], to, (A7, ps.length, c7)), qs)).map (fun u : RR × List Pr => u.1) = (es.map (fun u : RR × List Pr => u.1)).set i (sc, key ++ [120], to, (A7, ps.length, c7)) := by rw [List.map_set]
      have e2 : (es.set i ((sc, key ++ [120], to, (A7, ps.length, c7)), qs)).map prow = (es.take i).map prow ++ .row ePr 32 (.slice A7 ps.length c7) qs :: (es.drop (i + 1)).map prow := by rw [set_split heu, List.map_append, List.map_cons]; rfl
      rw [e1, e2]
      refine hM.perm ?_
      rw [← hrest]
      classical exact List.perm_iff_count.2 (fun x => by simp only [List.count_cons, List.count_append]; omega)
  · have hii : i = ds.length := by omega
    clear hdr
    repeat (first | ((with_reducible apply is_ld); first | refine kld hM ?_ | refine kldw hM ?_ | refine kle hM ?_ | refine klew hM ?_) | ((with_reducible apply is_sto); first | (refine kst hM ?_; intro w hM) | (refine kstw hM ?_; intro w hM)) | ((with_reducible apply is_st); refine su ?_) | ((with_reducible apply is_gd); first | refine gt ?_ | refine gf ?_ | refine gu ?_) | ((with_reducible apply is_en); refine en ?_) | (with_reducible apply c_region) | refine ws ?_ | refine x_block_other (by decide) ?_)
    
    refine c_loop (fun n l w => ∃ (k : Nat) (qs : List Pr), (∃ jj : Nat → Value, l = [jj 0, .pointer (some ⟨b1, 0, none⟩), .bool false, .pointer (some ⟨b3, 0, none⟩), .pointer (some ⟨b4, 0, none⟩), jj 5, jj 6, jj 7, jj 8, jj 9, jj 10, jj 11, jj 12, jj 13, jj 14, jj 15, jj 16, jj 17, jj 18, jj 19, jj 20, jj 21, jj 22, jj 23, jj 24, jj 25, jj 26, jj 27, jj 28, jj 29, jj 30, jj 31, jj 32, jj 33, jj 34, jj 35, jj 36, jj 37, jj 38, jj 39, jj 40, jj 41, jj 42, jj 43, jj 44, jj 45, jj 46, jj 47, jj 48, jj 49, jj 50, jj 51, jj 52, jj 53, jj 54, jj 55, jj 56, jj 57, .int .i64 (wz.length : Int), .int .i64 (k : Int), jj 60, jj 61, jj 62, jj 63, jj 64, jj 65, jj 66, jj 67, jj 68, jj 69, jj 70, jj 71, jj 72, jj 73, jj 74, jj 75, jj 76, jj 77, jj 78, jj 79, jj 80]) ∧ n + k = wz.length ∧ qs.length = wz.length ∧ Mem [] w2 w (.cell b4 (rC ses snap strict (.slice A5 ds.length c5) (.slice A6 wz.length c6)) 25 :: .cell b3 (rC ses snap strict (.slice A3 us1.length c3) (.slice A4 wz.length c4)) 25 :: .row eRr 30 (.slice A5 ds.length c5) (es.map (fun u : RR × List Pr => u.1)) :: .row ePr 32 (.slice A6 wz.length c6) qs :: es.map prow)) wz.length
      ⟨0, wz, exj rfl, rfl, rfl, hM⟩ ?_
    clear hM
    rintro n3 l w ⟨k, qs, ⟨jj, rfl⟩, hnk, hql, hM⟩
    repeat (first | ((with_reducible apply is_ld); first | refine kld hM ?_ | refine kldw hM ?_ | refine kle hM ?_ | refine klew hM ?_) | ((with_reducible apply is_sto); first | (refine kst hM ?_; intro w hM) | (refine kstw hM ?_; intro w hM)) | ((with_reducible apply is_st); refine su ?_) | ((with_reducible apply is_gd); first | refine gt ?_ | refine gf ?_ | refine gu ?_) | ((with_reducible apply is_en); refine en ?_) | (with_reducible apply c_region) | refine ws ?_ | refine x_block_other (by decide) ?_)
    refine c_cond rfl (fun hk2 => ?_) (fun hk2 => ?_)
    · obtain ⟨p, hqp⟩ : ∃ p, qs[k]? = some p := ⟨_, List.getElem?_eq_getElem (by omega)⟩
      obtain ⟨pa, pb, pd⟩ := p
      obtain ⟨g7, c7', he7⟩ := Own.get (hM.row (v := .slice A6 wz.length c6) (xs := qs) (by (repeat constructor))) (by intro h; rw [h] at hqp; simp at hqp)
      obtain ⟨hg7, _⟩ : A6 = some ⟨g7, 0, none⟩ ∧ c6 = c7' := by injection he7 with e1 e2 e3; exact ⟨e1, e3⟩
      subst hg7
      repeat (first | ((with_reducible apply is_ld); first | refine kld hM ?_ | refine kldw hM ?_ | refine kle hM ?_ | refine klew hM ?_) | ((with_reducible apply is_sto); first | (refine kst hM ?_; intro w hM) | (refine kstw hM ?_; intro w hM)) | ((with_reducible apply is_st); refine su ?_) | ((with_reducible apply is_gd); first | refine gt ?_ | refine gf ?_ | refine gu ?_) | ((with_reducible apply is_en); refine en ?_) | (with_reducible apply c_region) | refine ws ?_ | refine x_block_other (by decide) ?_)
      refine c_ordY ([12], []) [] (by kernel_rfl) (by kernel_rfl) (by kernel_rfl) (fun w hc hs => ?_)
      have hM := hM.call hc
      have hl1 := Blk.lt (hM.blk (b := b4) (by (repeat constructor)))
      have hRow := hM.rowRdO (en := ePr) (v := .slice (some ⟨g7, 0, none⟩) wz.length c6) (xs := qs) (by (repeat constructor))
      (first | refine yn 0 rfl ?_ | refine ynt 0 rfl ?_ | refine ynff 0 rfl ?_)
      refine ynl 1 rfl (hM.blk (b := b4) (by (repeat constructor))) (by omega) (by simp) rfl rfl ?_
      (first | refine yn 2 rfl ?_ | refine ynt 2 rfl ?_ | refine ynff 2 rfl ?_); (first | refine yn 3 rfl ?_ | refine ynt 3 rfl ?_ | refine ynff 3 rfl ?_)
      refine ynl 4 rfl (hM.blk (b := b4) (by (repeat constructor))) (by omega) (by simp) rfl rfl ?_
      (first | refine yn 5 rfl ?_ | refine ynt 5 rfl ?_ | refine ynff 5 rfl ?_)
      refine ynx 6 rfl hRow rfl rfl rfl (by omega) (by omega) (fun b o x hx hA => ?_)
      rw [Int.toNat_natCast, hqp] at hx
      injection hx with hx
      subst hx
      (first | refine yn 7 rfl ?_ | refine ynt 7 rfl ?_ | refine ynff 7 rfl ?_)
      refine yna 8 rfl (hA.part (e2 := eBool) (y := pd) 2 rfl) (by have := hA.1; omega) rfl rfl ?_
      (first | refine yn 9 rfl ?_ | refine ynt 9 rfl ?_ | refine ynff 9 rfl ?_)
      refine ynp 10 rfl (by kernel_rfl) (by kernel_rfl) (fun _ => r_indexAddr rfl rfl (by omega) (by omega)) rfl ?_
      (first | refine yn 11 rfl ?_ | refine ynt 11 rfl ?_ | refine ynff 11 rfl ?_)
      refine yk1 12 hM (by kernel_rfl) rfl (fun w h0 hM => ?_)
      refine krs (en := ePr) (n := 3) (i := k) (k := 2) (xs := qs) (o := 0 + (k : Int).toNat * 3 + 2) (pa, pb, !pd) hM (fun w hc hM => ?_) hqp rfl (by rw [Int.toNat_natCast]; omega) (by omega)
      refine x_wy (.inr ⟨by decide, Nat.le_trans h0 hc.size⟩) rfl ?_
      refine wy_done (by kernel_rfl) (fun w hc => ?_)
      have hM := hM.call hc
      repeat (first | ((with_reducible apply is_ld); first | refine kld hM ?_ | refine kldw hM ?_ | refine kle hM ?_ | refine klew hM ?_) | ((with_reducible apply is_sto); first | (refine kst hM ?_; intro w hM) | (refine kstw hM ?_; intro w hM)) | ((with_reducible apply is_st); refine su ?_) | ((with_reducible apply is_gd); first | refine gt ?_ | refine gf ?_ | refine gu ?_) | ((with_reducible apply is_en); refine en ?_) | (with_reducible apply c_region) | refine ws ?_ | refine x_block_other (by decide) ?_)
      refine x_goes (n3 - 1) rfl (by omega) ⟨k + 1, qs.set k (pa, pb, !pd), exj rfl, by omega, by rw [List.length_set]; exact hql, ?_⟩
      refine hM.perm ?_
      classical exact List.perm_iff_count.2 (fun x => by simp only [List.count_cons]; omega)
    · repeat (first | ((with_reducible apply is_ld); first | refine kld hM ?_ | refine kldw hM ?_ | refine kle hM ?_ | refine klew hM ?_) | ((with_reducible apply is_sto); first | (refine kst hM ?_; intro w hM) | (refine kstw hM ?_; intro w hM)) | ((with_reducible apply is_st); refine su ?_) | ((with_reducible apply is_gd); first | refine gt ?_ | refine gf ?_ | refine gu ?_) | ((with_reducible apply is_en); refine en ?_) | (with_reducible apply c_region) | refine ws ?_ | refine x_block_other (by decide) ?_)
      have hC3 := hC.ch hM.ch
      refine kca hM (rsame_any ses snap strict _ _ us1 wz ses snap strict _ _ us wz _ hC3 (hA2.ch hM.ch)) (fun w hM => ?_)
      rw [show sameB ses snap strict us1 wz ses snap strict us wz = true by simp [sameB, hd1]]
      repeat (first | ((with_reducible apply is_ld); first | refine kld hM ?_ | refine kldw hM ?_ | refine kle hM ?_ | refine klew hM ?_) | ((with_reducible apply is_sto); first | (refine kst hM ?_; intro w hM) | (refine kstw hM ?_; intro w hM)) | ((with_reducible apply is_st); refine su ?_) | ((with_reducible apply is_gd); first | refine gt ?_ | refine gf ?_ | refine gu ?_) | ((with_reducible apply is_en); refine en ?_) | (with_reducible apply c_region) | refine ws ?_ | refine x_block_other (by decide) ?_)
      (try ((with_reducible apply is_gd); first | refine gt ?_ | refine gf ?_ | refine gu ?_)); refine kca hM (lives_any _) (fun w hM => ?_)
      repeat (first | ((with_reducible apply is_ld); first | refine kld hM ?_ | refine kldw hM ?_ | refine kle hM ?_ | refine klew hM ?_) | ((with_reducible apply is_sto); first | (refine kst hM ?_; intro w hM) | (refine kstw hM ?_; intro w hM)) | ((with_reducible apply is_st); refine su ?_) | ((with_reducible apply is_gd); first | refine gt ?_ | refine gf ?_ | refine gu ?_) | ((with_reducible apply is_en); refine en ?_) | (with_reducible apply c_region) | refine ws ?_ | refine x_block_other (by decide) ?_)
      exact out1 rfl ⟨rfl, hN0.then hM.ch⟩
end Go.Proofs.Ytnkkeehoejmcnaa

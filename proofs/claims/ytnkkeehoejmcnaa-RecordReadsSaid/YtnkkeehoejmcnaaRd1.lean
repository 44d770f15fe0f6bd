/- Walks: record.Read: something taken as often as a number says; a read; a record. -/
import Derived.Test.YtnkkeehoejmcnaaPar
import Derived.Test.YtnkkeehoejmcnaaRecOwn
set_option linter.unusedVariables false
set_option linter.unusedSimpArgs false
namespace Go.Proofs.Ytnkkeehoejmcnaa
open Go Go.RowKit Go.Proofs.E
attribute [local irreducible] Go.wpList Go.Code.wp Go.Proofs.E.exec Go.Proofs.E.wpLexG
theorem loopT_succ {α : Type} (f : St → α × St) (n : Nat) (a : List α) (s : St) : loopT f (n + 1) a s = if s.2 = true then (a, s) else loopT f n (a ++ [(f s).1]) (f s).2 := rfl
theorem numT_le {most : Nat} {s : St} : (numT most s).1 ≤ most := by
  unfold numT
  simp only
  split
  · rename_i h
    have := (gotSt_ok h).1
    rw [Bool.and_eq_true, decide_eq_true_eq] at this
    exact this.2
  · exact Nat.zero_le _
set_option maxHeartbeats 4000000 in
theorem times_any {α : Type} {f : FuncId} {fn : Func} [hf : Fun Try.prog f fn] (bS : Nat) (wx : World) (lb : Array Value) (most : Nat) (step : St → α × St) (Inv : List α → St → World → Prop)
    (hI : ∀ a s w, Inv a s w → ∃ vb, Blk w bS (sC vb s.2) 53 ∧ tU8.Rd [] w vb s.1 ∧ tU8.Rd [] wx vb s.1)
    (hnum : ∀ a s w w' s', Inv a s w → Took 53 bS wx w w' s' → Inv a s' w')
    (hstep : ∀ a s w, Inv a s w → s.2 = false → a.length < most → Calls Try.prog f lb w (Ret fun u w' => Inv (a ++ [(step s).1]) (step s).2 w'))
    (hm : most ≤ 1000000) (s0 : St) (w0 : World) (h0 : Inv [] s0 w0) :
    Calls Try.prog 28 #[.pointer (some ⟨bS, 0, none⟩), .int .i64 (most : Int), .func (.func f) #[] lb] w0 (Ret fun u w' => Inv (timesT most step s0).1 (timesT most step s0).2 w') := by
  have hM := Mem.start w0
  obtain ⟨vb, hB, hR, hx⟩ := hI _ _ _ h0
  refine enter [.pointer (some ⟨bS, 0, none⟩), .int .i64 (most : Int), .func (.func f) #[] lb, undef, undef, undef, undef, undef, undef, undef, undef, undef, undef, undef, undef, undef, undef, undef, undef, undef, undef, undef, undef] Try.func28 rfl rfl ?_
  repeat (first | ((with_reducible apply is_ld); first | refine kld hM ?_ | refine kldw hM ?_ | refine kle hM ?_ | refine klew hM ?_) | ((with_reducible apply is_sto); first | (refine kst hM ?_; intro w hM) | (refine kstw hM ?_; intro w hM)) | ((with_reducible apply is_st); refine su ?_) | ((with_reducible apply is_gd); first | refine gt ?_ | refine gf ?_ | refine gu ?_) | ((with_reducible apply is_en); refine en ?_) | (with_reducible apply c_region) | refine ws ?_ | refine x_block_other (by decide) ?_)
  refine ca (snum_any bS vb s0 most wx w0 hB hR hx (by omega)) ?_
  rintro _ w2 ⟨rfl, ht⟩
  have h1 := hnum _ _ _ _ _ h0 ht
  have hle := numT_le (most := most) (s := s0)
  repeat (first | ((with_reducible apply is_ld); first | refine kld hM ?_ | refine kldw hM ?_ | refine kle hM ?_ | refine klew hM ?_) | ((with_reducible apply is_sto); first | (refine kst hM ?_; intro w hM) | (refine kstw hM ?_; intro w hM)) | ((with_reducible apply is_st); refine su ?_) | ((with_reducible apply is_gd); first | refine gt ?_ | refine gf ?_ | refine gu ?_) | ((with_reducible apply is_en); refine en ?_) | (with_reducible apply c_region) | refine ws ?_ | refine x_block_other (by decide) ?_)
  unfold timesT
  clear hB hR hx ht h0 hM
  
  refine c_loop (fun n l w => ∃ (a : List α) (s : St), (∃ jj : Nat → Value, l = [.pointer (some ⟨bS, 0, none⟩), jj 1, .func (.func f) #[] lb, jj 3, jj 4, jj 5, .int .i64 (n : Int), jj 7, jj 8, jj 9, jj 10, jj 11, jj 12, jj 13, jj 14, jj 15, jj 16, jj 17, jj 18, jj 19, jj 20, jj 21, jj 22]) ∧ a.length + n ≤ most ∧ Inv a s w ∧ loopT step n a s = loopT step (numT most s0).1 [] (numT most s0).2) (numT most s0).1
    ⟨[], _, exj rfl, by simpa using hle, h1, rfl⟩ ?_
  clear h1
  rintro n l w ⟨a, s, ⟨jj, rfl⟩, hal, hinv, hlp⟩
  obtain ⟨vb, hB, hR, hx⟩ := hI _ _ _ hinv
  have hM := Mem.start w
  repeat (first | ((with_reducible apply is_ld); first | refine kld hM ?_ | refine kldw hM ?_ | refine kle hM ?_ | refine klew hM ?_) | ((with_reducible apply is_sto); first | (refine kst hM ?_; intro w hM) | (refine kstw hM ?_; intro w hM)) | ((with_reducible apply is_st); refine su ?_) | ((with_reducible apply is_gd); first | refine gt ?_ | refine gf ?_ | refine gu ?_) | ((with_reducible apply is_en); refine en ?_) | (with_reducible apply c_region) | refine ws ?_ | refine x_block_other (by decide) ?_)
  cases n with
  | zero =>
    rw [decide_eq_false (by omega : ¬ ((0 : Nat) : Int) > 0)]
    repeat (first | ((with_reducible apply is_ld); first | refine kld hM ?_ | refine kldw hM ?_ | refine kle hM ?_ | refine klew hM ?_) | ((with_reducible apply is_sto); first | (refine kst hM ?_; intro w hM) | (refine kstw hM ?_; intro w hM)) | ((with_reducible apply is_st); refine su ?_) | ((with_reducible apply is_gd); first | refine gt ?_ | refine gf ?_ | refine gu ?_) | ((with_reducible apply is_en); refine en ?_) | (with_reducible apply c_region) | refine ws ?_ | refine x_block_other (by decide) ?_)
    refine c_condb rfl (fun h => by cases h) (fun _ => ?_)
    repeat (first | ((with_reducible apply is_ld); first | refine kld hM ?_ | refine kldw hM ?_ | refine kle hM ?_ | refine klew hM ?_) | ((with_reducible apply is_sto); first | (refine kst hM ?_; intro w hM) | (refine kstw hM ?_; intro w hM)) | ((with_reducible apply is_st); refine su ?_) | ((with_reducible apply is_gd); first | refine gt ?_ | refine gf ?_ | refine gu ?_) | ((with_reducible apply is_en); refine en ?_) | (with_reducible apply c_region) | refine ws ?_ | refine x_block_other (by decide) ?_)
    refine out0 rfl ?_
    rw [← hlp]
    exact hinv
  | succ n =>
    rw [decide_eq_true (by omega : ((n + 1 : Nat) : Int) > 0)]
    obtain ⟨bs, bad⟩ := s
    simp only at hB
    repeat (first | ((with_reducible apply is_ld); first | refine kld hM ?_ | refine kldw hM ?_ | refine kle hM ?_ | refine klew hM ?_) | ((with_reducible apply is_sto); first | (refine kst hM ?_; intro w hM) | (refine kstw hM ?_; intro w hM)) | ((with_reducible apply is_st); refine su ?_) | ((with_reducible apply is_gd); first | refine gt ?_ | refine gf ?_ | refine gu ?_) | ((with_reducible apply is_en); refine en ?_) | (with_reducible apply c_region) | refine ws ?_ | refine x_block_other (by decide) ?_)
    rw [loopT_succ] at hlp
    cases bad with
    | true =>
      rw [if_pos rfl] at hlp
      repeat (first | ((with_reducible apply is_ld); first | refine kld hM ?_ | refine kldw hM ?_ | refine kle hM ?_ | refine klew hM ?_) | ((with_reducible apply is_sto); first | (refine kst hM ?_; intro w hM) | (refine kstw hM ?_; intro w hM)) | ((with_reducible apply is_st); refine su ?_) | ((with_reducible apply is_gd); first | refine gt ?_ | refine gf ?_ | refine gu ?_) | ((with_reducible apply is_en); refine en ?_) | (with_reducible apply c_region) | refine ws ?_ | refine x_block_other (by decide) ?_)
      refine c_condb rfl (fun h => by cases h) (fun _ => ?_)
      repeat (first | ((with_reducible apply is_ld); first | refine kld hM ?_ | refine kldw hM ?_ | refine kle hM ?_ | refine klew hM ?_) | ((with_reducible apply is_sto); first | (refine kst hM ?_; intro w hM) | (refine kstw hM ?_; intro w hM)) | ((with_reducible apply is_st); refine su ?_) | ((with_reducible apply is_gd); first | refine gt ?_ | refine gf ?_ | refine gu ?_) | ((with_reducible apply is_en); refine en ?_) | (with_reducible apply c_region) | refine ws ?_ | refine x_block_other (by decide) ?_)
      refine out0 rfl ?_
      rw [← hlp]
      exact hinv
    | false =>
      rw [if_neg (by simp)] at hlp
      repeat (first | ((with_reducible apply is_ld); first | refine kld hM ?_ | refine kldw hM ?_ | refine kle hM ?_ | refine klew hM ?_) | ((with_reducible apply is_sto); first | (refine kst hM ?_; intro w hM) | (refine kstw hM ?_; intro w hM)) | ((with_reducible apply is_st); refine su ?_) | ((with_reducible apply is_gd); first | refine gt ?_ | refine gf ?_ | refine gu ?_) | ((with_reducible apply is_en); refine en ?_) | (with_reducible apply c_region) | refine ws ?_ | refine x_block_other (by decide) ?_)
      refine c_condb rfl (fun _ => ?_) (fun h => by cases h)
      repeat (first | ((with_reducible apply is_ld); first | refine kld hM ?_ | refine kldw hM ?_ | refine kle hM ?_ | refine klew hM ?_) | ((with_reducible apply is_sto); first | (refine kst hM ?_; intro w hM) | (refine kstw hM ?_; intro w hM)) | ((with_reducible apply is_st); refine su ?_) | ((with_reducible apply is_gd); first | refine gt ?_ | refine gf ?_ | refine gu ?_) | ((with_reducible apply is_en); refine en ?_) | (with_reducible apply c_region) | refine ws ?_ | refine x_block_other (by decide) ?_)
      refine kcd (vs := []) (lb := lb) (by have := hstep _ _ _ hinv rfl (by omega); simpa using this) (fun v w' hv => ?_)
      repeat (first | ((with_reducible apply is_ld); first | refine kld hM ?_ | refine kldw hM ?_ | refine kle hM ?_ | refine klew hM ?_) | ((with_reducible apply is_sto); first | (refine kst hM ?_; intro w hM) | (refine kstw hM ?_; intro w hM)) | ((with_reducible apply is_st); refine su ?_) | ((with_reducible apply is_gd); first | refine gt ?_ | refine gf ?_ | refine gu ?_) | ((with_reducible apply is_en); refine en ?_) | (with_reducible apply c_region) | refine ws ?_ | refine x_block_other (by decide) ?_)
      rw [show ((n + 1 : Nat) : Int) - 1 = (n : Int) by omega]
      exact x_goes n rfl (by omega) ⟨a ++ [(step (bs, false)).1], (step (bs, false)).2, exj rfl, by rw [List.length_append, List.length_singleton]; omega, hv, hlp⟩
theorem offB {wx w1 w : World} {bS : Nat} (h0 : Ch [] wx w1) (h : Ch [bS] w1 w) (hb : wx.heap.size ≤ bS) : Ch [] wx w :=
  h0.trans h (fun _ _ h => h) (fun x hx hm => by simp at hm; omega)
set_option maxHeartbeats 4000000 in
theorem rd1_any {L : List As} (bS bP bX : Nat) (vb vp : Value) (s : St) (sc : Bool) (key to : Bs) (ps : List Pr) (wx w1 w : World) (hc0 : Ch [] wx w1) (hb0 : wx.heap.size ≤ bS)
    (hM : Mem [bS] w1 w (.cell bS (sC vb s.2) 53 :: .cell bP [.pointer (some ⟨bS, 0, none⟩)] 51 :: .cell bX [.bool sc, .string (bst key), .string (bst to), vp] 30 :: .row ePr 32 vp ps :: L)) (hx : tU8.Rd [] wx vb s.1) (hl : ps.length < 200) :
    Calls Try.prog 46 #[.pointer (some ⟨bP, 0, none⟩), .pointer (some ⟨bX, 0, none⟩)] w (Ret fun u w' => ∃ vb' vp', Mem [bS] w1 w' (.cell bS (sC vb' (pairS s).2.2) 53 :: .cell bP [.pointer (some ⟨bS, 0, none⟩)] 51 :: .cell bX [.bool sc, .string (bst key), .string (bst to), vp'] 30 :: .row ePr 32 vp' (ps ++ [(pairS s).1]) :: L) ∧ tU8.Rd [] wx vb' (pairS s).2.1) := by
  obtain ⟨A, c, rfl⟩ := hx.form
  obtain ⟨Ap, cp, rfl, _⟩ := Own.form (hM.row0 (v := vp) (xs := ps) (by (repeat constructor)))
  unfold pairS
  refine enter [.pointer (some ⟨bP, 0, none⟩), .pointer (some ⟨bX, 0, none⟩), undef, undef, undef, undef, undef, undef, undef, undef, undef, undef, undef, undef, undef] Try.func46 rfl rfl ?_
  repeat (first | ((with_reducible apply is_ld); first | refine kld hM ?_ | refine kldw hM ?_ | refine kle hM ?_ | refine klew hM ?_) | ((with_reducible apply is_sto); first | (refine kst hM ?_; intro w hM) | (refine kstw hM ?_; intro w hM)) | ((with_reducible apply is_st); refine su ?_) | ((with_reducible apply is_gd); first | refine gt ?_ | refine gf ?_ | refine gu ?_) | ((with_reducible apply is_en); refine en ?_) | (with_reducible apply c_region) | refine ws ?_ | refine x_block_other (by decide) ?_)
  refine ca (stext_any bS _ s 64 wx w (hM.blk (b := bS) (by (repeat constructor))) (hx.ch (offB hc0 hM.ch hb0)) hx (by omega)) ?_
  rintro _ w2 ⟨rfl, vb2, hc, hB2, hx2⟩
  have hM := hM.cellSet hB2 hc
  repeat (first | ((with_reducible apply is_ld); first | refine kld hM ?_ | refine kldw hM ?_ | refine kle hM ?_ | refine klew hM ?_) | ((with_reducible apply is_sto); first | (refine kst hM ?_; intro w hM) | (refine kstw hM ?_; intro w hM)) | ((with_reducible apply is_st); refine su ?_) | ((with_reducible apply is_gd); first | refine gt ?_ | refine gf ?_ | refine gu ?_) | ((with_reducible apply is_en); refine en ?_) | (with_reducible apply c_region) | refine ws ?_ | refine x_block_other (by decide) ?_)
  (try ((with_reducible apply is_gd); first | refine gt ?_ | refine gf ?_ | refine gu ?_)); refine wl_val (r_bldS (vs := [(0, .string (bst (strT 64 s).1))]) (ePr.f ((strT 64 s).1, [], false)) (z := [.string (bst []), .string (bst []), .bool false]) (place := (#[(0, 1), (1, 1), (2, 1)][·]?)) (by intro ps; kernel_rfl) rfl (.cons rfl rfl (by simp) (.nil rfl))) ?_
  refine kal hM (fun w b2 hM => ?_)
  refine kstw (vs := ePr.f ((strT 64 s).1, [], false)) hM (fun w hM => ?_) (h1 := ePr.h1 ((strT 64 s).1, [], false))
  repeat (first | ((with_reducible apply is_ld); first | refine kld hM ?_ | refine kldw hM ?_ | refine kle hM ?_ | refine klew hM ?_) | ((with_reducible apply is_sto); first | (refine kst hM ?_; intro w hM) | (refine kstw hM ?_; intro w hM)) | ((with_reducible apply is_st); refine su ?_) | ((with_reducible apply is_gd); first | refine gt ?_ | refine gf ?_ | refine gu ?_) | ((with_reducible apply is_en); refine en ?_) | (with_reducible apply c_region) | refine ws ?_ | refine x_block_other (by decide) ?_)
  refine ca (stext_any bS vb2 (strT 64 s).2 256 wx w (hM.blk (b := bS) (by (repeat constructor))) (hx2.ch (offB hc0 hM.ch hb0)) hx2 (by omega)) ?_
  rintro _ w3 ⟨rfl, vb3, hc, hB3, hx3⟩
  have hM := hM.cellSet hB3 hc
  repeat (first | ((with_reducible apply is_ld); first | refine kld hM ?_ | refine kldw hM ?_ | refine kle hM ?_ | refine klew hM ?_) | ((with_reducible apply is_sto); first | (refine kst hM ?_; intro w hM) | (refine kstw hM ?_; intro w hM)) | ((with_reducible apply is_st); refine su ?_) | ((with_reducible apply is_gd); first | refine gt ?_ | refine gf ?_ | refine gu ?_) | ((with_reducible apply is_en); refine en ?_) | (with_reducible apply c_region) | refine ws ?_ | refine x_block_other (by decide) ?_)
  refine kpu (en := ePr) ((strT 64 s).1, (strT 256 (strT 64 s).2).1, false) hM (fun _ v13 w hM => ?_)
  obtain ⟨A13, c13, rfl, _⟩ := Own.form (hM.row0 (v := v13) (by (repeat constructor)))
  repeat (first | ((with_reducible apply is_ld); first | refine kld hM ?_ | refine kldw hM ?_ | refine kle hM ?_ | refine klew hM ?_) | ((with_reducible apply is_sto); first | (refine kst hM ?_; intro w hM) | (refine kstw hM ?_; intro w hM)) | ((with_reducible apply is_st); refine su ?_) | ((with_reducible apply is_gd); first | refine gt ?_ | refine gf ?_ | refine gu ?_) | ((with_reducible apply is_en); refine en ?_) | (with_reducible apply c_region) | refine ws ?_ | refine x_block_other (by decide) ?_)
  exact out0 rfl ⟨vb3, _, hM.sub (by (repeat (first | exact Go.Proofs.E.Sub.refl _ | exact Go.Proofs.E.Sub.nil | (apply Go.Proofs.E.Sub.cons; (repeat (first | exact Go.Proofs.E.Pick.here | apply Go.Proofs.E.Pick.there))) | apply Go.Proofs.E.Sub.tail))), hx3⟩
/-- What the loop over pairs keeps. -/
def RdInv (L : List As) (wx w1 : World) (bS bP bX : Nat) (sc : Bool) (key to : Bs) (a : List Pr) (s : St) (w : World) : Prop :=
  ∃ vb vp, Mem [bS] w1 w (.cell bS (sC vb s.2) 53 :: .cell bP [.pointer (some ⟨bS, 0, none⟩)] 51 :: .cell bX [.bool sc, .string (bst key), .string (bst to), vp] 30 :: .row ePr 32 vp a :: L) ∧ tU8.Rd [] wx vb s.1
set_option maxHeartbeats 4000000 in
theorem sread_any {L : List As} (bS : Nat) (vb : Value) (s : St) (wx w1 w : World) (hc0 : Ch [] wx w1) (hb0 : wx.heap.size ≤ bS)
    (hM : Mem [bS] w1 w (.cell bS (sC vb s.2) 53 :: L)) (hx : tU8.Rd [] wx vb s.1) :
    Calls Try.prog 30 #[.pointer (some ⟨bS, 0, none⟩)] w (Ret fun u w' => ∃ vb' A c, u = .agg (eRr.f ((readS s).1.1, (readS s).1.2.1, (readS s).1.2.2.1, (A, (readS s).1.2.2.2.length, c))).toArray ∧
      Mem [bS] w1 w' (.cell bS (sC vb' (readS s).2.2) 53 :: .row ePr 32 (.slice A (readS s).1.2.2.2.length c) (readS s).1.2.2.2 :: L) ∧ tU8.Rd [] wx vb' (readS s).2.1) := by
  obtain ⟨A, c, rfl⟩ := hx.form
  unfold readS
  refine enter [.pointer (some ⟨bS, 0, none⟩), undef, undef, undef, undef, undef, undef, undef, undef, undef, undef, undef, undef, undef, undef, undef, undef, undef, undef] Try.func30 rfl rfl ?_
  repeat (first | ((with_reducible apply is_ld); first | refine kld hM ?_ | refine kldw hM ?_ | refine kle hM ?_ | refine klew hM ?_) | ((with_reducible apply is_sto); first | (refine kst hM ?_; intro w hM) | (refine kstw hM ?_; intro w hM)) | ((with_reducible apply is_st); refine su ?_) | ((with_reducible apply is_gd); first | refine gt ?_ | refine gf ?_ | refine gu ?_) | ((with_reducible apply is_en); refine en ?_) | (with_reducible apply c_region) | refine ws ?_ | refine x_block_other (by decide) ?_)
  refine kbx hM (fun w bP hM => ?_)
  refine kal hM (fun w b2 hM => ?_)
  have hM : Mem [bS] w1 w (.cell b2 (eRr.f (false, [], [], (none, 0, 0))) 30 :: .cell bP [.pointer (some ⟨bS, 0, none⟩)] 51 :: .cell bS (sC (.slice A s.1.length c) s.2) 53 :: L) := hM
  repeat (first | ((with_reducible apply is_ld); first | refine kld hM ?_ | refine kldw hM ?_ | refine kle hM ?_ | refine klew hM ?_) | ((with_reducible apply is_sto); first | (refine kst hM ?_; intro w hM) | (refine kstw hM ?_; intro w hM)) | ((with_reducible apply is_st); refine su ?_) | ((with_reducible apply is_gd); first | refine gt ?_ | refine gf ?_ | refine gu ?_) | ((with_reducible apply is_en); refine en ?_) | (with_reducible apply c_region) | refine ws ?_ | refine x_block_other (by decide) ?_)
  refine ca (sflag_any bS _ s wx w (hM.blk (b := bS) (by (repeat constructor))) (hx.ch (offB hc0 hM.ch hb0)) hx) ?_
  rintro _ w2 ⟨rfl, vb2, hc, hB2, hx2⟩
  have hM := hM.cellSet hB2 hc
  generalize flagT s = fl at hB2 hx2 hM ⊢
  obtain ⟨sc, s1⟩ := fl
  simp only at hx2 hM ⊢
  repeat (first | ((with_reducible apply is_ld); first | refine kld hM ?_ | refine kldw hM ?_ | refine kle hM ?_ | refine klew hM ?_) | ((with_reducible apply is_sto); first | (refine kst hM ?_; intro w hM) | (refine kstw hM ?_; intro w hM)) | ((with_reducible apply is_st); refine su ?_) | ((with_reducible apply is_gd); first | refine gt ?_ | refine gf ?_ | refine gu ?_) | ((with_reducible apply is_en); refine en ?_) | (with_reducible apply c_region) | refine ws ?_ | refine x_block_other (by decide) ?_)
  (try ((with_reducible apply is_gd); first | refine gt ?_ | refine gf ?_ | refine gu ?_)); refine wl_val (r_bldS (vs := [(0, .bool sc)]) (eRr.f (sc, [], [], (none, 0, 0))) (z := [.bool false, .string (bst []), .string (bst []), .slice none 0 0]) (place := (#[(0, 1), (1, 1), (2, 1), (3, 1)][·]?)) (by intro ps; kernel_rfl) rfl (.cons rfl rfl (by simp) (.nil rfl))) ?_
  refine kal hM (fun w b3 hM => ?_)
  refine kstw (vs := eRr.f (sc, [], [], (none, 0, 0))) hM (fun w hM => ?_) (h1 := eRr.h1 _)
  repeat (first | ((with_reducible apply is_ld); first | refine kld hM ?_ | refine kldw hM ?_ | refine kle hM ?_ | refine klew hM ?_) | ((with_reducible apply is_sto); first | (refine kst hM ?_; intro w hM) | (refine kstw hM ?_; intro w hM)) | ((with_reducible apply is_st); refine su ?_) | ((with_reducible apply is_gd); first | refine gt ?_ | refine gf ?_ | refine gu ?_) | ((with_reducible apply is_en); refine en ?_) | (with_reducible apply c_region) | refine ws ?_ | refine x_block_other (by decide) ?_)
  refine ca (stext_any bS vb2 s1 64 wx w (hM.blk (b := bS) (by (repeat constructor))) (hx2.ch (offB hc0 hM.ch hb0)) hx2 (by omega)) ?_
  rintro _ w3 ⟨rfl, vb3, hc, hB3, hx3⟩
  have hM := hM.cellSet hB3 hc
  generalize strT 64 s1 = kk at hB3 hx3 hM ⊢
  obtain ⟨key, s2⟩ := kk
  simp only at hx3 hM ⊢
  repeat (first | ((with_reducible apply is_ld); first | refine kld hM ?_ | refine kldw hM ?_ | refine kle hM ?_ | refine klew hM ?_) | ((with_reducible apply is_sto); first | (refine kst hM ?_; intro w hM) | (refine kstw hM ?_; intro w hM)) | ((with_reducible apply is_st); refine su ?_) | ((with_reducible apply is_gd); first | refine gt ?_ | refine gf ?_ | refine gu ?_) | ((with_reducible apply is_en); refine en ?_) | (with_reducible apply c_region) | refine ws ?_ | refine x_block_other (by decide) ?_)
  unfold toS
  cases sc with
  | true =>
    simp only [↓reduceIte, Bool.false_eq_true]
    refine c_condb rfl (fun _ => ?_) (fun h => by cases h)
    repeat (first | ((with_reducible apply is_ld); first | refine kld hM ?_ | refine kldw hM ?_ | refine kle hM ?_ | refine klew hM ?_) | ((with_reducible apply is_sto); first | (refine kst hM ?_; intro w hM) | (refine kstw hM ?_; intro w hM)) | ((with_reducible apply is_st); refine su ?_) | ((with_reducible apply is_gd); first | refine gt ?_ | refine gf ?_ | refine gu ?_) | ((with_reducible apply is_en); refine en ?_) | (with_reducible apply c_region) | refine ws ?_ | refine x_block_other (by decide) ?_)
    refine ca (stext_any bS vb3 s2 64 wx w (hM.blk (b := bS) (by (repeat constructor))) (hx3.ch (offB hc0 hM.ch hb0)) hx3 (by omega)) ?_
    rintro _ w4 ⟨rfl, vb4, hc, hB4, hx4⟩
    have hM := hM.cellSet hB4 hc
    generalize strT 64 s2 = tt at hB4 hx4 hM ⊢
    obtain ⟨to, s3⟩ := tt
    simp only at hx4 hM ⊢
    repeat (first | ((with_reducible apply is_ld); first | refine kld hM ?_ | refine kldw hM ?_ | refine kle hM ?_ | refine klew hM ?_) | ((with_reducible apply is_sto); first | (refine kst hM ?_; intro w hM) | (refine kstw hM ?_; intro w hM)) | ((with_reducible apply is_st); refine su ?_) | ((with_reducible apply is_gd); first | refine gt ?_ | refine gf ?_ | refine gu ?_) | ((with_reducible apply is_en); refine en ?_) | (with_reducible apply c_region) | refine ws ?_ | refine x_block_other (by decide) ?_)
    (try ((with_reducible apply is_gd); first | refine gt ?_ | refine gf ?_ | refine gu ?_)); refine wl_val (r_makeFunc (cs := [.tmp 1, .tmp 3])) ?_
    have hI : RdInv (.cell b2 (eRr.f (false, [], [], (none, 0, 0))) 30 :: L) wx w1 bS bP b3 true key to [] s3 w := ⟨vb4, .slice none 0 0, (hM.nilRow ePr 32).sub (by (repeat (first | exact Go.Proofs.E.Sub.refl _ | exact Go.Proofs.E.Sub.nil | (apply Go.Proofs.E.Sub.cons; (repeat (first | exact Go.Proofs.E.Pick.here | apply Go.Proofs.E.Pick.there))) | apply Go.Proofs.E.Sub.tail))), hx4⟩
    clear hM
    refine ca (times_any (f := 46) bS wx #[.pointer (some ⟨bP, 0, none⟩), .pointer (some ⟨b3, 0, none⟩)] 200 pairS (RdInv (.cell b2 (eRr.f (false, [], [], (none, 0, 0))) 30 :: L) wx w1 bS bP b3 true key to) ?hI ?hn ?hs (by omega) s3 w hI) ?_
    case hI =>
      rintro a s w ⟨vb, vp, hM, hx⟩
      exact ⟨vb, hM.blk (b := bS) (by (repeat constructor)), hx.ch (offB hc0 hM.ch hb0), hx⟩
    case hn =>
      rintro a s w w' s' ⟨vb, vp, hM, hx⟩ ⟨vb', hc, hB, hx'⟩
      exact ⟨vb', vp, hM.cellSet hB hc, hx'⟩
    case hs =>
      rintro a s w ⟨vb, vp, hM, hx⟩ hf hl
      exact (rd1_any (L := .cell b2 (eRr.f (false, [], [], (none, 0, 0))) 30 :: L) bS bP b3 vb vp s true key to a wx w1 w hc0 hb0 hM hx hl).mono fun e w' ⟨u, he, h⟩ => ⟨u, he, h⟩
    rintro u w ⟨vb5, vp5, hM, hx5⟩
    generalize timesT 200 pairS s3 = fp at hM hx5 ⊢
    obtain ⟨ps, s5⟩ := fp
    simp only at hM hx5 ⊢
    obtain ⟨A5, c5, rfl, _⟩ := Own.form (hM.row0 (v := vp5) (xs := ps) (by (repeat constructor)))
    repeat (first | ((with_reducible apply is_ld); first | refine kld hM ?_ | refine kldw hM ?_ | refine kle hM ?_ | refine klew hM ?_) | ((with_reducible apply is_sto); first | (refine kst hM ?_; intro w hM) | (refine kstw hM ?_; intro w hM)) | ((with_reducible apply is_st); refine su ?_) | ((with_reducible apply is_gd); first | refine gt ?_ | refine gf ?_ | refine gu ?_) | ((with_reducible apply is_en); refine en ?_) | (with_reducible apply c_region) | refine ws ?_ | refine x_block_other (by decide) ?_)
    refine koc hM rfl ⟨vb5, A5, c5, rfl, hM.sub (by (repeat (first | exact Go.Proofs.E.Sub.refl _ | exact Go.Proofs.E.Sub.nil | (apply Go.Proofs.E.Sub.cons; (repeat (first | exact Go.Proofs.E.Pick.here | apply Go.Proofs.E.Pick.there))) | apply Go.Proofs.E.Sub.tail))), hx5⟩
  | false =>
    simp only [↓reduceIte, Bool.false_eq_true]
    refine c_condb rfl (fun h => by cases h) (fun _ => ?_)
    repeat (first | ((with_reducible apply is_ld); first | refine kld hM ?_ | refine kldw hM ?_ | refine kle hM ?_ | refine klew hM ?_) | ((with_reducible apply is_sto); first | (refine kst hM ?_; intro w hM) | (refine kstw hM ?_; intro w hM)) | ((with_reducible apply is_st); refine su ?_) | ((with_reducible apply is_gd); first | refine gt ?_ | refine gf ?_ | refine gu ?_) | ((with_reducible apply is_en); refine en ?_) | (with_reducible apply c_region) | refine ws ?_ | refine x_block_other (by decide) ?_)
    skip
    (try ((with_reducible apply is_gd); first | refine gt ?_ | refine gf ?_ | refine gu ?_)); refine wl_val (r_makeFunc (cs := [.tmp 1, .tmp 3])) ?_
    have hI : RdInv (.cell b2 (eRr.f (false, [], [], (none, 0, 0))) 30 :: L) wx w1 bS bP b3 false key [] [] s2 w := ⟨vb3, .slice none 0 0, (hM.nilRow ePr 32).sub (by (repeat (first | exact Go.Proofs.E.Sub.refl _ | exact Go.Proofs.E.Sub.nil | (apply Go.Proofs.E.Sub.cons; (repeat (first | exact Go.Proofs.E.Pick.here | apply Go.Proofs.E.Pick.there))) | apply Go.Proofs.E.Sub.tail))), hx3⟩
    clear hM
    refine ca (times_any (f := 46) bS wx #[.pointer (some ⟨bP, 0, none⟩), .pointer (some ⟨b3, 0, none⟩)] 200 pairS (RdInv (.cell b2 (eRr.f (false, [], [], (none, 0, 0))) 30 :: L) wx w1 bS bP b3 false key []) ?hI ?hn ?hs (by omega) s2 w hI) ?_
    case hI =>
      rintro a s w ⟨vb, vp, hM, hx⟩
      exact ⟨vb, hM.blk (b := bS) (by (repeat constructor)), hx.ch (offB hc0 hM.ch hb0), hx⟩
    case hn =>
      rintro a s w w' s' ⟨vb, vp, hM, hx⟩ ⟨vb', hc, hB, hx'⟩
      exact ⟨vb', vp, hM.cellSet hB hc, hx'⟩
    case hs =>
      rintro a s w ⟨vb, vp, hM, hx⟩ hf hl
      exact (rd1_any (L := .cell b2 (eRr.f (false, [], [], (none, 0, 0))) 30 :: L) bS bP b3 vb vp s false key [] a wx w1 w hc0 hb0 hM hx hl).mono fun e w' ⟨u, he, h⟩ => ⟨u, he, h⟩
    rintro u w ⟨vb5, vp5, hM, hx5⟩
    generalize timesT 200 pairS s2 = fp at hM hx5 ⊢
    obtain ⟨ps, s5⟩ := fp
    simp only at hM hx5 ⊢
    obtain ⟨A5, c5, rfl, _⟩ := Own.form (hM.row0 (v := vp5) (xs := ps) (by (repeat constructor)))
    repeat (first | ((with_reducible apply is_ld); first | refine kld hM ?_ | refine kldw hM ?_ | refine kle hM ?_ | refine klew hM ?_) | ((with_reducible apply is_sto); first | (refine kst hM ?_; intro w hM) | (refine kstw hM ?_; intro w hM)) | ((with_reducible apply is_st); refine su ?_) | ((with_reducible apply is_gd); first | refine gt ?_ | refine gf ?_ | refine gu ?_) | ((with_reducible apply is_en); refine en ?_) | (with_reducible apply c_region) | refine ws ?_ | refine x_block_other (by decide) ?_)
    refine koc hM rfl ⟨vb5, A5, c5, rfl, hM.sub (by (repeat (first | exact Go.Proofs.E.Sub.refl _ | exact Go.Proofs.E.Sub.nil | (apply Go.Proofs.E.Sub.cons; (repeat (first | exact Go.Proofs.E.Pick.here | apply Go.Proofs.E.Pick.there))) | apply Go.Proofs.E.Sub.tail))), hx5⟩
end Go.Proofs.Ytnkkeehoejmcnaa

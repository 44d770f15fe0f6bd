/- Walks: record.Read: something taken as often as a number says; a read; a record.
   Walks: record.Read's own closures; record.Read.
   Walk: record.Read. -/
import Derived.Test.YtoimhmphhffelaaGreatDoorQReceiptBytes29
import Derived.Test.YtoimhmphhffelaaGreatDoorQReceiptBytes13
set_option linter.unusedVariables false
set_option linter.unusedSimpArgs false
namespace Go.Proofs.YtoimhmphhffelaaGreatDoor
open Go Go.RowKit Go.Proofs.E
attribute [local irreducible] Go.wpList Go.Code.wp Go.Proofs.E.exec Go.Proofs.E.wpLexG
theorem loopT_succ {α : Type} (f : Sr → α × Sr) (n : Nat) (a : List α) (s : Sr) : loopT f (n + 1) a s = if s.2 = true then (a, s) else loopT f n (a ++ [(f s).1]) (f s).2 := rfl
theorem numT_le {most : Nat} {s : Sr} : (numT most s).1 ≤ most := by
  unfold numT
  simp only
  split
  · rename_i h
    have := (gotSt_ok h).1
    rw [Bool.and_eq_true, decide_eq_true_eq] at this
    exact this.2
  · exact Nat.zero_le _
set_option maxHeartbeats 4000000 in
theorem times_any {α : Type} {f : FuncId} {fn : Func} [hf : Fun Tryz.prog f fn] (bS : Nat) (wx : World) (lb : Array Value) (most : Nat) (step : Sr → α × Sr) (Inv : List α → Sr → World → Prop)
    (hI : ∀ a s w, Inv a s w → ∃ vb, Blk w bS (sC vb s.2) 142 ∧ tU8.Rd [] w vb s.1 ∧ tU8.Rd [] wx vb s.1)
    (hnum : ∀ a s w w' s', Inv a s w → Took 142 bS wx w w' s' → Inv a s' w')
    (hstep : ∀ a s w, Inv a s w → s.2 = false → a.length < most → Calls Tryz.prog f lb w (Ret fun u w' => Inv (a ++ [(step s).1]) (step s).2 w'))
    (hm : most ≤ 1000000) (s0 : Sr) (w0 : World) (h0 : Inv [] s0 w0) :
    Calls Tryz.prog 107 #[.pointer (some ⟨bS, 0, none⟩), .int .i64 (most : Int), .func (.func f) #[] lb] w0 (Ret fun u w' => Inv (timesT most step s0).1 (timesT most step s0).2 w') := by
  have hM := Mem.start w0
  obtain ⟨vb, hB, hR, hx⟩ := hI _ _ _ h0
  refine enter [.pointer (some ⟨bS, 0, none⟩), .int .i64 (most : Int), .func (.func f) #[] lb, undef, undef, undef, undef, undef, undef, undef, undef, undef, undef, undef, undef, undef, undef, undef, undef, undef, undef, undef, undef] Tryz.func107 rfl rfl ?_
  repeat (first | refine gw ?_ | (refine ks ?_; intro w hM))
  refine ca (snum_any bS vb s0 most wx w0 hB hR hx (by omega)) ?_
  rintro _ w2 ⟨rfl, ht⟩
  have h1 := hnum _ _ _ _ _ h0 ht
  have hle := numT_le (most := most) (s := s0)
  repeat (first | refine gw ?_ | (refine ks ?_; intro w hM))
  unfold timesT
  clear hB hR hx ht h0 hM
  
  refine c_loop (fun n l w => ∃ (a : List α) (s : Sr), (∃ jj : Nat → Value, l = [.pointer (some ⟨bS, 0, none⟩), jj 1, .func (.func f) #[] lb, jj 3, jj 4, jj 5, .int .i64 (n : Int), jj 7, jj 8, jj 9, jj 10, jj 11, jj 12, jj 13, jj 14, jj 15, jj 16, jj 17, jj 18, jj 19, jj 20, jj 21, jj 22]) ∧ a.length + n ≤ most ∧ Inv a s w ∧ loopT step n a s = loopT step (numT most s0).1 [] (numT most s0).2) (numT most s0).1
    ⟨[], _, exj rfl, by simpa using hle, h1, rfl⟩ ?_
  clear h1
  rintro n l w ⟨a, s, ⟨jj, rfl⟩, hal, hinv, hlp⟩
  obtain ⟨vb, hB, hR, hx⟩ := hI _ _ _ hinv
  have hM := Mem.start w
  repeat (first | refine gw ?_ | (refine ks ?_; intro w hM))
  cases n with
  | zero =>
    rw [decide_eq_false (by omega : ¬ ((0 : Nat) : Int) > 0)]
    repeat (first | refine gw ?_ | (refine ks ?_; intro w hM))
    refine c_condb rfl (fun h => by cases h) (fun _ => ?_)
    repeat (first | refine gw ?_ | (refine ks ?_; intro w hM))
    refine out0 rfl ?_
    rw [← hlp]
    exact hinv
  | succ n =>
    rw [decide_eq_true (by omega : ((n + 1 : Nat) : Int) > 0)]
    obtain ⟨bs, bad⟩ := s
    simp only at hB
    repeat (first | refine gw ?_ | (refine ks ?_; intro w hM))
    rw [loopT_succ] at hlp
    cases bad with
    | true =>
      rw [if_pos rfl] at hlp
      repeat (first | refine gw ?_ | (refine ks ?_; intro w hM))
      refine c_condb rfl (fun h => by cases h) (fun _ => ?_)
      repeat (first | refine gw ?_ | (refine ks ?_; intro w hM))
      refine out0 rfl ?_
      rw [← hlp]
      exact hinv
    | false =>
      rw [if_neg (by simp)] at hlp
      repeat (first | refine gw ?_ | (refine ks ?_; intro w hM))
      refine c_condb rfl (fun _ => ?_) (fun h => by cases h)
      repeat (first | refine gw ?_ | (refine ks ?_; intro w hM))
      refine kcd (vs := []) (lb := lb) (by have := hstep _ _ _ hinv rfl (by omega); simpa using this) (fun v w' hv => ?_)
      repeat (first | refine gw ?_ | (refine ks ?_; intro w hM))
      rw [show ((n + 1 : Nat) : Int) - 1 = (n : Int) by omega]
      exact x_goes n rfl (by omega) ⟨a ++ [(step (bs, false)).1], (step (bs, false)).2, exj rfl, by rw [List.length_append, List.length_singleton]; omega, hv, hlp⟩
theorem offB {wx w1 w : World} {bS : Nat} (h0 : Ch [] wx w1) (h : Ch [bS] w1 w) (hb : wx.heap.size ≤ bS) : Ch [] wx w :=
  h0.trans h (fun _ _ h => h) (fun x hx hm => by simp at hm; omega)
set_option maxHeartbeats 4000000 in
theorem rd1_any {L : List As} (bS bP bX : Nat) (vb vp : Value) (s : Sr) (sc : Bool) (key to : Bs) (ps : List Pr) (wx w1 w : World) (hc0 : Ch [] wx w1) (hb0 : wx.heap.size ≤ bS)
    (hM : Mem [bS] w1 w (.cell bS (sC vb s.2) 142 :: .cell bP [.pointer (some ⟨bS, 0, none⟩)] 140 :: .cell bX [.bool sc, .string (bst key), .string (bst to), vp] 135 :: .row ePr 70 vp ps :: L)) (hx : tU8.Rd [] wx vb s.1) (hl : ps.length < 200) :
    Calls Tryz.prog 151 #[.pointer (some ⟨bP, 0, none⟩), .pointer (some ⟨bX, 0, none⟩)] w (Ret fun u w' => ∃ vb' vp', Mem [bS] w1 w' (.cell bS (sC vb' (pairS s).2.2) 142 :: .cell bP [.pointer (some ⟨bS, 0, none⟩)] 140 :: .cell bX [.bool sc, .string (bst key), .string (bst to), vp'] 135 :: .row ePr 70 vp' (ps ++ [(pairS s).1]) :: L) ∧ tU8.Rd [] wx vb' (pairS s).2.1) := by
  obtain ⟨A, c, rfl⟩ := hx.form
  obtain ⟨Ap, cp, rfl, _⟩ := Own.form (hM.row0 (v := vp) (xs := ps) (by (repeat constructor)))
  unfold pairS
  refine enter [.pointer (some ⟨bP, 0, none⟩), .pointer (some ⟨bX, 0, none⟩), undef, undef, undef, undef, undef, undef, undef, undef, undef, undef, undef, undef, undef] Tryz.func151 rfl rfl ?_
  repeat (first | refine gw ?_ | (refine ks ?_; intro w hM))
  refine ca (stext_any bS _ s 64 wx w (hM.blk (b := bS) (by (repeat constructor))) (hx.ch (offB hc0 hM.ch hb0)) hx (by omega)) ?_
  rintro _ w2 ⟨rfl, vb2, hc, hB2, hx2⟩
  have hM := hM.cellSet hB2 hc
  repeat (first | refine gw ?_ | (refine ks ?_; intro w hM))
  (try ((with_reducible apply is_gd); first | refine gt ?_ | refine gf ?_ | refine gu ?_)); refine wl_val (r_bldS (vs := [(0, .string (bst (strT 64 s).1))]) (ePr.f ((strT 64 s).1, [], false)) (z := [.string (bst []), .string (bst []), .bool false]) (place := (#[(0, 1), (1, 1), (2, 1)][·]?)) (by intro ps; kernel_rfl) rfl (.cons rfl rfl (by simp) (.nil rfl))) ?_
  refine kal hM (fun w b2 hM => ?_)
  refine kstw (vs := ePr.f ((strT 64 s).1, [], false)) hM (fun w hM => ?_) (h1 := ePr.h1 ((strT 64 s).1, [], false))
  repeat (first | refine gw ?_ | (refine ks ?_; intro w hM))
  refine ca (stext_any bS vb2 (strT 64 s).2 256 wx w (hM.blk (b := bS) (by (repeat constructor))) (hx2.ch (offB hc0 hM.ch hb0)) hx2 (by omega)) ?_
  rintro _ w3 ⟨rfl, vb3, hc, hB3, hx3⟩
  have hM := hM.cellSet hB3 hc
  repeat (first | refine gw ?_ | (refine ks ?_; intro w hM))
  refine kpu (en := ePr) ((strT 64 s).1, (strT 256 (strT 64 s).2).1, false) hM (fun _ v13 w hM => ?_)
  obtain ⟨A13, c13, rfl, _⟩ := Own.form (hM.row0 (v := v13) (by (repeat constructor)))
  repeat (first | refine gw ?_ | (refine ks ?_; intro w hM))
  exact out0 rfl ⟨vb3, _, hM.sub (by (repeat (first | exact Go.Proofs.E.Sub.refl _ | exact Go.Proofs.E.Sub.nil | (apply Go.Proofs.E.Sub.cons; (repeat (first | exact Go.Proofs.E.Pick.here | apply Go.Proofs.E.Pick.there))) | apply Go.Proofs.E.Sub.tail))), hx3⟩
/-- What the loop over pairs keeps. -/
def RdInv (L : List As) (wx w1 : World) (bS bP bX : Nat) (sc : Bool) (key to : Bs) (a : List Pr) (s : Sr) (w : World) : Prop :=
  ∃ vb vp, Mem [bS] w1 w (.cell bS (sC vb s.2) 142 :: .cell bP [.pointer (some ⟨bS, 0, none⟩)] 140 :: .cell bX [.bool sc, .string (bst key), .string (bst to), vp] 135 :: .row ePr 70 vp a :: L) ∧ tU8.Rd [] wx vb s.1
set_option maxHeartbeats 4000000 in
theorem sread_any {L : List As} (bS : Nat) (vb : Value) (s : Sr) (wx w1 w : World) (hc0 : Ch [] wx w1) (hb0 : wx.heap.size ≤ bS)
    (hM : Mem [bS] w1 w (.cell bS (sC vb s.2) 142 :: L)) (hx : tU8.Rd [] wx vb s.1) :
    Calls Tryz.prog 109 #[.pointer (some ⟨bS, 0, none⟩)] w (Ret fun u w' => ∃ vb' A c, u = .agg (eRr.f ((readS s).1.1, (readS s).1.2.1, (readS s).1.2.2.1, (A, (readS s).1.2.2.2.length, c))).toArray ∧
      Mem [bS] w1 w' (.cell bS (sC vb' (readS s).2.2) 142 :: .row ePr 70 (.slice A (readS s).1.2.2.2.length c) (readS s).1.2.2.2 :: L) ∧ tU8.Rd [] wx vb' (readS s).2.1) := by
  obtain ⟨A, c, rfl⟩ := hx.form
  unfold readS
  refine enter [.pointer (some ⟨bS, 0, none⟩), undef, undef, undef, undef, undef, undef, undef, undef, undef, undef, undef, undef, undef, undef, undef, undef, undef, undef] Tryz.func109 rfl rfl ?_
  repeat (first | refine gw ?_ | (refine ks ?_; intro w hM))
  refine kbx hM (fun w bP hM => ?_)
  refine kal hM (fun w b2 hM => ?_)
  have hM : Mem [bS] w1 w (.cell b2 (eRr.f (false, [], [], (none, 0, 0))) 135 :: .cell bP [.pointer (some ⟨bS, 0, none⟩)] 140 :: .cell bS (sC (.slice A s.1.length c) s.2) 142 :: L) := hM
  repeat (first | refine gw ?_ | (refine ks ?_; intro w hM))
  refine ca (sflag_any bS _ s wx w (hM.blk (b := bS) (by (repeat constructor))) (hx.ch (offB hc0 hM.ch hb0)) hx) ?_
  rintro _ w2 ⟨rfl, vb2, hc, hB2, hx2⟩
  have hM := hM.cellSet hB2 hc
  generalize flagT s = fl at hB2 hx2 hM ⊢
  obtain ⟨sc, s1⟩ := fl
  simp only at hx2 hM ⊢
  repeat (first | refine gw ?_ | (refine ks ?_; intro w hM))
  (try ((with_reducible apply is_gd); first | refine gt ?_ | refine gf ?_ | refine gu ?_)); refine wl_val (r_bldS (vs := [(0, .bool sc)]) (eRr.f (sc, [], [], (none, 0, 0))) (z := [.bool false, .string (bst []), .string (bst []), .slice none 0 0]) (place := (#[(0, 1), (1, 1), (2, 1), (3, 1)][·]?)) (by intro ps; kernel_rfl) rfl (.cons rfl rfl (by simp) (.nil rfl))) ?_
  refine kal hM (fun w b3 hM => ?_)
  refine kstw (vs := eRr.f (sc, [], [], (none, 0, 0))) hM (fun w hM => ?_) (h1 := eRr.h1 _)
  repeat (first | refine gw ?_ | (refine ks ?_; intro w hM))
  refine ca (stext_any bS vb2 s1 64 wx w (hM.blk (b := bS) (by (repeat constructor))) (hx2.ch (offB hc0 hM.ch hb0)) hx2 (by omega)) ?_
  rintro _ w3 ⟨rfl, vb3, hc, hB3, hx3⟩
  have hM := hM.cellSet hB3 hc
  generalize strT 64 s1 = kk at hB3 hx3 hM ⊢
  obtain ⟨key, s2⟩ := kk
  simp only at hx3 hM ⊢
  repeat (first | refine gw ?_ | (refine ks ?_; intro w hM))
  unfold toS
  cases sc with
  | true =>
    simp only [↓reduceIte, Bool.false_eq_true]
    refine c_condb rfl (fun _ => ?_) (fun h => by cases h)
    repeat (first | refine gw ?_ | (refine ks ?_; intro w hM))
    refine ca (stext_any bS vb3 s2 64 wx w (hM.blk (b := bS) (by (repeat constructor))) (hx3.ch (offB hc0 hM.ch hb0)) hx3 (by omega)) ?_
    rintro _ w4 ⟨rfl, vb4, hc, hB4, hx4⟩
    have hM := hM.cellSet hB4 hc
    generalize strT 64 s2 = tt at hB4 hx4 hM ⊢
    obtain ⟨to, s3⟩ := tt
    simp only at hx4 hM ⊢
    repeat (first | refine gw ?_ | (refine ks ?_; intro w hM))
    (try ((with_reducible apply is_gd); first | refine gt ?_ | refine gf ?_ | refine gu ?_)); refine wl_val (r_makeFunc (cs := [.tmp 1, .tmp 3])) ?_
    have hI : RdInv (.cell b2 (eRr.f (false, [], [], (none, 0, 0))) 135 :: L) wx w1 bS bP b3 true key to [] s3 w := ⟨vb4, .slice none 0 0, (hM.nilRow ePr 70).sub (by (repeat (first | exact Go.Proofs.E.Sub.refl _ | exact Go.Proofs.E.Sub.nil | (apply Go.Proofs.E.Sub.cons; (repeat (first | exact Go.Proofs.E.Pick.here | apply Go.Proofs.E.Pick.there))) | apply Go.Proofs.E.Sub.tail))), hx4⟩
    clear hM
    refine ca (times_any (f := 151) bS wx #[.pointer (some ⟨bP, 0, none⟩), .pointer (some ⟨b3, 0, none⟩)] 200 pairS (RdInv (.cell b2 (eRr.f (false, [], [], (none, 0, 0))) 135 :: L) wx w1 bS bP b3 true key to) ?hI ?hn ?hs (by omega) s3 w hI) ?_
    case hI =>
      rintro a s w ⟨vb, vp, hM, hx⟩
      exact ⟨vb, hM.blk (b := bS) (by (repeat constructor)), hx.ch (offB hc0 hM.ch hb0), hx⟩
    case hn =>
      rintro a s w w' s' ⟨vb, vp, hM, hx⟩ ⟨vb', hc, hB, hx'⟩
      exact ⟨vb', vp, hM.cellSet hB hc, hx'⟩
    case hs =>
      rintro a s w ⟨vb, vp, hM, hx⟩ hf hl
      exact (rd1_any (L := .cell b2 (eRr.f (false, [], [], (none, 0, 0))) 135 :: L) bS bP b3 vb vp s true key to a wx w1 w hc0 hb0 hM hx hl).mono fun e w' ⟨u, he, h⟩ => ⟨u, he, h⟩
    rintro u w ⟨vb5, vp5, hM, hx5⟩
    generalize timesT 200 pairS s3 = fp at hM hx5 ⊢
    obtain ⟨ps, s5⟩ := fp
    simp only at hM hx5 ⊢
    obtain ⟨A5, c5, rfl, _⟩ := Own.form (hM.row0 (v := vp5) (xs := ps) (by (repeat constructor)))
    repeat (first | refine gw ?_ | (refine ks ?_; intro w hM))
    refine koc hM rfl ⟨vb5, A5, c5, rfl, hM.sub (by (repeat (first | exact Go.Proofs.E.Sub.refl _ | exact Go.Proofs.E.Sub.nil | (apply Go.Proofs.E.Sub.cons; (repeat (first | exact Go.Proofs.E.Pick.here | apply Go.Proofs.E.Pick.there))) | apply Go.Proofs.E.Sub.tail))), hx5⟩
  | false =>
    simp only [↓reduceIte, Bool.false_eq_true]
    refine c_condb rfl (fun h => by cases h) (fun _ => ?_)
    repeat (first | refine gw ?_ | (refine ks ?_; intro w hM))
    skip
    (try ((with_reducible apply is_gd); first | refine gt ?_ | refine gf ?_ | refine gu ?_)); refine wl_val (r_makeFunc (cs := [.tmp 1, .tmp 3])) ?_
    have hI : RdInv (.cell b2 (eRr.f (false, [], [], (none, 0, 0))) 135 :: L) wx w1 bS bP b3 false key [] [] s2 w := ⟨vb3, .slice none 0 0, (hM.nilRow ePr 70).sub (by (repeat (first | exact Go.Proofs.E.Sub.refl _ | exact Go.Proofs.E.Sub.nil | (apply Go.Proofs.E.Sub.cons; (repeat (first | exact Go.Proofs.E.Pick.here | apply Go.Proofs.E.Pick.there))) | apply Go.Proofs.E.Sub.tail))), hx3⟩
    clear hM
    refine ca (times_any (f := 151) bS wx #[.pointer (some ⟨bP, 0, none⟩), .pointer (some ⟨b3, 0, none⟩)] 200 pairS (RdInv (.cell b2 (eRr.f (false, [], [], (none, 0, 0))) 135 :: L) wx w1 bS bP b3 false key []) ?hI ?hn ?hs (by omega) s2 w hI) ?_
    case hI =>
      rintro a s w ⟨vb, vp, hM, hx⟩
      exact ⟨vb, hM.blk (b := bS) (by (repeat constructor)), hx.ch (offB hc0 hM.ch hb0), hx⟩
    case hn =>
      rintro a s w w' s' ⟨vb, vp, hM, hx⟩ ⟨vb', hc, hB, hx'⟩
      exact ⟨vb', vp, hM.cellSet hB hc, hx'⟩
    case hs =>
      rintro a s w ⟨vb, vp, hM, hx⟩ hf hl
      exact (rd1_any (L := .cell b2 (eRr.f (false, [], [], (none, 0, 0))) 135 :: L) bS bP b3 vb vp s false key [] a wx w1 w hc0 hb0 hM hx hl).mono fun e w' ⟨u, he, h⟩ => ⟨u, he, h⟩
    rintro u w ⟨vb5, vp5, hM, hx5⟩
    generalize timesT 200 pairS s2 = fp at hM hx5 ⊢
    obtain ⟨ps, s5⟩ := fp
    simp only at hM hx5 ⊢
    obtain ⟨A5, c5, rfl, _⟩ := Own.form (hM.row0 (v := vp5) (xs := ps) (by (repeat constructor)))
    repeat (first | refine gw ?_ | (refine ks ?_; intro w hM))
    refine koc hM rfl ⟨vb5, A5, c5, rfl, hM.sub (by (repeat (first | exact Go.Proofs.E.Sub.refl _ | exact Go.Proofs.E.Sub.nil | (apply Go.Proofs.E.Sub.cons; (repeat (first | exact Go.Proofs.E.Pick.here | apply Go.Proofs.E.Pick.there))) | apply Go.Proofs.E.Sub.tail))), hx5⟩
end Go.Proofs.YtoimhmphhffelaaGreatDoor
set_option linter.unusedVariables false
set_option linter.unusedSimpArgs false
namespace Go.Proofs.E
open Go Go.RowKit
/-- What a call handed back that was given a block: the block as it stands now, and all that is new. -/
theorem Mem.joinO {O : List Nat} {w0 w w' : World} {L M : List As} {b : Nat} {cs cs' : List Value} {E : TypeId} (h : Mem O w0 w (.cell b cs E :: L)) (k : Mem [b] w w' (.cell b cs' E :: M)) (hp : ∀ a ∈ M, a.plain) : Mem O w0 w' (.cell b cs' E :: (M ++ L)) := by
  have h1 : Mem O w0 w' (.cell b cs' E :: L) := h.put (S := [b]) k.ch (fun j hj => show j = b by simpa using hj) k.head (fun j hj => .inl hj)
  have hn : ∀ a ∈ M, ∀ j, a.own j → w.heap.size ≤ j ∧ j ≠ b := fun a ha j hj => by
    have hb : j ≠ b := fun e => (List.pairwise_cons.1 k.dis).1 a ha b rfl (e ▸ hj)
    exact ⟨(k.new a (by simp [ha]) j hj).resolve_right (by simpa using hb), hb⟩
  have hd := List.pairwise_cons.1 h1.dis
  have hk := List.pairwise_cons.1 k.dis
  refine ⟨h1.ch, fun a ha => ?_, fun a ha j hj => ?_, List.pairwise_cons.2 ⟨fun a ha j hj hja => ?_, List.pairwise_append.2 ⟨hk.2, hd.2, fun a ha c hc j hj hj' => ?_⟩⟩⟩
  · rcases List.mem_cons.1 ha with rfl | ha
    · exact h1.head
    rcases List.mem_append.1 ha with ha | ha
    · exact a.free (hp a ha) (k.all a (by simp [ha]))
    · exact h1.all a (by simp [ha])
  · rcases List.mem_cons.1 ha with rfl | ha
    · exact h1.new _ (by simp) j hj
    rcases List.mem_append.1 ha with ha | ha
    · exact .inl (Nat.le_trans h.ch.size (hn a ha j hj).1)
    · exact h1.new a (by simp [ha]) j hj
  · rcases List.mem_append.1 ha with ha | ha
    · exact (hn a ha j hja).2 hj
    · exact hd.1 a ha j hj hja
  · have h2 := (hn a ha j hj).1
    have h3 := c.lt (h.all c (by simp [hc])) j hj'
    omega
end Go.Proofs.E
namespace Go.Proofs.YtoimhmphhffelaaGreatDoor
open Go Go.RowKit Go.Proofs.E
attribute [local irreducible] Go.wpList Go.Code.wp Go.Proofs.E.exec Go.Proofs.E.wpLexG
/-- What the loop over reads keeps. -/
def RdInv1 (L : List As) (w0 : World) (bS bP bR : Nat) (ses snap : Nat) (strict : Bool) (a : List Dat) (s : Sr) (w : World) : Prop :=
  ∃ (vb : Value) (vr : Value) (us : List (RR × List Pr)), us.map dat = a ∧ Mem [] w0 w (.cell bS (sC vb s.2) 142 :: .cell bP [.pointer (some ⟨bS, 0, none⟩)] 140 :: .cell bR (rC (ses : Int) (snap : Int) strict vr (.slice none 0 0)) 25 :: .row eRr 135 vr (us.map (fun u : RR × List Pr => u.1)) :: (us.map prow ++ L)) ∧ tU8.Rd [] w0 vb s.1
theorem perm1b {α : Type 1} {A B C D : α} {T L : List α} {x : α} : (C :: D :: A :: x :: B :: (T ++ L)).Perm (A :: B :: C :: D :: ((T ++ [x]) ++ L)) := by
  classical exact List.perm_iff_count.2 (fun y => by simp only [List.count_cons, List.count_append, List.count_nil]; omega)
set_option maxHeartbeats 4000000 in
theorem rdA_any {L : List As} (bS bP bR : Nat) (ses snap : Nat) (strict : Bool) (a : List Dat) (s : Sr) (w0 w : World) (hI : RdInv1 L w0 bS bP bR ses snap strict a s w) (hl : a.length < 64) :
    Calls Tryz.prog 108 #[.pointer (some ⟨bR, 0, none⟩), .pointer (some ⟨bP, 0, none⟩)] w (Ret fun u w' => RdInv1 L w0 bS bP bR ses snap strict (a ++ [(readS s).1]) (readS s).2 w') := by
  obtain ⟨vb, vr, us, rfl, hM, hx⟩ := hI
  rw [List.length_map] at hl
  obtain ⟨A, c, rfl, _⟩ := Own.form (hM.row (v := vr) (xs := us.map (fun u : RR × List Pr => u.1)) (by (repeat constructor)))
  rw [List.length_map] at hM
  have hbS := hM.ge (b := bS) (by (repeat constructor))
  refine enter [.pointer (some ⟨bR, 0, none⟩), .pointer (some ⟨bP, 0, none⟩), undef, undef, undef, undef, undef, undef, undef] Tryz.func108 rfl rfl ?_
  repeat (first | refine gwb ?_ | (refine ks ?_; intro w hM))
  refine c_ordY ([5, 7], []) [bS] (by kernel_rfl) (by kernel_rfl) (by kernel_rfl) (fun w hc hs => ?_)
  have hM := hM.call hc
  have hl1 := Blk.lt (hM.blk (b := bR) (by (repeat constructor)))
  have hl2 := Blk.lt (hM.blk (b := bP) (by (repeat constructor)))
  (first | refine yn 0 rfl ?_ | refine ynt 0 rfl ?_ | refine ynff 0 rfl ?_)
  refine ynl 1 rfl (hM.blk (b := bR) (by (repeat constructor))) (by omega) (hM.nin (b := bS) (c := bR) (by (repeat constructor)) (by (repeat constructor))) rfl rfl ?_
  refine ynl 2 rfl (hM.blk (b := bP) (by (repeat constructor))) (by omega) (hM.nin (b := bS) (c := bP) (by (repeat constructor)) (by (repeat constructor))) rfl rfl ?_
  refine yk1 3 hM (by kernel_rfl) rfl (fun w h0 hM => ?_)
  refine ca (sread_any (L := []) bS vb s w0 w w hM.ch hbS (Mem.take (hM.blk (b := bS) (by (repeat constructor)))) hx) ?_
  rintro _ w3 ⟨vb3, A3, c3, rfl, hK, hx3⟩
  have hbw := hK.ch.bwn (N := _) (S := [bS]) h0 (.inr (by simp))
  have hM := hM.joinO hK (by intro a ha; simp at ha; subst ha; trivial)
  refine x_wy (.inl hbw) rfl ?_
  obtain ⟨rd, hrd⟩ : ∃ rd : RR × List Pr, rd = (((readS s).1.1, (readS s).1.2.1, (readS s).1.2.2.1, (A3, (readS s).1.2.2.2.length, c3)), (readS s).1.2.2.2) := ⟨_, rfl⟩
  have hdat : dat rd = (readS s).1 := by rw [hrd]; rfl
  have hM : Mem [] w0 w3 (.cell bS (sC vb3 (readS s).2.2) 142 :: prow rd :: .cell bP [.pointer (some ⟨bS, 0, none⟩)] 140 :: .cell bR (rC ses snap strict (.slice A us.length c) (.slice none 0 0)) 25 :: .row eRr 135 (.slice A us.length c) (us.map (fun u : RR × List Pr => u.1)) :: (us.map prow ++ L)) := by
    rw [hrd]
    exact hM
  rw [show ((readS s).1.1, (readS s).1.2.1, (readS s).1.2.2.1, (A3, (readS s).1.2.2.2.length, c3)) = rd.1 by rw [hrd]]
  clear hK
  refine yk1 4 hM (by kernel_rfl) rfl (fun w h0 hM => ?_)
  refine kbsC (en := eRr) (vs := [.agg (eRr.f rd.1).toArray]) [rd.1] hM (fun w b hc hM => ?_) (hxs := by simp [Value.cells])
  refine x_wy (.inl (hc.gy h0)) rfl ?_
  refine yk1 5 hM (by kernel_rfl) rfl (fun w h0 hM => ?_)
  have hR1 := hM.rowRdO (en := eRr) (v := .slice (some ⟨b, 0, none⟩) 1 1) (xs := [rd.1]) (by (repeat constructor))
  refine kapC (en := eRr) (v := .slice A us.length c) (xs := us.map (fun u : RR × List Pr => u.1)) (ys := [rd.1]) hM hR1 (fun v7 w hs hM => ?_) (hb := by simp; omega) (h63 := by simp; omega)
  refine x_wy (.inr ⟨by decide, Nat.le_trans h0 hs⟩) rfl ?_
  obtain ⟨A7, c7, rfl, _⟩ := Own.form (hM.row (v := v7) (by (repeat constructor)))
  (first | refine yn 6 rfl ?_ | refine ynt 6 rfl ?_ | refine ynff 6 rfl ?_)
  refine yk1 7 hM (by kernel_rfl) rfl (fun w h0 hM => ?_)
  refine kstC hM (fun w hc hM => ?_)
  refine x_wy (.inr ⟨by decide, Nat.le_trans h0 hc.size⟩) rfl ?_
  refine wy_done (by kernel_rfl) (fun w hc => ?_)
  have hM := hM.call hc
  refine out0 rfl ⟨vb3, .slice A7 (us.map (fun u : RR × List Pr => u.1) ++ [rd.1]).length c7, us ++ [rd], by rw [List.map_append]; simp [hdat], ?_, hx3⟩
  rw [List.map_append, List.map_append]
  refine (hM.pick (a := .row eRr 135 (.slice (some ⟨b, 0, none⟩) 1 1) [rd.1]) (by (repeat constructor))).drop.perm ?_
  exact perm1b
/-- What the loop over writes keeps. -/
def RdInv2 (L : List As) (w0 : World) (bS bP bR : Nat) (ses snap : Nat) (strict : Bool) (vr : Value) (a : List Pr) (s : Sr) (w : World) : Prop :=
  ∃ (vb : Value) (vw : Value), Mem [] w0 w (.cell bS (sC vb s.2) 142 :: .cell bP [.pointer (some ⟨bS, 0, none⟩)] 140 :: .cell bR (rC (ses : Int) (snap : Int) strict vr vw) 25 :: .row ePr 70 vw a :: L) ∧ tU8.Rd [] w0 vb s.1
set_option maxHeartbeats 4000000 in
theorem rdB_any {L : List As} (bS bP bR : Nat) (ses snap : Nat) (strict : Bool) (vr : Value) (a : List Pr) (s : Sr) (w0 w : World) (hI : RdInv2 L w0 bS bP bR ses snap strict vr a s w) (hl : a.length < 64) :
    Calls Tryz.prog 110 #[.pointer (some ⟨bP, 0, none⟩), .pointer (some ⟨bR, 0, none⟩)] w (Ret fun u w' => RdInv2 L w0 bS bP bR ses snap strict vr (a ++ [(writeS s).1]) (writeS s).2 w') := by
  obtain ⟨vb, vw, hM, hx⟩ := hI
  obtain ⟨A, c, rfl, _⟩ := Own.form (hM.row (v := vw) (xs := a) (by (repeat constructor)))
  unfold writeS
  refine enter [.pointer (some ⟨bP, 0, none⟩), .pointer (some ⟨bR, 0, none⟩), undef, undef, undef, undef, undef, undef, undef, undef, undef, undef, undef, undef, undef, undef, undef, undef, undef, undef, undef] Tryz.func110 rfl rfl ?_
  repeat (first | refine gw ?_ | (refine ks ?_; intro w hM))
  refine ca (stext_any bS vb s 64 w0 w (hM.blk (b := bS) (by (repeat constructor))) (hx.ch hM.ch) hx (by omega)) ?_
  rintro _ w3 ⟨rfl, vb3, hc, hB3, hx3⟩
  have hM := hM.cellSet hB3 hc
  generalize strT 64 s = kk at hB3 hx3 hM ⊢
  obtain ⟨key, s2⟩ := kk
  simp only at hx3 hM ⊢
  repeat (first | refine gw ?_ | (refine ks ?_; intro w hM))
  (try ((with_reducible apply is_gd); first | refine gt ?_ | refine gf ?_ | refine gu ?_)); refine wl_val (r_bldS (vs := [(0, .string (bst key))]) (ePr.f (key, [], false)) (z := [.string (bst []), .string (bst []), .bool false]) (place := (#[(0, 1), (1, 1), (2, 1)][·]?)) (by intro ps; kernel_rfl) rfl (.cons rfl rfl (by simp) (.nil rfl))) ?_
  refine kal hM (fun w b2 hM => ?_)
  refine kstw (vs := ePr.f (key, [], false)) hM (fun w hM => ?_) (h1 := ePr.h1 _)
  repeat (first | refine gw ?_ | (refine ks ?_; intro w hM))
  refine ca (sflag_any bS vb3 s2 w0 w (hM.blk (b := bS) (by (repeat constructor))) (hx3.ch hM.ch) hx3) ?_
  rintro _ w4 ⟨rfl, vb4, hc, hB4, hx4⟩
  have hM := hM.cellSet hB4 hc
  generalize flagT s2 = fl at hB4 hx4 hM ⊢
  obtain ⟨d, s3⟩ := fl
  simp only at hx4 hM ⊢
  unfold valS
  cases d with
  | true =>
    simp only [↓reduceIte, Bool.false_eq_true]
    repeat (first | refine gw ?_ | (refine ks ?_; intro w hM))
    refine c_condb rfl (fun h => by cases h) (fun _ => ?_)
    repeat (first | refine gw ?_ | (refine ks ?_; intro w hM))
    skip
    refine kpu (en := ePr) (key, [], true) hM (fun _ v13 w hM => ?_)
    obtain ⟨A13, c13, rfl, _⟩ := Own.form (hM.row (v := v13) (by (repeat constructor)))
    repeat (first | refine gw ?_ | (refine ks ?_; intro w hM))
    exact out0 rfl ⟨vb4, _, hM.sub (by (repeat (first | exact Go.Proofs.E.Sub.refl _ | exact Go.Proofs.E.Sub.nil | (apply Go.Proofs.E.Sub.cons; (repeat (first | exact Go.Proofs.E.Pick.here | apply Go.Proofs.E.Pick.there))) | apply Go.Proofs.E.Sub.tail))), hx4⟩
  | false =>
    simp only [↓reduceIte, Bool.false_eq_true]
    repeat (first | refine gw ?_ | (refine ks ?_; intro w hM))
    refine c_condb rfl (fun _ => ?_) (fun h => by cases h)
    repeat (first | refine gw ?_ | (refine ks ?_; intro w hM))
    refine ca (stext_any bS vb4 s3 256 w0 w (hM.blk (b := bS) (by (repeat constructor))) (hx4.ch hM.ch) hx4 (by omega)) ?_
    rintro _ w5 ⟨rfl, vb5, hc, hB5, hx5⟩
    have hM := hM.cellSet hB5 hc
    generalize strT 256 s3 = tt at hB5 hx5 hM ⊢
    obtain ⟨val, s4⟩ := tt
    simp only at hx5 hM ⊢
    repeat (first | refine gw ?_ | (refine ks ?_; intro w hM))
    refine kpu (en := ePr) (key, val, false) hM (fun _ v13 w hM => ?_)
    obtain ⟨A13, c13, rfl, _⟩ := Own.form (hM.row (v := v13) (by (repeat constructor)))
    repeat (first | refine gw ?_ | (refine ks ?_; intro w hM))
    exact out0 rfl ⟨vb5, _, hM.sub (by (repeat (first | exact Go.Proofs.E.Sub.refl _ | exact Go.Proofs.E.Sub.nil | (apply Go.Proofs.E.Sub.cons; (repeat (first | exact Go.Proofs.E.Pick.here | apply Go.Proofs.E.Pick.there))) | apply Go.Proofs.E.Sub.tail))), hx5⟩
end Go.Proofs.YtoimhmphhffelaaGreatDoor
set_option linter.unusedVariables false
set_option linter.unusedSimpArgs false
namespace Go.Proofs.YtoimhmphhffelaaGreatDoor
open Go Go.RowKit Go.Proofs.E
attribute [local irreducible] Go.wpList Go.Code.wp Go.Proofs.E.exec Go.Proofs.E.wpLexG
theorem bEq_any (v1 v2 : Value) (a b : List UInt8) (w : World) (h1 : tU8.Rd [] w v1 a) (h2 : tU8.Rd [] w v2 b) :
    Calls Tryz.prog 113 #[v1, v2] w (Ret fun u w' => u = .bool (decide (a = b)) ∧ w' = w) := by
  refine enter [v1, v2, undef, undef, undef, undef, undef, undef, undef, undef] Tryz.func113 rfl rfl ?_
  (try refine wk ?_)
  (try ((with_reducible apply is_gd); first | refine gt ?_ | refine gf ?_ | refine gu ?_)); refine wl_val (r_b2s h1) ?_
  (try refine wk ?_)
  (try ((with_reducible apply is_gd); first | refine gt ?_ | refine gf ?_ | refine gu ?_)); refine wl_val (r_b2s h2) ?_
  (try ((with_reducible apply is_gd); first | refine gt ?_ | refine gf ?_ | refine gu ?_)); refine wl_val (r_eqst) ?_
  (try refine wk ?_)
  exact out1 rfl ⟨rfl, rfl⟩
/-- What record.Read hands back. -/
def ReadPost (bs : Bs) (w0 : World) (u : Value) (w' : World) : Prop :=
  ∃ (vr vw : Value) (us : List (RR × List Pr)), u = .tuple #[.agg (rC (resR (readZ bs)).1 (resR (readZ bs)).2.1 (resR (readZ bs)).2.2.1 vr vw).toArray, .int .i64 (errR (readZ bs))] ∧ us.map dat = (resR (readZ bs)).2.2.2.1 ∧ Mem [] w0 w' (rows16 vr vw us (resR (readZ bs)).2.2.2.2)
theorem readPost_none {bs : Bs} {w0 w : World} {L : List As} (hz : readZ bs = none) (hM : Mem [] w0 w L) : ReadPost bs w0 (.tuple #[.agg (rC 0 0 false (.slice none 0 0) (.slice none 0 0)).toArray, .int .i64 4]) w := by
  unfold ReadPost
  rw [hz]
  exact ⟨_, _, [], rfl, rfl, (hM.nil.nilRow ePr 70).nilRow eRr 135⟩
theorem readZ_long {bs : Bs} (h : 8192 < bs.length) : readZ bs = none := by
  unfold readZ
  rw [if_pos h]
theorem readZ_bad {bs : Bs} (h : (recS (bs, false)).2.2 = true ∨ (recS (bs, false)).2.1 ≠ [] ∨ goodV (recS (bs, false)).1 = false) : readZ bs = none := by
  unfold readZ
  by_cases hl : 8192 < bs.length
  · rw [if_pos hl]
  · rw [if_neg hl, if_pos h]
theorem readZ_good {bs : Bs} (hl : ¬ 8192 < bs.length) (h1 : (recS (bs, false)).2.2 = false) (h2 : (recS (bs, false)).2.1 = []) (h3 : goodV (recS (bs, false)).1 = true) : readZ bs = some (recS (bs, false)).1 := by
  unfold readZ
  rw [if_neg hl, if_neg]
  rintro (h | h | h)
  · rw [h1] at h
    cases h
  · exact h h2
  · rw [h3] at h
    cases h
theorem recS_eq (s : Sr) : recS s = (((numT 8 s).1, (numT 1099511627776 (numT 8 s).2).1, (flagT (numT 1099511627776 (numT 8 s).2).2).1, (timesT 64 readS (flagT (numT 1099511627776 (numT 8 s).2).2).2).1, (timesT 64 writeS (timesT 64 readS (flagT (numT 1099511627776 (numT 8 s).2).2).2).2).1), (timesT 64 writeS (timesT 64 readS (flagT (numT 1099511627776 (numT 8 s).2).2).2).2).2) := rfl
set_option maxHeartbeats 16000000 in
theorem recRead_any (v : Value) (bs : Bs) (w0 : World) (hR : tU8.Rd [] w0 v bs) :
    Calls Tryz.prog 43 #[v] w0 (Ret fun u w' => ReadPost bs w0 u w') := by
  have hM := Mem.start w0
  have hle := hR.le
  obtain ⟨A, c, rfl⟩ := hR.form
  refine enter [.slice A bs.length c, undef, undef, undef, undef, undef, undef, undef, undef, undef, undef, undef, undef, undef, undef, undef, undef, undef, undef, undef, undef, undef, undef, undef, undef, undef, undef, undef, undef, undef, undef, undef, undef, undef, undef, undef, undef, undef, undef, undef, undef, undef, undef, undef, undef, undef, undef, undef, undef, undef, undef, undef, undef, undef] Tryz.func43 rfl rfl ?_
  repeat (first | refine gw ?_ | (refine ks ?_; intro w hM))
  refine kal hM (fun w b2 hM => ?_)
  have hM : Mem [] w0 w [.cell b2 (rC 0 0 false (.slice none 0 0) (.slice none 0 0)) 25] := hM
  repeat (first | refine gw ?_ | (refine ks ?_; intro w hM))
  by_cases q : 8192 < bs.length
  · rw [decide_eq_true (by omega : (8192 : Int) < (bs.length : Int))]
    refine c_condb rfl (fun _ => ?_) (fun h => by cases h)
    repeat (first | refine gw ?_ | (refine ks ?_; intro w hM))
    (try ((with_reducible apply is_gd); first | refine gt ?_ | refine gf ?_ | refine gu ?_)); refine wl_val (r_bldS (vs := []) (rC 0 0 false (.slice none 0 0) (.slice none 0 0)) (z := rC 0 0 false (.slice none 0 0) (.slice none 0 0)) (place := (#[(0, 1), (1, 1), (2, 1), (3, 1), (4, 1)][·]?)) (by intro ps; kernel_rfl) rfl (.nil rfl)) ?_
    repeat (first | refine gw ?_ | (refine ks ?_; intro w hM))
    exact koc2 hM rfl (readPost_none (readZ_long q) hM)
  rw [decide_eq_false (by omega : ¬ (8192 : Int) < (bs.length : Int))]
  refine c_condb rfl (fun h => by cases h) (fun _ => ?_)
  repeat (first | refine gw ?_ | (refine ks ?_; intro w hM))
  (try ((with_reducible apply is_gd); first | refine gt ?_ | refine gf ?_ | refine gu ?_)); refine wl_val (r_bldS (vs := [(0, .slice A bs.length c)]) (sC (.slice A bs.length c) false) (z := sC (.slice none 0 0) false) (place := (#[(0, 1), (1, 1)][·]?)) (by intro ps; kernel_rfl) rfl (.cons rfl rfl (by simp) (.nil rfl))) ?_
  refine kbx (v := .agg (sC (.slice A bs.length c) false).toArray) hM (fun w bS hM => ?_)
  have hM : Mem [] w0 w [.cell bS (sC (.slice A bs.length c) false) 142, .cell b2 (rC 0 0 false (.slice none 0 0) (.slice none 0 0)) 25] := hM
  refine kal hM (fun w bP hM => ?_)
  repeat (first | refine gw ?_ | (refine ks ?_; intro w hM))
  obtain ⟨s, hs⟩ : ∃ s : Sr, s = (bs, false) := ⟨_, rfl⟩
  have hx : tU8.Rd [] w0 (.slice A bs.length c) s.1 := by rw [hs]; exact hR
  have hM : Mem [] w0 w [.cell bP [.pointer (some ⟨bS, 0, none⟩)] 140, .cell bS (sC (.slice A bs.length c) s.2) 142, .cell b2 (rC 0 0 false (.slice none 0 0) (.slice none 0 0)) 25] := by rw [hs]; exact hM
  have hrec := recS_eq s
  refine ca (snum_any bS _ s 8 w0 w (hM.blk (b := bS) (by (repeat constructor))) (hx.ch hM.ch) hx (by omega)) ?_
  rintro _ w1 ⟨rfl, vb1, hc, hB1, hx1⟩
  have hM := hM.cellSet hB1 hc
  generalize numT 8 s = n1 at hB1 hx1 hM hrec ⊢
  obtain ⟨ses, s1⟩ := n1
  simp only at hx1 hM hrec ⊢
  repeat (first | refine gw ?_ | (refine ks ?_; intro w hM))
  (try ((with_reducible apply is_gd); first | refine gt ?_ | refine gf ?_ | refine gu ?_)); refine wl_val (r_bldS (vs := [(0, .int .i64 (ses : Int))]) (rC ses 0 false (.slice none 0 0) (.slice none 0 0)) (z := rC 0 0 false (.slice none 0 0) (.slice none 0 0)) (place := (#[(0, 1), (1, 1), (2, 1), (3, 1), (4, 1)][·]?)) (by intro ps; kernel_rfl) rfl (.cons rfl rfl (by simp) (.nil rfl))) ?_
  refine kal hM (fun w bR hM => ?_)
  refine kstw (vs := rC ses 0 false (.slice none 0 0) (.slice none 0 0)) hM (fun w hM => ?_)
  repeat (first | refine gw ?_ | (refine ks ?_; intro w hM))
  refine ca (snum_any bS _ s1 1099511627776 w0 w (hM.blk (b := bS) (by (repeat constructor))) (hx1.ch hM.ch) hx1 (by omega)) ?_
  rintro _ w2 ⟨rfl, vb2, hc, hB2, hx2⟩
  have hM := hM.cellSet hB2 hc
  generalize numT 1099511627776 s1 = n2 at hB2 hx2 hM hrec ⊢
  obtain ⟨snap, s2⟩ := n2
  simp only at hx2 hM hrec ⊢
  repeat (first | refine gw ?_ | (refine ks ?_; intro w hM))
  refine ca (sflag_any bS _ s2 w0 w (hM.blk (b := bS) (by (repeat constructor))) (hx2.ch hM.ch) hx2) ?_
  rintro _ w3 ⟨rfl, vb3, hc, hB3, hx3⟩
  have hM := hM.cellSet hB3 hc
  generalize flagT s2 = n3 at hB3 hx3 hM hrec ⊢
  obtain ⟨strict, s3⟩ := n3
  simp only at hx3 hM hrec ⊢
  repeat (first | refine gw ?_ | (refine ks ?_; intro w hM))
  (try ((with_reducible apply is_gd); first | refine gt ?_ | refine gf ?_ | refine gu ?_)); refine wl_val (r_makeFunc (cs := [.tmp 5, .tmp 4])) ?_
  have hI : RdInv1 [.cell b2 (rC 0 0 false (.slice none 0 0) (.slice none 0 0)) 25] w0 bS bP bR ses snap strict [] s3 w := ⟨vb3, .slice none 0 0, [], rfl, (hM.nilRow eRr 135).sub (by (repeat constructor)), hx3⟩
  clear hM
  refine ca (times_any (f := 108) bS w0 #[.pointer (some ⟨bR, 0, none⟩), .pointer (some ⟨bP, 0, none⟩)] 64 readS (RdInv1 [.cell b2 (rC 0 0 false (.slice none 0 0) (.slice none 0 0)) 25] w0 bS bP bR ses snap strict) ?hI ?hn ?hs (by omega) s3 w hI) ?_
  case hI =>
    rintro a s w ⟨vb, vr, us, _, hM, hx⟩
    exact ⟨vb, hM.blk (b := bS) (by (repeat constructor)), hx.ch hM.ch, hx⟩
  case hn =>
    rintro a s w w' s' ⟨vb, vr, us, he, hM, hx⟩ ⟨vb', hc, hB, hx'⟩
    exact ⟨vb', vr, us, he, hM.cellSet hB hc, hx'⟩
  case hs =>
    intro a s w hI hf hl
    exact rdA_any bS bP bR ses snap strict a s w0 w hI hl
  rintro u4 w ⟨vb4, vr, us, hus, hM, hx4⟩
  generalize timesT 64 readS s3 = n4 at hus hM hx4 hrec ⊢
  obtain ⟨ds, s4⟩ := n4
  simp only at hus hM hx4 hrec ⊢
  subst hus
  repeat (first | refine gw ?_ | (refine ks ?_; intro w hM))
  (try ((with_reducible apply is_gd); first | refine gt ?_ | refine gf ?_ | refine gu ?_)); refine wl_val (r_makeFunc (cs := [.tmp 4, .tmp 5])) ?_
  have hI : RdInv2 (.row eRr 135 vr (us.map (fun u : RR × List Pr => u.1)) :: (us.map prow ++ [.cell b2 (rC 0 0 false (.slice none 0 0) (.slice none 0 0)) 25])) w0 bS bP bR ses snap strict vr [] s4 w :=
    ⟨vb4, .slice none 0 0, (hM.nilRow ePr 70).perm (by classical exact List.perm_iff_count.2 (fun x => by simp only [List.count_cons] <;> omega)), hx4⟩
  obtain ⟨LL, hLL⟩ : ∃ LL, LL = (.row eRr 135 vr (us.map (fun u : RR × List Pr => u.1)) :: (us.map prow ++ [.cell b2 (rC 0 0 false (.slice none 0 0) (.slice none 0 0)) 25]) : List As) := ⟨_, rfl⟩
  rw [← hLL] at hI
  clear hM
  refine ca (times_any (f := 110) bS w0 #[.pointer (some ⟨bP, 0, none⟩), .pointer (some ⟨bR, 0, none⟩)] 64 writeS (RdInv2 LL w0 bS bP bR ses snap strict vr) ?hI ?hn ?hs (by omega) s4 w hI) ?_
  case hI =>
    rintro a s w ⟨vb, vw, hM, hx⟩
    exact ⟨vb, hM.blk (b := bS) (by (repeat constructor)), hx.ch hM.ch, hx⟩
  case hn =>
    rintro a s w w' s' ⟨vb, vw, hM, hx⟩ ⟨vb', hc, hB, hx'⟩
    exact ⟨vb', vw, hM.cellSet hB hc, hx'⟩
  case hs =>
    intro a s w hI hf hl
    exact rdB_any bS bP bR ses snap strict vr a s w0 w hI hl
  rintro u5 w ⟨vb5, vw, hM, hx5⟩
  generalize timesT 64 writeS s4 = n5 at hM hx5 hrec ⊢
  obtain ⟨wz, rest, bad⟩ := n5
  simp only at hM hx5 hrec ⊢
  rw [hLL] at hM
  clear hLL hI
  have hM : Mem [] w0 w (.cell bS (sC vb5 bad) 142 :: .cell bP [.pointer (some ⟨bS, 0, none⟩)] 140 :: .cell bR (rC ses snap strict vr vw) 25 :: .cell b2 (rC 0 0 false (.slice none 0 0) (.slice none 0 0)) 25 :: rows16 vr vw us wz) := hM.perm (by
    classical exact List.perm_iff_count.2 (fun x => by simp only [rows16, List.count_cons, List.count_append, List.count_nil] <;> omega))
  rw [hs] at hrec
  have hsm := recS_sm (bs, false)
  have hdone := recS_whole (bs := bs)
  rw [hrec] at hsm hdone
  simp only at hsm hdone
  obtain ⟨hk, hb⟩ := smV_short (us := us) hsm rfl
  have hbad := readZ_bad (bs := bs)
  have hgd := readZ_good (bs := bs) q
  rw [hrec] at hbad hgd
  simp only at hbad hgd
  obtain ⟨A5, c5, rfl⟩ := hx5.form
  obtain ⟨TL, hTL⟩ : ∃ TL, TL = rows16 vr vw us wz := ⟨_, rfl⟩
  rw [← hTL] at hM
  have hrows : ∀ {w}, Mem [] w0 w (.cell bS (sC (.slice A5 rest.length c5) bad) 142 :: .cell bP [.pointer (some ⟨bS, 0, none⟩)] 140 :: .cell bR (rC ses snap strict vr vw) 25 :: .cell b2 (rC 0 0 false (.slice none 0 0) (.slice none 0 0)) 25 :: TL) → RecM w vr vw us wz := fun hM => rows_recM (hM.drop.drop.drop.drop.perm (by rw [hTL]))
  clear hrec
  repeat (first | refine gw ?_ | (refine ks ?_; intro w hM))
  cases bad with
  | true =>
    repeat (first | refine gw ?_ | (refine ks ?_; intro w hM))
    refine c_condb rfl (fun _ => ?_) (fun h => by cases h)
    repeat (first | refine gw ?_ | (refine ks ?_; intro w hM))
    (try ((with_reducible apply is_gd); first | refine gt ?_ | refine gf ?_ | refine gu ?_)); refine wl_val (r_bldS (vs := []) (rC 0 0 false (.slice none 0 0) (.slice none 0 0)) (z := rC 0 0 false (.slice none 0 0) (.slice none 0 0)) (place := (#[(0, 1), (1, 1), (2, 1), (3, 1), (4, 1)][·]?)) (by intro ps; kernel_rfl) rfl (.nil rfl)) ?_
    repeat (first | refine gw ?_ | (refine ks ?_; intro w hM))
    exact koc2 hM rfl (readPost_none (hbad (.inl rfl)) hM)
  | false =>
    repeat (first | refine gw ?_ | (refine ks ?_; intro w hM))
    by_cases q1 : (0 : Int) < (rest.length : Int)
    · rw [decide_eq_true q1]
      repeat (first | refine gw ?_ | (refine ks ?_; intro w hM))
      refine c_condb rfl (fun _ => ?_) (fun h => by cases h)
      repeat (first | refine gw ?_ | (refine ks ?_; intro w hM))
      (try ((with_reducible apply is_gd); first | refine gt ?_ | refine gf ?_ | refine gu ?_)); refine wl_val (r_bldS (vs := []) (rC 0 0 false (.slice none 0 0) (.slice none 0 0)) (z := rC 0 0 false (.slice none 0 0) (.slice none 0 0)) (place := (#[(0, 1), (1, 1), (2, 1), (3, 1), (4, 1)][·]?)) (by intro ps; kernel_rfl) rfl (.nil rfl)) ?_
      repeat (first | refine gw ?_ | (refine ks ?_; intro w hM))
      exact koc2 hM rfl (readPost_none (hbad (.inr (.inl (by intro h; subst h; simp at q1)))) hM)
    rw [decide_eq_false q1]
    have hrest : rest = [] := List.eq_nil_of_length_eq_zero (by omega)
    have hbs := hdone rfl hrest
    repeat (first | refine gw ?_ | (refine ks ?_; intro w hM))
    (try ((with_reducible apply is_gd); first | refine gt ?_ | refine gf ?_ | refine gu ?_)); refine kca hM (recGood_any ses snap strict vr vw us wz w (hrows hM).r (hrows hM).u (hrows hM).w hk hb) (fun w hM => ?_)
    rw [recGood_V]
    cases hg : goodV (ses, snap, strict, us.map dat, wz) with
    | false =>
      repeat (first | refine gw ?_ | (refine ks ?_; intro w hM))
      refine c_condb rfl (fun _ => ?_) (fun h => by cases h)
      repeat (first | refine gw ?_ | (refine ks ?_; intro w hM))
      (try ((with_reducible apply is_gd); first | refine gt ?_ | refine gf ?_ | refine gu ?_)); refine wl_val (r_bldS (vs := []) (rC 0 0 false (.slice none 0 0) (.slice none 0 0)) (z := rC 0 0 false (.slice none 0 0) (.slice none 0 0)) (place := (#[(0, 1), (1, 1), (2, 1), (3, 1), (4, 1)][·]?)) (by intro ps; kernel_rfl) rfl (.nil rfl)) ?_
      repeat (first | refine gw ?_ | (refine ks ?_; intro w hM))
      exact koc2 hM rfl (readPost_none (hbad (.inr (.inr hg))) hM)
    | true =>
      have hbytes : recB ses snap strict us wz = bs := by rw [hbs, recD_dat]
      obtain ⟨hright, _⟩ := goodV_parts hg
      rw [rightB_dat (vs := us) (map_undat _)] at hright
      have hsmall := right_small hright
      obtain ⟨⟨g1, g2, g3, g4, _⟩, _⟩ := right_parts hright
      simp only at g1 g2 g3 g4
      repeat (first | refine gw ?_ | (refine ks ?_; intro w hM))
      (try ((with_reducible apply is_gd); first | refine gt ?_ | refine gf ?_ | refine gu ?_)); refine kcr hM (written_any ses snap strict vr vw us wz w (hrows hM).r (hrows hM).u (hrows hM).w hsmall (by omega) (by omega)) (fun v47 w hM => ?_)
      rw [hbytes] at hM
      obtain ⟨A47, c47, rfl, _⟩ := Own.form (hM.row (v := v47) (xs := bs) (by (repeat constructor)))
      repeat (first | refine gw ?_ | (refine ks ?_; intro w hM))
      (try ((with_reducible apply is_gd); first | refine gt ?_ | refine gf ?_ | refine gu ?_)); refine kcs (bEq_any _ _ bs bs w (hM.rowRdO (en := eU8) (v := .slice A47 bs.length c47) (by (repeat constructor))) (hR.ch hM.ch)) ?_
      rw [decide_eq_true rfl]
      repeat (first | refine gw ?_ | (refine ks ?_; intro w hM))
      refine c_condb rfl (fun h => by cases h) (fun _ => ?_)
      have hrm := hrows hM.drop
      obtain ⟨Ar, cr, rfl⟩ := hrm.r.form
      obtain ⟨Aw, cw, rfl⟩ := hrm.w.form
      repeat (first | refine gw ?_ | (refine ks ?_; intro w hM))
      refine koc2 hM rfl ?_
      unfold ReadPost
      rw [hgd rfl hrest hg]
      refine ⟨_, _, us, rfl, rfl, ?_⟩
      show Mem [] w0 w (rows16 _ _ us wz)
      rw [← hTL]
      exact hM.sub (by (repeat (first | exact Go.Proofs.E.Sub.refl _ | exact Go.Proofs.E.Sub.nil | (apply Go.Proofs.E.Sub.cons; (repeat (first | exact Go.Proofs.E.Pick.here | apply Go.Proofs.E.Pick.there))) | apply Go.Proofs.E.Sub.tail)))
end Go.Proofs.YtoimhmphhffelaaGreatDoor

/- The walk of receipt.Read. -/
import Derived.Test.YtoimhmphhffelaaGreatDoorQReceiptBytes32
import Derived.Test.YtoimhmphhffelaaGreatDoorQReceiptBytes34
set_option linter.unusedVariables false
set_option linter.unusedSimpArgs false
namespace Go.Proofs.E
open Go Go.RowKit
theorem Mem.cellSet2 {O : List Nat} {w0 w w' : World} {L L' L'' : List As} {b c : Nat} {cs cs' ds ds' : List Value} {E F : TypeId} (h : Mem O w0 w L) (hB : Blk w' b cs' E) (hC : Blk w' c ds' F) (hc : Ch [b, c] w w')
    (hp : Pick L (.cell b cs E) L' := by (repeat (first | exact Go.Proofs.E.Pick.here | apply Go.Proofs.E.Pick.there))) (hq : Pick L' (.cell c ds F) L'' := by (repeat (first | exact Go.Proofs.E.Pick.here | apply Go.Proofs.E.Pick.there))) : Mem O w0 w' (.cell b cs' E :: .cell c ds' F :: L'') :=
  (h.perm (hp.perm.trans (List.Perm.cons _ hq.perm))).set2 hB hC hc
/-- What changes two blocks, in a drawn region that has both in hand. -/
structure Ch2 (b c : Nat) (w w' : World) : Prop where
  ch : Ch [b, c] w w'
theorem Ch2.gy {b c N : Nat} {w w' : World} (h : Ch2 b c w w') (hn : N ≤ w.heap.size) : Bw N [b, c] w w' := ⟨h.ch.os, h.ch.tape, h.ch.output, h.ch.size, fun k hk hS => h.ch.block k (by omega) hS⟩
theorem Ch2.size {b c : Nat} {w w' : World} (h : Ch2 b c w w') : w.heap.size ≤ w'.heap.size := h.ch.size
end Go.Proofs.E
namespace Go.Proofs.YtoimhmphhffelaaGreatDoor
open Go Go.RowKit Go.Proofs.E
attribute [local irreducible] Go.wpList Go.Code.wp Go.Proofs.E.exec Go.Proofs.E.wpLexG
def errT : Option RtV → Int
  | none => 4
  | some _ => 0
/-- What receipt.Read hands back. -/
def ReadPostR (bs : Bs) (w0 : World) (u : Value) (w' : World) : Prop :=
  ∃ (vr vw vp : Value) (us : List (RR × List Pr)), u = .tuple #[.agg (tC ((resT (readR bs)).2.1 : Int) (resT (readR bs)).1.1 (resT (readR bs)).1.2.1 (resT (readR bs)).1.2.2.1 vr vw vp ((resT (readR bs)).2.2.1 : Int) (resT (readR bs)).2.2.2.1 (resT (readR bs)).2.2.2.2.1).toArray, .int .i64 (errT (readR bs))] ∧
    us.map dat = (resT (readR bs)).1.2.2.2.1 ∧ Mem [] w0 w' (.row eH 28 vp (resT (readR bs)).2.2.2.2.2 :: rows16 vr vw us (resT (readR bs)).1.2.2.2.2)
theorem readPostR_none {bs : Bs} {w0 w : World} {L : List As} (hz : readR bs = none) (hM : Mem [] w0 w L) : ReadPostR bs w0 (.tuple #[.agg (tC 0 0 0 false (.slice none 0 0) (.slice none 0 0) (.slice none 0 0) 0 zeroH zeroH).toArray, .int .i64 4]) w := by
  unfold ReadPostR
  rw [hz]
  exact ⟨_, _, _, [], rfl, rfl, ((hM.nil.nilRow ePr 70).nilRow eRr 135).nilRow eH 28⟩
theorem rd_two {w0 w : World} {bb bd : Nat} {v : Value} {xs : Bs} (hx : tU8.Rd [] w0 v xs) (hc : Ch [] w0 w) (h1 : w0.heap.size ≤ bb) (h2 : w0.heap.size ≤ bd) : tU8.Rd [bb, bd] w v xs :=
  hx.mv (hc.some (S := [bb, bd])) (fun k hk hm => by
    simp only [List.mem_cons, List.not_mem_nil, or_false] at hm
    omega)
theorem rctS_eq (s : Sr) : rctS s = (((strT 8192 s).1, (numT 1099511627776 (strT 8192 s).2).1, (numT 1099511627777 (numT 1099511627776 (strT 8192 s).2).2).1, (hashT (numT 1099511627777 (numT 1099511627776 (strT 8192 s).2).2).2).1, (hashT (hashT (numT 1099511627777 (numT 1099511627776 (strT 8192 s).2).2).2).2).1, (timesT 64 hashT (hashT (hashT (numT 1099511627777 (numT 1099511627776 (strT 8192 s).2).2).2).2).2).1), (timesT 64 hashT (hashT (hashT (numT 1099511627777 (numT 1099511627776 (strT 8192 s).2).2).2).2).2).2) := rfl
theorem rct_bad {s : Sr} (h : (strT 8192 s).2.2 = true) : (rctS s).2.2 = true := by
  cases hc : (rctS s).2.2 with
  | true => rfl
  | false =>
    rw [rctS_eq] at hc
    have e1 := (times_sound hash_sound hc).1
    have d1 := (hash_sound _ e1).1
    have c1 := (hash_sound _ d1).1
    have b1 := (num_sound c1).1
    have a1 := (num_sound b1).1
    rw [a1] at h
    cases h
theorem readZ_sm {bs : Bs} {x : RecV} (h : readZ bs = some x) : SmV x := by
  unfold readZ at h
  split at h
  · cases h
  split at h
  · cases h
  injection h with h
  subst h
  exact recS_sm _
theorem readR_rec {bs : Bs} {y : RcV} {rest : Bs} {bad : Bool} (h : rctS (bs, false) = (y, (rest, bad))) (h1 : bad = true ∨ rest ≠ [] ∨ readZ y.1 = none) : readR bs = none := by
  unfold readR
  rw [h]
  split
  · rfl
  rename_i q
  rcases h1 with h1 | h1 | h1
  · exact absurd (.inl h1) q
  · exact absurd (.inr h1) q
  · simp only [h1]
theorem readR_fin {bs : Bs} {y : RcV} {x : RecV} (h : rctS (bs, false) = (y, ([], false))) (h1 : readZ y.1 = some x) : readR bs = if goodT (x, y.2) = true then some (x, y.2) else none := by
  unfold readR
  rw [h]
  simp only [ne_eq, not_true_eq_false, or_false, Bool.false_eq_true, if_false, h1]
theorem strT_ok {most : Nat} {bs t : Bs} {k : Nat} (hg : getStr bs most = (t, k, true)) : strT most (bs, false) = (t, (bs.drop k, false)) := by
  unfold strT
  simp only [hg]
  rw [gotSt_mk rfl rfl, if_pos rfl]
theorem strT_no {most : Nat} {bs t : Bs} {k : Nat} (hg : getStr bs most = (t, k, false)) : (strT most (bs, false)).2.2 = true := by
  unfold strT
  simp only [hg]
  rfl
theorem tC_setmap (a ses snap : Int) (strict : Bool) (vr vw vp : Value) (size : Int) (lg mp m2 : Hs) : spl (tC a ses snap strict vr vw vp size lg mp) 40 (m2.1.map u8v) = tC a ses snap strict vr vw vp size lg m2 := by
  unfold spl
  rw [h32]
  show [.int .i64 a, .int .i64 ses, .int .i64 snap, .bool strict, vr, vw, vp, .int .i64 size] ++ ((lg.1.map u8v ++ mp.1.map u8v).take 32) ++ _ ++ ((lg.1.map u8v ++ mp.1.map u8v).drop 64) = _
  rw [List.take_left' (h32 lg), List.drop_of_length_le (by simp [h32])]
  simp [tC]
set_option maxHeartbeats 32000000 in
theorem rctRead_any (v : Value) (bs : Bs) (w0 : World) (hR : tU8.Rd [] w0 v bs) :
    Calls Tryz.prog 10 #[v] w0 (Ret fun u w' => ReadPostR bs w0 u w') := by
  have hM := Mem.start w0
  have hle := hR.le
  obtain ⟨A, c, rfl⟩ := hR.form
  refine enter [.slice A bs.length c, undef, undef, undef, undef, undef, undef, undef, undef, undef, undef, undef, undef, undef, undef, undef, undef, undef, undef, undef, undef, undef, undef, undef, undef, undef, undef, undef, undef, undef, undef, undef, undef, undef, undef, undef, undef, undef, undef, undef, undef, undef, undef, undef, undef, undef, undef, undef, undef, undef, undef, undef, undef, undef, undef, undef, undef, undef, undef, undef, undef, undef, undef, undef, undef, undef, undef, undef, undef, undef, undef, undef, undef, undef, undef, undef, undef, undef, undef, undef, undef, undef, undef, undef] Tryz.func10 rfl rfl ?_
  repeat (first | refine gw ?_ | (refine ks ?_; intro w hM))
  refine kbx hM (fun w bb hM => ?_)
  refine kal hM (fun w b2 hM => ?_)
  have hM : Mem [] w0 w [.cell b2 (tC 0 0 0 false (.slice none 0 0) (.slice none 0 0) (.slice none 0 0) 0 zeroH zeroH) 32, .cell bb [.slice A bs.length c] 33] := hM
  repeat (first | refine gw ?_ | (refine ks ?_; intro w hM))
  refine kal hM (fun w bd hM => ?_)
  repeat (first | refine gw ?_ | (refine ks ?_; intro w hM))
  have hM : Mem [] w0 w [.cell bb [.slice A bs.length c] 33, .cell bd [.bool false] 4, .cell b2 (tC 0 0 0 false (.slice none 0 0) (.slice none 0 0) (.slice none 0 0) 0 zeroH zeroH) 32] := hM.sub (by (repeat constructor))
  (try ((with_reducible apply is_gd); first | refine gt ?_ | refine gf ?_ | refine gu ?_)); refine wl_val (r_makeFunc (cs := [.tmp 1, .tmp 4])) ?_
  repeat (first | refine gw ?_ | (refine ks ?_; intro w hM))
  (try ((with_reducible apply is_gd); first | refine gt ?_ | refine gf ?_ | refine gu ?_)); refine wl_val (r_makeFunc (cs := [.tmp 4, .tmp 1])) ?_
  repeat (first | refine gw ?_ | (refine ks ?_; intro w hM))
  refine kca hM (getStr_any _ 8192 w (hR.ch hM.ch) (by omega)) (fun w hM => ?_)
  have hk := getStr_k bs 8192
  obtain ⟨text, k, ok, hg⟩ : ∃ t k ok, getStr bs 8192 = (t, k, ok) := ⟨_, _, _, rfl⟩
  have hrec := rctS_eq (bs, false)
  rw [hg] at hk ⊢
  simp only at hk
  repeat (first | refine gw ?_ | (refine ks ?_; intro w hM))
  cases ok with
  | false =>
    repeat (first | refine gw ?_ | (refine ks ?_; intro w hM))
    refine c_condb rfl (fun _ => ?_) (fun h => by cases h)
    repeat (first | refine gw ?_ | (refine ks ?_; intro w hM))
    (try ((with_reducible apply is_gd); first | refine gt ?_ | refine gf ?_ | refine gu ?_)); refine wl_val (r_bldS (vs := []) (tC 0 0 0 false (.slice none 0 0) (.slice none 0 0) (.slice none 0 0) 0 zeroH zeroH) (z := tC 0 0 0 false (.slice none 0 0) (.slice none 0 0) (.slice none 0 0) 0 zeroH zeroH) (place := (#[(0, 1), (1, 5), (6, 1), (7, 65)][·]?)) (by intro ps; kernel_rfl) rfl (.nil rfl)) ?_
    refine kstwT (vs := tC 0 0 0 false (.slice none 0 0) (.slice none 0 0) (.slice none 0 0) 0 zeroH zeroH) hM (fun w hc hM => ?_)
    repeat (first | refine gw ?_ | (refine ks ?_; intro w hM))
    exact koc2 hM rfl (readPostR_none (readR_bad (.inl (rct_bad (strT_no hg)))) hM) (hn := tC_len _ _ _ _ _ _ _ _ _ _)
  | true =>
  repeat (first | refine gw ?_ | (refine ks ?_; intro w hM))
  refine c_condb rfl (fun h => by cases h) (fun _ => ?_)
  repeat (first | refine gw ?_ | (refine ks ?_; intro w hM))
  rw [strT_ok hg] at hrec
  refine kcutl hR (i := (k : Int)) (fun v27 hV => ?_)
  rw [Int.toNat_natCast] at hV
  obtain ⟨A27, c27, rfl⟩ := hV.form
  repeat (first | refine gw ?_ | (refine ks ?_; intro w hM))
  have htl : text.length ≤ 8192 := by
    have := strT_len 8192 (bs, false)
    rwa [strT_ok hg] at this
  refine kst8 text hM (fun w b30 c30 hc30 hR30 hM => ?_)
  refine ca (recRead_any _ text w hR30) ?_
  rintro _ w2 ⟨vr, vw, us, rfl, hus, hN⟩
  have hM := hM.join hN rows_plain
  obtain ⟨zr, hzr⟩ : ∃ zr, readZ text = zr := ⟨_, rfl⟩
  rw [hzr] at hM hus hN ⊢
  obtain ⟨Ar, cr, rfl⟩ := (rows_recM hN).r.form
  obtain ⟨Aw, cw, rfl⟩ := (rows_recM hN).w.form
  obtain ⟨⟨ses, snap, strict, ds, wz⟩, hy⟩ : ∃ y : RecV, resR zr = y := ⟨_, rfl⟩
  rw [hy] at hM hus hN ⊢
  simp only at hM hus hN ⊢
  subst hus
  obtain ⟨TL, hTL⟩ : ∃ TL, TL = rows16 (.slice Ar (us.map (fun u : RR × List Pr => u.1)).length cr) (.slice Aw wz.length cw) us wz := ⟨_, rfl⟩
  rw [← hTL] at hM hN
  have hM : Mem [] w0 w2 (.cell bb [.slice A27 (bs.drop k).length c27] 33 :: .cell bd [.bool false] 4 :: .cell b2 (tC 0 0 0 false (.slice none 0 0) (.slice none 0 0) (.slice none 0 0) 0 zeroH zeroH) 32 :: TL) := hM.perm (by
    classical exact List.perm_iff_count.2 (fun x => by simp only [List.count_cons, List.count_append, List.count_nil] <;> omega))
  repeat (first | refine gw ?_ | (refine ks ?_; intro w hM))
  refine kal hM (fun w b10 hM => ?_)
  refine kstw (vs := rC ses snap strict (.slice Ar (us.map (fun u : RR × List Pr => u.1)).length cr) (.slice Aw wz.length cw)) hM (fun w hM => ?_)
  repeat (first | refine gw ?_ | (refine ks ?_; intro w hM))
  have hn1 := hM.nin (b := bb) (c := b10) (by (repeat constructor)) (by (repeat constructor))
  have hn2 := hM.nin (b := bd) (c := b10) (by (repeat constructor)) (by (repeat constructor))
  have hne : bb ≠ bd := fun e => hM.nin (b := bb) (c := bd) (by (repeat constructor)) (by (repeat constructor)) (by simp [e])
  simp only [List.mem_singleton] at hn1 hn2
  generalize hs1 : numT 1099511627776 (bs.drop k, false) = n1 at hrec
  obtain ⟨at_, s1⟩ := n1
  simp only at hrec
  repeat (first | refine gwb ?_ | (refine ks ?_; intro w hM))
  refine c_ordY ([], []) [bb, bd] (by kernel_rfl) (by kernel_rfl) (by kernel_rfl) (fun w hc hs => ?_)
  have hM := hM.call hc
  have hl10 := Blk.lt (hM.blk (b := b10) (by (repeat constructor)))
  refine ynlr 0 rfl (hM.blk (b := b10) (by (repeat constructor))) (by omega) (by simp; omega) rfl (ds := rC ses snap strict (.slice Ar (us.map (fun u : RR × List Pr => u.1)).length cr) (.slice Aw wz.length cw)) rfl rfl ?_
  (first | refine yn 1 rfl ?_ | refine ynt 1 rfl ?_ | refine ynff 1 rfl ?_)
  refine wy_cont (X := Value × Nat) (fun x N w => N ≤ x.2 ∧ tU8.Rd [] w0 x.1 s1.1 ∧ Mem [] w0 w (.cell x.2 (tC 0 0 0 false (.slice none 0 0) (.slice none 0 0) (.slice none 0 0) 0 zeroH zeroH) 32 :: .cell bb [x.1] 33 :: .cell bd [.bool s1.2] 4 :: .cell b2 (tC 0 0 0 false (.slice none 0 0) (.slice none 0 0) (.slice none 0 0) 0 zeroH zeroH) 32 :: .cell b10 (rC ses snap strict (.slice Ar (us.map (fun u : RR × List Pr => u.1)).length cr) (.slice Aw wz.length cw)) 25 :: TL))
    (fun x l => ((l.set 36 (.int .i64 (at_ : Int))).set 37 (.agg (tC at_ ses snap strict (.slice Ar (us.map (fun u : RR × List Pr => u.1)).length cr) (.slice Aw wz.length cw) (.slice none 0 0) 0 zeroH zeroH).toArray)).set 12 (.pointer (some ⟨x.2, 0, none⟩))) #[true, true, true, true, true, false] (fuel := 1) (fun hk => ?_) ?_
  · skip
    refine yk2 2 4 hM (by kernel_rfl) rfl rfl (fun w h0 hM => ?_) (fun w h0 hM => ?_)
    · skip
      refine kcd (f := 39) (vs := [.int .u64 (1099511627776 : Nat)]) (lb := #[.pointer (some ⟨bb, 0, none⟩), .pointer (some ⟨bd, 0, none⟩)]) (cnum_any bb bd _ (bs.drop k, false) 1099511627776 w0 w (hM.blk (b := bb) (by (repeat constructor))) (hM.blk (b := bd) (by (repeat constructor))) hne (hV.ch hM.ch) hV (by omega)) ?_
      rw [hs1]
      rintro _ w4 ⟨rfl, vb4, hc, hB4, hD4, hx4⟩
      have hM := hM.cellSet2 hB4 hD4 hc
      have hc : Ch2 bb bd _ _ := ⟨hc⟩
      refine x_wy (.inl (hc.gy h0)) rfl ?_
      refine ynp 3 rfl (by kernel_rfl) (by kernel_rfl) (fun _ => r_bldS (vs := [(1, .agg (rC ses snap strict (.slice Ar (us.map (fun u : RR × List Pr => u.1)).length cr) (.slice Aw wz.length cw)).toArray), (0, .int .i64 (at_ : Int))]) (tC at_ ses snap strict (.slice Ar (us.map (fun u : RR × List Pr => u.1)).length cr) (.slice Aw wz.length cw) (.slice none 0 0) 0 zeroH zeroH) (z := tC 0 0 0 false (.slice none 0 0) (.slice none 0 0) (.slice none 0 0) 0 zeroH zeroH) (place := (#[(0, 1), (1, 5), (6, 1), (7, 65)][·]?)) (by intro ps; kernel_rfl) rfl (.cons rfl (by simp [Value.cells]) (by simp [spl, Value.cells]) (.cons rfl rfl (by simp [spl]) (.nil (by simp [spl, Value.cells]))))) rfl ?_
      refine yk1 4 hM (by kernel_rfl) rfl (fun w h0 hM => ?_)
      refine kalN hM (fun w bb_ hbb hc hM => ?_)
      have hbb := Nat.le_trans h0 hbb
      refine x_wy (.inl (hc.gy h0)) rfl ?_
      exact hk (vb4, bb_) _ _ _ (by kernel_rfl) rfl ⟨hbb, hx4, hM.sub (by (repeat (first | exact Go.Proofs.E.Sub.refl _ | exact Go.Proofs.E.Sub.nil | (apply Go.Proofs.E.Sub.cons; (repeat (first | exact Go.Proofs.E.Pick.here | apply Go.Proofs.E.Pick.there))) | apply Go.Proofs.E.Sub.tail)))⟩
    · skip
      refine kalN hM (fun w bb_ hbb hc hM => ?_)
      have hbb := Nat.le_trans h0 hbb
      refine x_wy (.inl (hc.gy h0)) rfl ?_
      refine yk1 2 hM (by kernel_rfl) rfl (fun w h0 hM => ?_)
      refine kcd (f := 39) (vs := [.int .u64 (1099511627776 : Nat)]) (lb := #[.pointer (some ⟨bb, 0, none⟩), .pointer (some ⟨bd, 0, none⟩)]) (cnum_any bb bd _ (bs.drop k, false) 1099511627776 w0 w (hM.blk (b := bb) (by (repeat constructor))) (hM.blk (b := bd) (by (repeat constructor))) hne (hV.ch hM.ch) hV (by omega)) ?_
      rw [hs1]
      rintro _ w4 ⟨rfl, vb4, hc, hB4, hD4, hx4⟩
      have hM := hM.cellSet2 hB4 hD4 hc
      have hc : Ch2 bb bd _ _ := ⟨hc⟩
      refine x_wy (.inl (hc.gy h0)) rfl ?_
      refine ynp 3 rfl (by kernel_rfl) (by kernel_rfl) (fun _ => r_bldS (vs := [(1, .agg (rC ses snap strict (.slice Ar (us.map (fun u : RR × List Pr => u.1)).length cr) (.slice Aw wz.length cw)).toArray), (0, .int .i64 (at_ : Int))]) (tC at_ ses snap strict (.slice Ar (us.map (fun u : RR × List Pr => u.1)).length cr) (.slice Aw wz.length cw) (.slice none 0 0) 0 zeroH zeroH) (z := tC 0 0 0 false (.slice none 0 0) (.slice none 0 0) (.slice none 0 0) 0 zeroH zeroH) (place := (#[(0, 1), (1, 5), (6, 1), (7, 65)][·]?)) (by intro ps; kernel_rfl) rfl (.cons rfl (by simp [Value.cells]) (by simp [spl, Value.cells]) (.cons rfl rfl (by simp [spl]) (.nil (by simp [spl, Value.cells]))))) rfl ?_
      exact hk (vb4, bb_) _ _ _ (by kernel_rfl) rfl ⟨hbb, hx4, hM.sub (by (repeat (first | exact Go.Proofs.E.Sub.refl _ | exact Go.Proofs.E.Sub.nil | (apply Go.Proofs.E.Sub.cons; (repeat (first | exact Go.Proofs.E.Pick.here | apply Go.Proofs.E.Pick.there))) | apply Go.Proofs.E.Sub.tail)))⟩
  clear hM
  rintro ⟨vb4, b12⟩ w ⟨hbb, hx4, hM⟩
  simp only at hbb hx4 hM
  refine wy_nf ?_
  have hM12 := hM.blk (b := b12) (by (repeat constructor))
  refine yk1 5 hM (by kernel_rfl) rfl (fun w h0 hM => ?_)
  refine kstwT (vs := tC at_ ses snap strict (.slice Ar (us.map (fun u : RR × List Pr => u.1)).length cr) (.slice Aw wz.length cw) (.slice none 0 0) 0 zeroH zeroH) hM (fun w hc hM => ?_)
  refine x_wy (.inl (hc.bwn h0 (.inl hbb))) rfl ?_
  refine wy_done (by kernel_rfl) (fun w hc => ?_)
  have hM := hM.call hc
  repeat (first | refine gw ?_ | (refine ks ?_; intro w hM))
  obtain ⟨A4, c4, rfl⟩ := hx4.form
  have hb0 : w0.heap.size ≤ bb := hM.ge (b := bb) (by (repeat constructor))
  have hd0 : w0.heap.size ≤ bd := hM.ge (b := bd) (by (repeat constructor))
  generalize hs2 : numT 1099511627777 s1 = n2 at hrec
  obtain ⟨size, s2⟩ := n2
  simp only at hrec
  refine kcd (f := 39) (vs := [.int .u64 (1099511627777 : Nat)]) (lb := #[.pointer (some ⟨bb, 0, none⟩), .pointer (some ⟨bd, 0, none⟩)]) (cnum_any bb bd _ s1 1099511627777 w0 w (hM.blk (b := bb) (by (repeat constructor))) (hM.blk (b := bd) (by (repeat constructor))) hne (hx4.ch hM.ch) hx4 (by omega)) ?_
  rw [hs2]
  rintro _ w5 ⟨rfl, vb5, hc, hB5, hD5, hx5⟩
  have hM := hM.cellSet2 hB5 hD5 hc
  repeat (first | refine gw ?_ | (refine ks ?_; intro w hM))
  have hM : Mem [] w0 _ (.cell bb [vb5] 33 :: .cell bd [.bool s2.2] 4 :: .cell b12 (tC at_ ses snap strict (.slice Ar (us.map (fun u : RR × List Pr => u.1)).length cr) (.slice Aw wz.length cw) (.slice none 0 0) size zeroH zeroH) 32 :: .cell b2 (tC 0 0 0 false (.slice none 0 0) (.slice none 0 0) (.slice none 0 0) 0 zeroH zeroH) 32 :: TL) := hM.sub (by (repeat (first | exact Go.Proofs.E.Sub.refl _ | exact Go.Proofs.E.Sub.nil | (apply Go.Proofs.E.Sub.cons; (repeat (first | exact Go.Proofs.E.Pick.here | apply Go.Proofs.E.Pick.there))) | apply Go.Proofs.E.Sub.tail)))
  generalize hs3 : hashT s2 = n3 at hrec
  obtain ⟨lg, s3⟩ := n3
  simp only at hrec
  refine kcd (f := 41) (vs := []) (lb := #[.pointer (some ⟨bd, 0, none⟩), .pointer (some ⟨bb, 0, none⟩)]) (by have := chash_any bb bd _ s2 w0 _ (hM.blk (b := bb) (by (repeat constructor))) (hM.blk (b := bd) (by (repeat constructor))) hne (rd_two hx5 hM.ch hb0 hd0) hx5; simpa using this) ?_
  rw [hs3]
  rintro _ w6 ⟨rfl, vb6, hc, hB6, hD6, hx6⟩
  have hM := hM.cellSet2 hB6 hD6 hc
  repeat (first | refine gw ?_ | (refine ks ?_; intro w hM))
  refine kstp (vs := lg.1.map u8v) hM (fun w hM => ?_) (tC_setlog _ _ _ _ _ _ _ _ _ _ _) (hln := h32 lg) (hf := by rw [tC_len]; omega)
  repeat (first | refine gw ?_ | (refine ks ?_; intro w hM))
  generalize hs4 : hashT s3 = n4 at hrec
  obtain ⟨mp, s4⟩ := n4
  simp only at hrec
  refine kcd (f := 41) (vs := []) (lb := #[.pointer (some ⟨bd, 0, none⟩), .pointer (some ⟨bb, 0, none⟩)]) (by have := chash_any bb bd _ s3 w0 _ (hM.blk (b := bb) (by (repeat constructor))) (hM.blk (b := bd) (by (repeat constructor))) hne (rd_two hx6 hM.ch hb0 hd0) hx6; simpa using this) ?_
  rw [hs4]
  rintro _ w7 ⟨rfl, vb7, hc, hB7, hD7, hx7⟩
  have hM := hM.cellSet2 hB7 hD7 hc
  repeat (first | refine gw ?_ | (refine ks ?_; intro w hM))
  refine kstp (vs := mp.1.map u8v) hM (fun w hM => ?_) (tC_setmap _ _ _ _ _ _ _ _ _ _ _) (hln := h32 mp) (hf := by rw [tC_len]; omega)
  repeat (first | refine gw ?_ | (refine ks ?_; intro w hM))
  generalize hs5 : numT 64 s4 = n5
  have hn5 := numT_le (most := 64) (s := s4)
  rw [hs5] at hn5
  obtain ⟨m5, s5⟩ := n5
  simp only at hn5
  refine kcd (f := 39) (vs := [.int .u64 (64 : Nat)]) (lb := #[.pointer (some ⟨bb, 0, none⟩), .pointer (some ⟨bd, 0, none⟩)]) (cnum_any bb bd _ s4 64 w0 w (hM.blk (b := bb) (by (repeat constructor))) (hM.blk (b := bd) (by (repeat constructor))) hne (hx7.ch hM.ch) hx7 (by omega)) ?_
  rw [hs5]
  rintro _ w8 ⟨rfl, vb8, hc, hB8, hD8, hx8⟩
  have hM := hM.cellSet2 hB8 hD8 hc
  repeat (first | refine gw ?_ | (refine ks ?_; intro w hM))
  have ht : timesT 64 hashT s4 = loopT hashT m5 [] s5 := by
    unfold timesT
    rw [hs5]
  rw [ht] at hrec
  have hM := (hM.nilRow eH 28)
  obtain ⟨path, rest, bad, hlo⟩ : ∃ path rest bad, loopT hashT m5 [] s5 = (path, (rest, bad)) := ⟨_, _, _, rfl⟩
  rw [hlo] at hrec
  simp only at hrec
  
  
  refine c_loopJ (fun n l w => ∃ (a : List Hs) (s : Sr) (vb vp : Value), (∃ jj : Nat → Value, l = [jj 0, .pointer (some ⟨bb, 0, none⟩), .pointer (some ⟨b2, 0, none⟩), jj 3, .pointer (some ⟨bd, 0, none⟩), jj 5, .func (.func 41) #[] #[.pointer (some ⟨bd, 0, none⟩), .pointer (some ⟨bb, 0, none⟩)], jj 7, jj 8, jj 9, jj 10, .int .i64 (errR zr), .pointer (some ⟨b12, 0, none⟩), .int .i64 (n : Int), jj 14, jj 15, jj 16, jj 17, jj 18, jj 19, jj 20, jj 21, jj 22, jj 23, jj 24, jj 25, jj 26, jj 27, jj 28, jj 29, jj 30, jj 31, jj 32, jj 33, jj 34, jj 35, jj 36, jj 37, jj 38, jj 39, jj 40, jj 41, jj 42, jj 43, jj 44, jj 45, jj 46, jj 47, jj 48, jj 49, jj 50, jj 51, jj 52, jj 53, jj 54, jj 55, jj 56, jj 57, jj 58, jj 59, jj 60, jj 61, jj 62, jj 63, jj 64, jj 65, jj 66, jj 67, jj 68, jj 69, jj 70, jj 71, jj 72, jj 73, jj 74, jj 75, jj 76, jj 77, jj 78, jj 79, jj 80, jj 81, jj 82, jj 83]) ∧ a.length + n ≤ 64 ∧ tU8.Rd [] w0 vb s.1 ∧ loopT hashT n a s = (path, (rest, bad)) ∧ Mem [] w0 w (.row eH 28 vp a :: .cell b12 (tC at_ ses snap strict (.slice Ar (us.map (fun u : RR × List Pr => u.1)).length cr) (.slice Aw wz.length cw) vp size lg mp) 32 :: .cell bb [vb] 33 :: .cell bd [.bool s.2] 4 :: .cell b2 (tC 0 0 0 false (.slice none 0 0) (.slice none 0 0) (.slice none 0 0) 0 zeroH zeroH) 32 :: TL))
    (fun l w => ∃ (vb vp : Value), (∃ jj : Nat → Value, l = [jj 0, .pointer (some ⟨bb, 0, none⟩), .pointer (some ⟨b2, 0, none⟩), jj 3, .pointer (some ⟨bd, 0, none⟩), jj 5, .func (.func 41) #[] #[.pointer (some ⟨bd, 0, none⟩), .pointer (some ⟨bb, 0, none⟩)], jj 7, jj 8, jj 9, jj 10, .int .i64 (errR zr), .pointer (some ⟨b12, 0, none⟩), jj 13, jj 14, jj 15, jj 16, jj 17, jj 18, jj 19, jj 20, jj 21, jj 22, jj 23, jj 24, jj 25, jj 26, jj 27, jj 28, jj 29, jj 30, jj 31, jj 32, jj 33, jj 34, jj 35, jj 36, jj 37, jj 38, jj 39, jj 40, jj 41, jj 42, jj 43, jj 44, jj 45, jj 46, jj 47, jj 48, jj 49, jj 50, jj 51, jj 52, jj 53, jj 54, jj 55, jj 56, jj 57, jj 58, jj 59, jj 60, jj 61, jj 62, jj 63, jj 64, jj 65, jj 66, jj 67, jj 68, jj 69, jj 70, jj 71, jj 72, jj 73, jj 74, jj 75, jj 76, jj 77, jj 78, jj 79, jj 80, jj 81, jj 82, jj 83]) ∧ tU8.Rd [] w0 vb rest ∧ Mem [] w0 w (.row eH 28 vp path :: .cell b12 (tC at_ ses snap strict (.slice Ar (us.map (fun u : RR × List Pr => u.1)).length cr) (.slice Aw wz.length cw) vp size lg mp) 32 :: .cell bb [vb] 33 :: .cell bd [.bool bad] 4 :: .cell b2 (tC 0 0 0 false (.slice none 0 0) (.slice none 0 0) (.slice none 0 0) 0 zeroH zeroH) 32 :: TL)) m5
    ⟨[], s5, vb8, .slice none 0 0, exj rfl, by simpa using hn5, hx8, hlo, hM.sub (by (repeat (first | exact Go.Proofs.E.Sub.refl _ | exact Go.Proofs.E.Sub.nil | (apply Go.Proofs.E.Sub.cons; (repeat (first | exact Go.Proofs.E.Pick.here | apply Go.Proofs.E.Pick.there))) | apply Go.Proofs.E.Sub.tail)))⟩ ?_ ?_
  · clear hM
    rintro n l w ⟨a, s, vb, vp, ⟨jj, rfl⟩, hal, hxx, hlp, hM⟩
    repeat (first | refine gw ?_ | (refine ks ?_; intro w hM))
    cases n with
    | zero =>
      rw [decide_eq_false (by omega : ¬ ((0 : Nat) : Int) > 0)]
      repeat (first | refine gw ?_ | (refine ks ?_; intro w hM))
      refine c_condb rfl (fun h => by cases h) (fun _ => ?_)
      repeat (first | refine gw ?_ | (refine ks ?_; intro w hM))
      obtain ⟨rfl, rfl⟩ : a = path ∧ s = (rest, bad) := by
        unfold loopT at hlp
        exact ⟨congrArg Prod.fst hlp, congrArg Prod.snd hlp⟩
      exact outJ ⟨vb, vp, exj rfl, hxx, hM⟩
    | succ n =>
      rw [decide_eq_true (by omega : ((n + 1 : Nat) : Int) > 0)]
      obtain ⟨sb, sbad⟩ := s
      simp only at hM hxx
      repeat (first | refine gw ?_ | (refine ks ?_; intro w hM))
      rw [loopT_succ] at hlp
      cases sbad with
      | true =>
        rw [if_pos rfl] at hlp
        obtain ⟨rfl, h2⟩ : a = path ∧ (sb, true) = (rest, bad) := ⟨congrArg Prod.fst hlp, congrArg Prod.snd hlp⟩
        obtain ⟨rfl, rfl⟩ : sb = rest ∧ true = bad := ⟨congrArg Prod.fst h2, congrArg Prod.snd h2⟩
        repeat (first | refine gw ?_ | (refine ks ?_; intro w hM))
        refine c_condb rfl (fun h => by cases h) (fun _ => ?_)
        repeat (first | refine gw ?_ | (refine ks ?_; intro w hM))
        exact outJ ⟨vb, vp, exj rfl, hxx, hM⟩
      | false =>
        rw [if_neg (by simp)] at hlp
        repeat (first | refine gw ?_ | (refine ks ?_; intro w hM))
        refine c_condb rfl (fun _ => ?_) (fun h => by cases h)
        have hq1 := hM.nin (b := bb) (c := b12) (by (repeat constructor)) (by (repeat constructor))
        have hq2 := hM.nin (b := bd) (c := b12) (by (repeat constructor)) (by (repeat constructor))
        simp only [List.mem_singleton] at hq1 hq2
        obtain ⟨Ap, cp, rfl, _⟩ := Own.form (hM.row (v := vp) (xs := a) (by (repeat constructor)))
        repeat (first | refine gwb ?_ | (refine ks ?_; intro w hM))
        refine c_ordY ([5, 7], []) [bb, bd] (by kernel_rfl) (by kernel_rfl) (by kernel_rfl) (fun w hc hs => ?_)
        have hM := hM.call hc
        have hl12 := Blk.lt (hM.blk (b := b12) (by (repeat constructor)))
        (first | refine yn 0 rfl ?_ | refine ynt 0 rfl ?_ | refine ynff 0 rfl ?_)
        refine ynl 1 rfl (hM.blk (b := b12) (by (repeat constructor))) (by omega) (by simp; omega) rfl rfl ?_
        (first | refine yn 2 rfl ?_ | refine ynt 2 rfl ?_ | refine ynff 2 rfl ?_)
        refine yk1 3 hM (by kernel_rfl) rfl (fun w h0 hM => ?_)
        refine kcd (f := 41) (vs := []) (lb := #[.pointer (some ⟨bd, 0, none⟩), .pointer (some ⟨bb, 0, none⟩)]) (by have := chash_any bb bd _ (sb, false) w0 _ (hM.blk (b := bb) (by (repeat constructor))) (hM.blk (b := bd) (by (repeat constructor))) hne (rd_two hxx hM.ch hb0 hd0) hxx; simpa using this) ?_
        rintro _ w6 ⟨rfl, vb6, hc, hB6, hD6, hx6⟩
        have hM := hM.cellSet2 hB6 hD6 hc
        refine x_wy (.inl ((Ch2.mk hc).gy h0)) rfl ?_
        generalize hashT (sb, false) = hh at hM hx6 hlp ⊢
        obtain ⟨h, sn⟩ := hh
        simp only at hM hx6 hlp ⊢
        refine yk1 4 hM (by kernel_rfl) rfl (fun w h0 hM => ?_)
        refine kbsC (en := eH) (vs := [hv h.1]) [h] hM (fun w b hc hM => ?_) (hm := by
          intro v q
          simp only [List.mem_singleton] at q
          subst q
          show (h.1.map u8v).toArray.size = 32
          rw [List.size_toArray, h32])
        refine x_wy (.inl (hc.gy h0)) rfl ?_
        refine yk1 5 hM (by kernel_rfl) rfl (fun w h0 hM => ?_)
        have hR1 := hM.rowRdO (en := eH) (v := .slice (some ⟨b, 0, none⟩) 1 1) (xs := [h]) (by (repeat constructor))
        refine kapC (en := eH) (v := .slice Ap a.length cp) (xs := a) (ys := [h]) hM hR1 (fun v7 w hs hM => ?_) (hb := by simp; omega) (h63 := by simp; omega)
        refine x_wy (.inr ⟨by decide, Nat.le_trans h0 hs⟩) rfl ?_
        obtain ⟨A7, c7, rfl, _⟩ := Own.form (hM.row (v := v7) (by (repeat constructor)))
        (first | refine yn 6 rfl ?_ | refine ynt 6 rfl ?_ | refine ynff 6 rfl ?_)
        refine yk1 7 hM (by kernel_rfl) rfl (fun w h0 hM => ?_)
        refine kstC hM (fun w hc hM => ?_)
        refine x_wy (.inr ⟨by decide, Nat.le_trans h0 hc.size⟩) rfl ?_
        refine wy_done (by kernel_rfl) (fun w hc => ?_)
        have hM := hM.call hc
        repeat (first | refine gw ?_ | (refine ks ?_; intro w hM))
        rw [show ((n + 1 : Nat) : Int) - 1 = (n : Int) by omega]
        exact x_goes n rfl (by omega) ⟨a ++ [h], sn, vb6, _, exj rfl, by rw [List.length_append, List.length_singleton]; omega, hx6, hlp, hM.sub (by (repeat (first | exact Go.Proofs.E.Sub.refl _ | exact Go.Proofs.E.Sub.nil | (apply Go.Proofs.E.Sub.cons; (repeat (first | exact Go.Proofs.E.Pick.here | apply Go.Proofs.E.Pick.there))) | apply Go.Proofs.E.Sub.tail)))⟩
  clear hM
  rintro l w ⟨vb9, vp, ⟨jj, rfl⟩, hx9, hM⟩
  cases zr with
  | none =>
    repeat (first | refine gw ?_ | (refine ks ?_; intro w hM))
    refine c_condb rfl (fun _ => ?_) (fun h => by cases h)
    repeat (first | refine gw ?_ | (refine ks ?_; intro w hM))
    (try ((with_reducible apply is_gd); first | refine gt ?_ | refine gf ?_ | refine gu ?_)); refine wl_val (r_bldS (vs := []) (tC 0 0 0 false (.slice none 0 0) (.slice none 0 0) (.slice none 0 0) 0 zeroH zeroH) (z := tC 0 0 0 false (.slice none 0 0) (.slice none 0 0) (.slice none 0 0) 0 zeroH zeroH) (place := (#[(0, 1), (1, 5), (6, 1), (7, 65)][·]?)) (by intro ps; kernel_rfl) rfl (.nil rfl)) ?_
    refine kstwT (b := b2) (vs := tC 0 0 0 false (.slice none 0 0) (.slice none 0 0) (.slice none 0 0) 0 zeroH zeroH) hM (fun w hc hM => ?_)
    repeat (first | refine gw ?_ | (refine ks ?_; intro w hM))
    exact koc2 hM rfl (readPostR_none (readR_rec hrec (.inr (.inr hzr))) hM) (hn := tC_len _ _ _ _ _ _ _ _ _ _)
  | some x =>
  have hsm := readZ_sm hzr
  obtain rfl : x = (ses, snap, strict, us.map dat, wz) := hy
  obtain ⟨hk, hb⟩ := smV_short (us := us) hsm rfl
  obtain ⟨A9, c9, rfl⟩ := hx9.form
  have hrows : ∀ {w}, Mem [] w0 w (.row eH 28 vp path :: .cell b12 (tC at_ ses snap strict (.slice Ar (us.map (fun u : RR × List Pr => u.1)).length cr) (.slice Aw wz.length cw) vp size lg mp) 32 :: .cell bb [.slice A9 rest.length c9] 33 :: .cell bd [.bool bad] 4 :: .cell b2 (tC 0 0 0 false (.slice none 0 0) (.slice none 0 0) (.slice none 0 0) 0 zeroH zeroH) 32 :: TL) → Mem [] w0 w (rows16 (.slice Ar (us.map (fun u : RR × List Pr => u.1)).length cr) (.slice Aw wz.length cw) us wz) := fun hM => hM.drop.drop.drop.drop.drop.perm (by rw [hTL])
  repeat (first | refine gw ?_ | (refine ks ?_; intro w hM))
  cases bad with
  | true =>
    repeat (first | refine gw ?_ | (refine ks ?_; intro w hM))
    refine c_condb rfl (fun _ => ?_) (fun h => by cases h)
    repeat (first | refine gw ?_ | (refine ks ?_; intro w hM))
    (try ((with_reducible apply is_gd); first | refine gt ?_ | refine gf ?_ | refine gu ?_)); refine wl_val (r_bldS (vs := []) (tC 0 0 0 false (.slice none 0 0) (.slice none 0 0) (.slice none 0 0) 0 zeroH zeroH) (z := tC 0 0 0 false (.slice none 0 0) (.slice none 0 0) (.slice none 0 0) 0 zeroH zeroH) (place := (#[(0, 1), (1, 5), (6, 1), (7, 65)][·]?)) (by intro ps; kernel_rfl) rfl (.nil rfl)) ?_
    refine kstwT (b := b2) (vs := tC 0 0 0 false (.slice none 0 0) (.slice none 0 0) (.slice none 0 0) 0 zeroH zeroH) hM (fun w hc hM => ?_)
    repeat (first | refine gw ?_ | (refine ks ?_; intro w hM))
    exact koc2 hM rfl (readPostR_none (readR_rec hrec (.inl rfl)) hM) (hn := tC_len _ _ _ _ _ _ _ _ _ _)
  | false =>
  repeat (first | refine gw ?_ | (refine ks ?_; intro w hM))
  by_cases q1 : (0 : Int) < (rest.length : Int)
  · rw [decide_eq_true q1]
    repeat (first | refine gw ?_ | (refine ks ?_; intro w hM))
    refine c_condb rfl (fun _ => ?_) (fun h => by cases h)
    repeat (first | refine gw ?_ | (refine ks ?_; intro w hM))
    (try ((with_reducible apply is_gd); first | refine gt ?_ | refine gf ?_ | refine gu ?_)); refine wl_val (r_bldS (vs := []) (tC 0 0 0 false (.slice none 0 0) (.slice none 0 0) (.slice none 0 0) 0 zeroH zeroH) (z := tC 0 0 0 false (.slice none 0 0) (.slice none 0 0) (.slice none 0 0) 0 zeroH zeroH) (place := (#[(0, 1), (1, 5), (6, 1), (7, 65)][·]?)) (by intro ps; kernel_rfl) rfl (.nil rfl)) ?_
    refine kstwT (b := b2) (vs := tC 0 0 0 false (.slice none 0 0) (.slice none 0 0) (.slice none 0 0) 0 zeroH zeroH) hM (fun w hc hM => ?_)
    repeat (first | refine gw ?_ | (refine ks ?_; intro w hM))
    exact koc2 hM rfl (readPostR_none (readR_rec hrec (.inr (.inl (by intro h; subst h; simp at q1)))) hM) (hn := tC_len _ _ _ _ _ _ _ _ _ _)
  rw [decide_eq_false q1]
  obtain rfl : rest = [] := List.eq_nil_of_length_eq_zero (by omega)
  have hfin := readR_fin hrec hzr
  obtain ⟨Ap, cp, rfl, _⟩ := Own.form (hM.row (v := vp) (xs := path) (by (repeat constructor)))
  repeat (first | refine gr ?_ | (refine ks ?_; intro w hM))
  (try ((with_reducible apply is_gd); first | refine gt ?_ | refine gf ?_ | refine gu ?_)); refine kca hM (tgood_any (at_ : Int) (ses : Int) (snap : Int) strict _ _ _ (size : Int) lg mp us wz path _ ⟨rows_recM (hrows hM), hM.rowRdO (en := eH) (v := .slice Ap path.length cp) (xs := path) (by (repeat constructor))⟩ hk hb) (fun w hM => ?_)
  rw [recGood_V]
  obtain ⟨g, hg⟩ : ∃ g, goodT ((ses, snap, strict, us.map dat, wz), at_, size, lg, mp, path) = g := ⟨_, rfl⟩
  rw [show good17 (at_ : Int) (size : Int) (snap : Int) path.length (goodV (ses, snap, strict, us.map dat, wz)) = g from hg]
  cases g with
  | false =>
    repeat (first | refine gr ?_ | (refine ks ?_; intro w hM))
    refine c_condb rfl (fun _ => ?_) (fun h => by cases h)
    repeat (first | refine gw ?_ | (refine ks ?_; intro w hM))
    (try ((with_reducible apply is_gd); first | refine gt ?_ | refine gf ?_ | refine gu ?_)); refine wl_val (r_bldS (vs := []) (tC 0 0 0 false (.slice none 0 0) (.slice none 0 0) (.slice none 0 0) 0 zeroH zeroH) (z := tC 0 0 0 false (.slice none 0 0) (.slice none 0 0) (.slice none 0 0) 0 zeroH zeroH) (place := (#[(0, 1), (1, 5), (6, 1), (7, 65)][·]?)) (by intro ps; kernel_rfl) rfl (.nil rfl)) ?_
    refine kstwT (b := b2) (vs := tC 0 0 0 false (.slice none 0 0) (.slice none 0 0) (.slice none 0 0) 0 zeroH zeroH) hM (fun w hc hM => ?_)
    repeat (first | refine gw ?_ | (refine ks ?_; intro w hM))
    exact koc2 hM rfl (readPostR_none (by rw [hfin, if_neg (by rw [hg]; simp)]) hM) (hn := tC_len _ _ _ _ _ _ _ _ _ _)
  | true =>
    repeat (first | refine gr ?_ | (refine ks ?_; intro w hM))
    refine c_condb rfl (fun h => by cases h) (fun _ => ?_)
    repeat (first | refine gr ?_ | (refine ks ?_; intro w hM))
    refine kstwT (b := b2) (vs := tC at_ ses snap strict (.slice Ar (us.map (fun u : RR × List Pr => u.1)).length cr) (.slice Aw wz.length cw) (.slice Ap path.length cp) size lg mp) hM (fun w hc hM => ?_)
    repeat (first | refine gw ?_ | (refine ks ?_; intro w hM))
    refine koc2 hM rfl ?_ (hn := tC_len _ _ _ _ _ _ _ _ _ _)
    unfold ReadPostR
    rw [hfin, if_pos hg]
    refine ⟨_, _, _, us, rfl, rfl, ?_⟩
    show Mem [] w0 w (.row eH 28 (.slice Ap path.length cp) path :: rows16 _ _ us wz)
    rw [← hTL]
    exact hM.sub (by (repeat (first | exact Go.Proofs.E.Sub.refl _ | exact Go.Proofs.E.Sub.nil | (apply Go.Proofs.E.Sub.cons; (repeat (first | exact Go.Proofs.E.Pick.here | apply Go.Proofs.E.Pick.there))) | apply Go.Proofs.E.Sub.tail)))
end Go.Proofs.YtoimhmphhffelaaGreatDoor

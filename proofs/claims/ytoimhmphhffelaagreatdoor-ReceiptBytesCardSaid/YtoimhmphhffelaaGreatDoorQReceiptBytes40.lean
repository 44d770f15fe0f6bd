/- Walks of law 17: the document's receipts in bytes and out of them.
   Walk of law 17: the document's Read of receipts.
   Walk: the law ReceiptBytes. -/
import Derived.Test.YtoimhmphhffelaaGreatDoorQReceiptBytes38
import Derived.Test.YtoimhmphhffelaaGreatDoorQReceiptBytes39
set_option linter.unusedVariables false
set_option linter.unusedSimpArgs false
namespace Go.Proofs.E
open Go Go.RowKit
theorem kstH {P : Program} {ops : Array Oper} {Q : Exit → Act → World → Prop} {rest : List Oper} {l : List Value} {O : List Nat} {w0 w : World} {L L' : List As} {T : TypeId} {pos : String} {after : Array Edge} {x y : Operand} {E t : TypeId} {b n by_ : Nat} {cs vs : List Value} {z : Value} [hi : Inf P t z n by_] (hM : Mem O w0 w L) (h : ∀ w', Ch [b] w w' → Mem O w0 w' (.cell b vs E :: L') → wpList P ops Q rest (fr l) w')
    (hln : vs.length = n) (hf : cs.length = n) (hx : ev l x = .pointer (some ⟨b, 0, none⟩) := by exact rfl) (hp : Pick L (.cell b cs E) L' := by (repeat (first | exact Go.Proofs.E.Pick.here | apply Go.Proofs.E.Pick.there))) (hy : ev l y = .agg vs.toArray := by exact rfl) 
    (h1 : ∀ u ∈ vs, u.oneCell' = true := by exact Go.Proofs.E.one_u8) :
    wpList P ops Q ({ dst := none, op := .store t x y, type := T, pos := pos, after := after, guard := none } :: rest) (fr l) w :=
  stbw (hM.blk hp) hx hy hln hf h1 fun w' hB hc _ => h w' hc ((hM.pick hp).set hB hc)
end Go.Proofs.E
namespace Go.Proofs.YtoimhmphhffelaaGreatDoor
open Go Go.RowKit Go.Proofs.E
attribute [local irreducible] Go.wpList Go.Code.wp Go.Proofs.E.exec Go.Proofs.E.wpLexG
set_option maxHeartbeats 8000000 in
theorem rhash_any (v : Value) (bs : Bs) (wx w0 : World) (hR : tU8.Rd [] w0 v bs) (hx : tU8.Rd [] wx v bs) :
    Calls Tryz.prog 48 #[v] w0 (Ret fun u w' => ∃ v', u = .tuple #[hv (hashT (bs, false)).1.1, v', .bool (!(hashT (bs, false)).2.2)] ∧ tU8.Rd [] wx v' (hashT (bs, false)).2.1 ∧ Ch [] w0 w') := by
  have hM := Mem.start w0
  have hle := hR.le
  obtain ⟨A, c, rfl⟩ := hR.form
  refine enter [.slice A bs.length c, undef, undef, undef, undef, undef, undef, undef, undef, undef, undef, undef, undef, undef, undef, undef, undef] Tryz.func48 rfl rfl ?_
  repeat (first | refine gw ?_ | (refine ks ?_; intro w hM))
  refine kal hM (fun w b2 hM => ?_)
  repeat (first | refine gw ?_ | (refine ks ?_; intro w hM))
  refine kal hM (fun w b5 hM => ?_)
  have hM : Mem [] w0 w [.cell b5 (zeroH.1.map u8v) 28, .cell b2 (zeroH.1.map u8v) 28] := hM
  repeat (first | refine gh ?_ | (refine ks ?_; intro w hM))
  by_cases q : bs.length < 32
  · rw [decide_eq_true (by omega : (bs.length : Int) < 32)]
    refine c_condb rfl (fun _ => ?_) (fun h => by cases h)
    repeat (first | refine gh ?_ | (refine ks ?_; intro w hM))
    rw [hashT_no (.inr q)]
    exact koc12 hM rfl ⟨_, rfl, hx, hM.ch⟩
  rw [decide_eq_false (by omega : ¬ (bs.length : Int) < 32)]
  refine c_condb rfl (fun h => by cases h) (fun _ => ?_)
  repeat (first | refine gh ?_ | (refine ks ?_; intro w hM))
  (try ((with_reducible apply is_gd); first | refine gt ?_ | refine gf ?_ | refine gu ?_)); refine wl_val (r_cut_arr0 rfl) ?_
  repeat (first | refine gh ?_ | (refine ks ?_; intro w hM))
  have hcl : ((bs.take 32).map u8v).length = 32 := by rw [List.length_map, List.length_take]; omega
  have hbn : bs ≠ [] := fun h => by rw [h] at q; simp at q
  obtain ⟨bD, oD, cD, hvD, _, _, hrD⟩ := row8 (hR.mv hM.ch (fun _ _ h => h)) hbn
  obtain ⟨rfl, rfl⟩ : A = some ⟨bD, oD, none⟩ ∧ c = cD := by injection hvD with h1 h2 h3; exact ⟨h1, h3⟩
  refine cpb rfl rfl (hM.blk (b := b5) (by (repeat constructor))) (cs := (bs.take 32).map u8v) (by rw [hcl]; show 32 = min _ _; omega) (fun j v hj => hrD j v (by
    rw [List.map_take, List.getElem?_take] at hj
    split at hj
    · exact hj
    · cases hj)) (by rw [hcl, h32]; omega) one_u8 (fun w hB hc hs => ?_)
  have hM := hM.cellSet hB hc
  rw [show spl (zeroH.1.map u8v) 0 ((bs.take 32).map u8v) = (bs.take 32).map u8v by unfold spl; rw [hcl, List.take_zero, List.nil_append, List.drop_of_length_le (by rw [h32]; omega), List.append_nil], hcl] at *
  rw [← (hashT_ok q).1] at hM
  repeat (first | refine gwb ?_ | (refine ks ?_; intro w hM))
  refine c_ordY ([3], [1, 2]) [b2] (by kernel_rfl) (by kernel_rfl) (by kernel_rfl) (fun w hc hs => ?_)
  have hM := hM.call hc
  have hl5 := Blk.lt (hM.blk (b := b5) (by (repeat constructor)))
  refine ynlr 0 rfl (hM.blk (b := b5) (by (repeat constructor))) (by omega) (hM.nin (b := b2) (c := b5) (by (repeat constructor)) (by (repeat constructor))) rfl (ds := (hashT (bs, false)).1.1.map u8v) (by rw [List.drop_zero]; exact List.take_of_length_le (by rw [h32]; omega)) (h32 _) ?_
  (first | refine yn 1 rfl ?_ | refine ynt 1 rfl ?_ | refine ynff 1 rfl ?_)
  refine yn_cut_low 2 rfl hx rfl rfl rfl (by omega) (by omega) (fun v15 hV => ?_)
  obtain ⟨A15, c15, rfl⟩ := hV.form
  refine yk1 3 hM (by kernel_rfl) rfl (fun w h0 hM => ?_)
  refine kstH (vs := (hashT (bs, false)).1.1.map u8v) hM (fun w hc hM => ?_) (h32 _) (h32 _)
  refine x_wy (.inr ⟨by decide, Nat.le_trans h0 hc.size⟩) rfl ?_
  (first | refine yn 4 rfl ?_ | refine ynt 4 rfl ?_ | refine ynff 4 rfl ?_); (first | refine yn 5 rfl ?_ | refine ynt 5 rfl ?_ | refine ynff 5 rfl ?_)
  refine wy_done (by kernel_rfl) (fun w hc => ?_)
  have hM := hM.call hc
  repeat (first | refine gh ?_ | (refine ks ?_; intro w hM))
  have e2 := (hashT_ok q).2
  exact koc12 hM rfl ⟨.slice A15 (bs.drop 32).length c15, by rw [e2]; rfl, by rw [e2]; exact hV, hM.ch⟩
theorem tC_log8 (a ses snap : Int) (strict : Bool) (vr vw vp : Value) (size : Int) (lg mp : Hs) : ((tC a ses snap strict vr vw vp size lg mp).drop 8).take 32 = lg.1.map u8v := List.take_left' (h32 lg)
theorem tC_map40 (a ses snap : Int) (strict : Bool) (vr vw vp : Value) (size : Int) (lg mp : Hs) : ((tC a ses snap strict vr vw vp size lg mp).drop 40).take 32 = mp.1.map u8v := by
  have e : tC a ses snap strict vr vw vp size lg mp = ([.int .i64 a, .int .i64 ses, .int .i64 snap, .bool strict, vr, vw, vp, .int .i64 size] ++ lg.1.map u8v) ++ mp.1.map u8v := by simp [tC]
  rw [e, List.drop_left' (by rw [List.length_append, h32]; rfl)]
  exact List.take_of_length_le (by rw [h32]; omega)
set_option maxHeartbeats 8000000 in
theorem rtbytes_any (a ses snap : Int) (strict : Bool) (vr vw vp : Value) (size : Int) (lg mp : Hs) (us : List (RR × List Pr)) (wz : List Pr) (path : List Hs) (w0 : World) (hA : RctM w0 vr vw vp us wz path) (hk : ShortR us) (hb : ShortL wz) :
    Calls Tryz.prog 13 #[.agg (tC a ses snap strict vr vw vp size lg mp).toArray] w0 (Ret fun u w' => Ch [] w0 w' ∧ Go.Proofs.E.Own eU8 w' w0.heap.size 5 u (tBytes a size lg mp path snap (recGood ses snap strict us wz) (bytesB ses snap strict us wz))) := by
  have hM := Mem.start w0
  obtain ⟨A, c, rfl⟩ := hA.m.r.form
  obtain ⟨A2, c2, rfl⟩ := hA.m.w.form
  obtain ⟨A3, c3, rfl⟩ := hA.p.form
  have hle := hA.p.le
  have hlb := bytesB_len (ses := ses) (snap := snap) (strict := strict) (us := us) (wz := wz)
  unfold tBytes
  refine enter [.agg (tC a ses snap strict (.slice A (us.map (fun u : RR × List Pr => u.1)).length c) (.slice A2 wz.length c2) (.slice A3 path.length c3) size lg mp).toArray, undef, undef, undef, undef, undef, undef, undef, undef, undef, undef, undef, undef, undef, undef, undef, undef, undef, undef, undef, undef, undef, undef, undef, undef, undef, undef, undef, undef, undef, undef, undef, undef, undef, undef, undef, undef, undef, undef, undef, undef, undef, undef, undef, undef, undef, undef, undef, undef, undef, undef] Tryz.func13 rfl rfl ?_
  repeat (first | refine gw ?_ | (refine ks ?_; intro w hM))
  refine kbx hM (fun w b1 hM => ?_)
  have hM : Mem [] w0 w [.cell b1 (tC a ses snap strict (.slice A (us.map (fun u : RR × List Pr => u.1)).length c) (.slice A2 wz.length c2) (.slice A3 path.length c3) size lg mp) 32] := hM
  repeat (first | refine gr ?_ | (refine ks ?_; intro w hM))
  refine kca hM (rtgood_any a ses snap strict _ _ _ size lg mp us wz path _ (hA.ch hM.ch) hk hb) (fun w hM => ?_)
  cases hg : good17 a size snap path.length (recGood ses snap strict us wz) with
  | false =>
    repeat (first | refine gr ?_ | (refine ks ?_; intro w hM))
    refine c_condb rfl (fun _ => ?_) (fun h => by cases h)
    repeat (first | refine gr ?_ | (refine ks ?_; intro w hM))
    rw [if_neg (by simp)]
    exact out1 rfl ⟨hM.ch, Own.nil _ _ _ _⟩
  | true =>
  repeat (first | refine gr ?_ | (refine ks ?_; intro w hM))
  refine c_condb rfl (fun h => by cases h) (fun _ => ?_)
  rw [if_pos rfl]
  have hgp : 0 ≤ a ∧ a ≤ 1099511627776 ∧ size = a + 1 ∧ snap ≤ a ∧ path.length ≤ 64 := by
    unfold good17 at hg
    rw [Bool.and_eq_true, decide_eq_true_eq] at hg
    exact hg.1
  obtain ⟨an, rfl⟩ := Int.eq_ofNat_of_zero_le hgp.1
  obtain ⟨sn, rfl⟩ := Int.eq_ofNat_of_zero_le (by omega : 0 ≤ size)
  rw [Int.toNat_natCast, Int.toNat_natCast]
  repeat (first | refine gr ?_ | (refine ks ?_; intro w hM))
  have hA1 := hA.m.ch hM.ch
  refine kcr hM (rrecBytes_any ses snap strict _ _ us wz _ hA1.r hA1.u hA1.w hk hb) (fun v13 w hM => ?_)
  generalize bytesB ses snap strict us wz = rb at hM hlb ⊢
  repeat (first | refine gr ?_ | (refine ks ?_; intro w hM))
  (try ((with_reducible apply is_gd); first | refine gt ?_ | refine gf ?_ | refine gu ?_)); refine wl_val (r_b2s (hM.rowRdO (en := eU8) (xs := rb) (v := v13) (by (repeat constructor)))) ?_
  repeat (first | refine gr ?_ | (refine ks ?_; intro w hM))
  refine kcr hM (rstr_any _ rb _ (Ty.Rd.nil _ _ _ _ _) (by simp) (by omega)) (fun v15 w hM => ?_)
  rw [List.nil_append] at hM
  repeat (first | refine grb ?_ | (refine ks ?_; intro w hM))
  refine c_ordY ([], []) [] (by kernel_rfl) (by kernel_rfl) (by kernel_rfl) (fun w hc hs => ?_)
  have hM := hM.call hc
  have hl1 := Blk.lt (hM.blk (b := b1) (by (repeat constructor)))
  (first | refine yn 0 rfl ?_ | refine ynt 0 rfl ?_ | refine ynff 0 rfl ?_); (first | refine yn 1 rfl ?_ | refine ynt 1 rfl ?_ | refine ynff 1 rfl ?_)
  refine ynl 2 rfl (hM.blk (b := b1) (by (repeat constructor))) (by omega) (by simp) rfl rfl ?_
  refine ynp 3 rfl (by kernel_rfl) (by kernel_rfl) (fun _ => r_convw (a := (an : Int)) (k := .u64) rfl rfl (by omega) (by omega)) rfl ?_
  (first | refine yn 5 rfl ?_ | refine ynt 5 rfl ?_ | refine ynff 5 rfl ?_); (first | refine yn 6 rfl ?_ | refine ynt 6 rfl ?_ | refine ynff 6 rfl ?_)
  refine ynl 7 rfl (hM.blk (b := b1) (by (repeat constructor))) (by omega) (by simp) rfl rfl ?_
  refine ynp 8 rfl (by kernel_rfl) (by kernel_rfl) (fun _ => r_convw (a := (sn : Int)) (k := .u64) rfl rfl (by omega) (by omega)) rfl ?_
  refine yk1 4 hM (by kernel_rfl) rfl (fun w h0 hM => ?_)
  have hnl := numB_len (n := an) (by omega)
  have hnl2 := numB_len (n := sn) (by omega)
  have hsl : (strB rb).length ≤ rb.length + 10 := by
    unfold strB
    rw [List.length_append]
    have := numB_len (n := rb.length) (by omega)
    omega
  refine ca (rnum_any v15 an w (hM.rowRdO (en := eU8) (xs := strB rb) (v := v15) (by (repeat constructor))) (by omega) (by omega)) ?_
  rintro v20 w2 ⟨hc, hO⟩
  have hM := hM.got hc hO
  refine x_wy (.inl (hc.gy h0)) rfl ?_
  refine yk1 9 hM (by kernel_rfl) rfl (fun w h0 hM => ?_)
  refine ca (rnum_any v20 sn w (hM.rowRdO (en := eU8) (v := v20) (by (repeat constructor))) (by simp; omega) (by omega)) ?_
  rintro v25 w2 ⟨hc, hO⟩
  have hM := hM.got hc hO
  refine x_wy (.inl (hc.gy h0)) rfl ?_
  (first | refine yn 10 rfl ?_ | refine ynt 10 rfl ?_ | refine ynff 10 rfl ?_)
  refine wy_done (by kernel_rfl) (fun w hc => ?_)
  have hM := hM.call hc
  generalize hB0 : strB rb ++ numB an ++ numB sn = B0 at hM
  have hB0l : B0.length ≤ 20000000 := by rw [← hB0]; simp; omega
  have hM : Mem [] w0 w [.row eU8 5 v25 B0, .cell b1 (tC an ses snap strict (.slice A (us.map (fun u : RR × List Pr => u.1)).length c) (.slice A2 wz.length c2) (.slice A3 path.length c3) sn lg mp) 32] := hM.sub (by (repeat constructor))
  repeat (first | refine grb ?_ | (refine ks ?_; intro w hM))
  refine c_ordY ([4, 8], [5, 6, 7]) [] (by kernel_rfl) (by kernel_rfl) (by kernel_rfl) (fun w hc hs => ?_)
  have hM := hM.call hc
  (first | refine yn 0 rfl ?_ | refine ynt 0 rfl ?_ | refine ynff 0 rfl ?_); (first | refine yn 1 rfl ?_ | refine ynt 1 rfl ?_ | refine ynff 1 rfl ?_); (first | refine yn 2 rfl ?_ | refine ynt 2 rfl ?_ | refine ynff 2 rfl ?_)
  refine ynp 3 rfl (by kernel_rfl) (by kernel_rfl) (fun _ => r_cut_arr0 rfl) rfl ?_
  (first | refine yn 5 rfl ?_ | refine ynt 5 rfl ?_ | refine ynff 5 rfl ?_); (first | refine yn 6 rfl ?_ | refine ynt 6 rfl ?_ | refine ynff 6 rfl ?_)
  refine ynp 7 rfl (by kernel_rfl) (by kernel_rfl) (fun _ => r_cut_arr0 rfl) rfl ?_
  refine yk1 4 hM (by kernel_rfl) rfl (fun w h0 hM => ?_)
  refine kapC (en := eU8) (v := v25) (xs := B0) (ys := lg.1) (yv := .slice (some ⟨b1, 8, none⟩) 32 32) hM (hM.cell8 (b := b1) (o := 8) (by (repeat constructor)) (tC_log8 _ _ _ _ _ _ _ _ _ _) lg.2) (fun v28 w hs hM => ?_) (hb := by rw [lg.2]; omega) (h63 := by rw [lg.2]; omega)
  refine x_wy (.inr ⟨by decide, Nat.le_trans h0 hs⟩) rfl ?_
  refine yk1 8 hM (by kernel_rfl) rfl (fun w h0 hM => ?_)
  refine kapC (en := eU8) (v := v28) (xs := B0 ++ lg.1) (ys := mp.1) (yv := .slice (some ⟨b1, 40, none⟩) 32 32) hM (hM.cell8 (b := b1) (o := 40) (by (repeat constructor)) (tC_map40 _ _ _ _ _ _ _ _ _ _) mp.2) (fun v32 w hs hM => ?_) (hb := by rw [List.length_append, lg.2, mp.2]; omega) (h63 := by rw [List.length_append, lg.2, mp.2]; omega)
  refine x_wy (.inr ⟨by decide, Nat.le_trans h0 hs⟩) rfl ?_
  (first | refine yn 9 rfl ?_ | refine ynt 9 rfl ?_ | refine ynff 9 rfl ?_)
  refine wy_done (by kernel_rfl) (fun w hc => ?_)
  have hM := hM.call hc
  generalize hB1 : B0 ++ lg.1 ++ mp.1 = B1 at hM
  have hB1l : B1.length ≤ 20000064 := by rw [← hB1]; simp [lg.2, mp.2]; omega
  repeat (first | refine gr ?_ | (refine ks ?_; intro w hM))
  have hnl3 := numB_len (n := path.length) (by omega)
  refine kcr hM (rnum_any v32 path.length w (hM.rowRdO (en := eU8) (v := v32) (by (repeat constructor))) (by omega) (by omega)) (fun v45 w hM => ?_)
  repeat (first | refine gr ?_ | (refine ks ?_; intro w hM))
  generalize hB2 : B1 ++ numB path.length = B2 at hM
  have hB2l : B2.length ≤ 20000100 := by rw [← hB2]; simp; omega
  have hM : Mem [] w0 w [.row eU8 5 v45 B2, .cell b1 (tC an ses snap strict (.slice A (us.map (fun u : RR × List Pr => u.1)).length c) (.slice A2 wz.length c2) (.slice A3 path.length c3) sn lg mp) 32] := hM.sub (by (repeat constructor))
  
  refine c_loop (fun n l w => ∃ (j : Nat) (v3 : Value), (∃ jj : Nat → Value, l = [jj 0, .pointer (some ⟨b1, 0, none⟩), jj 2, v3, jj 4, jj 5, jj 6, jj 7, jj 8, jj 9, jj 10, jj 11, jj 12, jj 13, jj 14, jj 15, jj 16, jj 17, jj 18, jj 19, jj 20, jj 21, jj 22, jj 23, jj 24, jj 25, jj 26, jj 27, jj 28, jj 29, jj 30, jj 31, jj 32, jj 33, jj 34, jj 35, jj 36, jj 37, jj 38, jj 39, .slice A3 path.length c3, .int .i64 (path.length : Int), .int .i64 (j : Int), jj 43, jj 44, jj 45, jj 46, jj 47, jj 48, jj 49, jj 50]) ∧ n + j = path.length ∧ Mem [] w0 w [.row eU8 5 v3 (B2 ++ (path.take j).flatMap (fun h : Hs => h.1)), .cell b1 (tC an ses snap strict (.slice A (us.map (fun u : RR × List Pr => u.1)).length c) (.slice A2 wz.length c2) (.slice A3 path.length c3) sn lg mp) 32]) path.length
    ⟨0, v45, exj rfl, rfl, by simpa using hM⟩ ?_
  clear hM
  rintro n l w ⟨j, v3, ⟨jj, rfl⟩, hnj, hM⟩
  repeat (first | refine gw ?_ | (refine ks ?_; intro w hM))
  refine c_cond rfl (fun hj => ?_) (fun hj => ?_)
  · repeat (first | refine gw ?_ | (refine ks ?_; intro w hM))
    refine kix hA.p (fun b o x hx hA3 => ?_)
    rw [Int.toNat_natCast] at hx
    refine katr hM hA3 ?_
    refine kal hM (fun w b7 hM => ?_)
    refine kstw (vs := x.1.map u8v) hM (fun w hM => ?_) (hln := h32 x)
    repeat (first | refine gw ?_ | (refine ks ?_; intro w hM))
    (try ((with_reducible apply is_gd); first | refine gt ?_ | refine gf ?_ | refine gu ?_)); refine wl_val (r_cut_arr0 rfl) ?_
    have hfl := flat_len (path.take j)
    rw [List.length_take] at hfl
    refine kap (en := eU8) (v := v3) (yv := .slice (some ⟨b7, 0, none⟩) 32 32) (ys := x.1) hM (cellH8 hM x (by (repeat constructor))) (fun v55 w hM => ?_) (hb := by simp only [List.length_append, hfl, x.2]; omega) (h63 := by simp only [List.length_append, hfl, x.2]; omega)
    repeat (first | refine gw ?_ | (refine ks ?_; intro w hM))
    rw [List.append_assoc, ← flat_step hx] at hM
    exact x_goes (n - 1) rfl (by omega) ⟨j + 1, v55, exj rfl, by omega, hM.sub (by (repeat constructor))⟩
  · repeat (first | refine gw ?_ | (refine ks ?_; intro w hM))
    rw [List.take_of_length_le (by omega)] at hM
    have hrow := hM.row (v := v3) (by (repeat constructor))
    have e : B2 ++ path.flatMap (fun h : Hs => h.1) = rctB (rb, an, sn, lg, mp, path) := by
      rw [← hB2, ← hB1, ← hB0]
      unfold rctB
      simp
    rw [e] at hrow
    exact out1 rfl ⟨hM.ch, hrow⟩
set_option maxHeartbeats 8000000 in
theorem rtsame_any (a ses snap : Int) (strict : Bool) (vr vw vp : Value) (size : Int) (lg mp : Hs) (us : List (RR × List Pr)) (wz : List Pr) (path : List Hs) (a2 ses2 snap2 : Int) (strict2 : Bool) (vr2 vw2 vp2 : Value) (size2 : Int) (lg2 mp2 : Hs) (us2 : List (RR × List Pr)) (wz2 : List Pr) (path2 : List Hs) (w0 : World) (hA : RctM w0 vr vw vp us wz path) (hB : RctM w0 vr2 vw2 vp2 us2 wz2 path2) :
    Calls Tryz.prog 14 #[.agg (tC a ses snap strict vr vw vp size lg mp).toArray, .agg (tC a2 ses2 snap2 strict2 vr2 vw2 vp2 size2 lg2 mp2).toArray] w0 (Ret fun u w' => u = .bool (sameT a size lg mp path a2 size2 lg2 mp2 path2 (sameB ses snap strict us wz ses2 snap2 strict2 us2 wz2)) ∧ Ch [] w0 w') := by
  have hM := Mem.start w0
  obtain ⟨A, c, rfl⟩ := hA.m.r.form
  obtain ⟨A2, c2, rfl⟩ := hA.m.w.form
  obtain ⟨A3, c3, rfl⟩ := hA.p.form
  obtain ⟨B, d, rfl⟩ := hB.m.r.form
  obtain ⟨B2, d2, rfl⟩ := hB.m.w.form
  obtain ⟨B3, d3, rfl⟩ := hB.p.form
  unfold sameT
  refine enter [.agg (tC a ses snap strict (.slice A (us.map (fun u : RR × List Pr => u.1)).length c) (.slice A2 wz.length c2) (.slice A3 path.length c3) size lg mp).toArray, .agg (tC a2 ses2 snap2 strict2 (.slice B (us2.map (fun u : RR × List Pr => u.1)).length d) (.slice B2 wz2.length d2) (.slice B3 path2.length d3) size2 lg2 mp2).toArray, undef, undef, undef, undef, undef, undef, undef, undef, undef, undef, undef, undef, undef, undef, undef, undef, undef, undef, undef, undef, undef, undef, undef, undef, undef, undef, undef, undef, undef] Tryz.func14 rfl rfl ?_
  repeat (first | refine gw ?_ | (refine ks ?_; intro w hM))
  refine kbx hM (fun w b2 hM => ?_)
  refine kbx hM (fun w b3 hM => ?_)
  have hM : Mem [] w0 w [.cell b3 (tC a2 ses2 snap2 strict2 (.slice B (us2.map (fun u : RR × List Pr => u.1)).length d) (.slice B2 wz2.length d2) (.slice B3 path2.length d3) size2 lg2 mp2) 32, .cell b2 (tC a ses snap strict (.slice A (us.map (fun u : RR × List Pr => u.1)).length c) (.slice A2 wz.length c2) (.slice A3 path.length c3) size lg mp) 32] := hM
  repeat (first | refine gr ?_ | (refine ks ?_; intro w hM))
  by_cases q1 : a = a2
  rotate_left
  · rw [decide_eq_false q1]
    repeat (first | refine gr ?_ | (refine ks ?_; intro w hM))
    exact out1 rfl ⟨rfl, hM.ch⟩
  rw [decide_eq_true q1]
  repeat (first | refine gr ?_ | (refine ks ?_; intro w hM))
  (try ((with_reducible apply is_gd); first | refine gt ?_ | refine gf ?_ | refine gu ?_)); refine kca hM (rsame_any ses snap strict _ _ us wz ses2 snap2 strict2 _ _ us2 wz2 w (hA.m.ch hM.ch) (hB.m.ch hM.ch)) (fun w hM => ?_)
  cases q2 : sameB ses snap strict us wz ses2 snap2 strict2 us2 wz2 with
  | false =>
    repeat (first | refine gr ?_ | (refine ks ?_; intro w hM))
    exact out1 rfl ⟨by simp [ev, nth], hM.ch⟩
  | true =>
  repeat (first | refine gr ?_ | (refine ks ?_; intro w hM))
  (try ((with_reducible apply is_gd); first | refine gt ?_ | refine gf ?_ | refine gu ?_)); refine kca hM (same09_any _ _ path path2 w (hA.p.ch hM.ch) (hB.p.ch hM.ch)) (fun w hM => ?_)
  by_cases q4 : path = path2
  rotate_left
  · rw [decide_eq_false q4]
    repeat (first | refine gr ?_ | (refine ks ?_; intro w hM))
    exact out1 rfl ⟨by simp [ev, nth], hM.ch⟩
  rw [decide_eq_true q4]
  repeat ((fail_if_success (with_reducible apply Go.Proofs.E.is_dst (d := 26))); first | ((with_reducible apply is_ld); first | refine kld hM ?_ | refine kldw hM ?_ | refine kle hM ?_ | refine klew hM ?_) | ((with_reducible apply is_sto); first | (refine kst hM ?_; intro w hM) | (refine kstw hM ?_; intro w hM)) | ((with_reducible apply is_st); refine su ?_) | ((with_reducible apply is_gd); first | refine gt ?_ | refine gf ?_ | refine gu ?_) | ((with_reducible apply is_en); refine en ?_) | (with_reducible apply c_region) | refine ws ?_ | refine x_block_other (by decide) ?_)
  refine gt ?_
  refine kldp (dC size lg mp) hM (tC_dig _ _ _ _ _ _ _ _ _ _) ?_ (hn := dC_len _ _ _)
  repeat ((fail_if_success (with_reducible apply Go.Proofs.E.is_dst (d := 28))); first | ((with_reducible apply is_ld); first | refine kld hM ?_ | refine kldw hM ?_ | refine kle hM ?_ | refine klew hM ?_) | ((with_reducible apply is_sto); first | (refine kst hM ?_; intro w hM) | (refine kstw hM ?_; intro w hM)) | ((with_reducible apply is_st); refine su ?_) | ((with_reducible apply is_gd); first | refine gt ?_ | refine gf ?_ | refine gu ?_) | ((with_reducible apply is_en); refine en ?_) | (with_reducible apply c_region) | refine ws ?_ | refine x_block_other (by decide) ?_)
  refine gt ?_
  refine kldp (dC size2 lg2 mp2) hM (tC_dig _ _ _ _ _ _ _ _ _ _) ?_ (hn := dC_len _ _ _)
  (try ((with_reducible apply is_gd); first | refine gt ?_ | refine gf ?_ | refine gu ?_)); refine wl_val (r_eqlS (by kernel_rfl) (by kernel_rfl) (by kernel_rfl) rfl rfl (dig_cmp size size2 lg mp lg2 mp2)) ?_
  repeat (first | refine gr ?_ | (refine ks ?_; intro w hM))
  exact out1 rfl ⟨by simp [ev, nth], hM.ch⟩
end Go.Proofs.YtoimhmphhffelaaGreatDoor
set_option linter.unusedVariables false
set_option linter.unusedSimpArgs false
namespace Go.Proofs.YtoimhmphhffelaaGreatDoor
open Go Go.RowKit Go.Proofs.E
attribute [local irreducible] Go.wpList Go.Code.wp Go.Proofs.E.exec Go.Proofs.E.wpLexG
/-- As the document goes: both numbers have one bound; the first one's own is looked at last. -/
def sqA (s0 : Sr) : Nat → Nat × Nat × Sr
  | 0 => (0, 0, s0)
  | 1 => ((numT 1099511627777 s0).1, 0, (numT 1099511627777 s0).2)
  | _ => ((numT 1099511627777 s0).1, (numT 1099511627777 (numT 1099511627777 s0).2).1, (numT 1099511627777 (numT 1099511627777 s0).2).2)
theorem numT_two {s : Sr} : (numT 1099511627777 s).1 ≤ 1099511627776 ∧ numT 1099511627776 s = numT 1099511627777 s ∨ (numT 1099511627776 s).2.2 = true := by
  obtain ⟨bs, bad⟩ := s
  cases bad with
  | true => right; rw [numT_bad rfl]
  | false =>
    obtain ⟨n, k, ok, hg⟩ : ∃ n k ok, getNum bs = (n, k, ok) := ⟨_, _, _, rfl⟩
    cases ok with
    | false => right; rw [numT_no hg (.inl rfl)]
    | true =>
      by_cases q : 1099511627776 < n
      · right; rw [numT_no hg (.inr q)]
      · left
        rw [numT_ok hg (by omega), numT_ok hg (by omega)]
        exact ⟨by simp only; omega, rfl⟩
theorem numT_two' {s : Sr} (h : (numT 1099511627776 s).2.2 = true) : (numT 1099511627777 s).2.2 = true ∨ 1099511627776 < (numT 1099511627777 s).1 := by
  obtain ⟨bs, bad⟩ := s
  cases bad with
  | true => left; rw [numT_bad rfl]
  | false =>
    obtain ⟨n, k, ok, hg⟩ : ∃ n k ok, getNum bs = (n, k, ok) := ⟨_, _, _, rfl⟩
    cases ok with
    | false => left; rw [numT_no hg (.inl rfl)]
    | true =>
      by_cases q : 1099511627776 < n
      · by_cases q2 : 1099511627777 < n
        · left; rw [numT_no hg (.inr q2)]
        · right; rw [numT_ok hg (by omega)]; exact q
      · rw [numT_ok hg (by omega)] at h
        cases h
def lastA (s0 : Sr) : List Hs × Sr := timesT 64 hashT (hashT (hashT (sqA s0 2).2.2).2).2
def valA (s0 : Sr) : Nat × Nat × Hs × Hs × List Hs := ((sqA s0 2).1, (sqA s0 2).2.1, (hashT (sqA s0 2).2.2).1, (hashT (hashT (sqA s0 2).2.2).2).1, (lastA s0).1)
theorem bad_last {s0 : Sr} (h : s0.2 = true ∨ (sqA s0 1).2.2.2 = true ∨ (sqA s0 2).2.2.2 = true ∨ (hashT (sqA s0 2).2.2).2.2 = true ∨ (hashT (hashT (sqA s0 2).2.2).2).2.2 = true) : (lastA s0).2.2 = true := by
  cases hc : (lastA s0).2.2 with
  | true => rfl
  | false =>
    have e1 := (times_sound hash_sound hc).1
    have d1 := (hash_sound _ e1).1
    have c1 := (hash_sound _ d1).1
    have b1 := (num_sound (s := (numT 1099511627777 s0).2) c1).1
    have a1 := (num_sound b1).1
    rcases h with h | h | h | h | h
    · rw [a1] at h; cases h
    · rw [show (sqA s0 1).2.2 = (numT 1099511627777 s0).2 from rfl, b1] at h; cases h
    · rw [c1] at h; cases h
    · rw [d1] at h; cases h
    · rw [e1] at h; cases h
/-- What is read, as the document goes. -/
theorem readR_A {bs : Bs} : readR bs = if (lastA (strT 8192 (bs, false)).2).2.2 = true ∨ (lastA (strT 8192 (bs, false)).2).2.1 ≠ [] then none else
    match readZ (strT 8192 (bs, false)).1 with
    | none => none
    | some x => if goodT (x, valA (strT 8192 (bs, false)).2) = true then some (x, valA (strT 8192 (bs, false)).2) else none := by
  unfold readR
  rw [rctS_eq]
  generalize strT 8192 (bs, false) = t
  rcases numT_two (s := t.2) with ⟨h1, h2⟩ | h1
  · rw [h2]
    rfl
  · have e : (timesT 64 hashT (hashT (hashT (numT 1099511627777 (numT 1099511627776 t.2).2).2).2).2).2.2 = true := by
      cases hc : (timesT 64 hashT (hashT (hashT (numT 1099511627777 (numT 1099511627776 t.2).2).2).2).2).2.2 with
      | true => rfl
      | false =>
        have b1 := (num_sound ((hash_sound _ ((hash_sound _ (times_sound hash_sound hc).1).1)).1)).1
        rw [h1] at b1
        cases b1
    rw [if_pos (.inl e)]
    split
    · rfl
    · rename_i q
      have hok : (lastA t.2).2.2 = false := by
        cases hc : (lastA t.2).2.2 with
        | false => rfl
        | true => exact absurd (.inl hc) q
      rcases numT_two' h1 with h2 | h2
      · rw [bad_last (.inr (.inl h2))] at hok
        cases hok
      · split
        · rfl
        · rw [if_neg]
          intro hg
          have := (goodT_parts hg).2.2.1
          exact absurd this (by show ¬ (numT 1099511627777 t.2).1 ≤ 1099511627776; omega)
theorem readA_bad {bs : Bs} (h : (lastA (strT 8192 (bs, false)).2).2.2 = true ∨ (lastA (strT 8192 (bs, false)).2).2.1 ≠ [] ∨ readZ (strT 8192 (bs, false)).1 = none) : readR bs = none := by
  rw [readR_A]
  split
  · rfl
  · rename_i q
    rcases h with h | h | h
    · exact absurd (.inl h) q
    · exact absurd (.inr h) q
    · rw [h]
theorem loop_bad {f : Sr → Hs × Sr} : ∀ {n : Nat} {a : List Hs} {s : Sr}, s.2 = true → (loopT f n a s).2.2 = true
  | 0, a, s, h => h
  | n + 1, a, s, h => by rw [loopT_succ, if_pos h]; exact h
set_option maxHeartbeats 32000000 in
theorem rrctRead_any (v : Value) (bs : Bs) (w0 : World) (hR : tU8.Rd [] w0 v bs) :
    Calls Tryz.prog 11 #[v] w0 (Ret fun u w' => ReadPostR bs w0 u w') := by
  have hM := Mem.start w0
  have hle := hR.le
  obtain ⟨A, c, rfl⟩ := hR.form
  have hbadl : ∀ {h : Prop}, _ := fun {h : Prop} => @bad_last (strT 8192 (bs, false)).2
  have hrA := @readA_bad bs
  have hrZ := @readR_A bs
  refine enter [.slice A bs.length c, undef, undef, undef, undef, undef, undef, undef, undef, undef, undef, undef, undef, undef, undef, undef, undef, undef, undef, undef, undef, undef, undef, undef, undef, undef, undef, undef, undef, undef, undef, undef, undef, undef, undef, undef, undef, undef, undef, undef, undef, undef, undef, undef, undef, undef, undef, undef, undef, undef, undef, undef, undef, undef, undef, undef, undef, undef, undef, undef, undef, undef, undef, undef, undef, undef, undef, undef, undef, undef, undef, undef, undef, undef, undef, undef, undef, undef, undef, undef, undef, undef, undef, undef, undef, undef, undef, undef, undef, undef, undef, undef, undef, undef, undef, undef, undef, undef, undef, undef, undef, undef, undef, undef, undef, undef, undef, undef, undef, undef, undef, undef, undef, undef, undef, undef, undef, undef, undef, undef, undef, undef, undef, undef, undef, undef, undef, undef, undef, undef, undef, undef, undef, undef, undef, undef, undef, undef] Tryz.func11 rfl rfl ?_
  repeat (first | refine gw ?_ | (refine ks ?_; intro w hM))
  refine kal hM (fun w b2 hM => ?_)
  rw [zero_rct] at hM
  repeat (first | refine gw ?_ | (refine ks ?_; intro w hM))
  (try ((with_reducible apply is_gd); first | refine gt ?_ | refine gf ?_ | refine gu ?_)); refine wl_val (r_bldS (vs := []) (tC 0 0 0 false (.slice none 0 0) (.slice none 0 0) (.slice none 0 0) 0 zeroH zeroH) (z := tC 0 0 0 false (.slice none 0 0) (.slice none 0 0) (.slice none 0 0) 0 zeroH zeroH) (place := (#[(0, 1), (1, 5), (6, 1), (7, 65)][·]?)) (by intro ps; kernel_rfl) rfl (.nil rfl)) ?_
  refine kal hM (fun w b4 hM => ?_)
  rw [zero_rct] at hM
  refine kstwT (vs := tC 0 0 0 false (.slice none 0 0) (.slice none 0 0) (.slice none 0 0) 0 zeroH zeroH) hM (fun w hc hM => ?_)
  repeat (first | refine gw ?_ | (refine ks ?_; intro w hM))
  refine kca hM (rgetStr_any _ 8192 w (hR.ch hM.ch) (by omega)) (fun w hM => ?_)
  have hk := getStr_k bs 8192
  obtain ⟨text, k, ok, hg⟩ : ∃ t k ok, getStr bs 8192 = (t, k, ok) := ⟨_, _, _, rfl⟩
  rw [hg] at hk ⊢
  simp only at hk
  repeat (first | refine gw ?_ | (refine ks ?_; intro w hM))
  cases ok with
  | false =>
    repeat (first | refine gw ?_ | (refine ks ?_; intro w hM))
    refine c_condb rfl (fun _ => ?_) (fun h => by cases h)
    repeat (first | refine gr ?_ | (refine ks ?_; intro w hM))
    refine kstwT (b := b2) (vs := tC 0 0 0 false (.slice none 0 0) (.slice none 0 0) (.slice none 0 0) 0 zeroH zeroH) hM (fun w hc hM => ?_)
    repeat (first | refine gw ?_ | (refine ks ?_; intro w hM))
    exact koc2 hM rfl (readPostR_none (readR_bad (.inl (rct_bad (strT_no hg)))) hM) (hn := tC_len _ _ _ _ _ _ _ _ _ _)
  | true =>
  rw [strT_ok hg] at hrA hrZ
  clear hbadl
  simp only at hrA hrZ
  have htl : text.length ≤ 8192 := by
    have := strT_len 8192 (bs, false)
    rwa [strT_ok hg] at this
  repeat (first | refine gw ?_ | (refine ks ?_; intro w hM))
  refine c_condb rfl (fun h => by cases h) (fun _ => ?_)
  repeat (first | refine gw ?_ | (refine ks ?_; intro w hM))
  refine kst8 text hM (fun w b30 c30 hc30 hR30 hM => ?_)
  refine ca (rrecRead_any _ text w hR30) ?_
  rintro _ w2 ⟨vr, vw, us, rfl, hus, hN⟩
  have hM := hM.join hN rows_plain
  obtain ⟨zr, hzr⟩ : ∃ zr, readZ text = zr := ⟨_, rfl⟩
  rw [hzr] at hM hus hN hrA hrZ ⊢
  obtain ⟨Ar, cr, rfl⟩ := (rows_recM hN).r.form
  obtain ⟨Aw, cw, rfl⟩ := (rows_recM hN).w.form
  obtain ⟨⟨ses, snap, strict, ds, wz⟩, hy⟩ : ∃ y : RecV, resR zr = y := ⟨_, rfl⟩
  rw [hy] at hM hus hN ⊢
  simp only at hM hus hN ⊢
  subst hus
  obtain ⟨TL, hTL⟩ : ∃ TL, TL = rows16 (.slice Ar (us.map (fun u : RR × List Pr => u.1)).length cr) (.slice Aw wz.length cw) us wz := ⟨_, rfl⟩
  rw [← hTL] at hM hN
  have hM : Mem [] w0 w2 (.cell b4 (tC 0 0 0 false (.slice none 0 0) (.slice none 0 0) (.slice none 0 0) 0 zeroH zeroH) 32 :: .cell b2 (tC 0 0 0 false (.slice none 0 0) (.slice none 0 0) (.slice none 0 0) 0 zeroH zeroH) 32 :: TL) := hM.perm (by
    classical exact List.perm_iff_count.2 (fun x => by simp only [List.count_cons, List.count_append, List.count_nil] <;> omega))
  repeat (first | refine gw ?_ | (refine ks ?_; intro w hM))
  refine kal hM (fun w b8 hM => ?_)
  refine kstw (vs := rC ses snap strict (.slice Ar (us.map (fun u : RR × List Pr => u.1)).length cr) (.slice Aw wz.length cw)) hM (fun w hM => ?_)
  repeat (first | refine gw ?_ | (refine ks ?_; intro w hM))
  cases zr with
  | none =>
    repeat (first | refine gw ?_ | (refine ks ?_; intro w hM))
    refine c_condb rfl (fun _ => ?_) (fun h => by cases h)
    repeat (first | refine gr ?_ | (refine ks ?_; intro w hM))
    refine kstwT (b := b2) (vs := tC 0 0 0 false (.slice none 0 0) (.slice none 0 0) (.slice none 0 0) 0 zeroH zeroH) hM (fun w hc hM => ?_)
    repeat (first | refine gw ?_ | (refine ks ?_; intro w hM))
    exact koc2 hM rfl (readPostR_none (hrA (.inr (.inr rfl))) hM) (hn := tC_len _ _ _ _ _ _ _ _ _ _)
  | some x =>
  have hsm := readZ_sm hzr
  obtain rfl : x = (ses, snap, strict, us.map dat, wz) := hy
  obtain ⟨hk0, hb0⟩ := smV_short (us := us) hsm rfl
  repeat (first | refine gw ?_ | (refine ks ?_; intro w hM))
  refine c_condb rfl (fun h => by cases h) (fun _ => ?_)
  repeat (first | refine gr ?_ | (refine ks ?_; intro w hM))
  (try ((with_reducible apply is_gd); first | refine gt ?_ | refine gf ?_ | refine gu ?_)); refine wl_val (r_bldS (vs := [(1, .agg (rC ses snap strict (.slice Ar (us.map (fun u : RR × List Pr => u.1)).length cr) (.slice Aw wz.length cw)).toArray)]) (tC 0 ses snap strict (.slice Ar (us.map (fun u : RR × List Pr => u.1)).length cr) (.slice Aw wz.length cw) (.slice none 0 0) 0 zeroH zeroH) (z := tC 0 0 0 false (.slice none 0 0) (.slice none 0 0) (.slice none 0 0) 0 zeroH zeroH) (place := (#[(0, 1), (1, 5), (6, 1), (7, 65)][·]?)) (by intro ps; kernel_rfl) rfl (.cons rfl (by simp [Value.cells]) (by simp [spl, Value.cells]) (.nil (by simp [spl, Value.cells])))) ?_
  refine kal hM (fun w b10 hM => ?_)
  rw [zero_rct] at hM
  refine kstwT (vs := tC 0 ses snap strict (.slice Ar (us.map (fun u : RR × List Pr => u.1)).length cr) (.slice Aw wz.length cw) (.slice none 0 0) 0 zeroH zeroH) hM (fun w hc hM => ?_)
  repeat (first | refine gw ?_ | (refine ks ?_; intro w hM))
  refine kcutl hR (i := (k : Int)) (fun v41 hV => ?_)
  rw [Int.toNat_natCast] at hV
  obtain ⟨A41, c41, rfl⟩ := hV.form
  repeat (first | refine gw ?_ | (refine ks ?_; intro w hM))
  have hM : Mem [] w0 w (.cell b10 (tC 0 ses snap strict (.slice Ar (us.map (fun u : RR × List Pr => u.1)).length cr) (.slice Aw wz.length cw) (.slice none 0 0) 0 zeroH zeroH) 32 :: .cell b4 (tC 0 0 0 false (.slice none 0 0) (.slice none 0 0) (.slice none 0 0) 0 zeroH zeroH) 32 :: .cell b2 (tC 0 0 0 false (.slice none 0 0) (.slice none 0 0) (.slice none 0 0) 0 zeroH zeroH) 32 :: TL) := hM.sub (by (repeat (first | exact Go.Proofs.E.Sub.refl _ | exact Go.Proofs.E.Sub.nil | (apply Go.Proofs.E.Sub.cons; (repeat (first | exact Go.Proofs.E.Pick.here | apply Go.Proofs.E.Pick.there))) | apply Go.Proofs.E.Sub.tail)))
  obtain ⟨s0, hs0⟩ : ∃ s0 : Sr, s0 = (bs.drop k, false) := ⟨_, rfl⟩
  rw [← hs0] at hrA hrZ
  have hbl := @bad_last s0
  have h0 : s0.2 = false := by rw [hs0]
  have hV0 : tU8.Rd [] w0 (.slice A41 (bs.drop k).length c41) s0.1 := by rw [hs0]; exact hV
  clear hV h0
  
  
  refine c_loop (fun n l w => ∃ (i : Nat) (v11 : Value), (∃ jj : Nat → Value, l = [jj 0, jj 1, .pointer (some ⟨b2, 0, none⟩), jj 3, .pointer (some ⟨b4, 0, none⟩), jj 5, jj 6, jj 7, jj 8, jj 9, .pointer (some ⟨b10, 0, none⟩), v11, .int .i64 (i : Int), jj 13, jj 14, jj 15, jj 16, jj 17, jj 18, jj 19, jj 20, jj 21, jj 22, jj 23, jj 24, jj 25, jj 26, jj 27, jj 28, jj 29, jj 30, jj 31, jj 32, jj 33, jj 34, jj 35, jj 36, jj 37, jj 38, jj 39, jj 40, jj 41, jj 42, jj 43, jj 44, jj 45, jj 46, jj 47, jj 48, jj 49, jj 50, jj 51, jj 52, jj 53, jj 54, jj 55, jj 56, jj 57, jj 58, jj 59, jj 60, jj 61, jj 62, jj 63, jj 64, jj 65, jj 66, jj 67, jj 68, jj 69, jj 70, jj 71, jj 72, jj 73, jj 74, jj 75, jj 76, jj 77, jj 78, jj 79, jj 80, jj 81, jj 82, jj 83, jj 84, jj 85, jj 86, jj 87, jj 88, jj 89, jj 90, jj 91, jj 92, jj 93, jj 94, jj 95, jj 96, jj 97, jj 98, jj 99, jj 100, jj 101, jj 102, jj 103, jj 104, jj 105, jj 106, jj 107, jj 108, jj 109, jj 110, jj 111, jj 112, jj 113, jj 114, jj 115, jj 116, jj 117, jj 118, jj 119, jj 120, jj 121, jj 122, jj 123, jj 124, jj 125, jj 126, jj 127, jj 128, jj 129, jj 130, jj 131, jj 132, jj 133, jj 134, jj 135, jj 136, jj 137]) ∧ n + i = 2 ∧ (sqA s0 i).2.2.2 = false ∧ tU8.Rd [] w0 v11 (sqA s0 i).2.2.1 ∧ Mem [] w0 w (.cell b10 (tC ((sqA s0 i).1 : Int) ses snap strict (.slice Ar (us.map (fun u : RR × List Pr => u.1)).length cr) (.slice Aw wz.length cw) (.slice none 0 0) ((sqA s0 i).2.1 : Int) zeroH zeroH) 32 :: .cell b4 (tC 0 0 0 false (.slice none 0 0) (.slice none 0 0) (.slice none 0 0) 0 zeroH zeroH) 32 :: .cell b2 (tC 0 0 0 false (.slice none 0 0) (.slice none 0 0) (.slice none 0 0) 0 zeroH zeroH) 32 :: TL)) 2
    ⟨0, _, exj rfl, rfl, by rw [hs0]; rfl, hV0, hM⟩ ?_
  clear hM hV0 hs0
  rintro n l w ⟨i, v11, ⟨jj, rfl⟩, hni, hsb, hx, hM⟩
  obtain ⟨A11, c11, rfl⟩ := hx.form
  repeat (first | refine gw ?_ | (refine ks ?_; intro w hM))
  refine c_cond rfl (fun hi => ?_) (fun hi => ?_)
  · repeat (first | refine gw ?_ | (refine ks ?_; intro w hM))
    refine kca hM (rgetNum_any _ _ (hx.ch hM.ch)) (fun w hM => ?_)
    have hk := getNum_k (sqA s0 i).2.2.1
    obtain ⟨m, k2, ok, hg2⟩ : ∃ n k ok, getNum (sqA s0 i).2.2.1 = (n, k, ok) := ⟨_, _, _, rfl⟩
    have hsi : ((sqA s0 i).2.2.1, false) = (sqA s0 i).2.2 := by rw [← hsb]
    rw [hg2] at hk ⊢
    simp only at hk
    have hnx : sqA s0 (i + 1) = (if i = 0 then ((numT 1099511627777 (sqA s0 i).2.2).1, 0, (numT 1099511627777 (sqA s0 i).2.2).2) else ((sqA s0 i).1, (numT 1099511627777 (sqA s0 i).2.2).1, (numT 1099511627777 (sqA s0 i).2.2).2)) := by
      match i, hi with
      | 0, _ => rfl
      | 1, _ => rfl
    have hbn : (numT 1099511627777 (sqA s0 i).2.2).2.2 = true → readR bs = none := fun hb => hrA (.inl (hbl (by
      match i, hi with
      | 0, _ => exact .inr (.inl hb)
      | 1, _ => exact .inr (.inr (.inl hb)))))
    repeat (first | refine gw ?_ | (refine ks ?_; intro w hM))
    cases ok with
    | false =>
      repeat (first | refine gw ?_ | (refine ks ?_; intro w hM))
      refine c_condb rfl (fun _ => ?_) (fun h => by cases h)
      repeat (first | refine gr ?_ | (refine ks ?_; intro w hM))
      refine kstwT (b := b2) (vs := tC 0 0 0 false (.slice none 0 0) (.slice none 0 0) (.slice none 0 0) 0 zeroH zeroH) hM (fun w hc hM => ?_)
      repeat (first | refine gw ?_ | (refine ks ?_; intro w hM))
      exact koc2 hM rfl (readPostR_none (hbn (by rw [← hsi, numT_no hg2 (.inl rfl)])) hM) (hn := tC_len _ _ _ _ _ _ _ _ _ _)
    | true =>
    repeat (first | refine gw ?_ | (refine ks ?_; intro w hM))
    by_cases q : 1099511627777 < m
    · rw [decide_eq_true (by omega : (1099511627777 : Int) < (m : Int))]
      repeat (first | refine gw ?_ | (refine ks ?_; intro w hM))
      refine c_condb rfl (fun _ => ?_) (fun h => by cases h)
      repeat (first | refine gr ?_ | (refine ks ?_; intro w hM))
      refine kstwT (b := b2) (vs := tC 0 0 0 false (.slice none 0 0) (.slice none 0 0) (.slice none 0 0) 0 zeroH zeroH) hM (fun w hc hM => ?_)
      repeat (first | refine gw ?_ | (refine ks ?_; intro w hM))
      exact koc2 hM rfl (readPostR_none (hbn (by rw [← hsi, numT_no hg2 (.inr q)])) hM) (hn := tC_len _ _ _ _ _ _ _ _ _ _)
    rw [decide_eq_false (by omega : ¬ (1099511627777 : Int) < (m : Int))]
    repeat (first | refine gw ?_ | (refine ks ?_; intro w hM))
    refine c_condb rfl (fun h => by cases h) (fun _ => ?_)
    rw [← hsi, numT_ok hg2 (by omega)] at hnx
    repeat (first | refine gw ?_ | (refine ks ?_; intro w hM))
    refine kcutl hx (i := (k2 : Int)) (fun v61 hV => ?_)
    rw [Int.toNat_natCast] at hV
    obtain ⟨A61, c61, rfl⟩ := hV.form
    repeat (first | refine gw ?_ | (refine ks ?_; intro w hM))
    by_cases hi0 : i = 0
    · subst hi0
      rw [if_pos rfl] at hnx
      refine c_condb rfl (fun _ => ?_) (fun h => by cases h)
      repeat ((fail_if_success (with_reducible apply Go.Proofs.E.is_dst (d := 65))); first | ((with_reducible apply is_ld); first | refine kld hM ?_ | refine kldw hM ?_ | refine kle hM ?_ | refine klew hM ?_) | ((with_reducible apply is_sto); first | (refine kst hM ?_; intro w hM) | (refine kstw hM ?_; intro w hM)) | ((with_reducible apply is_st); refine su ?_) | ((with_reducible apply is_gd); first | refine gt ?_ | refine gf ?_ | refine gu ?_) | ((with_reducible apply is_en); refine en ?_) | (with_reducible apply c_region) | refine ws ?_ | refine x_block_other (by decide) ?_)
      (try ((with_reducible apply is_gd); first | refine gt ?_ | refine gf ?_ | refine gu ?_)); refine wl_val (r_convw (a := (m : Int)) (k := .i64) rfl rfl (by omega) (by omega)) ?_
      repeat (first | refine gr ?_ | (refine ks ?_; intro w hM))
      refine x_goes (n - 1) rfl (by omega) ⟨1, _, exj rfl, by omega, by rw [hnx], by rw [hnx]; exact hV, ?_⟩
      rw [hnx]
      exact hM.sub (by (repeat (first | exact Go.Proofs.E.Sub.refl _ | exact Go.Proofs.E.Sub.nil | (apply Go.Proofs.E.Sub.cons; (repeat (first | exact Go.Proofs.E.Pick.here | apply Go.Proofs.E.Pick.there))) | apply Go.Proofs.E.Sub.tail)))
    · obtain rfl : i = 1 := by omega
      rw [if_neg (by omega)] at hnx
      refine c_condb rfl (fun h => by cases h) (fun _ => ?_)
      repeat ((fail_if_success (with_reducible apply Go.Proofs.E.is_dst (d := 68))); first | ((with_reducible apply is_ld); first | refine kld hM ?_ | refine kldw hM ?_ | refine kle hM ?_ | refine klew hM ?_) | ((with_reducible apply is_sto); first | (refine kst hM ?_; intro w hM) | (refine kstw hM ?_; intro w hM)) | ((with_reducible apply is_st); refine su ?_) | ((with_reducible apply is_gd); first | refine gt ?_ | refine gf ?_ | refine gu ?_) | ((with_reducible apply is_en); refine en ?_) | (with_reducible apply c_region) | refine ws ?_ | refine x_block_other (by decide) ?_)
      (try ((with_reducible apply is_gd); first | refine gt ?_ | refine gf ?_ | refine gu ?_)); refine wl_val (r_convw (a := (m : Int)) (k := .i64) rfl rfl (by omega) (by omega)) ?_
      repeat (first | refine gr ?_ | (refine ks ?_; intro w hM))
      refine x_goes (n - 1) rfl (by omega) ⟨2, _, exj rfl, by omega, by rw [hnx], by rw [hnx]; exact hV, ?_⟩
      rw [hnx]
      exact hM.sub (by (repeat (first | exact Go.Proofs.E.Sub.refl _ | exact Go.Proofs.E.Sub.nil | (apply Go.Proofs.E.Sub.cons; (repeat (first | exact Go.Proofs.E.Pick.here | apply Go.Proofs.E.Pick.there))) | apply Go.Proofs.E.Sub.tail)))
  obtain rfl : i = 2 := by omega
  unfold lastA at hrA hrZ hbl
  unfold valA lastA at hrZ
  generalize sqA s0 2 = sq at *
  obtain ⟨at_, size, s2⟩ := sq
  simp only at *
  repeat (first | refine gw ?_ | (refine ks ?_; intro w hM))
  refine ca (rhash_any _ s2.1 w0 w (hx.ch hM.ch) hx) ?_
  rintro _ w ⟨v3, rfl, hx3, hc⟩
  have hM := hM.call hc
  rw [show (s2.1, false) = s2 from Prod.ext rfl hsb.symm] at hx3 ⊢
  generalize hh3 : hashT s2 = x3 at *
  obtain ⟨lg, s3⟩ := x3
  simp only at *
  repeat (first | refine gw ?_ | (refine ks ?_; intro w hM))
  refine kstp (vs := lg.1.map u8v) hM (fun w hM => ?_) (tC_setlog _ _ _ _ _ _ _ _ _ _ _) (hln := h32 lg) (hf := by rw [tC_len]; omega)
  repeat (first | refine gw ?_ | (refine ks ?_; intro w hM))
  cases hb3 : s3.2 with
  | true =>
    repeat (first | refine gw ?_ | (refine ks ?_; intro w hM))
    refine c_condb rfl (fun _ => ?_) (fun h => by cases h)
    repeat (first | refine gr ?_ | (refine ks ?_; intro w hM))
    refine kstwT (b := b2) (vs := tC 0 0 0 false (.slice none 0 0) (.slice none 0 0) (.slice none 0 0) 0 zeroH zeroH) hM (fun w hc hM => ?_)
    repeat (first | refine gw ?_ | (refine ks ?_; intro w hM))
    exact koc2 hM rfl (readPostR_none (hrA (.inl (hbl (.inr (.inr (.inr (.inl hb3))))))) hM) (hn := tC_len _ _ _ _ _ _ _ _ _ _)
  | false =>
  obtain ⟨A3, c3, rfl⟩ := hx3.form
  repeat (first | refine gw ?_ | (refine ks ?_; intro w hM))
  refine c_condb rfl (fun h => by cases h) (fun _ => ?_)
  repeat (first | refine gw ?_ | (refine ks ?_; intro w hM))
  clear hx hsb
  have hx := hx3
  have hsb := hb3
  refine ca (rhash_any _ s3.1 w0 w (hx.ch hM.ch) hx) ?_
  rintro _ w ⟨v4, rfl, hx4, hc⟩
  have hM := hM.call hc
  rw [show (s3.1, false) = s3 from Prod.ext rfl hsb.symm] at hx4 ⊢
  generalize hh4 : hashT s3 = x4 at *
  obtain ⟨mp, s4⟩ := x4
  simp only at *
  repeat (first | refine gw ?_ | (refine ks ?_; intro w hM))
  refine kstp (vs := mp.1.map u8v) hM (fun w hM => ?_) (tC_setmap _ _ _ _ _ _ _ _ _ _ _) (hln := h32 mp) (hf := by rw [tC_len]; omega)
  repeat (first | refine gw ?_ | (refine ks ?_; intro w hM))
  cases hb4 : s4.2 with
  | true =>
    repeat (first | refine gw ?_ | (refine ks ?_; intro w hM))
    refine c_condb rfl (fun _ => ?_) (fun h => by cases h)
    repeat (first | refine gr ?_ | (refine ks ?_; intro w hM))
    refine kstwT (b := b2) (vs := tC 0 0 0 false (.slice none 0 0) (.slice none 0 0) (.slice none 0 0) 0 zeroH zeroH) hM (fun w hc hM => ?_)
    repeat (first | refine gw ?_ | (refine ks ?_; intro w hM))
    exact koc2 hM rfl (readPostR_none (hrA (.inl (hbl (.inr (.inr (.inr (.inr hb4))))))) hM) (hn := tC_len _ _ _ _ _ _ _ _ _ _)
  | false =>
  obtain ⟨A4, c4, rfl⟩ := hx4.form
  repeat (first | refine gw ?_ | (refine ks ?_; intro w hM))
  refine c_condb rfl (fun h => by cases h) (fun _ => ?_)
  repeat (first | refine gw ?_ | (refine ks ?_; intro w hM))
  clear hx hsb
  have hx := hx4
  have hsb := hb4
  clear hbl
  refine kca hM (rgetNum_any _ _ (hx.ch hM.ch)) (fun w hM => ?_)
  have hk := getNum_k s4.1
  obtain ⟨m, k2, ok, hg2⟩ : ∃ n k ok, getNum s4.1 = (n, k, ok) := ⟨_, _, _, rfl⟩
  have hsi : (s4.1, false) = s4 := Prod.ext rfl hsb.symm
  have htm : timesT 64 hashT s4 = loopT hashT (numT 64 s4).1 [] (numT 64 s4).2 := rfl
  rw [htm] at hrA hrZ
  rw [hg2] at hk ⊢
  simp only at hk
  repeat (first | refine gw ?_ | (refine ks ?_; intro w hM))
  cases ok with
  | false =>
    repeat (first | refine gw ?_ | (refine ks ?_; intro w hM))
    refine c_condb rfl (fun _ => ?_) (fun h => by cases h)
    repeat (first | refine gr ?_ | (refine ks ?_; intro w hM))
    refine kstwT (b := b2) (vs := tC 0 0 0 false (.slice none 0 0) (.slice none 0 0) (.slice none 0 0) 0 zeroH zeroH) hM (fun w hc hM => ?_)
    repeat (first | refine gw ?_ | (refine ks ?_; intro w hM))
    exact koc2 hM rfl (readPostR_none (hrA (.inl (loop_bad (by rw [← hsi, numT_no hg2 (.inl rfl)])))) hM) (hn := tC_len _ _ _ _ _ _ _ _ _ _)
  | true =>
  repeat (first | refine gw ?_ | (refine ks ?_; intro w hM))
  by_cases q : 64 < m
  · rw [decide_eq_true (by omega : (64 : Int) < (m : Int))]
    repeat (first | refine gw ?_ | (refine ks ?_; intro w hM))
    refine c_condb rfl (fun _ => ?_) (fun h => by cases h)
    repeat (first | refine gr ?_ | (refine ks ?_; intro w hM))
    refine kstwT (b := b2) (vs := tC 0 0 0 false (.slice none 0 0) (.slice none 0 0) (.slice none 0 0) 0 zeroH zeroH) hM (fun w hc hM => ?_)
    repeat (first | refine gw ?_ | (refine ks ?_; intro w hM))
    exact koc2 hM rfl (readPostR_none (hrA (.inl (loop_bad (by rw [← hsi, numT_no hg2 (.inr q)])))) hM) (hn := tC_len _ _ _ _ _ _ _ _ _ _)
  rw [decide_eq_false (by omega : ¬ (64 : Int) < (m : Int))]
  repeat (first | refine gw ?_ | (refine ks ?_; intro w hM))
  refine c_condb rfl (fun h => by cases h) (fun _ => ?_)
  rw [← hsi, numT_ok hg2 (by omega)] at hrA hrZ
  simp only at hrA hrZ
  repeat (first | refine gw ?_ | (refine ks ?_; intro w hM))
  refine kcutl hx (i := (k2 : Int)) (fun v108 hV => ?_)
  rw [Int.toNat_natCast] at hV
  repeat (first | refine gw ?_ | (refine ks ?_; intro w hM))
  have hM := (hM.nilRow eH 28)
  obtain ⟨path, rest, bad, hlo⟩ : ∃ path rest bad, loopT hashT m [] (s4.1.drop k2, false) = (path, (rest, bad)) := ⟨_, _, _, rfl⟩
  rw [hlo] at hrA hrZ
  simp only at hrA hrZ
  clear hx hsb hx3 hb3 hx4 hb4 htm
  
  refine c_loop (fun n l w => ∃ (a : List Hs) (s : Sr) (v11 vp : Value), (∃ jj : Nat → Value, l = [jj 0, jj 1, .pointer (some ⟨b2, 0, none⟩), jj 3, .pointer (some ⟨b4, 0, none⟩), jj 5, jj 6, jj 7, jj 8, jj 9, .pointer (some ⟨b10, 0, none⟩), v11, jj 12, jj 13, jj 14, jj 15, .int .u64 (n : Int), jj 17, jj 18, jj 19, jj 20, jj 21, jj 22, jj 23, jj 24, jj 25, jj 26, jj 27, jj 28, jj 29, jj 30, jj 31, jj 32, jj 33, jj 34, jj 35, jj 36, jj 37, jj 38, jj 39, jj 40, jj 41, jj 42, jj 43, jj 44, jj 45, jj 46, jj 47, jj 48, jj 49, jj 50, jj 51, jj 52, jj 53, jj 54, jj 55, jj 56, jj 57, jj 58, jj 59, jj 60, jj 61, jj 62, jj 63, jj 64, jj 65, jj 66, jj 67, jj 68, jj 69, jj 70, jj 71, jj 72, jj 73, jj 74, jj 75, jj 76, jj 77, jj 78, jj 79, jj 80, jj 81, jj 82, jj 83, jj 84, jj 85, jj 86, jj 87, jj 88, jj 89, jj 90, jj 91, jj 92, jj 93, jj 94, jj 95, jj 96, jj 97, jj 98, jj 99, jj 100, jj 101, jj 102, jj 103, jj 104, jj 105, jj 106, jj 107, jj 108, jj 109, jj 110, jj 111, jj 112, jj 113, jj 114, jj 115, jj 116, jj 117, jj 118, jj 119, jj 120, jj 121, jj 122, jj 123, jj 124, jj 125, jj 126, jj 127, jj 128, jj 129, jj 130, jj 131, jj 132, jj 133, jj 134, jj 135, jj 136, jj 137]) ∧ a.length + n ≤ 64 ∧ s.2 = false ∧ tU8.Rd [] w0 v11 s.1 ∧ loopT hashT n a s = (path, (rest, bad)) ∧ Mem [] w0 w (.row eH 28 vp a :: .cell b10 (tC at_ ses snap strict (.slice Ar (us.map (fun u : RR × List Pr => u.1)).length cr) (.slice Aw wz.length cw) vp size lg mp) 32 :: .cell b4 (tC 0 0 0 false (.slice none 0 0) (.slice none 0 0) (.slice none 0 0) 0 zeroH zeroH) 32 :: .cell b2 (tC 0 0 0 false (.slice none 0 0) (.slice none 0 0) (.slice none 0 0) 0 zeroH zeroH) 32 :: TL)) m
    ⟨[], (s4.1.drop k2, false), v108, .slice none 0 0, exj rfl, by simp; omega, rfl, hV, hlo, hM.sub (by (repeat (first | exact Go.Proofs.E.Sub.refl _ | exact Go.Proofs.E.Sub.nil | (apply Go.Proofs.E.Sub.cons; (repeat (first | exact Go.Proofs.E.Pick.here | apply Go.Proofs.E.Pick.there))) | apply Go.Proofs.E.Sub.tail)))⟩ ?_
  clear hM hV hlo
  rintro n l w ⟨a, s, v11, vp, ⟨jj, rfl⟩, han, hsb, hx, hlp, hM⟩
  obtain ⟨A11, c11, rfl⟩ := hx.form
  obtain ⟨Ap, cp, rfl, _⟩ := Own.form (hM.row (v := vp) (xs := a) (by (repeat constructor)))
  repeat (first | refine gw ?_ | (refine ks ?_; intro w hM))
  cases n with
  | succ n =>
    rw [decide_eq_true (by omega : ((n + 1 : Nat) : Int) > 0)]
    refine c_condb rfl (fun _ => ?_) (fun h => by cases h)
    rw [loopT_succ, if_neg (by rw [hsb]; simp)] at hlp
    repeat (first | refine gw ?_ | (refine ks ?_; intro w hM))
    refine kal hM (fun w b17 hM => ?_)
    have hM : Mem [] w0 w (.cell b17 (zeroH.1.map u8v) 28 :: .row eH 28 (.slice Ap a.length cp) a :: .cell b10 (tC at_ ses snap strict (.slice Ar (us.map (fun u : RR × List Pr => u.1)).length cr) (.slice Aw wz.length cw) (.slice Ap a.length cp) size lg mp) 32 :: .cell b4 (tC 0 0 0 false (.slice none 0 0) (.slice none 0 0) (.slice none 0 0) 0 zeroH zeroH) 32 :: .cell b2 (tC 0 0 0 false (.slice none 0 0) (.slice none 0 0) (.slice none 0 0) 0 zeroH zeroH) 32 :: TL) := hM
    repeat (first | refine gw ?_ | (refine ks ?_; intro w hM))
    refine ca (rhash_any _ s.1 w0 w (hx.ch hM.ch) hx) ?_
    rintro _ w ⟨v5, rfl, hx5, hc⟩
    have hM := hM.call hc
    rw [show (s.1, false) = s from Prod.ext rfl hsb.symm] at hx5 ⊢
    generalize hashT s = x5 at *
    obtain ⟨h5, s5⟩ := x5
    simp only at *
    repeat (first | refine gw ?_ | (refine ks ?_; intro w hM))
    cases hb5 : s5.2 with
    | true =>
      repeat (first | refine gw ?_ | (refine ks ?_; intro w hM))
      refine c_condb rfl (fun _ => ?_) (fun h => by cases h)
      repeat (first | refine gr ?_ | (refine ks ?_; intro w hM))
      refine kstwT (b := b2) (vs := tC 0 0 0 false (.slice none 0 0) (.slice none 0 0) (.slice none 0 0) 0 zeroH zeroH) hM (fun w hc hM => ?_)
      repeat (first | refine gw ?_ | (refine ks ?_; intro w hM))
      exact koc2 hM rfl (readPostR_none (hrA (.inl (by have := loop_bad (f := hashT) (n := n) (a := a ++ [h5]) hb5; rw [hlp] at this; exact this))) hM) (hn := tC_len _ _ _ _ _ _ _ _ _ _)
    | false =>
    obtain ⟨A5, c5, rfl⟩ := hx5.form
    repeat (first | refine gw ?_ | (refine ks ?_; intro w hM))
    refine c_condb rfl (fun h => by cases h) (fun _ => ?_)
    repeat (first | refine gh ?_ | (refine ks ?_; intro w hM))
    refine kbsC (en := eH) (vs := [hv h5.1]) [h5] hM (fun w b hc hM => ?_) (hm := by
      intro v q
      simp only [List.mem_singleton] at q
      subst q
      show (h5.1.map u8v).toArray.size = 32
      rw [List.size_toArray, h32])
    have hR1 := hM.rowRdO (en := eH) (v := .slice (some ⟨b, 0, none⟩) 1 1) (xs := [h5]) (by (repeat constructor))
    refine kapC (en := eH) (v := .slice Ap a.length cp) (xs := a) (ys := [h5]) hM hR1 (fun v7 w hs hM => ?_) (hb := by simp; omega) (h63 := by simp; omega)
    obtain ⟨A7, c7, rfl, _⟩ := Own.form (hM.row (v := v7) (by (repeat constructor)))
    repeat (first | refine gr ?_ | (refine ks ?_; intro w hM))
    rw [show ((n + 1 : Nat) : Int) - 1 = (n : Int) by omega]
    exact x_goes n rfl (by omega) ⟨a ++ [h5], s5, _, _, exj rfl, by rw [List.length_append, List.length_singleton]; omega, hb5, hx5, hlp, hM.sub (by (repeat (first | exact Go.Proofs.E.Sub.refl _ | exact Go.Proofs.E.Sub.nil | (apply Go.Proofs.E.Sub.cons; (repeat (first | exact Go.Proofs.E.Pick.here | apply Go.Proofs.E.Pick.there))) | apply Go.Proofs.E.Sub.tail)))⟩
  | zero =>
  rw [decide_eq_false (by omega : ¬ ((0 : Nat) : Int) > 0)]
  refine c_condb rfl (fun h => by cases h) (fun _ => ?_)
  obtain ⟨rfl, rfl⟩ : a = path ∧ s = (rest, bad) := by
    unfold loopT at hlp
    exact ⟨congrArg Prod.fst hlp, congrArg Prod.snd hlp⟩
  simp only at hsb
  subst hsb
  clear hlp
  repeat (first | refine gw ?_ | (refine ks ?_; intro w hM))
  by_cases q1 : (0 : Int) < (rest.length : Int)
  · rw [decide_eq_true q1]
    repeat (first | refine gw ?_ | (refine ks ?_; intro w hM))
    refine c_condb rfl (fun _ => ?_) (fun h => by cases h)
    repeat (first | refine gr ?_ | (refine ks ?_; intro w hM))
    refine kstwT (b := b2) (vs := tC 0 0 0 false (.slice none 0 0) (.slice none 0 0) (.slice none 0 0) 0 zeroH zeroH) hM (fun w hc hM => ?_)
    repeat (first | refine gw ?_ | (refine ks ?_; intro w hM))
    exact koc2 hM rfl (readPostR_none (hrA (.inr (.inl (by intro h; subst h; simp at q1)))) hM) (hn := tC_len _ _ _ _ _ _ _ _ _ _)
  rw [decide_eq_false q1]
  obtain rfl : rest = [] := List.eq_nil_of_length_eq_zero (by omega)
  rw [if_neg (by simp)] at hrZ
  repeat (first | refine gr ?_ | (refine ks ?_; intro w hM))
  have hrows : Mem [] w0 w (rows16 (.slice Ar (us.map (fun u : RR × List Pr => u.1)).length cr) (.slice Aw wz.length cw) us wz) := by rw [← hTL]; exact hM.sub (by (repeat (first | exact Go.Proofs.E.Sub.refl _ | exact Go.Proofs.E.Sub.nil | (apply Go.Proofs.E.Sub.cons; (repeat (first | exact Go.Proofs.E.Pick.here | apply Go.Proofs.E.Pick.there))) | apply Go.Proofs.E.Sub.tail)))
  (try ((with_reducible apply is_gd); first | refine gt ?_ | refine gf ?_ | refine gu ?_)); refine kca hM (rtgood_any (at_ : Int) (ses : Int) (snap : Int) strict _ _ _ (size : Int) lg mp us wz a _ ⟨rows_recM hrows, hM.rowRdO (en := eH) (v := .slice Ap a.length cp) (xs := a) (by (repeat constructor))⟩ hk0 hb0) (fun w hM => ?_)
  rw [recGood_V]
  obtain ⟨g, hg⟩ : ∃ g, goodT ((ses, snap, strict, us.map dat, wz), at_, size, lg, mp, a) = g := ⟨_, rfl⟩
  rw [show good17 (at_ : Int) (size : Int) (snap : Int) a.length (goodV (ses, snap, strict, us.map dat, wz)) = g from hg]
  rw [hg] at hrZ
  cases g with
  | false =>
    repeat (first | refine gr ?_ | (refine ks ?_; intro w hM))
    refine c_condb rfl (fun _ => ?_) (fun h => by cases h)
    repeat (first | refine gr ?_ | (refine ks ?_; intro w hM))
    refine kstwT (b := b2) (vs := tC 0 0 0 false (.slice none 0 0) (.slice none 0 0) (.slice none 0 0) 0 zeroH zeroH) hM (fun w hc hM => ?_)
    repeat (first | refine gw ?_ | (refine ks ?_; intro w hM))
    exact koc2 hM rfl (readPostR_none (by rw [hrZ, if_neg (by simp)]) hM) (hn := tC_len _ _ _ _ _ _ _ _ _ _)
  | true =>
    rw [if_pos rfl] at hrZ
    repeat (first | refine gr ?_ | (refine ks ?_; intro w hM))
    refine c_condb rfl (fun h => by cases h) (fun _ => ?_)
    repeat (first | refine gr ?_ | (refine ks ?_; intro w hM))
    refine kstwT (b := b2) (vs := tC at_ ses snap strict (.slice Ar (us.map (fun u : RR × List Pr => u.1)).length cr) (.slice Aw wz.length cw) (.slice Ap a.length cp) size lg mp) hM (fun w hc hM => ?_)
    repeat (first | refine gw ?_ | (refine ks ?_; intro w hM))
    refine koc2 hM rfl ?_ (hn := tC_len _ _ _ _ _ _ _ _ _ _)
    unfold ReadPostR
    rw [hrZ]
    refine ⟨_, _, _, us, rfl, rfl, ?_⟩
    show Mem [] w0 w (.row eH 28 (.slice Ap a.length cp) a :: rows16 _ _ us wz)
    rw [← hTL]
    exact hM.sub (by (repeat (first | exact Go.Proofs.E.Sub.refl _ | exact Go.Proofs.E.Sub.nil | (apply Go.Proofs.E.Sub.cons; (repeat (first | exact Go.Proofs.E.Pick.here | apply Go.Proofs.E.Pick.there))) | apply Go.Proofs.E.Sub.tail)))
end Go.Proofs.YtoimhmphhffelaaGreatDoor
set_option linter.unusedVariables false
set_option linter.unusedSimpArgs false
namespace Go.Proofs.E
theorem Mem.subL {O : List Nat} {w0 w : World} : ∀ {M L : List As}, Mem O w0 w (M ++ L) → Mem O w0 w M := fun {M L} h =>
  ⟨h.ch, fun a ha => h.all a (List.mem_append.2 (.inl ha)), fun a ha => h.new a (List.mem_append.2 (.inl ha)), (List.pairwise_append.1 h.dis).1⟩
theorem Mem.subR {O : List Nat} {w0 w : World} : ∀ {M L : List As}, Mem O w0 w (M ++ L) → Mem O w0 w L := fun {M L} h =>
  ⟨h.ch, fun a ha => h.all a (List.mem_append.2 (.inr ha)), fun a ha => h.new a (List.mem_append.2 (.inr ha)), (List.pairwise_append.1 h.dis).2.1⟩
end Go.Proofs.E
namespace Go.Proofs.YtoimhmphhffelaaGreatDoor
open Go Go.RowKit Go.Proofs.E
attribute [local irreducible] Go.wpList Go.Code.wp Go.Proofs.E.exec Go.Proofs.E.wpLexG
set_option maxHeartbeats 32000000 in
theorem receiptBytes_any (a ses snap : Int) (strict : Bool) (vr vw vp : Value) (size : Int) (lg mp : Hs) (us : List (RR × List Pr)) (wz : List Pr) (path : List Hs) (a2 ses2 snap2 : Int) (strict2 : Bool) (vr2 vw2 vp2 : Value) (size2 : Int) (lg2 mp2 : Hs) (us2 : List (RR × List Pr)) (wz2 : List Pr) (path2 : List Hs) (v : Value) (bs : Bs) (w0 : World) (hK : Laid w0) (hA : RctM w0 vr vw vp us wz path) (hk : ShortR us) (hb : ShortL wz) (hB : RctM w0 vr2 vw2 vp2 us2 wz2 path2) (hk2 : ShortR us2) (hb2 : ShortL wz2) (hR : tU8.Rd [] w0 v bs) :
    Calls Tryz.prog 3 #[.agg (tC a ses snap strict vr vw vp size lg mp).toArray, .agg (tC a2 ses2 snap2 strict2 vr2 vw2 vp2 size2 lg2 mp2).toArray, v] w0 (Ret fun u w' => u = .bool true ∧ Ch [] w0 w') := by
  have hM := Mem.start w0
  have hle := hR.le
  obtain ⟨A0, c0, rfl⟩ := hR.form
  obtain ⟨A, c, rfl⟩ := hA.m.r.form
  obtain ⟨A2, c2, rfl⟩ := hA.m.w.form
  obtain ⟨A3, c3, rfl⟩ := hA.p.form
  obtain ⟨B, d, rfl⟩ := hB.m.r.form
  obtain ⟨B2, d2, rfl⟩ := hB.m.w.form
  obtain ⟨B3, d3, rfl⟩ := hB.p.form
  refine enter [.agg (tC a ses snap strict (.slice A (us.map (fun u : RR × List Pr => u.1)).length c) (.slice A2 wz.length c2) (.slice A3 path.length c3) size lg mp).toArray, .agg (tC a2 ses2 snap2 strict2 (.slice B (us2.map (fun u : RR × List Pr => u.1)).length d) (.slice B2 wz2.length d2) (.slice B3 path2.length d3) size2 lg2 mp2).toArray, .slice A0 bs.length c0, undef, undef, undef, undef, undef, undef, undef, undef, undef, undef, undef, undef, undef, undef, undef, undef, undef, undef, undef, undef, undef, undef, undef, undef, undef, undef, undef, undef, undef, undef, undef, undef, undef, undef, undef, undef, undef, undef, undef, undef, undef, undef, undef, undef, undef, undef, undef, undef, undef, undef, undef, undef, undef, undef, undef, undef, undef, undef, undef, undef, undef] Tryz.func3 rfl rfl ?_
  repeat (first | refine gw ?_ | (refine ks ?_; intro w hM))
  refine kbx hM (fun w b3 hM => ?_)
  refine kbx hM (fun w b4 hM => ?_)
  have hM : Mem [] w0 w [.cell b4 (tC a2 ses2 snap2 strict2 (.slice B (us2.map (fun u : RR × List Pr => u.1)).length d) (.slice B2 wz2.length d2) (.slice B3 path2.length d3) size2 lg2 mp2) 32, .cell b3 (tC a ses snap strict (.slice A (us.map (fun u : RR × List Pr => u.1)).length c) (.slice A2 wz.length c2) (.slice A3 path.length c3) size lg mp) 32] := hM
  repeat (first | refine gr ?_ | (refine ks ?_; intro w hM))
  refine ca (light17_any a ses snap strict _ _ _ size lg mp us wz path w (hA.ch hM.ch) hk hb) ?_
  rintro _ w1 ⟨⟨l1, rfl, hl1⟩, hc⟩
  have hM := hM.call hc
  cases l1 with
  | false =>
    repeat (first | refine gr ?_ | (refine ks ?_; intro w hM))
    refine c_condb rfl (fun _ => ?_) (fun h => by cases h)
    repeat (first | refine gr ?_ | (refine ks ?_; intro w hM))
    refine kca hM (lives17_any _ (hK.ch hM.ch (by simp))) (fun w hM => ?_)
    repeat (first | refine gr ?_ | (refine ks ?_; intro w hM))
    exact out1 rfl ⟨rfl, hM.ch⟩
  | true =>
  repeat (first | refine gr ?_ | (refine ks ?_; intro w hM))
  (try ((with_reducible apply is_gd); first | refine gt ?_ | refine gf ?_ | refine gu ?_)); refine ca (light17_any a2 ses2 snap2 strict2 _ _ _ size2 lg2 mp2 us2 wz2 path2 _ (hB.ch hM.ch) hk2 hb2) ?_
  rintro _ w1 ⟨⟨l2, rfl, hl2⟩, hc⟩
  have hM := hM.call hc
  cases l2 with
  | false =>
    repeat (first | refine gr ?_ | (refine ks ?_; intro w hM))
    refine c_condb rfl (fun _ => ?_) (fun h => by cases h)
    repeat (first | refine gr ?_ | (refine ks ?_; intro w hM))
    refine kca hM (lives17_any _ (hK.ch hM.ch (by simp))) (fun w hM => ?_)
    repeat (first | refine gr ?_ | (refine ks ?_; intro w hM))
    exact out1 rfl ⟨rfl, hM.ch⟩
  | true =>
  repeat (first | refine gr ?_ | (refine ks ?_; intro w hM))
  by_cases q1 : (3000 : Int) < (bs.length : Int)
  · rw [decide_eq_true q1]
    refine c_condb rfl (fun _ => ?_) (fun h => by cases h)
    repeat (first | refine gr ?_ | (refine ks ?_; intro w hM))
    refine kca hM (lives17_any _ (hK.ch hM.ch (by simp))) (fun w hM => ?_)
    repeat (first | refine gr ?_ | (refine ks ?_; intro w hM))
    exact out1 rfl ⟨rfl, hM.ch⟩
  rw [decide_eq_false q1]
  refine c_condb rfl (fun h => by cases h) (fun _ => ?_)
  repeat (first | refine gw ?_ | (refine ks ?_; intro w hM))
  refine ca (rctRead_any _ bs _ (hR.ch hM.ch)) ?_
  rintro _ w1 ⟨vr1, vw1, vp1, us1, rfl, hd1, hK1⟩
  have hm1 := rows_recM hK1.drop
  obtain ⟨Ar1, cr1, rfl⟩ := hm1.r.form
  obtain ⟨Aw1, cw1, rfl⟩ := hm1.w.form
  obtain ⟨Ap1, cp1, rfl, _⟩ := Own.form (hK1.row (v := vp1) (by (repeat constructor)))
  clear hm1
  have hM := hM.join hK1 rct_plain
  clear hK1
  obtain ⟨zx, hzx⟩ : ∃ x, readR bs = x := ⟨_, rfl⟩
  obtain ⟨⟨⟨ses1, snap1, strict1, ds1, wz1⟩, at1, size1, lg1, mp1, path1⟩, hrs⟩ : ∃ x, resT zx = x := ⟨_, rfl⟩
  obtain ⟨e1, he1⟩ : ∃ e, errT zx = e := ⟨_, rfl⟩
  rw [hzx, hrs] at hM hd1 ⊢
  rw [he1]
  simp only at hM hd1 ⊢
  obtain ⟨TL1, hTL1⟩ : ∃ TL, TL = .row eH 28 (.slice Ap1 path1.length cp1) path1 :: rows16 (.slice Ar1 (us1.map (fun u : RR × List Pr => u.1)).length cr1) (.slice Aw1 wz1.length cw1) us1 wz1 := ⟨_, rfl⟩
  rw [← hTL1] at hM
  have hM : Mem [] w0 w1 (.cell b4 (tC a2 ses2 snap2 strict2 (.slice B (us2.map (fun u : RR × List Pr => u.1)).length d) (.slice B2 wz2.length d2) (.slice B3 path2.length d3) size2 lg2 mp2) 32 :: .cell b3 (tC a ses snap strict (.slice A (us.map (fun u : RR × List Pr => u.1)).length c) (.slice A2 wz.length c2) (.slice A3 path.length c3) size lg mp) 32 :: TL1) := by
    have := hM.perm List.perm_append_comm
    simpa only [List.cons_append, List.nil_append] using this
  repeat (first | refine gr ?_ | (refine ks ?_; intro w hM))
  refine kal hM (fun w b7 hM => ?_)
  rw [zero_rct] at hM
  refine kstwT (vs := tC at1 ses1 snap1 strict1 (.slice Ar1 (us1.map (fun u : RR × List Pr => u.1)).length cr1) (.slice Aw1 wz1.length cw1) (.slice Ap1 path1.length cp1) size1 lg1 mp1) hM (fun w hc hM => ?_)
  repeat (first | refine gw ?_ | (refine ks ?_; intro w hM))
  refine ca (rrctRead_any _ bs _ (hR.ch hM.ch)) ?_
  rintro _ w1 ⟨vr3, vw3, vp3, us3, rfl, hd3, hK3⟩
  rw [hzx, hrs] at hK3 hd3 ⊢
  rw [he1]
  simp only at hK3 hd3 ⊢
  have hm3 := rows_recM hK3.drop
  obtain ⟨Ar2, cr2, rfl⟩ := hm3.r.form
  obtain ⟨Aw2, cw2, rfl⟩ := hm3.w.form
  obtain ⟨Ap2, cp2, rfl, _⟩ := Own.form (hK3.row (v := vp3) (by (repeat constructor)))
  clear hm3
  have hM := hM.join hK3 rct_plain
  clear hK3
  obtain ⟨TL2, hTL2⟩ : ∃ TL, TL = .row eH 28 (.slice Ap2 path1.length cp2) path1 :: rows16 (.slice Ar2 (us3.map (fun u : RR × List Pr => u.1)).length cr2) (.slice Aw2 wz1.length cw2) us3 wz1 := ⟨_, rfl⟩
  rw [← hTL2] at hM
  have hM : Mem [] w0 w1 (.cell b7 (tC at1 ses1 snap1 strict1 (.slice Ar1 (us1.map (fun u : RR × List Pr => u.1)).length cr1) (.slice Aw1 wz1.length cw1) (.slice Ap1 path1.length cp1) size1 lg1 mp1) 32 :: .cell b4 (tC a2 ses2 snap2 strict2 (.slice B (us2.map (fun u : RR × List Pr => u.1)).length d) (.slice B2 wz2.length d2) (.slice B3 path2.length d3) size2 lg2 mp2) 32 :: .cell b3 (tC a ses snap strict (.slice A (us.map (fun u : RR × List Pr => u.1)).length c) (.slice A2 wz.length c2) (.slice A3 path.length c3) size lg mp) 32 :: (TL1 ++ TL2)) := by
    have := hM.perm List.perm_append_comm
    simpa only [List.cons_append, List.nil_append] using this
  repeat (first | refine gr ?_ | (refine ks ?_; intro w hM))
  refine kal hM (fun w b9 hM => ?_)
  rw [zero_rct] at hM
  refine kstwT (vs := tC at1 ses1 snap1 strict1 (.slice Ar2 (us3.map (fun u : RR × List Pr => u.1)).length cr2) (.slice Aw2 wz1.length cw2) (.slice Ap2 path1.length cp2) size1 lg1 mp1) hM (fun w hc hM => ?_)
  have hs3 := hd1.trans hd3.symm
  clear hd1 hd3
  repeat (first | refine grb ?_ | (refine ks ?_; intro w hM))
  refine c_ordY ([], []) [] (by kernel_rfl) (by kernel_rfl) (by kernel_rfl) (fun w hc hs => ?_)
  have hM := hM.call hc
  have hM : Mem [] w0 w (.cell b9 (tC at1 ses1 snap1 strict1 (.slice Ar2 (us3.map (fun u : RR × List Pr => u.1)).length cr2) (.slice Aw2 wz1.length cw2) (.slice Ap2 path1.length cp2) size1 lg1 mp1) 32 :: .cell b7 (tC at1 ses1 snap1 strict1 (.slice Ar1 (us1.map (fun u : RR × List Pr => u.1)).length cr1) (.slice Aw1 wz1.length cw1) (.slice Ap1 path1.length cp1) size1 lg1 mp1) 32 :: .cell b4 (tC a2 ses2 snap2 strict2 (.slice B (us2.map (fun u : RR × List Pr => u.1)).length d) (.slice B2 wz2.length d2) (.slice B3 path2.length d3) size2 lg2 mp2) 32 :: .cell b3 (tC a ses snap strict (.slice A (us.map (fun u : RR × List Pr => u.1)).length c) (.slice A2 wz.length c2) (.slice A3 path.length c3) size lg mp) 32 :: (TL1 ++ TL2)) := hM
  have hl3 := Blk.lt (hM.blk (b := b3) (by (repeat constructor)))
  have hl4 := Blk.lt (hM.blk (b := b4) (by (repeat constructor)))
  have hl7 := Blk.lt (hM.blk (b := b7) (by (repeat constructor)))
  have hl9 := Blk.lt (hM.blk (b := b9) (by (repeat constructor)))
  refine ynlr 0 rfl (hM.blk (b := b3) (by (repeat constructor))) (by omega) (by simp) rfl (ds := tC a ses snap strict (.slice A (us.map (fun u : RR × List Pr => u.1)).length c) (.slice A2 wz.length c2) (.slice A3 path.length c3) size lg mp) (by rw [List.drop_zero]; exact List.take_of_length_le (by rw [tC_len]; omega)) (tC_len _ _ _ _ _ _ _ _ _ _) ?_
  refine ynlr 3 rfl (hM.blk (b := b3) (by (repeat constructor))) (by omega) (by simp) rfl (ds := tC a ses snap strict (.slice A (us.map (fun u : RR × List Pr => u.1)).length c) (.slice A2 wz.length c2) (.slice A3 path.length c3) size lg mp) (by rw [List.drop_zero]; exact List.take_of_length_le (by rw [tC_len]; omega)) (tC_len _ _ _ _ _ _ _ _ _ _) ?_
  refine yk1 1 hM (by kernel_rfl) rfl (fun w h0 hM => ?_)
  refine ca (tbytes_any a ses snap strict _ _ _ size lg mp us wz path w (hA.ch hM.ch) hk hb) ?_
  rintro v36 w2 ⟨hc, hO⟩
  have hM := hM.got hc hO
  refine x_wy (.inl (hc.gy h0)) rfl ?_
  obtain ⟨tb, htb⟩ : ∃ tb, tBytes a size lg mp path snap (recGood ses snap strict us wz) (bytesB ses snap strict us wz) = tb := ⟨_, rfl⟩
  rw [htb] at hM hO
  have hOl := hO.le
  refine wy_cont (X := Value) (fun x N w => Mem [] w0 w (.cell b9 (tC at1 ses1 snap1 strict1 (.slice Ar2 (us3.map (fun u : RR × List Pr => u.1)).length cr2) (.slice Aw2 wz1.length cw2) (.slice Ap2 path1.length cp2) size1 lg1 mp1) 32 :: .cell b7 (tC at1 ses1 snap1 strict1 (.slice Ar1 (us1.map (fun u : RR × List Pr => u.1)).length cr1) (.slice Aw1 wz1.length cw1) (.slice Ap1 path1.length cp1) size1 lg1 mp1) 32 :: .cell b4 (tC a2 ses2 snap2 strict2 (.slice B (us2.map (fun u : RR × List Pr => u.1)).length d) (.slice B2 wz2.length d2) (.slice B3 path2.length d3) size2 lg2 mp2) 32 :: .cell b3 (tC a ses snap strict (.slice A (us.map (fun u : RR × List Pr => u.1)).length c) (.slice A2 wz.length c2) (.slice A3 path.length c3) size lg mp) 32 :: (TL1 ++ TL2)))
    (fun x l => (((l.set 37 (.string (bst tb))).set 39 x).set 40 (.string (bst tb))).set 41 (.bool (decide (tb = tb)))) ((((((((Array.replicate 30 false).set! 0 true).set! 1 true).set! 2 true).set! 3 true).set! 4 true).set! 5 true).set! 6 true) (fuel := 23) (fun hkk => ?_) ?_
  · skip
    refine yk2 2 4 hM (by kernel_rfl) rfl rfl (fun w h0 hM => ?_) (fun w h0 hM => ?_)
    · skip
      refine wl_val (r_b2s (hM.rowRdO (en := eU8) (xs := tb) (v := v36) (by (repeat constructor)))) ?_
      have hc := Ch.refl [] w
      refine x_wy (.inl (hc.gy h0)) rfl ?_
      refine yk1 4 hM (by kernel_rfl) rfl (fun w h0 hM => ?_)
      refine ca (rtbytes_any a ses snap strict _ _ _ size lg mp us wz path w (hA.ch hM.ch) hk hb) ?_
      rintro v39 w2 ⟨hc, hO2⟩
      rw [htb] at hO2
      have hM := hM.got hc hO2
      refine x_wy (.inl (hc.gy h0)) rfl ?_
      refine yk1 5 hM (by kernel_rfl) rfl (fun w h0 hM => ?_)
      refine wl_val (r_b2s (hM.rowRdO (en := eU8) (xs := tb) (v := v39) (by (repeat constructor)))) ?_
      have hc := Ch.refl [] w
      refine x_wy (.inl (hc.gy h0)) rfl ?_
      refine ynv 6 rfl (by kernel_rfl) (by kernel_rfl) (fun w1 hG => r_eqst (a := tb) (b := tb)) rfl ?_
      exact hkk v39 _ _ _ (by kernel_rfl) rfl (hM.sub (by (repeat (first | exact Go.Proofs.E.Sub.refl _ | exact Go.Proofs.E.Sub.nil | (apply Go.Proofs.E.Sub.cons; (repeat (first | exact Go.Proofs.E.Pick.here | apply Go.Proofs.E.Pick.there))) | apply Go.Proofs.E.Sub.tail))))
    · skip
      refine ca (rtbytes_any a ses snap strict _ _ _ size lg mp us wz path w (hA.ch hM.ch) hk hb) ?_
      rintro v39 w2 ⟨hc, hO2⟩
      rw [htb] at hO2
      have hM := hM.got hc hO2
      refine x_wy (.inl (hc.gy h0)) rfl ?_
      refine yk2 2 5 hM (by kernel_rfl) rfl rfl (fun w h0 hM => ?_) (fun w h0 hM => ?_)
      · skip
        refine wl_val (r_b2s (hM.rowRdO (en := eU8) (xs := tb) (v := v36) (by (repeat constructor)))) ?_
        have hc := Ch.refl [] w
        refine x_wy (.inl (hc.gy h0)) rfl ?_
        refine yk1 5 hM (by kernel_rfl) rfl (fun w h0 hM => ?_)
        refine wl_val (r_b2s (hM.rowRdO (en := eU8) (xs := tb) (v := v39) (by (repeat constructor)))) ?_
        have hc := Ch.refl [] w
        refine x_wy (.inl (hc.gy h0)) rfl ?_
        refine ynv 6 rfl (by kernel_rfl) (by kernel_rfl) (fun w1 hG => r_eqst (a := tb) (b := tb)) rfl ?_
        exact hkk v39 _ _ _ (by kernel_rfl) rfl (hM.sub (by (repeat (first | exact Go.Proofs.E.Sub.refl _ | exact Go.Proofs.E.Sub.nil | (apply Go.Proofs.E.Sub.cons; (repeat (first | exact Go.Proofs.E.Pick.here | apply Go.Proofs.E.Pick.there))) | apply Go.Proofs.E.Sub.tail))))
      · skip
        refine wl_val (r_b2s (hM.rowRdO (en := eU8) (xs := tb) (v := v39) (by (repeat constructor)))) ?_
        have hc := Ch.refl [] w
        refine x_wy (.inl (hc.gy h0)) rfl ?_
        refine yk1 2 hM (by kernel_rfl) rfl (fun w h0 hM => ?_)
        refine wl_val (r_b2s (hM.rowRdO (en := eU8) (xs := tb) (v := v36) (by (repeat constructor)))) ?_
        have hc := Ch.refl [] w
        refine x_wy (.inl (hc.gy h0)) rfl ?_
        refine ynv 6 rfl (by kernel_rfl) (by kernel_rfl) (fun w1 hG => r_eqst (a := tb) (b := tb)) rfl ?_
        exact hkk v39 _ _ _ (by kernel_rfl) rfl (hM.sub (by (repeat (first | exact Go.Proofs.E.Sub.refl _ | exact Go.Proofs.E.Sub.nil | (apply Go.Proofs.E.Sub.cons; (repeat (first | exact Go.Proofs.E.Pick.here | apply Go.Proofs.E.Pick.there))) | apply Go.Proofs.E.Sub.tail))))
  clear hM
  rintro v39 w hM
  rw [decide_eq_true (rfl : tb = tb)]
  refine wy_nf ?_
  have hr1 : ∀ {w}, Mem [] w0 w (.cell b9 (tC at1 ses1 snap1 strict1 (.slice Ar2 (us3.map (fun u : RR × List Pr => u.1)).length cr2) (.slice Aw2 wz1.length cw2) (.slice Ap2 path1.length cp2) size1 lg1 mp1) 32 :: .cell b7 (tC at1 ses1 snap1 strict1 (.slice Ar1 (us1.map (fun u : RR × List Pr => u.1)).length cr1) (.slice Aw1 wz1.length cw1) (.slice Ap1 path1.length cp1) size1 lg1 mp1) 32 :: .cell b4 (tC a2 ses2 snap2 strict2 (.slice B (us2.map (fun u : RR × List Pr => u.1)).length d) (.slice B2 wz2.length d2) (.slice B3 path2.length d3) size2 lg2 mp2) 32 :: .cell b3 (tC a ses snap strict (.slice A (us.map (fun u : RR × List Pr => u.1)).length c) (.slice A2 wz.length c2) (.slice A3 path.length c3) size lg mp) 32 :: (TL1 ++ TL2)) → RctM w (.slice Ar1 (us1.map (fun u : RR × List Pr => u.1)).length cr1) (.slice Aw1 wz1.length cw1) (.slice Ap1 path1.length cp1) us1 wz1 path1 := fun hM => by
    have h2 : Mem [] w0 _ (TL1 ++ TL2) := hM.drop.drop.drop.drop
    have h3 := h2.subL
    rw [hTL1] at h3
    exact ⟨rows_recM h3.drop, h3.rowRdO (en := eH) (by (repeat constructor))⟩
  have hr2 : ∀ {w}, Mem [] w0 w (.cell b9 (tC at1 ses1 snap1 strict1 (.slice Ar2 (us3.map (fun u : RR × List Pr => u.1)).length cr2) (.slice Aw2 wz1.length cw2) (.slice Ap2 path1.length cp2) size1 lg1 mp1) 32 :: .cell b7 (tC at1 ses1 snap1 strict1 (.slice Ar1 (us1.map (fun u : RR × List Pr => u.1)).length cr1) (.slice Aw1 wz1.length cw1) (.slice Ap1 path1.length cp1) size1 lg1 mp1) 32 :: .cell b4 (tC a2 ses2 snap2 strict2 (.slice B (us2.map (fun u : RR × List Pr => u.1)).length d) (.slice B2 wz2.length d2) (.slice B3 path2.length d3) size2 lg2 mp2) 32 :: .cell b3 (tC a ses snap strict (.slice A (us.map (fun u : RR × List Pr => u.1)).length c) (.slice A2 wz.length c2) (.slice A3 path.length c3) size lg mp) 32 :: (TL1 ++ TL2)) → RctM w (.slice Ar2 (us3.map (fun u : RR × List Pr => u.1)).length cr2) (.slice Aw2 wz1.length cw2) (.slice Ap2 path1.length cp2) us3 wz1 path1 := fun hM => by
    have h2 : Mem [] w0 _ (TL1 ++ TL2) := hM.drop.drop.drop.drop
    have h3 := h2.subR
    rw [hTL2] at h3
    exact ⟨rows_recM h3.drop, h3.rowRdO (en := eH) (by (repeat constructor))⟩
  (first | refine yn 7 rfl ?_ | refine ynt 7 rfl ?_ | refine ynff 7 rfl ?_)
  refine ynlrt 8 rfl (hM.blk (b := b7) (by (repeat constructor))) (by omega) (by simp) (ds := tC at1 ses1 snap1 strict1 (.slice Ar1 (us1.map (fun u : RR × List Pr => u.1)).length cr1) (.slice Aw1 wz1.length cw1) (.slice Ap1 path1.length cp1) size1 lg1 mp1) (by rw [List.drop_zero]; exact List.take_of_length_le (by rw [tC_len]; omega)) (tC_len _ _ _ _ _ _ _ _ _ _) ?_
  refine ynlrt 9 rfl (hM.blk (b := b9) (by (repeat constructor))) (by omega) (by simp) (ds := tC at1 ses1 snap1 strict1 (.slice Ar2 (us3.map (fun u : RR × List Pr => u.1)).length cr2) (.slice Aw2 wz1.length cw2) (.slice Ap2 path1.length cp2) size1 lg1 mp1) (by rw [List.drop_zero]; exact List.take_of_length_le (by rw [tC_len]; omega)) (tC_len _ _ _ _ _ _ _ _ _ _) ?_
  refine yk1 10 hM (by kernel_rfl) rfl (fun w h0 hM => ?_)
  refine gt ?_
  refine ca (rtsame_any (at1 : Int) (ses1 : Int) (snap1 : Int) strict1 _ _ _ (size1 : Int) lg1 mp1 us1 wz1 path1 (at1 : Int) (ses1 : Int) (snap1 : Int) strict1 _ _ _ (size1 : Int) lg1 mp1 us3 wz1 path1 w (hr1 hM) (hr2 hM)) ?_
  rintro _ w2 ⟨rfl, hc⟩
  have hM := hM.call hc
  rw [sameB_rfl hs3, sameT_rfl]
  refine x_wy (.inl (hc.gy h0)) rfl ?_
  (first | refine yn 11 rfl ?_ | refine ynt 11 rfl ?_ | refine ynff 11 rfl ?_); (first | refine yn 12 rfl ?_ | refine ynt 12 rfl ?_ | refine ynff 12 rfl ?_); (first | refine yn 13 rfl ?_ | refine ynt 13 rfl ?_ | refine ynff 13 rfl ?_); (first | refine yn 14 rfl ?_ | refine ynt 14 rfl ?_ | refine ynff 14 rfl ?_); (first | refine yn 15 rfl ?_ | refine ynt 15 rfl ?_ | refine ynff 15 rfl ?_)
  rw [decide_eq_true (rfl : e1 = e1)]
  (first | refine yn 16 rfl ?_ | refine ynt 16 rfl ?_ | refine ynff 16 rfl ?_); (first | refine yn 17 rfl ?_ | refine ynt 17 rfl ?_ | refine ynff 17 rfl ?_)
  refine ynlrt 18 rfl (hM.blk (b := b3) (by (repeat constructor))) (by omega) (by simp) (ds := tC a ses snap strict (.slice A (us.map (fun u : RR × List Pr => u.1)).length c) (.slice A2 wz.length c2) (.slice A3 path.length c3) size lg mp) (by rw [List.drop_zero]; exact List.take_of_length_le (by rw [tC_len]; omega)) (tC_len _ _ _ _ _ _ _ _ _ _) ?_
  refine ynlrt 19 rfl (hM.blk (b := b4) (by (repeat constructor))) (by omega) (by simp) (ds := tC a2 ses2 snap2 strict2 (.slice B (us2.map (fun u : RR × List Pr => u.1)).length d) (.slice B2 wz2.length d2) (.slice B3 path2.length d3) size2 lg2 mp2) (by rw [List.drop_zero]; exact List.take_of_length_le (by rw [tC_len]; omega)) (tC_len _ _ _ _ _ _ _ _ _ _) ?_
  refine ynlrt 21 rfl (hM.blk (b := b3) (by (repeat constructor))) (by omega) (by simp) (ds := tC a ses snap strict (.slice A (us.map (fun u : RR × List Pr => u.1)).length c) (.slice A2 wz.length c2) (.slice A3 path.length c3) size lg mp) (by rw [List.drop_zero]; exact List.take_of_length_le (by rw [tC_len]; omega)) (tC_len _ _ _ _ _ _ _ _ _ _) ?_
  refine ynlrt 22 rfl (hM.blk (b := b4) (by (repeat constructor))) (by omega) (by simp) (ds := tC a2 ses2 snap2 strict2 (.slice B (us2.map (fun u : RR × List Pr => u.1)).length d) (.slice B2 wz2.length d2) (.slice B3 path2.length d3) size2 lg2 mp2) (by rw [List.drop_zero]; exact List.take_of_length_le (by rw [tC_len]; omega)) (tC_len _ _ _ _ _ _ _ _ _ _) ?_
  refine yk1 20 hM (by kernel_rfl) rfl (fun w h0 hM => ?_)
  refine gt ?_
  refine ca (tsame_any a ses snap strict _ _ _ size lg mp us wz path a2 ses2 snap2 strict2 _ _ _ size2 lg2 mp2 us2 wz2 path2 w (hA.ch hM.ch) (hB.ch hM.ch)) ?_
  rintro _ w2 ⟨rfl, hc⟩
  have hM := hM.call hc
  refine x_wy (.inl (hc.gy h0)) rfl ?_
  refine yk1 23 hM (by kernel_rfl) rfl (fun w h0 hM => ?_)
  refine gt ?_
  refine ca (rtsame_any a ses snap strict _ _ _ size lg mp us wz path a2 ses2 snap2 strict2 _ _ _ size2 lg2 mp2 us2 wz2 path2 w (hA.ch hM.ch) (hB.ch hM.ch)) ?_
  rintro _ w2 ⟨rfl, hc⟩
  have hM := hM.call hc
  refine x_wy (.inl (hc.gy h0)) rfl ?_
  refine ynvt 24 rfl (by kernel_rfl) (by kernel_rfl) rfl rfl (Nat.le_of_ble_eq_true rfl) rfl (fun w1 hG => r_eqbs (a := sameT a size lg mp path a2 size2 lg2 mp2 path2 (sameB ses snap strict us wz ses2 snap2 strict2 us2 wz2)) rfl rfl) rfl ?_
  (first | refine yn 25 rfl ?_ | refine ynt 25 rfl ?_ | refine ynff 25 rfl ?_); (first | refine yn 26 rfl ?_ | refine ynt 26 rfl ?_ | refine ynff 26 rfl ?_)
  refine yk1 27 hM (by kernel_rfl) rfl (fun w h0 hM => ?_)
  refine gt ?_
  refine ca (lives17_any _ (hK.ch hM.ch (by simp))) ?_
  rintro _ w2 ⟨rfl, hc⟩
  have hM := hM.call hc
  refine x_wy (.inl (hc.gy h0)) rfl ?_
  (first | refine yn 28 rfl ?_ | refine ynt 28 rfl ?_ | refine ynff 28 rfl ?_); (first | refine yn 29 rfl ?_ | refine ynt 29 rfl ?_ | refine ynff 29 rfl ?_)
  refine wy_done (by kernel_rfl) (fun w hc => ?_)
  have hM := hM.call hc
  repeat (first | refine gw ?_ | (refine ks ?_; intro w hM))
  exact out1 rfl ⟨rfl, hM.ch⟩
end Go.Proofs.YtoimhmphhffelaaGreatDoor

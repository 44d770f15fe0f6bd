/- Walks of law 17: a receipt's bytes; whether two are alike. -/
import Derived.Test.YtoimhmphhffelaaGreatDoorQReceiptBytes28
import Derived.Test.YtoimhmphhffelaaGreatDoorQReceiptBytes30
import Derived.Test.YtoimhmphhffelaaGreatDoorQReceiptBytes34
set_option linter.unusedVariables false
set_option linter.unusedSimpArgs false
namespace Go.Proofs.E
open Go Go.RowKit
/-- An element of an array that is a value. -/
theorem r_idx {P : Program} {l : List Value} {w : World} {T : TypeId} {x y : Operand} {t e : TypeId} {n m by_ k : Nat} {q : IntKind} {cs ds : List Value} {z : Value} [hu : Und P t (.array n e)] [hr : Row P e] [hi : Inf P e z m by_] (hx : ev l x = .agg cs.toArray) (hy : ev l y = .int q (k : Int)) (hk : k < n) (hd : (cs.drop (k * m)).take m = ds) :
    (exec (ev l) (.index t x y) T).run P w = .ok (.value (.agg ds.toArray)) w := by
  have hag := run_isAgg_row (P := P) (w := w) (t := e)
  have hs := run_size (P := P) (w := w) (hi := hi)
  have he : cs.toArray.extract (k * m) (k * m + m) = ds.toArray := by
    apply Array.ext'
    rw [Array.toList_extract]
    simp [List.extract, hd]
  simp [exec, execOp, Instr.index, hx, hy, asIntOf, run_underlying hu.out, hs, part, hag, he, hk, hd]
end Go.Proofs.E
namespace Go.Proofs.YtoimhmphhffelaaGreatDoor
open Go Go.RowKit Go.Proofs.E
attribute [local irreducible] Go.wpList Go.Code.wp Go.Proofs.E.exec Go.Proofs.E.wpLexG
theorem hs_ext {x y : Hs} : x = y ↔ x.1 = y.1 := ⟨fun h => by rw [h], fun h => Subtype.ext h⟩
set_option maxHeartbeats 4000000 in
theorem equalH_any (va vb : Value) (xs ys : List Hs) (w0 : World) (hX : (Ty.enc eH).Rd [] w0 va xs) (hY : (Ty.enc eH).Rd [] w0 vb ys) :
    Calls Tryz.prog 58 #[va, vb] w0 (Ret fun u w' => u = .bool (decide (xs = ys)) ∧ Ch [] w0 w') := by
  have hM := Mem.start w0
  obtain ⟨A, c, rfl⟩ := hX.form
  obtain ⟨A2, c2, rfl⟩ := hY.form
  have hl1 := hX.le
  have hl2 := hY.le
  refine enter [.slice A xs.length c, .slice A2 ys.length c2, undef, undef, undef, undef, undef, undef, undef, undef, undef, undef, undef, undef, undef, undef, undef, undef, undef, undef, undef, undef, undef, undef, undef, undef] Tryz.func58 rfl rfl ?_
  repeat (first | refine gw ?_ | (refine ks ?_; intro w hM))
  refine c_cond rfl (fun q1 => ?_) (fun q1 => ?_)
  · repeat (first | refine gw ?_ | (refine ks ?_; intro w hM))
    refine out1 rfl ⟨congrArg Value.bool (decide_eq_false (fun h => q1 (by rw [h]))).symm, hM.ch⟩
  have hl : xs.length = ys.length := by omega
  repeat (first | refine gw ?_ | (refine ks ?_; intro w hM))
  
  refine c_loop (fun n l w => ∃ (j : Nat), (∃ jj : Nat → Value, l = [.slice A xs.length c, .slice A2 ys.length c2, jj 2, jj 3, .bool false, jj 5, jj 6, jj 7, jj 8, jj 9, jj 10, jj 11, .int .i64 (xs.length : Int), .int .i64 (j : Int), jj 14, jj 15, jj 16, jj 17, jj 18, jj 19, jj 20, jj 21, jj 22, jj 23, jj 24, jj 25]) ∧ n + j = xs.length ∧ Mem [] w0 w [] ∧ xs.take j = ys.take j) xs.length
    ⟨0, exj rfl, rfl, hM, rfl⟩ ?_
  clear hM
  rintro n l w ⟨j, ⟨jj, rfl⟩, hnj, hM, hf⟩
  repeat (first | refine gw ?_ | (refine ks ?_; intro w hM))
  refine c_cond rfl (fun hj => ?_) (fun hj => ?_)
  · repeat (first | refine gw ?_ | (refine ks ?_; intro w hM))
    refine kdr hM (by kernel_rfl) (by kernel_rfl) (fun w hM => ?_)
    (try refine gwg ?_)
    refine kixg hX (fun o1 o2 x hx hA => ?_)
    refine katrg hM hA ?_
    (try refine gwg ?_)
    refine kixg hY (fun o3 o4 y hy hA' => ?_)
    refine katrg hM hA' ?_
    rw [Int.toNat_natCast] at hx hy
    (try ((with_reducible apply is_gg); first | refine gtg ?_ | refine gfg ?_ | refine gug ?_)); refine wg_val (fun _ _ => r_neq8 (n := 32) (a := x.1) (b := y.1) (by kernel_rfl) rfl rfl x.2 y.2) ?_
    (try refine gwg ?_)
    (intro w hc; have hM := hM.call hc)
    repeat (first | refine gw ?_ | (refine ks ?_; intro w hM))
    by_cases hxy : x = y
    · rw [decide_eq_true (hs_ext.1 hxy)]
      refine c_condb rfl (fun h => by cases h) (fun _ => ?_)
      repeat (first | refine gw ?_ | (refine ks ?_; intro w hM))
      exact x_goes (n - 1) rfl (by omega) ⟨j + 1, exj rfl, by omega, hM.sub (by (repeat constructor)), take_step hx hy hf hxy⟩
    · rw [decide_eq_false (fun h => hxy (hs_ext.2 h))]
      refine c_condb rfl (fun _ => ?_) (fun h => by cases h)
      repeat (first | refine gw ?_ | (refine ks ?_; intro w hM))
      exact out1 rfl ⟨congrArg Value.bool (decide_eq_false (fun h => hxy (by rw [h, hy] at hx; injection hx with hx; exact hx.symm))).symm, hM.ch⟩
  · repeat (first | refine gw ?_ | (refine ks ?_; intro w hM))
    exact out1 rfl ⟨congrArg Value.bool (decide_eq_true (take_eq_iff hl (by omega) hf)).symm, hM.ch⟩
theorem dig_cmp (s1 s2 : Int) (l1 m1 l2 m2 : Hs) : CmpFs Tryz.prog 9999 (dC s1 l1 m1) (dC s2 l2 m2) (Tryz.prog.fieldsOf 30).toList ((s1 == s2) && (decide (l1.1 = l2.1) && (decide (m1.1 = m2.1) && true))) := by
  simp only [Program.fieldsOf, Tryz.underlying30]
  exact .cons (by decide) (cmp_int (t := 3)) rfl rfl (.cons (by decide) (cmp_arr8 (t := 28) (e := 5) l1.2 l2.2) (by simp) (by simp) (.cons (by decide) (cmp_arr8 (t := 28) (e := 5) m1.2 m2.2) (by simp) (by simp) .nil))
def sameT (a size : Int) (lg mp : Hs) (path : List Hs) (a2 size2 : Int) (lg2 mp2 : Hs) (path2 : List Hs) (s : Bool) : Bool :=
  decide (a = a2) && (((size == size2) && (decide (lg.1 = lg2.1) && (decide (mp.1 = mp2.1) && true))) && (decide (path = path2) && s))
theorem tC_dig (a ses snap : Int) (strict : Bool) (vr vw vp : Value) (size : Int) (lg mp : Hs) : ((tC a ses snap strict vr vw vp size lg mp).drop 7).take 65 = dC size lg mp := List.take_of_length_le (by simp [h32])
set_option maxHeartbeats 8000000 in
theorem tsame_any (a ses snap : Int) (strict : Bool) (vr vw vp : Value) (size : Int) (lg mp : Hs) (us : List (RR × List Pr)) (wz : List Pr) (path : List Hs) (a2 ses2 snap2 : Int) (strict2 : Bool) (vr2 vw2 vp2 : Value) (size2 : Int) (lg2 mp2 : Hs) (us2 : List (RR × List Pr)) (wz2 : List Pr) (path2 : List Hs) (w0 : World) (hA : RctM w0 vr vw vp us wz path) (hB : RctM w0 vr2 vw2 vp2 us2 wz2 path2) :
    Calls Tryz.prog 15 #[.agg (tC a ses snap strict vr vw vp size lg mp).toArray, .agg (tC a2 ses2 snap2 strict2 vr2 vw2 vp2 size2 lg2 mp2).toArray] w0 (Ret fun u w' => u = .bool (sameT a size lg mp path a2 size2 lg2 mp2 path2 (sameB ses snap strict us wz ses2 snap2 strict2 us2 wz2)) ∧ Ch [] w0 w') := by
  have hM := Mem.start w0
  obtain ⟨A, c, rfl⟩ := hA.m.r.form
  obtain ⟨A2, c2, rfl⟩ := hA.m.w.form
  obtain ⟨A3, c3, rfl⟩ := hA.p.form
  obtain ⟨B, d, rfl⟩ := hB.m.r.form
  obtain ⟨B2, d2, rfl⟩ := hB.m.w.form
  obtain ⟨B3, d3, rfl⟩ := hB.p.form
  unfold sameT
  refine enter [.agg (tC a ses snap strict (.slice A (us.map (fun u : RR × List Pr => u.1)).length c) (.slice A2 wz.length c2) (.slice A3 path.length c3) size lg mp).toArray, .agg (tC a2 ses2 snap2 strict2 (.slice B (us2.map (fun u : RR × List Pr => u.1)).length d) (.slice B2 wz2.length d2) (.slice B3 path2.length d3) size2 lg2 mp2).toArray, undef, undef, undef, undef, undef, undef, undef, undef, undef, undef, undef, undef, undef, undef, undef, undef, undef, undef, undef, undef, undef, undef, undef, undef, undef, undef, undef, undef, undef] Tryz.func15 rfl rfl ?_
  repeat (first | refine gw ?_ | (refine ks ?_; intro w hM))
  refine kbx hM (fun w b2 hM => ?_)
  refine kbx hM (fun w b3 hM => ?_)
  have hM : Mem [] w0 w [.cell b3 (tC a2 ses2 snap2 strict2 (.slice B (us2.map (fun u : RR × List Pr => u.1)).length d) (.slice B2 wz2.length d2) (.slice B3 path2.length d3) size2 lg2 mp2) 32, .cell b2 (tC a ses snap strict (.slice A (us.map (fun u : RR × List Pr => u.1)).length c) (.slice A2 wz.length c2) (.slice A3 path.length c3) size lg mp) 32] := hM
  repeat (first | refine gr ?_ | (refine ks ?_; intro w hM))
  by_cases q1 : a = a2
  rotate_left
  · rw [decide_eq_false q1]
    repeat (first | refine gr ?_ | (refine ks ?_; intro w hM))
    exact out1 rfl ⟨rfl, hM.ch⟩
  rw [decide_eq_true q1]
  repeat ((fail_if_success (with_reducible apply Go.Proofs.E.is_dst (d := 12))); first | ((with_reducible apply is_ld); first | refine kld hM ?_ | refine kldw hM ?_ | refine kle hM ?_ | refine klew hM ?_) | ((with_reducible apply is_sto); first | (refine kst hM ?_; intro w hM) | (refine kstw hM ?_; intro w hM)) | ((with_reducible apply is_st); refine su ?_) | ((with_reducible apply is_gd); first | refine gt ?_ | refine gf ?_ | refine gu ?_) | ((with_reducible apply is_en); refine en ?_) | (with_reducible apply c_region) | refine ws ?_ | refine x_block_other (by decide) ?_)
  refine gt ?_
  refine kldp (dC size lg mp) hM (tC_dig _ _ _ _ _ _ _ _ _ _) ?_ (hn := dC_len _ _ _)
  repeat ((fail_if_success (with_reducible apply Go.Proofs.E.is_dst (d := 14))); first | ((with_reducible apply is_ld); first | refine kld hM ?_ | refine kldw hM ?_ | refine kle hM ?_ | refine klew hM ?_) | ((with_reducible apply is_sto); first | (refine kst hM ?_; intro w hM) | (refine kstw hM ?_; intro w hM)) | ((with_reducible apply is_st); refine su ?_) | ((with_reducible apply is_gd); first | refine gt ?_ | refine gf ?_ | refine gu ?_) | ((with_reducible apply is_en); refine en ?_) | (with_reducible apply c_region) | refine ws ?_ | refine x_block_other (by decide) ?_)
  refine gt ?_
  refine kldp (dC size2 lg2 mp2) hM (tC_dig _ _ _ _ _ _ _ _ _ _) ?_ (hn := dC_len _ _ _)
  (try ((with_reducible apply is_gd); first | refine gt ?_ | refine gf ?_ | refine gu ?_)); refine wl_val (r_eqlS (by kernel_rfl) (by kernel_rfl) (by kernel_rfl) rfl rfl (dig_cmp size size2 lg mp lg2 mp2)) ?_
  cases hd : (size == size2) && (decide (lg.1 = lg2.1) && (decide (mp.1 = mp2.1) && true)) with
  | false =>
    repeat (first | refine gr ?_ | (refine ks ?_; intro w hM))
    exact out1 rfl ⟨rfl, hM.ch⟩
  | true =>
  repeat (first | refine gr ?_ | (refine ks ?_; intro w hM))
  (try ((with_reducible apply is_gd); first | refine gt ?_ | refine gf ?_ | refine gu ?_)); refine kca hM (equalH_any _ _ path path2 w (hA.p.ch hM.ch) (hB.p.ch hM.ch)) (fun w hM => ?_)
  by_cases q4 : path = path2
  rotate_left
  · rw [decide_eq_false q4]
    repeat (first | refine gr ?_ | (refine ks ?_; intro w hM))
    exact out1 rfl ⟨rfl, hM.ch⟩
  rw [decide_eq_true q4]
  repeat (first | refine gr ?_ | (refine ks ?_; intro w hM))
  (try ((with_reducible apply is_gd); first | refine gt ?_ | refine gf ?_ | refine gu ?_)); refine kca hM (same_any ses snap strict _ _ us wz ses2 snap2 strict2 _ _ us2 wz2 w (hA.m.ch hM.ch) (hB.m.ch hM.ch)) (fun w hM => ?_)
  repeat (first | refine gr ?_ | (refine ks ?_; intro w hM))
  exact out1 rfl ⟨rfl, hM.ch⟩
def tBytes (a size : Int) (lg mp : Hs) (path : List Hs) (snap : Int) (g : Bool) (rb : Bs) : Bs := if good17 a size snap path.length g = true then rctB (rb, a.toNat, size.toNat, lg, mp, path) else []
theorem flat_step {path : List Hs} {j : Nat} {x : Hs} (h : path[j]? = some x) : (path.take (j + 1)).flatMap (fun h : Hs => h.1) = (path.take j).flatMap (fun h : Hs => h.1) ++ x.1 := by
  rw [List.take_add_one, h, List.flatMap_append]
  simp
theorem flat_len (path : List Hs) : (path.flatMap (fun h : Hs => h.1)).length = 32 * path.length := by
  induction path with
  | nil => rfl
  | cons x xs ih => rw [List.flatMap_cons, List.length_append, ih, x.2, List.length_cons]; omega
theorem cellH8 {O : List Nat} {w0 w : World} {L L' : List As} {b : Nat} {E : TypeId} (h : Mem O w0 w L) (a : Hs) (hp : Pick L (.cell b (a.1.map u8v) E) L') : tU8.Rd [] w (.slice (some ⟨b, 0, none⟩) 32 32) a.1 := by
  have := (h.blk hp).rd8 (S := []) (cap := 32) (by simp) (by rw [a.2]; omega) (by rw [a.2]; omega)
  rwa [a.2] at this
theorem fl2h (a b : Hs) : Fl (fun i => some (i * 32, 32)) (zeroH.1.map u8v ++ zeroH.1.map u8v) [(0, hv a.1), (1, hv b.1)] (a.1.map u8v ++ b.1.map u8v) := by
  have e : ∀ h : Hs, (hv h.1).cells.toList = h.1.map u8v := fun h => by simp [hv, Value.cells]
  have e0 : spl (zeroH.1.map u8v ++ zeroH.1.map u8v) 0 (hv a.1).cells.toList = a.1.map u8v ++ zeroH.1.map u8v := by
    rw [e]
    unfold spl
    rw [h32, List.take_zero, List.nil_append, List.drop_left' (h32 zeroH)]
  refine .cons rfl (by simp [hv, Value.cells, a.2]) (by simp [h32]) ?_
  rw [e0]
  refine .cons rfl (by simp [hv, Value.cells, b.2]) (by simp [h32]) (.nil ?_)
  rw [e]
  unfold spl
  rw [h32, List.take_left' (h32 a), List.drop_of_length_le (by simp [h32]), List.append_nil]
theorem idx2h (a b : Hs) {x : Hs} {j : Nat} (h : [a, b][j]? = some x) : ((a.1.map u8v ++ b.1.map u8v).drop (j * 32)).take 32 = x.1.map u8v := by
  match j, h with
  | 0, h =>
    injection h with h
    subst h
    exact List.take_left' (h32 a)
  | 1, h =>
    injection h with h
    subst h
    rw [Nat.one_mul, List.drop_left' (h32 a)]
    exact List.take_of_length_le (by rw [h32]; omega)
  | j + 2, h => simp at h
set_option maxHeartbeats 8000000 in
theorem tbytes_any (a ses snap : Int) (strict : Bool) (vr vw vp : Value) (size : Int) (lg mp : Hs) (us : List (RR × List Pr)) (wz : List Pr) (path : List Hs) (w0 : World) (hA : RctM w0 vr vw vp us wz path) (hk : ShortR us) (hb : ShortL wz) :
    Calls Tryz.prog 12 #[.agg (tC a ses snap strict vr vw vp size lg mp).toArray] w0 (Ret fun u w' => Ch [] w0 w' ∧ Go.Proofs.E.Own eU8 w' w0.heap.size 5 u (tBytes a size lg mp path snap (recGood ses snap strict us wz) (bytesB ses snap strict us wz))) := by
  have hM := Mem.start w0
  obtain ⟨A, c, rfl⟩ := hA.m.r.form
  obtain ⟨A2, c2, rfl⟩ := hA.m.w.form
  obtain ⟨A3, c3, rfl⟩ := hA.p.form
  have hle := hA.p.le
  have hlb := bytesB_len (ses := ses) (snap := snap) (strict := strict) (us := us) (wz := wz)
  unfold tBytes
  refine enter [.agg (tC a ses snap strict (.slice A (us.map (fun u : RR × List Pr => u.1)).length c) (.slice A2 wz.length c2) (.slice A3 path.length c3) size lg mp).toArray, undef, undef, undef, undef, undef, undef, undef, undef, undef, undef, undef, undef, undef, undef, undef, undef, undef, undef, undef, undef, undef, undef, undef, undef, undef, undef, undef, undef, undef, undef, undef, undef, undef, undef, undef, undef, undef, undef, undef, undef, undef, undef, undef, undef, undef, undef, undef, undef, undef, undef, undef, undef, undef, undef, undef, undef, undef] Tryz.func12 rfl rfl ?_
  repeat (first | refine gw ?_ | (refine ks ?_; intro w hM))
  refine kbx hM (fun w b1 hM => ?_)
  have hM : Mem [] w0 w [.cell b1 (tC a ses snap strict (.slice A (us.map (fun u : RR × List Pr => u.1)).length c) (.slice A2 wz.length c2) (.slice A3 path.length c3) size lg mp) 32] := hM
  repeat (first | refine gr ?_ | (refine ks ?_; intro w hM))
  refine kca hM (tgood_any a ses snap strict _ _ _ size lg mp us wz path _ (hA.ch hM.ch) hk hb) (fun w hM => ?_)
  cases hg : good17 a size snap path.length (recGood ses snap strict us wz) with
  | false =>
    repeat (first | refine gr ?_ | (refine ks ?_; intro w hM))
    refine c_condb rfl (fun _ => ?_) (fun h => by cases h)
    repeat (first | refine gr ?_ | (refine ks ?_; intro w hM))
    rw [if_neg (by simp)]
    exact out1 rfl ⟨hM.ch, Own.nil _ _ _ _⟩
  | true =>
  repeat (first | refine gr ?_ | (refine ks ?_; intro w hM))
  refine c_condb rfl (fun h => by cases h) (fun _ => ?_)
  rw [if_pos rfl]
  have hgp : 0 ≤ a ∧ a ≤ 1099511627776 ∧ size = a + 1 ∧ snap ≤ a ∧ path.length ≤ 64 := by
    unfold good17 at hg
    rw [Bool.and_eq_true, decide_eq_true_eq] at hg
    exact hg.1
  obtain ⟨an, rfl⟩ := Int.eq_ofNat_of_zero_le hgp.1
  obtain ⟨sn, rfl⟩ := Int.eq_ofNat_of_zero_le (by omega : 0 ≤ size)
  rw [Int.toNat_natCast, Int.toNat_natCast]
  repeat (first | refine gr ?_ | (refine ks ?_; intro w hM))
  have hA1 := hA.m.ch hM.ch
  refine kcr hM (recBytes_any ses snap strict _ _ us wz _ hA1.r hA1.u hA1.w hk hb) (fun v13 w hM => ?_)
  generalize bytesB ses snap strict us wz = rb at hM hlb ⊢
  repeat (first | refine gr ?_ | (refine ks ?_; intro w hM))
  (try ((with_reducible apply is_gd); first | refine gt ?_ | refine gf ?_ | refine gu ?_)); refine wl_val (r_b2s (hM.rowRdO (en := eU8) (xs := rb) (v := v13) (by (repeat constructor)))) ?_
  repeat (first | refine gr ?_ | (refine ks ?_; intro w hM))
  refine kcr hM (str_any _ rb _ (Ty.Rd.nil _ _ _ _ _) (by simp) (by omega)) (fun v15 w hM => ?_)
  rw [List.nil_append] at hM
  repeat (first | refine grb ?_ | (refine ks ?_; intro w hM))
  refine c_ordY ([], []) [] (by kernel_rfl) (by kernel_rfl) (by kernel_rfl) (fun w hc hs => ?_)
  have hM := hM.call hc
  have hl1 := Blk.lt (hM.blk (b := b1) (by (repeat constructor)))
  (first | refine yn 0 rfl ?_ | refine ynt 0 rfl ?_ | refine ynff 0 rfl ?_); (first | refine yn 1 rfl ?_ | refine ynt 1 rfl ?_ | refine ynff 1 rfl ?_)
  refine ynl 2 rfl (hM.blk (b := b1) (by (repeat constructor))) (by omega) (by simp) rfl rfl ?_
  refine ynp 3 rfl (by kernel_rfl) (by kernel_rfl) (fun _ => r_convw (a := (an : Int)) (k := .u64) rfl rfl (by omega) (by omega)) rfl ?_
  (first | refine yn 5 rfl ?_ | refine ynt 5 rfl ?_ | refine ynff 5 rfl ?_); (first | refine yn 6 rfl ?_ | refine ynt 6 rfl ?_ | refine ynff 6 rfl ?_)
  refine ynl 7 rfl (hM.blk (b := b1) (by (repeat constructor))) (by omega) (by simp) rfl rfl ?_
  refine ynp 8 rfl (by kernel_rfl) (by kernel_rfl) (fun _ => r_convw (a := (sn : Int)) (k := .u64) rfl rfl (by omega) (by omega)) rfl ?_
  refine yk1 4 hM (by kernel_rfl) rfl (fun w h0 hM => ?_)
  have hnl := numB_len (n := an) (by omega)
  have hnl2 := numB_len (n := sn) (by omega)
  have hsl : (strB rb).length ≤ rb.length + 10 := by
    unfold strB
    rw [List.length_append]
    have := numB_len (n := rb.length) (by omega)
    omega
  refine ca (num_any v15 an w (hM.rowRdO (en := eU8) (xs := strB rb) (v := v15) (by (repeat constructor))) (by omega) (by omega)) ?_
  rintro v20 w2 ⟨hc, hO⟩
  have hM := hM.got hc hO
  refine x_wy (.inl (hc.gy h0)) rfl ?_
  refine yk1 9 hM (by kernel_rfl) rfl (fun w h0 hM => ?_)
  refine ca (num_any v20 sn w (hM.rowRdO (en := eU8) (v := v20) (by (repeat constructor))) (by simp; omega) (by omega)) ?_
  rintro v25 w2 ⟨hc, hO⟩
  have hM := hM.got hc hO
  refine x_wy (.inl (hc.gy h0)) rfl ?_
  (first | refine yn 10 rfl ?_ | refine ynt 10 rfl ?_ | refine ynff 10 rfl ?_)
  refine wy_done (by kernel_rfl) (fun w hc => ?_)
  have hM := hM.call hc
  generalize hB0 : strB rb ++ numB an ++ numB sn = B0 at hM
  have hB0l : B0.length ≤ 20000000 := by rw [← hB0]; simp; omega
  have hM : Mem [] w0 w [.row eU8 5 v25 B0, .cell b1 (tC an ses snap strict (.slice A (us.map (fun u : RR × List Pr => u.1)).length c) (.slice A2 wz.length c2) (.slice A3 path.length c3) sn lg mp) 32] := hM.sub (by (repeat constructor))
  repeat (first | refine gr ?_ | (refine ks ?_; intro w hM))
  (try ((with_reducible apply is_gd); first | refine gt ?_ | refine gf ?_ | refine gu ?_)); refine wl_val (r_bldS (vs := [(0, hv lg.1), (1, hv mp.1)]) (lg.1.map u8v ++ mp.1.map u8v) (z := zeroH.1.map u8v ++ zeroH.1.map u8v) (place := fun i => some (i * 32, 32)) (by intro ps; kernel_rfl) rfl (fl2h lg mp)) ?_
  repeat (first | refine gr ?_ | (refine ks ?_; intro w hM))
  
  refine c_loop (fun n l w => ∃ (j : Nat) (v3 : Value), (∃ jj : Nat → Value, l = [jj 0, .pointer (some ⟨b1, 0, none⟩), jj 2, v3, jj 4, jj 5, jj 6, jj 7, jj 8, jj 9, jj 10, jj 11, jj 12, jj 13, jj 14, jj 15, jj 16, jj 17, jj 18, jj 19, jj 20, jj 21, jj 22, jj 23, jj 24, jj 25, jj 26, jj 27, jj 28, jj 29, jj 30, jj 31, .agg (lg.1.map u8v ++ mp.1.map u8v).toArray, .int .i64 (j : Int), jj 34, jj 35, jj 36, jj 37, jj 38, jj 39, jj 40, jj 41, jj 42, jj 43, jj 44, jj 45, jj 46, jj 47, jj 48, jj 49, jj 50, jj 51, jj 52, jj 53, jj 54, jj 55, jj 56, jj 57]) ∧ n + j = 2 ∧ Mem [] w0 w [.row eU8 5 v3 (B0 ++ ([lg, mp].take j).flatMap (fun h : Hs => h.1)), .cell b1 (tC an ses snap strict (.slice A (us.map (fun u : RR × List Pr => u.1)).length c) (.slice A2 wz.length c2) (.slice A3 path.length c3) sn lg mp) 32]) 2
    ⟨0, v25, exj rfl, rfl, by simpa using hM⟩ ?_
  clear hM
  rintro n l w ⟨j, v3, ⟨jj, rfl⟩, hnj, hM⟩
  repeat (first | refine gw ?_ | (refine ks ?_; intro w hM))
  refine c_cond rfl (fun hj => ?_) (fun hj => ?_)
  · obtain ⟨x, hx⟩ : ∃ x, [lg, mp][j]? = some x := ⟨_, List.getElem?_eq_getElem (by simp; omega)⟩
    have hj2 : j < 2 := by omega
    have hix := idx2h lg mp hx
    repeat (first | refine gw ?_ | (refine ks ?_; intro w hM))
    (try ((with_reducible apply is_gd); first | refine gt ?_ | refine gf ?_ | refine gu ?_)); refine wl_val (r_idx (n := 2) (m := 32) (k := j) (q := .i64) rfl rfl hj2 hix) ?_
    repeat (first | refine gw ?_ | (refine ks ?_; intro w hM))
    refine kal hM (fun w b5 hM => ?_)
    refine kstw (vs := x.1.map u8v) hM (fun w hM => ?_) (hln := h32 x)
    repeat (first | refine gw ?_ | (refine ks ?_; intro w hM))
    (try ((with_reducible apply is_gd); first | refine gt ?_ | refine gf ?_ | refine gu ?_)); refine wl_val (r_cut_arr0 rfl) ?_
    have hfl := flat_len ([lg, mp].take j)
    rw [List.length_take] at hfl
    refine kap (en := eU8) (v := v3) (yv := .slice (some ⟨b5, 0, none⟩) 32 32) (ys := x.1) hM (cellH8 hM x (by (repeat constructor))) (fun v38 w hM => ?_) (hb := by rw [List.length_append, hfl, x.2]; omega) (h63 := by rw [List.length_append, hfl, x.2]; omega)
    repeat (first | refine gw ?_ | (refine ks ?_; intro w hM))
    rw [List.append_assoc, ← flat_step hx] at hM
    exact x_goes (n - 1) rfl (by omega) ⟨j + 1, v38, exj rfl, by omega, hM.sub (by (repeat constructor))⟩
  · obtain rfl : j = 2 := by omega
    generalize hB1 : B0 ++ ([lg, mp].take 2).flatMap (fun h : Hs => h.1) = B1 at hM
    have hB1l : B1.length ≤ 20000064 := by rw [← hB1]; simp [lg.2, mp.2]; omega
    repeat (first | refine gr ?_ | (refine ks ?_; intro w hM))
    have hnl3 := numB_len (n := path.length) (by omega)
    refine kcr hM (num_any v3 path.length w (hM.rowRdO (en := eU8) (v := v3) (by (repeat constructor))) (by omega) (by omega)) (fun v45 w hM => ?_)
    repeat (first | refine gr ?_ | (refine ks ?_; intro w hM))
    generalize hB2 : B1 ++ numB path.length = B2 at hM
    have hB2l : B2.length ≤ 20000100 := by rw [← hB2]; simp; omega
    have hM : Mem [] w0 w [.row eU8 5 v45 B2, .cell b1 (tC an ses snap strict (.slice A (us.map (fun u : RR × List Pr => u.1)).length c) (.slice A2 wz.length c2) (.slice A3 path.length c3) sn lg mp) 32] := hM.sub (by (repeat constructor))
    
    refine c_loop (fun n l w => ∃ (j : Nat) (v3 : Value), (∃ jj : Nat → Value, l = [jj 0, .pointer (some ⟨b1, 0, none⟩), jj 2, v3, jj 4, jj 5, jj 6, jj 7, jj 8, jj 9, jj 10, jj 11, jj 12, jj 13, jj 14, jj 15, jj 16, jj 17, jj 18, jj 19, jj 20, jj 21, jj 22, jj 23, jj 24, jj 25, jj 26, jj 27, jj 28, jj 29, jj 30, jj 31, jj 32, jj 33, jj 34, jj 35, jj 36, jj 37, jj 38, jj 39, jj 40, jj 41, jj 42, jj 43, jj 44, jj 45, jj 46, .slice A3 path.length c3, .int .i64 (path.length : Int), .int .i64 (j : Int), jj 50, jj 51, jj 52, jj 53, jj 54, jj 55, jj 56, jj 57]) ∧ n + j = path.length ∧ Mem [] w0 w [.row eU8 5 v3 (B2 ++ (path.take j).flatMap (fun h : Hs => h.1)), .cell b1 (tC an ses snap strict (.slice A (us.map (fun u : RR × List Pr => u.1)).length c) (.slice A2 wz.length c2) (.slice A3 path.length c3) sn lg mp) 32]) path.length
      ⟨0, v45, exj rfl, rfl, by simpa using hM⟩ ?_
    clear hM
    rintro n l w ⟨j, v3, ⟨jj, rfl⟩, hnj, hM⟩
    repeat (first | refine gw ?_ | (refine ks ?_; intro w hM))
    refine c_cond rfl (fun hj => ?_) (fun hj => ?_)
    · repeat (first | refine gw ?_ | (refine ks ?_; intro w hM))
      refine kix hA.p (fun b o x hx hA3 => ?_)
      rw [Int.toNat_natCast] at hx
      refine katr hM hA3 ?_
      refine kal hM (fun w b7 hM => ?_)
      refine kstw (vs := x.1.map u8v) hM (fun w hM => ?_) (hln := h32 x)
      repeat (first | refine gw ?_ | (refine ks ?_; intro w hM))
      (try ((with_reducible apply is_gd); first | refine gt ?_ | refine gf ?_ | refine gu ?_)); refine wl_val (r_cut_arr0 rfl) ?_
      have hfl := flat_len (path.take j)
      rw [List.length_take] at hfl
      refine kap (en := eU8) (v := v3) (yv := .slice (some ⟨b7, 0, none⟩) 32 32) (ys := x.1) hM (cellH8 hM x (by (repeat constructor))) (fun v55 w hM => ?_) (hb := by simp only [List.length_append, hfl, x.2]; omega) (h63 := by simp only [List.length_append, hfl, x.2]; omega)
      repeat (first | refine gw ?_ | (refine ks ?_; intro w hM))
      rw [List.append_assoc, ← flat_step hx] at hM
      exact x_goes (n - 1) rfl (by omega) ⟨j + 1, v55, exj rfl, by omega, hM.sub (by (repeat constructor))⟩
    · repeat (first | refine gw ?_ | (refine ks ?_; intro w hM))
      rw [List.take_of_length_le (by omega)] at hM
      have hrow := hM.row (v := v3) (by (repeat constructor))
      have e : B2 ++ path.flatMap (fun h : Hs => h.1) = rctB (rb, an, sn, lg, mp, path) := by
        rw [← hB2, ← hB1, ← hB0]
        unfold rctB
        simp
      rw [e] at hrow
      exact out1 rfl ⟨hM.ch, hrow⟩
end Go.Proofs.YtoimhmphhffelaaGreatDoor

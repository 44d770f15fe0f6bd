/- Walks: the first two that are not the same.
   Walks: the first two that are not the same: two lists from their ends on.
   Walks: the first two that are not the same, if their hash is.
   Walks: the sides of a leaf's way. -/
import Derived.Test.YtkdbinchlpdkmaaDoorQClashTops14
import Derived.Test.YtkdbinchlpdkmaaDoorQClashTops08
import Derived.Test.YtkdbinchlpdkmaaDoorQClashTops18
set_option linter.unusedVariables false
set_option linter.unusedSimpArgs false
namespace Go.Proofs.YtkdbinchlpdkmaaDoor
open Go Go.RowKit Go.Proofs.E
attribute [local irreducible] Go.wpList Go.Code.wp Go.Proofs.E.exec Go.Proofs.E.wpLexG
theorem own_of_blk {α : Type} {en : En α} {w : World} {base b c : Nat} {E : TypeId} {xs : List α} {cells : List Value} (hB : Blk w b cells E) (hb : base ≤ b) (hc : xs.length ≤ c) (hm : c ≤ 9223372036854775807) (hl : cells.length = c * en.n) (ht : cells.take (xs.length * en.n) = xs.flatMap en.f) :
    Go.Proofs.E.Own en w base E (.slice (some ⟨b, 0, none⟩) xs.length c) xs :=
  ⟨flatMap_len en.hl xs, .inr ⟨b, c, cells.toArray, rfl, hb, hB, hc, by simpa [maxLen] using hm, by simpa using hl, by simpa using ht⟩⟩
theorem own_any (v : Value) (bs : List UInt8) (w0 : World) (hR : tU8.Rd [] w0 v bs) (hb : bs.length ≤ 1099511627776) :
    Calls Tryd.prog 140 #[v] w0 (Ret fun u w' => Ch [] w0 w' ∧ Go.Proofs.E.Own eU8 w' w0.heap.size 5 u bs) := by
  have hM := Mem.start w0
  obtain ⟨A, c, rfl⟩ := hR.form
  refine enter [.slice A bs.length c, undef, undef, undef, undef, undef, undef, undef, undef, undef, undef] Tryd.func140 rfl rfl ?_
  repeat (first | refine gw ?_ | (refine ks ?_; intro w hM))
  refine wl_make (n := bs.length) (c := bs.length) rfl rfl (Nat.le_refl _) (by omega) (by omega) (fun w b cs hN hcs => ?_)
  have hM := hM.alloc hN
  repeat (first | refine gw ?_ | (refine ks ?_; intro w hM))
  have hcs' : cs.length = bs.length := by omega
  refine cpE (en := eU8) (S := []) rfl rfl rfl (hM.blk (by (repeat constructor))) (hR.ch hM.ch) (by show bs.length * 1 ≤ _; omega) (fun v w hB hc hs => ?_)
  have hM := hM.cellSet hB hc
  repeat (first | refine gw ?_ | (refine ks ?_; intro w hM))
  have hd : cs.drop (bs.length * 1) = [] := List.drop_eq_nil_of_le (by omega)
  have hfl : (bs.flatMap eU8.f).length = bs.length := (flatMap_len eU8.hl bs).trans (Nat.mul_one _)
  refine out1 rfl ⟨hM.ch, own_of_blk (c := bs.length) (hM.blk (by (repeat constructor))) (hM.ge (by (repeat constructor))) (Nat.le_refl _) (by omega) ?_ ?_⟩
  · rw [hd, List.append_nil]
    exact flatMap_len eU8.hl bs
  · rw [hd, List.append_nil]
    exact List.take_of_length_le (by rw [hfl]; show bs.length ≤ bs.length * 1; omega)
theorem equal_any (v1 v2 : Value) (a b : List UInt8) (w : World) (h1 : tU8.Rd [] w v1 a) (h2 : tU8.Rd [] w v2 b) :
    Calls Tryd.prog 133 #[v1, v2] w (Ret fun u w' => u = .bool (decide (a = b)) ∧ w' = w) := by
  refine enter [v1, v2, undef, undef, undef, undef, undef, undef, undef, undef] Tryd.func133 rfl rfl ?_
  (try refine wk ?_)
  (try ((with_reducible apply is_gd); first | refine gt ?_ | refine gf ?_ | refine gu ?_)); refine wl_val (r_b2s h1) ?_
  (try refine wk ?_)
  (try ((with_reducible apply is_gd); first | refine gt ?_ | refine gf ?_ | refine gu ?_)); refine wl_val (r_b2s h2) ?_
  (try ((with_reducible apply is_gd); first | refine gt ?_ | refine gf ?_ | refine gu ?_)); refine wl_val (r_eqst) ?_
  (try refine wk ?_)
  exact out1 rfl ⟨rfl, rfl⟩
theorem beside_any (a b : SlV) (w0 : World) : Calls Tryd.prog 139 #[slv a, slv b] w0 (Ret fun u w' => ∃ b1 b2, u = .func (.func 156) #[] #[.pointer (some ⟨b1, 0, none⟩), .pointer (some ⟨b2, 0, none⟩)] ∧ Mem [] w0 w' [.cell b1 [slv a] 22, .cell b2 [slv b] 22]) := by
  have hM := Mem.start w0
  refine enter [slv a, slv b, undef, undef, undef, undef] Tryd.func139 rfl rfl ?_
  repeat (first | refine gw ?_ | (refine ks ?_; intro w hM))
  refine kbx (v := slv a) hM (fun w b1 hM => ?_)
  refine kbx (v := slv b) hM (fun w b2 hM => ?_)
  repeat (first | refine gw ?_ | (refine ks ?_; intro w hM))
  (try ((with_reducible apply is_gd); first | refine gt ?_ | refine gf ?_ | refine gu ?_)); refine wl_val (r_makeFunc (cs := [.tmp 2, .tmp 3])) ?_
  repeat (first | refine gw ?_ | (refine ks ?_; intro w hM))
  have hM : Mem [] w0 w [.cell b2 [slv b] 22, .cell b1 [slv a] 22] := hM
  exact out1 rfl ⟨b1, b2, rfl, hM.sub (by (repeat constructor))⟩
/-- The first two that are not the same, if their hash is. -/
def firstL : List (List UInt8 × List UInt8) → Option (List UInt8 × List UInt8)
  | [] => none
  | p :: r => if p.1 = p.2 then firstL r else if shaOf p.1 = shaOf p.2 then some p else none
def pairsL (xs ys : List (List UInt8)) : List (List UInt8 × List UInt8) := xs.reverse.zip ys.reverse
def fstL (o : Option (List UInt8 × List UInt8)) : List UInt8 := (o.map (·.1)).getD []
def sndL (o : Option (List UInt8 × List UInt8)) : List UInt8 := (o.map (·.2)).getD []
theorem zip_pr {α β γ δ : Type} (f : α → γ) (g : β → δ) (ps : List α) (qs : List β) : (ps.map f).reverse.zip (qs.map g).reverse = (ps.reverse.zip qs.reverse).map (fun r => (f r.1, g r.2)) := by
  rw [← List.map_reverse, ← List.map_reverse, List.zip_map]
  rfl
theorem get_of_pre {α β : Type} {f : α → β} {R : List α} {pre : List β} {x : β} (h : (pre ++ [x]) <+: R.map f) : ∃ r, R[pre.length]? = some r ∧ x = f r := by
  obtain ⟨t, ht⟩ := h
  have h1 : (R.map f)[pre.length]? = some x := by rw [← ht]; simp
  rw [List.getElem?_map] at h1
  obtain ⟨r, h2, h3⟩ := Option.map_eq_some_iff.1 h1
  exact ⟨r, h2, h3.symm⟩
end Go.Proofs.YtkdbinchlpdkmaaDoor
set_option linter.unusedVariables false
set_option linter.unusedSimpArgs false
namespace Go.Proofs.YtkdbinchlpdkmaaDoor
open Go Go.RowKit Go.Proofs.E
attribute [local irreducible] Go.wpList Go.Code.wp Go.Proofs.E.exec Go.Proofs.E.wpLexG
theorem ends_get {α β : Type} {us : List α} {vs : List β} {i : Nat} {x : α} {y : β} (hx : us[us.length - 1 - i]? = some x) (hy : vs[vs.length - 1 - i]? = some y) (h1 : i < us.length) (h2 : i < vs.length) : (us.reverse.zip vs.reverse)[i]? = some (x, y) := by
  rw [List.getElem?_zip_eq_some, List.getElem?_reverse h1, List.getElem?_reverse h2]
  exact ⟨hx, hy⟩
set_option maxHeartbeats 8000000 in
theorem beside_seq {us vs : List SlV} {v1 v2 : Value} {w0 : World} (b1 b2 : Nat) (h1 : (Ty.enc eSl).Rd [] w0 v1 us) (h2 : (Ty.enc eSl).Rd [] w0 v2 vs) (hb : us.length ≤ 1099511627776) :
    SeqM Tryd.prog 9 156 #[.pointer (some ⟨b1, 0, none⟩), .pointer (some ⟨b2, 0, none⟩)] (fun x : SlV × SlV => #[slv x.1, slv x.2]) (us.reverse.zip vs.reverse) [] w0 [.cell b1 [v1] 22, .cell b2 [v2] 22] := by
  intro r Inv Stp w La hM0 hInv hY
  refine callsIn_wide.2 ?_
  have hM := hM0.perm List.perm_append_comm
  suffices h : Calls Tryd.prog 156 #[.func (.yield r) #[] #[], .pointer (some ⟨b1, 0, none⟩), .pointer (some ⟨b2, 0, none⟩)] w (Ret fun _ W' => ∃ La', (Inv (us.reverse.zip vs.reverse) La' ∨ ∃ pre, Stp pre La') ∧ Mem [] w0 W' (La' ++ [.cell b1 [v1] 22, .cell b2 [v2] 22])) from
    h.mono fun e w ⟨v, he, h⟩ => ⟨⟨v, he⟩, h⟩
  obtain ⟨L, hL⟩ : ∃ L, us.reverse.zip vs.reverse = L := ⟨_, rfl⟩
  rw [hL] at hY ⊢
  have hLl : L.length = min us.length vs.length := by rw [← hL]; simp
  have hle1 := h1.le
  have hle2 := h2.le
  obtain ⟨A1, c1, rfl⟩ := h1.form
  obtain ⟨A2, c2, rfl⟩ := h2.form
  refine enter [.func (.yield r) #[] #[], .pointer (some ⟨b1, 0, none⟩), .pointer (some ⟨b2, 0, none⟩), undef, undef, undef, undef, undef, undef, undef, undef, undef, undef, undef, undef, undef, undef, undef, undef, undef, undef, undef, undef, undef, undef, undef, undef, undef, undef, undef, undef] Tryd.func156 rfl rfl ?_
  simp only [List.cons_append, List.nil_append] at hM
  repeat (first | refine gw ?_ | (refine ks ?_; intro w hM))
  
  refine c_loop (fun k l w => ∃ (i : Nat) (La : List As), (∃ jj : Nat → Value, l = [.func (.yield r) #[] #[], .pointer (some ⟨b1, 0, none⟩), .pointer (some ⟨b2, 0, none⟩), jj 3, .int .i64 ((i : Int) + 1), jj 5, jj 6, jj 7, jj 8, jj 9, jj 10, jj 11, jj 12, jj 13, jj 14, jj 15, jj 16, jj 17, jj 18, jj 19, jj 20, jj 21, jj 22, jj 23, jj 24, jj 25, jj 26, jj 27, jj 28, jj 29, jj 30]) ∧ k + i = L.length ∧ Inv (L.take i) La ∧ Mem [] w0 w (.cell b1 [.slice A1 us.length c1] 22 :: .cell b2 [.slice A2 vs.length c2] 22 :: La)) L.length
    ⟨0, La, exj rfl, rfl, hInv, hM⟩ ?_
  clear hM hM0 hInv
  rintro k l w ⟨i, La, ⟨jj, rfl⟩, hki, hInv, hM⟩
  repeat (first | refine gw ?_ | (refine ks ?_; intro w hM))
  (try ((with_reducible apply is_gd); first | refine gt ?_ | refine gf ?_ | refine gu ?_)); refine wl_val (r_minI (L.length : Int)) ?_
  repeat (first | refine gw ?_ | (refine ks ?_; intro w hM))
  refine c_cond rfl (fun hi => ?_) (fun hi => ?_)
  · have hiu : i < us.length := by omega
    have hiv : i < vs.length := by omega
    repeat (first | refine gwb ?_ | (refine ks ?_; intro w hM))
    refine (wpIn_wide (n := 9)).1 (c_drawY 15 _ _ hM (by kernel_rfl) (by kernel_rfl) (by kernel_rfl) rfl (by kernel_rfl) (by kernel_rfl) (by kernel_rfl) (fun w hM => ?_))
    simp only [List.take_succ_cons, List.take_zero]
    (try refine gwg ?_)
    refine kixg h1 (fun o1 o2 x hx hA => ?_)
    refine katg hM hA ?_
    (try refine gwg ?_)
    refine kixg h2 (fun o3 o4 y hy hA' => ?_)
    refine katg hM hA' ?_
    refine wq_end hM (fun w hM => ?_)
    rw [show ((us.length : Int) - ((i : Int) + 1)).toNat = us.length - 1 - i by omega] at hx
    rw [show ((vs.length : Int) - ((i : Int) + 1)).toNat = vs.length - 1 - i by omega] at hy
    have hget : L[i]? = some (x, y) := by rw [← hL]; exact ends_get hx hy hiu hiv
    have hsn : L.take (i + 1) = L.take i ++ [(x, y)] := by rw [List.take_add_one, hget]; rfl
    have hyl := hY (L.take i) (x, y) w La _ (by rw [← hsn]; exact List.take_prefix _ _) hInv (hM.perm (List.perm_append_comm (l₁ := [_, _]) (l₂ := La)))
    refine li_yield rfl rfl hyl ?_
    rintro e w2 (⟨rfl, La2, hI2, hM2⟩ | ⟨rfl, La2, hI2, hM2⟩)
    · refine ⟨_, rfl, ?_⟩
      refine li_val (r_not rfl) ?_
      refine wpListIn_nil ?_
      repeat (first | refine gwb ?_ | (refine ks ?_; intro w hM))
      refine c_condb rfl (fun h => by cases h) (fun _ => ?_)
      have hM := hM2.perm List.perm_append_comm
      repeat (first | refine gw ?_ | (refine ks ?_; intro w hM))
      exact x_goes (k - 1) rfl (by omega) ⟨i + 1, La2, exj rfl, by omega, by rw [hsn]; exact hI2, hM⟩
    · refine ⟨_, rfl, ?_⟩
      refine li_val (r_not rfl) ?_
      refine wpListIn_nil ?_
      repeat (first | refine gwb ?_ | (refine ks ?_; intro w hM))
      refine c_condb rfl (fun _ => ?_) (fun h => by cases h)
      repeat (first | refine gw ?_ | (refine ks ?_; intro w hM))
      exact out0 rfl ⟨La2, .inr ⟨_, hI2⟩, hM2⟩
  · repeat (first | refine gw ?_ | (refine ks ?_; intro w hM))
    rw [List.take_of_length_le (by omega)] at hInv
    exact out0 rfl ⟨La, .inl hInv, hM.perm (List.perm_append_comm (l₁ := [_, _]) (l₂ := La))⟩
end Go.Proofs.YtkdbinchlpdkmaaDoor
set_option linter.unusedVariables false
set_option linter.unusedSimpArgs false
namespace Go.Proofs.YtkdbinchlpdkmaaDoor
open Go Go.RowKit Go.Proofs.E
attribute [local irreducible] Go.wpList Go.Code.wp Go.Proofs.E.exec Go.Proofs.E.wpLexG
set_option maxHeartbeats 16000000 in
theorem first_any (va vb : Value) (xs ys : List (List UInt8)) (w0 : World) (hK : Laid w0) (hRa : (Ty.sl tU8).Rd [] w0 va xs) (hRb : (Ty.sl tU8).Rd [] w0 vb ys)
    (ha : ∀ x ∈ xs, x.length ≤ 1099511627776) (hb : ∀ x ∈ ys, x.length ≤ 1099511627776) (hla : xs.length ≤ 1099511627776) :
    Calls Tryd.prog 101 #[va, vb] w0 (Ret fun u w' => ∃ v1 v2, u = .tuple #[v1, v2, .bool (firstL (pairsL xs ys)).isSome] ∧
      Mem [] w0 w' [.row eU8 5 v1 (fstL (firstL (pairsL xs ys))), .row eU8 5 v2 (sndL (firstL (pairsL xs ys)))]) := by
  obtain ⟨ps, rfl, hPa, hpa⟩ := hRa.raw
  obtain ⟨qs, rfl, hPb, hqb⟩ := hRb.raw
  have hM := Mem.start w0
  unfold pairsL
  rw [zip_pr]
  have hseq0 := fun b1 b2 => beside_seq b1 b2 hPa hPb (by simpa using hla)
  simp only [zip_pr] at hseq0
  have hmem : ∀ r ∈ ps.reverse.zip qs.reverse, r.1 ∈ ps ∧ r.2 ∈ qs := fun r hr => by
    have := List.of_mem_zip (a := r.1) (b := r.2) hr
    simpa using this
  generalize ps.reverse.zip qs.reverse = R at hseq0 hmem ⊢
  obtain ⟨sa, rfl⟩ := hPa.slv
  obtain ⟨sb, rfl⟩ := hPb.slv
  refine enterM [slv sa, slv sb, undef, undef, undef, undef, undef, undef, undef, undef, undef, undef, undef, undef, undef, undef, undef, undef, undef, undef, undef, undef, undef, undef, undef, undef] Tryd.func101 rfl rfl ?_
  repeat (first | refine gw ?_ | (refine ks ?_; intro w hM))
  refine kal hM (fun w b4 hM => ?_)
  refine kal hM (fun w b5 hM => ?_)
  refine kal hM (fun w b6 hM => ?_)
  have hM : Mem [] w0 w [.cell b6 [.bool false] 4, .cell b5 [.slice none 0 0] 28, .cell b4 [.slice none 0 0] 28] := hM
  repeat (first | refine gw ?_ | (refine ks ?_; intro w hM))
  refine ca (beside_any sa sb w) ?_
  rintro _ w1 ⟨b1, b2, rfl, hN⟩
  have hM := (hM.join hN (by simp [As.plain])).perm List.perm_append_comm
  repeat (first | refine gw ?_ | (refine ks ?_; intro w hM))
  
  refine c_rangeM2 (e1 := fun x : SlV × SlV => slv x.1) (e2 := fun x : SlV × SlV => slv x.2) hM rfl (enters_of Tryd.func156 (by kernel_rfl) rfl) (hseq0 b1 b2)
    (fun pre La => La = [.cell b6 [.bool false] 4, .cell b5 [.slice none 0 0] 28, .cell b4 [.slice none 0 0] 28] ∧ firstL (R.map fun r => (r.1.2, r.2.2)) = firstL ((R.drop pre.length).map fun r => (r.1.2, r.2.2))) ⟨rfl, rfl⟩
    (fun c pre La => (c = .exit 0 ∧ La = [.cell b6 [.bool false] 4, .cell b5 [.slice none 0 0] 28, .cell b4 [.slice none 0 0] 28] ∧ firstL (R.map fun r => (r.1.2, r.2.2)) = none) ∨
      (c = .ret ∧ ∃ v1 v2 x y, La = [.cell b6 [.bool true] 4, .cell b5 [v2] 28, .cell b4 [v1] 28, .row eU8 5 v2 y, .row eU8 5 v1 x] ∧ firstL (R.map fun r => (r.1.2, r.2.2)) = some (x, y)))
    (fun pre x l La => ∃ r, R[pre.length]? = some r ∧ x = (r.1.1, r.2.1) ∧ (∃ jj : Nat → Value, l = [jj 0, jj 1, jj 2, jj 3, .pointer (some ⟨b4, 0, none⟩), .pointer (some ⟨b5, 0, none⟩), .pointer (some ⟨b6, 0, none⟩), slv x.1, slv x.2, jj 9, jj 10, jj 11, jj 12, jj 13, jj 14, jj 15, jj 16, jj 17, jj 18, jj 19, jj 20, jj 21, jj 22, jj 23, jj 24, jj 25]) ∧ La = [.cell b6 [.bool false] 4, .cell b5 [.slice none 0 0] 28, .cell b4 [.slice none 0 0] 28] ∧ firstL (R.map fun r => (r.1.2, r.2.2)) = firstL ((R.drop pre.length).map fun r => (r.1.2, r.2.2)))
    ?_ ?_ ?_ ?_
  · rintro r pre x w La X K hp ⟨rfl, hf⟩ hM hK
    obtain ⟨q, hq, hx⟩ := get_of_pre hp
    refine wpIn_seq ?_
    refine ci_region (noOut_then noOut_fls) rfl ?_
    repeat (first | refine gw ?_ | (refine ks ?_; intro w hM))
    refine ci_region (noOut_then noOut_fls) rfl ?_
    repeat (first | refine gw ?_ | (refine ks ?_; intro w hM))
    exact hK _ w _ ⟨q, hq, hx, exj rfl, rfl, hf⟩ hM
  · rintro r pre x l w La X hp ⟨q, hq, rfl, ⟨jj, rfl⟩, rfl, hf⟩ hM
    have hqm := hmem q (List.mem_of_getElem? hq)
    have hx := hpa q.1 hqm.1
    have hy := hqb q.2 hqm.2
    have hxl := ha q.1.2 (List.mem_map_of_mem hqm.1)
    have hyl := hb q.2.2 (List.mem_map_of_mem hqm.2)
    have hd : R.drop pre.length = q :: R.drop (pre.length + 1) := by
      obtain ⟨hlt, he⟩ := List.getElem?_eq_some_iff.1 hq
      rw [List.drop_eq_getElem_cons hlt, he]
    rw [hd, List.map_cons] at hf
    simp only [List.cons_append, List.nil_append] at hM
    obtain ⟨⟨u1, x1⟩, ⟨u2, x2⟩⟩ := q
    simp only at hx hy hxl hyl hf ⊢
    refine wpIn_block ?_
    refine wpIn_seq ?_
    refine wpIn_seq ?_
    refine ci_region (noOut_then (noOut_then (noOut_block noOut_round))) rfl ?_
    repeat (first | refine gw ?_ | (refine ks ?_; intro w hM))
    refine kcs (equal_any (slv u1) (slv u2) x1 x2 w (hx.ch hM.ch) (hy.ch hM.ch)) ?_
    repeat (first | refine gw ?_ | (refine ks ?_; intro w hM))
    by_cases hxy : x1 = x2
    · rw [decide_eq_true hxy]
      refine ci_condb rfl (fun _ => ?_) (fun h => by cases h)
      refine wpIn_exit ?_
      refine ⟨_, ⟨rfl, ?_⟩, hM⟩
      rw [hf, firstL, if_pos hxy]
      simp
    · rw [decide_eq_false hxy]
      refine ci_condb rfl (fun h => by cases h) (fun _ => ?_)
      refine wpIn_skip ?_
      refine x_then ?_
      refine wpIn_seq ?_
      refine wpIn_seq ?_
      refine ci_region (noOut_then (noOut_then (noOut_block noOut_round))) rfl ?_
      repeat (first | refine gw ?_ | (refine ks ?_; intro w hM))
      refine kca hM (sum_any (slv u1) x1 w (hK.ch hM.ch (by simp)) (hx.ch hM.ch) (by omega)) (fun w hM => ?_)
      repeat (first | refine gw ?_ | (refine ks ?_; intro w hM))
      refine kca hM (sum_any (slv u2) x2 w (hK.ch hM.ch (by simp)) (hy.ch hM.ch) (by omega)) (fun w hM => ?_)
      (try ((with_reducible apply is_gd); first | refine gt ?_ | refine gf ?_ | refine gu ?_)); refine wl_val (r_neq8 (a := shaOf x1) (b := shaOf x2) (by kernel_rfl) rfl rfl (shaOf_len _) (shaOf_len _)) ?_
      repeat (first | refine gw ?_ | (refine ks ?_; intro w hM))
      by_cases hs : shaOf x1 = shaOf x2
      · rw [decide_eq_true hs]
        refine ci_condb rfl (fun h => by cases h) (fun _ => ?_)
        refine wpIn_skip ?_
        refine x_then ?_
        refine wpIn_seq ?_
        refine ci_region (noOut_then (noOut_block noOut_round)) rfl ?_
        repeat (first | refine gw ?_ | (refine ks ?_; intro w hM))
        refine kcr hM (own_any (slv u1) x1 w (hx.ch hM.ch) hxl) (fun v1 w hM => ?_)
        repeat (first | refine gw ?_ | (refine ks ?_; intro w hM))
        refine kcr hM (own_any (slv u2) x2 w (hy.ch hM.ch) hyl) (fun v2 w hM => ?_)
        obtain ⟨A1, c1, rfl, _⟩ := (hM.row0 (v := v1) (by (repeat constructor))).form
        obtain ⟨A2, c2, rfl, _⟩ := (hM.row0 (v := v2) (by (repeat constructor))).form
        repeat (first | refine gw ?_ | (refine ks ?_; intro w hM))
        refine wpIn_ret ?_
        refine ⟨_, .inr ⟨rfl, _, _, x1, x2, rfl, ?_⟩, hM⟩
        rw [hf, firstL, if_neg hxy, if_pos hs]
      · rw [decide_eq_false hs]
        refine ci_condb rfl (fun _ => ?_) (fun h => by cases h)
        refine wpIn_exit ?_
        refine ⟨_, .inl ⟨rfl, rfl, ?_⟩, hM⟩
        rw [hf, firstL, if_neg hxy, if_neg hs]
  · rintro D w La ⟨rfl, hf⟩ hM
    have hn : firstL (R.map fun r => (r.1.2, r.2.2)) = none := by
      rw [hf, List.drop_eq_nil_of_le (by simp)]
      rfl
    rw [hn]
    simp only [List.cons_append, List.nil_append] at hM
    have hD := hM.head
    change Code.wp _ _ _ _ _
    refine wp_seq ?_
    refine c_regd rfl (noOut_then noOut_M) ?_
    repeat (first | refine gw ?_ | (refine ks ?_; intro w hM))
    change Code.wp _ _ _ (frd _ _) w
    refine wp_ret ?_
    refine post1 (hM.pick (a := .obj D _) (by (repeat constructor))).head ?_
    have hM : Mem [] w0 (w.putObj D (.deferred none)) [.obj D (.deferred none), .cell b6 [.bool false] 4, .cell b5 [.slice none 0 0] 28, .cell b4 [.slice none 0 0] 28, .cell b1 [slv sa] 22, .cell b2 [slv sb] 22] := (hM.pick (a := .obj D _) (by (repeat constructor))).putObj.sub (by (repeat constructor))
    have hM := (hM.nilRow eU8 5).nilRow eU8 5
    exact koc3 hM rfl ⟨_, _, rfl, hM.sub (by (repeat constructor))⟩
  · rintro D c pre w La hs hM
    rcases hs with ⟨rfl, rfl, hf⟩ | ⟨rfl, v1, v2, x, y, rfl, hf⟩
    · refine wpIn_exit ?_
      rw [hf]
      simp only [List.cons_append, List.nil_append] at hM
      have hD := hM.head
      change Code.wp _ _ _ _ _
      refine wp_seq ?_
      refine c_regd rfl (noOut_then noOut_M) ?_
      repeat (first | refine gw ?_ | (refine ks ?_; intro w hM))
      change Code.wp _ _ _ (frd _ _) w
      refine wp_ret ?_
      refine post1 (hM.pick (a := .obj D _) (by (repeat constructor))).head ?_
      have hM : Mem [] w0 (w.putObj D (.deferred none)) [.obj D (.deferred none), .cell b6 [.bool false] 4, .cell b5 [.slice none 0 0] 28, .cell b4 [.slice none 0 0] 28, .cell b1 [slv sa] 22, .cell b2 [slv sb] 22] := (hM.pick (a := .obj D _) (by (repeat constructor))).putObj.sub (by (repeat constructor))
      have hM := (hM.nilRow eU8 5).nilRow eU8 5
      exact koc3 hM rfl ⟨_, _, rfl, hM.sub (by (repeat constructor))⟩
    · rw [hf]
      refine wpIn_ret ?_
      have hD := hM.head
      refine post1 hD ?_
      have hM := hM.putObj (o' := .deferred none)
      simp only [List.cons_append, List.nil_append] at hM
      exact koc3 hM rfl ⟨_, _, rfl, hM.sub (by (repeat constructor))⟩
end Go.Proofs.YtkdbinchlpdkmaaDoor
set_option linter.unusedVariables false
set_option linter.unusedSimpArgs false
namespace Go.Proofs.YtkdbinchlpdkmaaDoor
open Go Go.RowKit Go.Proofs.E
attribute [local irreducible] Go.wpList Go.Code.wp Go.Proofs.E.exec Go.Proofs.E.wpLexG
theorem flat_bool (xs : List Bool) : xs.flatMap eBool.f = xs.map Value.bool := List.map_eq_flatMap.symm
theorem bool_at {ys : List Bool} {more : List Value} {i : Nat} {a : Bool} (h : ys[i]? = some a) : (ys.map Value.bool ++ more)[i]? = some (.bool a) := by
  have hi := (List.getElem?_eq_some_iff.1 h).1
  rw [List.getElem?_append_left (by simpa using hi), List.getElem?_map, h]
  rfl
theorem bool_set {ys : List Bool} {more : List Value} {i : Nat} {a : Bool} (hi : i < ys.length) : (ys.map Value.bool ++ more).set i (.bool a) = (ys.set i a).map Value.bool ++ more := by
  rw [List.set_append_left _ _ (by simpa using hi), List.map_set]
set_option maxHeartbeats 8000000 in
theorem revb_any (v : Value) (xs : List Bool) (w : World) (base : Nat) (hO : Go.Proofs.E.Own eBool w base 4 v xs) (hlen : xs.length ≤ 1099511627776) :
    Calls Tryd.prog 106 #[v] w (Ret fun u w' => Go.Proofs.E.Own eBool w' base 4 v xs.reverse ∧ Ch v.ownBlock.toList w w') := by
  refine enter [v, undef, undef, undef, undef, undef, undef, undef, undef, undef, undef, undef, undef, undef, undef, undef, undef, undef, undef, undef, undef, undef, undef, undef, undef, undef, undef, undef] Tryd.func106 rfl rfl ?_
  rcases hO.2 with ⟨rfl, h0⟩ | ⟨g, cap, cur, rfl, hg, hh, hc1, hc2, hc3, hc4⟩
  · have := List.eq_nil_of_length_eq_zero h0
    subst this
    (try refine wk ?_)
    
    refine c_loop (fun k l w' => (∃ jj : Nat → Value, l = [.slice none 0 0, jj 1, .int .i64 0, .int .i64 (-1), jj 4, jj 5, jj 6, jj 7, jj 8, jj 9, jj 10, jj 11, jj 12, jj 13, jj 14, jj 15, jj 16, jj 17, jj 18, jj 19, jj 20, jj 21, jj 22, jj 23, jj 24, jj 25, jj 26, jj 27]) ∧ w' = w) 0 ⟨exj rfl, rfl⟩ ?_
    rintro k l w1 ⟨⟨jj, rfl⟩, rfl⟩
    (try refine wk ?_)
    refine c_cond rfl (fun h => by omega) (fun h => ?_)
    (try refine wk ?_)
    exact out0 rfl ⟨hO, Ch.refl _ _⟩
  · have hB : Blk w g cur.toList 4 := by unfold Blk; rw [Array.toArray_toList]; exact hh
    have hcut : cur.toList = xs.map Value.bool ++ cur.toList.drop xs.length := by
      conv => lhs; rw [← List.take_append_drop xs.length cur.toList]
      rw [← flat_bool xs, ← hc4]
      simp
    have hcl : cur.toList.length = cap := by simpa using hc3
    rw [hcut] at hB hcl
    generalize cur.toList.drop xs.length = more at hB hcl
    clear hcut hc3 hc4 hh
    (try refine wk ?_)
    
    refine c_loop (fun k l w' => ∃ (i : Nat) (ys : List Bool), (∃ jj : Nat → Value, l = [.slice (some ⟨g, 0, none⟩) xs.length cap, jj 1, .int .i64 (i : Int), .int .i64 ((xs.length : Int) - 1 - (i : Int)), jj 4, jj 5, jj 6, jj 7, jj 8, jj 9, jj 10, jj 11, jj 12, jj 13, jj 14, jj 15, jj 16, jj 17, jj 18, jj 19, jj 20, jj 21, jj 22, jj 23, jj 24, jj 25, jj 26, jj 27]) ∧ k + i = xs.length ∧ Turned xs ys i ∧ Ch [g] w w' ∧ Blk w' g (ys.map Value.bool ++ more) 4) xs.length
      ⟨0, xs, exj (by rw [show (xs.length : Int) - 1 - ((0 : Nat) : Int) = (xs.length : Int) - 1 by omega]; rfl), rfl, ⟨rfl, fun p hp => by rw [if_neg (by omega)]⟩, Ch.refl _ _, hB⟩ ?_
    rintro k l w1 ⟨i, ys, ⟨jj, rfl⟩, hki, hT, hch, hB⟩
    have hyl := hT.1
    (try refine wk ?_)
    refine c_cond rfl (fun hij => ?_) (fun hij => ?_)
    · (try refine wk ?_)
      have hi1 : i < ys.length := by omega
      have hi2 : xs.length - 1 - i < ys.length := by omega
      obtain ⟨x1, hx1⟩ : ∃ x, ys[xs.length - 1 - i]? = some x := ⟨_, List.getElem?_eq_getElem hi2⟩
      obtain ⟨x2, hx2⟩ : ∃ x, ys[i]? = some x := ⟨_, List.getElem?_eq_getElem hi1⟩
      refine c_ordZ ([13, 15], [2, 3]) [] Tru (by kernel_rfl) (by kernel_rfl) (by kernel_rfl) (fun w2 hc2' hs2 => ?_)
      have hB2 := hB.ch hc2' (by simp)
      (first | refine zn 0 rfl ?_ | refine znt 0 rfl ?_ | refine znff 0 rfl ?_); (first | refine zn 1 rfl ?_ | refine znt 1 rfl ?_ | refine znff 1 rfl ?_); (first | refine zn 4 rfl ?_ | refine znt 4 rfl ?_ | refine znff 4 rfl ?_); (first | refine zn 5 rfl ?_ | refine znt 5 rfl ?_ | refine znff 5 rfl ?_)
      refine znv 6 rfl (by kernel_rfl) (by kernel_rfl) (fun _ _ => r_indexAddr rfl rfl (by omega) (by omega)) rfl ?_
      refine znl 7 rfl hB2 (by simp) rfl (v := .bool x1) (by rw [show 0 + ((xs.length : Int) - 1 - (i : Int)).toNat * 1 = xs.length - 1 - i by omega]; exact bool_at hx1) ?_
      (first | refine zn 8 rfl ?_ | refine znt 8 rfl ?_ | refine znff 8 rfl ?_); (first | refine zn 9 rfl ?_ | refine znt 9 rfl ?_ | refine znff 9 rfl ?_); (first | refine zn 2 rfl ?_ | refine znt 2 rfl ?_ | refine znff 2 rfl ?_); (first | refine zn 3 rfl ?_ | refine znt 3 rfl ?_ | refine znff 3 rfl ?_)
      refine znv 10 rfl (by kernel_rfl) (by kernel_rfl) (fun _ _ => r_indexAddr rfl rfl (by omega) (by omega)) rfl ?_
      refine znl 11 rfl hB2 (by simp) rfl (v := .bool x2) (by rw [show 0 + ((i : Int)).toNat * 1 = i by omega]; exact bool_at hx2) ?_
      refine znv 12 rfl (by kernel_rfl) (by kernel_rfl) (fun _ _ => r_indexAddr rfl rfl (by omega) (by omega)) rfl ?_
      refine zn1 13 (by kernel_rfl) rfl (fun w3 hG3 => ?_)
      refine stb (v := .bool x1) (hB2.ch hG3.ch (by simp)) rfl rfl rfl rfl (by simp; omega) (fun w4 hB4 hch4 hs4 => ?_)
      rw [show 0 + ((i : Int)).toNat * 1 = i by omega, bool_set hi1] at hB4
      refine x_wz (.inr (by decide)) rfl ?_
      refine znv 14 rfl (by kernel_rfl) (by kernel_rfl) (fun _ _ => r_indexAddr rfl rfl (by omega) (by omega)) rfl ?_
      refine zn1 15 (by kernel_rfl) rfl (fun w5 hG5 => ?_)
      refine stb (v := .bool x2) (hB4.ch hG5.ch (by simp)) rfl rfl rfl rfl (by simp; omega) (fun w6 hB6 hch6 hs6 => ?_)
      rw [show 0 + ((xs.length : Int) - 1 - (i : Int)).toNat * 1 = xs.length - 1 - i by omega, bool_set (by simpa using hi2)] at hB6
      refine x_wz (.inr (by decide)) rfl ?_
      refine wz_done (by kernel_rfl) (fun w7 hG7 => ?_)
      have hcw : Ch [g] w w7 := ((((hch.add hc2').add hG3.ch).then hch4).add hG5.ch).then hch6 |>.add hG7.ch
      (try refine wk ?_)
      exact x_goes (k - 1) rfl (by omega) ⟨i + 1, _, exj (by rw [show (xs.length : Int) - 1 - ((i + 1 : Nat) : Int) = (xs.length : Int) - 1 - (i : Int) - 1 by omega]; rfl), by omega, hT.step (by omega) hx1 hx2, hcw, hB6.ch hG7.ch (by simp)⟩
    · have hyr := hT.all (by omega)
      (try refine wk ?_)
      subst hyr
      refine out0 rfl ⟨⟨by rw [flat_bool]; simp, .inr ⟨g, cap, _, by rw [List.length_reverse], hg, hB, by rw [List.length_reverse]; exact hc1, hc2, ?_, ?_⟩⟩, hch⟩
      · simp at hcl ⊢
        exact hcl
      · rw [flat_bool, List.length_reverse]
        exact List.take_left' (by simp)
set_option maxHeartbeats 4000000 in
theorem csides_any (n i : Nat) (hn : n ≤ 1099511627776) (hi : i < n) (w0 : World) :
    Calls Tryd.prog 55 #[.int .i64 (n : Int), .int .i64 (i : Int)] w0 (Ret fun v w' => Ch [] w0 w' ∧ Go.Proofs.E.Own eBool w' w0.heap.size 4 v ((turnsN n i).reverse.map (·.2))) := by
  have hM := Mem.start w0
  refine enter [.int .i64 (n : Int), .int .i64 (i : Int), undef, undef, undef, undef, undef, undef, undef, undef, undef, undef, undef, undef, undef, undef, undef, undef, undef, undef, undef, undef, undef, undef, undef, undef, undef, undef, undef, undef] Tryd.func55 rfl rfl ?_
  repeat (first | refine gw ?_ | (refine ks ?_; intro w hM))
  have hbl := turns_len n i
  have hM := hM.nilRow eBool 4
  
  refine c_loop (fun k l w => ∃ (n' i' : Nat) (v : Value) (xs : List (Nat × Bool)), (∃ jj : Nat → Value, l = [.int .i64 (n' : Int), .int .i64 (i' : Int), jj 2, jj 3, jj 4, v, jj 6, jj 7, jj 8, jj 9, jj 10, jj 11, jj 12, jj 13, jj 14, jj 15, jj 16, jj 17, jj 18, jj 19, jj 20, jj 21, jj 22, jj 23, jj 24, jj 25, jj 26, jj 27, jj 28, jj 29]) ∧ k = n' ∧ n' ≤ 1099511627776 ∧ i' < n' ∧ xs ++ turnsN n' i' = turnsN n i ∧ Mem [] w0 w [.row eBool 4 v (xs.map (·.2))]) n
    ⟨n, i, _, [], exj rfl, rfl, hn, hi, rfl, hM⟩ ?_
  clear hM
  rintro k l w ⟨n', i', v, xs, ⟨jj, rfl⟩, rfl, hn', hi', hxs, hM⟩
  have hxl := congrArg List.length hxs
  rw [List.length_append] at hxl
  repeat (first | refine gw ?_ | (refine ks ?_; intro w hM))
  refine c_cond rfl (fun h1 => ?_) (fun h1 => ?_)
  · obtain ⟨hk0, hk1⟩ := splitN_lt (n := k) (by omega) (by omega)
    repeat (first | refine gw ?_ | (refine ks ?_; intro w hM))
    refine kcs (split_any (k : Int) (by omega) w) ?_
    rw [splitZ_nat]
    repeat (first | refine gw ?_ | (refine ks ?_; intro w hM))
    by_cases h2 : i' < splitN k
    · have htu := turns_left (n := k) (i := i') (by omega) (by omega) h2
      rw [htu, List.length_cons] at hxl
      rw [decide_eq_false (by omega : ¬ (i' : Int) ≥ (splitN k : Int))]
      refine kpu false hM (fun _ v w hM => ?_) (hb := by simp; omega) (h63 := by simp; omega)
      repeat (first | refine gw ?_ | (refine ks ?_; intro w hM))
      refine c_condb rfl (fun h => by cases h) (fun _ => ?_)
      repeat (first | refine gw ?_ | (refine ks ?_; intro w hM))
      refine x_goes (splitN k) rfl (by omega) ⟨splitN k, i', v, xs ++ [(k, false)], exj rfl, rfl, by omega, by omega, by rw [List.append_assoc]; rw [htu] at hxs; exact hxs, ?_⟩
      rw [List.map_append]
      exact hM
    · have htu := turns_right (n := k) (i := i') (by omega) (by omega) h2
      rw [htu, List.length_cons] at hxl
      rw [decide_eq_true (by omega : (i' : Int) ≥ (splitN k : Int))]
      refine kpu true hM (fun _ v w hM => ?_) (hb := by simp; omega) (h63 := by simp; omega)
      repeat (first | refine gw ?_ | (refine ks ?_; intro w hM))
      refine c_condb rfl (fun _ => ?_) (fun h => by cases h)
      repeat (first | refine gw ?_ | (refine ks ?_; intro w hM))
      refine x_goes (k - splitN k) rfl (by omega) ⟨k - splitN k, i' - splitN k, v, xs ++ [(k, true)], exj (by rw [show ((k - splitN k : Nat) : Int) = (k : Int) - (splitN k : Int) by omega, show ((i' - splitN k : Nat) : Int) = (i' : Int) - (splitN k : Int) by omega]; rfl), rfl, by omega, by omega, by rw [List.append_assoc]; rw [htu] at hxs; exact hxs, ?_⟩
      rw [List.map_append]
      exact hM
  · repeat (first | refine gw ?_ | (refine ks ?_; intro w hM))
    rw [turns_one (by omega), List.append_nil] at hxs
    subst hxs
    have hO := hM.row (v := v) (by (repeat constructor))
    refine ca (revb_any v _ w w0.heap.size hO (by simp; omega)) ?_
    rintro u w2 ⟨hO2, hc2⟩
    repeat (first | refine gw ?_ | (refine ks ?_; intro w hM))
    refine out1 rfl ⟨?_, ?_⟩
    · exact hM.ch.trans hc2 (fun _ _ h => h) (fun x hx hm => by
        have := (hO.lt (k := x) (by simpa using hm)).1
        omega)
    · rw [List.map_reverse]
      exact hO2
end Go.Proofs.YtkdbinchlpdkmaaDoor

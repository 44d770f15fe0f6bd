/- Walk: the law ClashTops. -/
import Derived.Test.YtkdbinchlpdkmaaDoorQClashTops30
import Derived.Test.YtkdbinchlpdkmaaDoorQClashTops31
set_option linter.unusedVariables false
set_option linter.unusedSimpArgs false
set_option maxRecDepth 4000
namespace Go.Proofs.YtkdbinchlpdkmaaDoor
open Go Go.RowKit Go.Proofs.E
attribute [local irreducible] Go.wpList Go.Code.wp Go.Proofs.E.exec Go.Proofs.E.wpLexG
theorem insM_len {k v : Hs} : ∀ m : List KV, (insM k v m).length ≤ m.length + 1
  | [] => by simp [insM]
  | x :: m => by
    rw [insM]
    split
    · rw [List.length_cons, List.length_cons]
      have := insM_len (k := k) (v := v) m
      omega
    · rw [List.length_cons]
      have := List.length_filter_le (fun y : KV => decide (y.1 ≠ k)) (x :: m)
      omega
def mapOf (l : List KV) : List KV := l.foldl (fun m x => putM m x.1 x.2) []
theorem mapOf_snoc (l : List KV) (x : KV) : mapOf (l ++ [x]) = putM (mapOf l) x.1 x.2 := by unfold mapOf; rw [List.foldl_append]; rfl
theorem mapOf_sort (l : List KV) : SortK (mapOf l) := snoc_ind (P := fun l => SortK (mapOf l)) .nil (fun l x h => by rw [mapOf_snoc]; exact putM_sort h) l
theorem mapOf_len (l : List KV) : (mapOf l).length ≤ l.length := snoc_ind (P := fun l => (mapOf l).length ≤ l.length) (Nat.le_refl _) (fun l x h => by
  rw [mapOf_snoc, putM_ins, List.length_append, List.length_singleton]
  have := insM_len (k := x.1) (v := x.2) (mapOf l)
  omega) l
theorem mapOf_ne {l : List KV} (h : l ≠ []) : 1 ≤ (mapOf l).length := by
  obtain ⟨r, x, rfl⟩ : ∃ r x, l = r ++ [x] := ⟨l.dropLast, l.getLast h, (List.dropLast_concat_getLast h).symm⟩
  rw [mapOf_snoc]
  exact List.length_pos_iff.2 putM_ne
set_option maxHeartbeats 16000000 in
theorem clashTops_any (va : Value) (xss : List (List UInt8)) (I : Nat) (vi : Value) (items : List KV) (w0 : World) (hK : Laid w0) (hI : I < 2 ^ 64) (hX : (Ty.sl tU8).Rd [] w0 va xss) (hbd : ∀ x ∈ xss, x.length ≤ 281474976710656) (hit : (Ty.enc eKv).Rd [] w0 vi items) :
    Calls Tryd.prog 3 #[va, .int .u64 (I : Int), vi] w0 (Ret fun u w' => u = .bool true ∧ Ch [] w0 w') := by
  have hM := Mem.start w0
  obtain ⟨ps, rfl, hP, hp⟩ := hX.raw
  obtain ⟨A, c, rfl⟩ := hP.form
  obtain ⟨A2, c2, rfl⟩ := hit.form
  have e0 : (ps.map (fun p : SlV × List UInt8 => p.1)).length = ps.length := List.length_map _
  have hX0 := hX
  rw [e0] at hP hX0 ⊢
  refine enter [.slice A ps.length c, .int .u64 (I : Int), .slice A2 items.length c2, undef, undef, undef, undef, undef, undef, undef, undef, undef, undef, undef, undef, undef, undef, undef, undef, undef, undef, undef, undef, undef, undef, undef, undef, undef, undef, undef, undef, undef, undef, undef, undef, undef, undef, undef, undef, undef, undef, undef, undef, undef, undef, undef, undef, undef, undef, undef, undef, undef, undef, undef, undef, undef, undef, undef, undef, undef, undef, undef, undef, undef, undef, undef, undef, undef, undef, undef, undef, undef, undef, undef, undef, undef, undef, undef, undef, undef, undef, undef, undef, undef, undef, undef, undef, undef, undef, undef, undef, undef, undef, undef, undef, undef, undef, undef, undef, undef, undef, undef, undef, undef, undef, undef, undef, undef, undef, undef, undef, undef, undef, undef, undef, undef, undef, undef, undef, undef, undef, undef, undef, undef, undef, undef, undef, undef, undef, undef, undef, undef, undef, undef, undef, undef, undef, undef, undef, undef, undef, undef, undef, undef, undef, undef, undef, undef, undef, undef, undef, undef, undef, undef, undef, undef, undef, undef, undef, undef, undef, undef, undef, undef, undef, undef, undef] Tryd.func3 rfl rfl ?_
  repeat (first | refine gw ?_ | (refine ks ?_; intro w hM))
  obtain ⟨sl, hsl⟩ : ∃ q, q = shortL (ps.map (fun p : SlV × List UInt8 => p.2)) := ⟨_, rfl⟩
  refine kca (X := .bool sl) hM (by rw [hsl]; exact short_any _ _ _ (hX0.ch hM.ch) hbd) (fun w hM => ?_)
  cases hss : sl with
  | false =>
    repeat (first | refine gw ?_ | (refine ks ?_; intro w hM))
    refine c_condb rfl (fun _ => ?_) (fun h => by cases h)
    repeat (first | refine gw ?_ | (refine ks ?_; intro w hM))
    refine kca hM (lives20_any _ (hK.ch hM.ch (by simp))) (fun w hM => ?_)
    repeat (first | refine gw ?_ | (refine ks ?_; intro w hM))
    exact out1 rfl ⟨rfl, hM.ch⟩
  | true =>
  obtain ⟨hs1, hs2⟩ := shortL_spec (hsl.symm.trans hss)
  rw [List.length_map] at hs1
  repeat (first | refine gw ?_ | (refine ks ?_; intro w hM))
  by_cases z1 : (ps.length : Int) = 0
  · rw [decide_eq_true z1]
    repeat (first | refine gw ?_ | (refine ks ?_; intro w hM))
    refine c_condb rfl (fun _ => ?_) (fun h => by cases h)
    repeat (first | refine gw ?_ | (refine ks ?_; intro w hM))
    refine kca hM (lives20_any _ (hK.ch hM.ch (by simp))) (fun w hM => ?_)
    repeat (first | refine gw ?_ | (refine ks ?_; intro w hM))
    exact out1 rfl ⟨rfl, hM.ch⟩
  rw [decide_eq_false z1]
  repeat (first | refine gw ?_ | (refine ks ?_; intro w hM))
  by_cases z2 : (20 : Int) < (items.length : Int)
  · rw [decide_eq_true z2]
    repeat (first | refine gw ?_ | (refine ks ?_; intro w hM))
    refine c_condb rfl (fun _ => ?_) (fun h => by cases h)
    repeat (first | refine gw ?_ | (refine ks ?_; intro w hM))
    refine kca hM (lives20_any _ (hK.ch hM.ch (by simp))) (fun w hM => ?_)
    repeat (first | refine gw ?_ | (refine ks ?_; intro w hM))
    exact out1 rfl ⟨rfl, hM.ch⟩
  rw [decide_eq_false z2]
  repeat (first | refine gw ?_ | (refine ks ?_; intro w hM))
  by_cases z3 : (items.length : Int) = 0
  · rw [decide_eq_true z3]
    repeat (first | refine gw ?_ | (refine ks ?_; intro w hM))
    refine c_condb rfl (fun _ => ?_) (fun h => by cases h)
    repeat (first | refine gw ?_ | (refine ks ?_; intro w hM))
    refine kca hM (lives20_any _ (hK.ch hM.ch (by simp))) (fun w hM => ?_)
    repeat (first | refine gw ?_ | (refine ks ?_; intro w hM))
    exact out1 rfl ⟨rfl, hM.ch⟩
  rw [decide_eq_false z3]
  repeat (first | refine gw ?_ | (refine ks ?_; intro w hM))
  refine c_condb rfl (fun h => by cases h) (fun _ => ?_)
  have hM := hM.nilRow eH 30
  repeat (first | refine gw ?_ | (refine ks ?_; intro w hM))
  
  refine c_loop (fun n l w => ∃ (j : Nat) (v7 : Value), (∃ jj : Nat → Value, l = [.slice A ps.length c, .int .u64 (I : Int), .slice A2 items.length c2, jj 3, jj 4, jj 5, jj 6, v7, jj 8, jj 9, jj 10, jj 11, jj 12, jj 13, jj 14, jj 15, jj 16, jj 17, jj 18, jj 19, jj 20, jj 21, jj 22, jj 23, jj 24, jj 25, jj 26, jj 27, jj 28, jj 29, jj 30, jj 31, jj 32, jj 33, jj 34, jj 35, jj 36, jj 37, jj 38, jj 39, jj 40, jj 41, jj 42, .slice A ps.length c, .int .i64 (ps.length : Int), .int .i64 (j : Int), jj 46, jj 47, jj 48, jj 49, jj 50, jj 51, jj 52, jj 53, jj 54, jj 55, jj 56, jj 57, jj 58, jj 59, jj 60, jj 61, jj 62, jj 63, jj 64, jj 65, jj 66, jj 67, jj 68, jj 69, jj 70, jj 71, jj 72, jj 73, jj 74, jj 75, jj 76, jj 77, jj 78, jj 79, jj 80, jj 81, jj 82, jj 83, jj 84, jj 85, jj 86, jj 87, jj 88, jj 89, jj 90, jj 91, jj 92, jj 93, jj 94, jj 95, jj 96, jj 97, jj 98, jj 99, jj 100, jj 101, jj 102, jj 103, jj 104, jj 105, jj 106, jj 107, jj 108, jj 109, jj 110, jj 111, jj 112, jj 113, jj 114, jj 115, jj 116, jj 117, jj 118, jj 119, jj 120, jj 121, jj 122, jj 123, jj 124, jj 125, jj 126, jj 127, jj 128, jj 129, jj 130, jj 131, jj 132, jj 133, jj 134, jj 135, jj 136, jj 137, jj 138, jj 139, jj 140, jj 141, jj 142, jj 143, jj 144, jj 145, jj 146, jj 147, jj 148, jj 149, jj 150, jj 151, jj 152, jj 153, jj 154, jj 155, jj 156, jj 157, jj 158, jj 159, jj 160, jj 161, jj 162, jj 163, jj 164, jj 165, jj 166]) ∧ n + j = ps.length ∧ Mem [] w0 w [.row eH 30 v7 ((ps.take j).map (fun p : SlV × List UInt8 => shaH (0 :: p.2)))]) ps.length
    ⟨0, .slice none 0 0, exj rfl, rfl, hM⟩ ?_
  clear hM
  rintro n l w ⟨j, v7, ⟨jj, rfl⟩, hnj, hM⟩
  repeat (first | refine gw ?_ | (refine ks ?_; intro w hM))
  refine c_cond rfl (fun hj => ?_) (fun hj => ?_)
  · repeat (first | refine gw ?_ | (refine ks ?_; intro w hM))
    refine kix hP (fun bk ok x hx hA => ?_) (h1 := by simp; omega)
    rw [Int.toNat_natCast, List.getElem?_map] at hx
    obtain ⟨p, hpx, rfl⟩ := Option.map_eq_some_iff.1 hx
    have hpm := List.mem_of_getElem? hpx
    have hpb := hs2 p.2 (List.mem_map_of_mem hpm)
    refine kat hM hA ?_
    repeat (first | refine gw ?_ | (refine ks ?_; intro w hM))
    refine kca (X := hv (shaH (0 :: p.2)).1) hM (rleaf_any (slv p.1) p.2 _ ((hp p hpm).ch hM.ch) (by omega)) (fun w hM => ?_)
    refine kpu (v := v7) (shaH (0 :: p.2)) hM (fun _ v9 w hM => ?_) (hb := by simp; omega) (h63 := by simp; omega)
    repeat (first | refine gw ?_ | (refine ks ?_; intro w hM))
    refine x_goes (n - 1) rfl (by omega) ⟨j + 1, v9, exj rfl, by omega, ?_⟩
    rw [List.take_add_one, hpx, List.map_append]
    exact hM.sub (by (repeat constructor))
  rw [List.take_of_length_le (by omega)] at hM
  obtain ⟨L, hL⟩ : ∃ L, L = ps.map (fun p : SlV × List UInt8 => shaH (0 :: p.2)) := ⟨_, rfl⟩
  have hLl : L.length = ps.length := by rw [hL, List.length_map]
  rw [← hL] at hM
  have hkl : I % ps.length < ps.length := Nat.mod_lt _ (by omega)
  repeat (first | refine gw ?_ | (refine ks ?_; intro w hM))
  rw [remN I ps.length, wrap_i64 (a := ((I % ps.length : Nat) : Int)) (by omega)]
  generalize I % ps.length = k at hkl ⊢
  repeat (first | refine gw ?_ | (refine ks ?_; intro w hM))
  refine ca (rpath_any L.length v7 L (k : Int) w rfl (hM.rowRdO (en := eH) (by (repeat constructor))) (by omega)) ?_
  rintro _ w ⟨hc, v10, rfl, hS⟩
  obtain ⟨u10, rfl⟩ := (hS [] (by simp)).slv
  obtain ⟨B10, hM⟩ := hM.gotRdB hc hS
  clear hS
  rw [pathZ_t (by omega : k < L.length)] at hM
  repeat (first | refine gw ?_ | (refine ks ?_; intro w hM))
  obtain ⟨p, hpk⟩ : ∃ p, ps[k]? = some p := ⟨_, List.getElem?_eq_getElem hkl⟩
  have hpm := List.mem_of_getElem? hpk
  have hpb := hs2 p.2 (List.mem_map_of_mem hpm)
  have hLk : L[k]? = some (shaH (0 :: p.2)) := by rw [hL, List.getElem?_map, hpk]; rfl
  have hcp := climb_path (l := L) (i := k) (x := shaH (0 :: p.2)) (by omega) hLk
  have hdl : (downH L k).reverse.length ≤ 60 := by
    have := down_len L k
    rw [List.length_reverse]
    omega
  obtain ⟨pa, hpa⟩ : ∃ q, q = (downH L k).reverse := ⟨_, rfl⟩
  rw [← hpa] at hM hcp hdl
  have hok : (climbZ (ps.length : Int) (k : Int) zeroH pa).2 = true := climbZ_ok.2 (climbZ_ok.1 (show (climbZ (ps.length : Int) (k : Int) (shaH (0 :: p.2)) pa).2 = true by rw [← hLl, hcp]))
  obtain ⟨X, hX9⟩ : ∃ q, q = upsZ (ps.length : Int) (k : Int) p.2 pa := ⟨_, rfl⟩
  have hXu : X = upsT pa p.2 (sidesB ps.length k) := by rw [hX9]; unfold upsZ; rw [if_pos hok, Int.toNat_natCast, Int.toNat_natCast]
  have hXc : ChainX X := by rw [hXu]; exact ups_chain _ _ _
  have hXl : X.length ≤ 61 := by
    have := upsZ_len (n := (ps.length : Int)) (i := (k : Int)) (leaf := p.2) (path := pa)
    rw [← hX9] at this
    omega
  have hXb : ∀ x ∈ X, x.length ≤ 3001 := by rw [hXu]; exact upsT_mem (by omega) (by omega)
  have hXt : shaH (X.getLastD []) = rootH L := by
    have h1 := ups_top pa p.2 (turnsN ps.length k).reverse
    have h2 : (climbZ (L.length : Int) (k : Int) (shaH (0 :: p.2)) pa).1 = rootH L := by rw [hcp]
    unfold climbZ at h2
    rw [if_pos (climbZ_ok.1 (by rw [hLl]; exact hok)), Int.toNat_natCast, Int.toNat_natCast, hLl] at h2
    rw [hXu]
    exact h1.trans h2
  refine kix hP (fun bk ok x hx hA => ?_) (h1 := by simp; omega)
  rw [Int.toNat_natCast, List.getElem?_map, hpk] at hx
  obtain rfl := Option.some.inj hx
  refine kat hM hA ?_
  repeat (first | refine gw ?_ | (refine ks ?_; intro w hM))
  refine ca (cups_any (ps.length : Int) (k : Int) (slv p.1) (slv u10) p.2 pa w (hK.ch hM.ch (by simp)) ((hp p hpm).ch hM.ch) (hM.rdRd (by (repeat constructor))) (by omega)) ?_
  rintro _ w2 ⟨v13, B13, rfl, hN⟩
  have hM := hM.join hN (by simp [As.plain])
  simp only [List.cons_append, List.nil_append] at hM
  rw [hok]
  rw [← hX9] at hM
  have hXR := hM.frdRd (t := Ty.sl tU8) (v := v13) (xs := X) (by (repeat constructor))
  have hL7 := hM.rowRdO (en := eH) (v := v7) (xs := L) (by (repeat constructor))
  have hch := hM.ch
  clear hM hN hA
  have hit2 := hit.ch hch
  have hch2 := hch
  have hM := Mem.start w2
  obtain ⟨qs, hqs, hQ, hq⟩ := hXR.raw
  obtain ⟨A13, c13, rfl⟩ := hQ.form
  have e1 : (qs.map (fun p : SlV × List UInt8 => p.1)).length = qs.length := List.length_map _
  have hXq : X.length = qs.length := by rw [← hqs, List.length_map]
  have hXp : 0 < X.length := List.length_pos_iff.2 hXc.1
  rw [e1] at hQ hXR ⊢
  repeat (first | refine gw ?_ | (refine ks ?_; intro w hM))
  (try ((with_reducible apply is_gd); first | refine gt ?_ | refine gf ?_ | refine gu ?_)); refine kca (X := .bool true) hM (chained_any (.slice A13 qs.length c13) X _ (hXR.ch hM.ch) (by omega) (fun x hx => by have := hXb x hx; omega) hXc) (fun w hM => ?_)
  repeat (first | refine gw ?_ | (refine ks ?_; intro w hM))
  (try ((with_reducible apply is_gd); first | refine gt ?_ | refine gf ?_ | refine gu ?_)); refine kix hQ (fun bk ok x hx hA => ?_) (h1 := by simp; omega)
  rw [show ((qs.length : Int) - 1).toNat = qs.length - 1 by omega, List.getElem?_map] at hx
  obtain ⟨q, hql, rfl⟩ := Option.map_eq_some_iff.1 hx
  have hqm := List.mem_of_getElem? hql
  have hqx : X.getLastD [] = q.2 := getLastD_of (by rw [hXq, ← hqs, List.getElem?_map, hql]; rfl)
  have hqb := hXb q.2 (by rw [← hqs]; exact List.mem_map_of_mem hqm)
  obtain ⟨rL, hrL⟩ : ∃ z, z = rootH L := ⟨_, rfl⟩
  rw [← hrL, hqx] at hXt
  (try ((with_reducible apply is_gd); first | refine gt ?_ | refine gf ?_ | refine gu ?_)); refine kat hM hA ?_
  repeat (first | refine gw ?_ | (refine ks ?_; intro w hM))
  (try ((with_reducible apply is_gd); first | refine gt ?_ | refine gf ?_ | refine gu ?_)); refine kca (X := hv rL.1) hM (by rw [← hXt]; exact rsum_any (slv q.1) q.2 _ ((hq q hqm).ch hM.ch) (by omega)) (fun w hM => ?_)
  repeat (first | refine gw ?_ | (refine ks ?_; intro w hM))
  (try ((with_reducible apply is_gd); first | refine gt ?_ | refine gf ?_ | refine gu ?_)); refine kca (X := hv rL.1) hM (by rw [hrL]; exact rroot_any L.length v7 L _ rfl (hL7.ch hM.ch) (by omega)) (fun w hM => ?_)
  (try ((with_reducible apply is_gd); first | refine gt ?_ | refine gf ?_ | refine gu ?_)); refine wl_val (r_neq8 (n := 32) (a := rL.1) (b := rL.1) (by kernel_rfl) rfl rfl rL.2 rL.2) ?_
  rw [show decide (rL.1 = rL.1) = true from decide_eq_true rfl]
  repeat (first | refine gw ?_ | (refine ks ?_; intro w hM))
  refine c_condb rfl (fun h => by cases h) (fun _ => ?_)
  have hM := hM.nilRow eKv 123
  have hch := hch.then hM.ch
  clear hch
  repeat (first | refine gw ?_ | (refine ks ?_; intro w hM))
  
  refine c_loop (fun n l w => ∃ (j : Nat) (v15 : Value), (∃ jj : Nat → Value, l = [jj 0, jj 1, .slice A2 items.length c2, jj 3, jj 4, jj 5, jj 6, jj 7, jj 8, jj 9, jj 10, jj 11, jj 12, jj 13, jj 14, v15, jj 16, jj 17, jj 18, jj 19, jj 20, jj 21, jj 22, jj 23, jj 24, jj 25, jj 26, jj 27, jj 28, jj 29, jj 30, jj 31, jj 32, jj 33, jj 34, jj 35, jj 36, jj 37, jj 38, jj 39, jj 40, jj 41, jj 42, jj 43, jj 44, jj 45, jj 46, jj 47, jj 48, jj 49, jj 50, jj 51, jj 52, jj 53, jj 54, jj 55, jj 56, jj 57, jj 58, jj 59, jj 60, jj 61, jj 62, jj 63, jj 64, jj 65, jj 66, jj 67, jj 68, jj 69, jj 70, jj 71, jj 72, jj 73, jj 74, jj 75, jj 76, jj 77, jj 78, jj 79, jj 80, jj 81, jj 82, jj 83, jj 84, jj 85, jj 86, jj 87, jj 88, jj 89, jj 90, jj 91, jj 92, jj 93, jj 94, jj 95, jj 96, jj 97, .slice A2 items.length c2, .int .i64 (items.length : Int), .int .i64 (j : Int), jj 101, jj 102, jj 103, jj 104, jj 105, jj 106, jj 107, jj 108, jj 109, jj 110, jj 111, jj 112, jj 113, jj 114, jj 115, jj 116, jj 117, jj 118, jj 119, jj 120, jj 121, jj 122, jj 123, jj 124, jj 125, jj 126, jj 127, jj 128, jj 129, jj 130, jj 131, jj 132, jj 133, jj 134, jj 135, jj 136, jj 137, jj 138, jj 139, jj 140, jj 141, jj 142, jj 143, jj 144, jj 145, jj 146, jj 147, jj 148, jj 149, jj 150, jj 151, jj 152, jj 153, jj 154, jj 155, jj 156, jj 157, jj 158, jj 159, jj 160, jj 161, jj 162, jj 163, jj 164, jj 165, jj 166]) ∧ n + j = items.length ∧ Mem [] w2 w [.row eKv 123 v15 (mapOf (items.take j))]) items.length
    ⟨0, .slice none 0 0, exj rfl, rfl, hM⟩ ?_
  clear hM
  rintro n l w ⟨j, v15, ⟨jj, rfl⟩, hnj, hM⟩
  repeat (first | refine gw ?_ | (refine ks ?_; intro w hM))
  refine c_cond rfl (fun hj => ?_) (fun hj => ?_)
  · repeat (first | refine gw ?_ | (refine ks ?_; intro w hM))
    refine kix hit2 (fun bk ok x hx hA => ?_)
    rw [Int.toNat_natCast] at hx
    refine katr hM hA ?_
    have hml := mapOf_len (items.take j)
    rw [List.length_take] at hml
    refine kal hM (fun w b17 hM => ?_)
    rw [zero64] at hM
    refine kstw (b := b17) (vs := eKv.f x) hM (fun w hM => ?_) (hln := kv_len _ _) (hf := kv_len _ _) (h1 := eKv.h1 x)
    have hM : Mem [] w2 w [.cell b17 (x.1.1.map u8v ++ x.2.1.map u8v) 41, .row eKv 123 v15 (mapOf (items.take j))] := hM
    repeat (first | refine gh ?_ | (refine ks ?_; intro w hM))
    refine ca (put_any v15 (mapOf (items.take j)) x.1 x.2 _ (hM.rowRdO (en := eKv) (by (repeat constructor))) (by omega)) ?_
    rintro v109 w3 hN
    have hM := hM.join hN (by simp [As.plain])
    simp only [List.cons_append, List.nil_append] at hM
    repeat (first | refine gh ?_ | (refine ks ?_; intro w hM))
    refine x_goes (n - 1) rfl (by omega) ⟨j + 1, v109, exj rfl, by omega, ?_⟩
    rw [List.take_add_one, hx, show (some x).toList = [x] from rfl, mapOf_snoc]
    exact hM.sub (by (repeat constructor))
  rw [List.take_of_length_le (by omega)] at hM
  have hms := mapOf_sort items
  have hml := mapOf_len items
  have hm1 := mapOf_ne (l := items) (fun h => by rw [h] at z3; simp at z3)
  generalize mapOf items = m at hM hms hml hm1
  repeat (first | refine gw ?_ | (refine ks ?_; intro w hM))
  obtain ⟨x0, hx0⟩ : ∃ x, items[0]? = some x := ⟨_, List.getElem?_eq_getElem (by omega)⟩
  refine kix hit2 (fun bk ok y hx hA => ?_)
  rw [show (0 : Int).toNat = 0 from rfl, hx0] at hx
  obtain rfl := Option.some.inj hx
  repeat (first | refine gw ?_ | (refine ks ?_; intro w hM))
  refine katr hM (atK hA) ?_
  repeat (first | refine gw ?_ | (refine ks ?_; intro w hM))
  obtain ⟨x, hpx, hxm, hcl⟩ := prove_climb (k := x0.1) hms hm1
  refine ca (prove12_any v15 m x0.1 _ hms hm1 (by omega) (hM.rowRdO (en := eKv) (by (repeat constructor)))) ?_
  rintro _ w3 ⟨v116, x', hpx', rfl, hN⟩
  obtain rfl : x = x' := by rw [hpx] at hpx'; injection hpx'
  have hM := hM.join hN (by simp [As.plain])
  simp only [List.cons_append, List.nil_append] at hM
  obtain ⟨st, hst⟩ : ∃ s, s = (proveM x0.1 m).1 := ⟨_, rfl⟩
  rw [← hst] at hM hcl
  have hRm := hM.rowRdO (en := eKv) (v := v15) (xs := m) (by (repeat constructor))
  have hRs := hM.rowRdO (en := eSt) (v := v116) (xs := st) (by (repeat constructor))
  have hit3 := hit2.ch hM.ch
  have hch3 := hch2.then hM.ch
  clear hM hN hA
  have hM := Mem.start w3
  obtain ⟨A16, c16, rfl⟩ := hRs.form
  repeat (first | refine gw ?_ | (refine ks ?_; intro w hM))
  refine kal hM (fun w b18 hM => ?_)
  have hM : Mem [] w3 w [.cell b18 (pC (.slice none 0 0) false zeroH zeroH) 45] := hM
  refine kstw (b := b18) (vs := pC (.slice A16 st.length c16) true x.1 x.2) hM (fun w hM => ?_) (hln := pC_ln _ _ _ _) (hf := pC_ln _ _ _ _) (h1 := pC_one rfl)
  repeat (first | refine gh ?_ | (refine ks ?_; intro w hM))
  (try ((with_reducible apply is_gd); first | refine gt ?_ | refine gf ?_ | refine gu ?_)); refine wl_val (r_bldS (vs := [(1, .bool true), (2, hv x.1.1), (3, hv x.2.1)]) (pC (.slice none 0 0) true x.1 x.2) (z := .slice none 0 0 :: .bool false :: List.replicate 64 (.int .u8 0)) (place := (#[(0, 1), (1, 1), (2, 32), (34, 32)][·]?)) (by intro ps; kernel_rfl) rfl (.cons rfl rfl (by simp) (.cons rfl (by simp [hv, Value.cells]) (by simp [spl, Value.cells]) (.cons rfl (by simp [hv, Value.cells]) (by simp [spl, hv, Value.cells]) (.nil (by simp [spl, hv, Value.cells])))))) ?_
  refine kal hM (fun w b19 hM => ?_)
  refine kstw (b := b19) (vs := pC (.slice none 0 0) true x.1 x.2) hM (fun w hM => ?_) (hln := pC_ln _ _ _ _) (h1 := pC_one rfl)
  have hM := hM.nilRow eSt 52
  repeat (first | refine gh ?_ | (refine ks ?_; intro w hM))
  have hgl : st.length ≤ 1000 := by
    have hg : goodSt (-1) st = true := by
      unfold climbP goodP at hcl
      split at hcl
      · rename_i h
        rw [Bool.and_eq_true] at h
        exact h.1
      · cases hcl
    have := goodSt_len hg (by decide)
    omega
  
  refine c_loop (fun n l w => ∃ (j : Nat) (v' : Value), (∃ jj : Nat → Value, l = [jj 0, jj 1, .slice A2 items.length c2, jj 3, jj 4, jj 5, jj 6, jj 7, jj 8, jj 9, jj 10, jj 11, jj 12, jj 13, jj 14, v15, jj 16, jj 17, jj 18, .pointer (some ⟨b19, 0, none⟩), jj 20, jj 21, jj 22, jj 23, jj 24, jj 25, jj 26, jj 27, jj 28, jj 29, jj 30, jj 31, jj 32, jj 33, jj 34, jj 35, jj 36, jj 37, jj 38, jj 39, jj 40, jj 41, jj 42, jj 43, jj 44, jj 45, jj 46, jj 47, jj 48, jj 49, jj 50, jj 51, jj 52, jj 53, jj 54, jj 55, jj 56, jj 57, jj 58, jj 59, jj 60, jj 61, jj 62, jj 63, jj 64, jj 65, jj 66, jj 67, jj 68, jj 69, jj 70, jj 71, jj 72, jj 73, jj 74, jj 75, jj 76, jj 77, jj 78, jj 79, jj 80, jj 81, jj 82, jj 83, jj 84, jj 85, jj 86, jj 87, jj 88, jj 89, jj 90, jj 91, jj 92, jj 93, jj 94, jj 95, jj 96, jj 97, jj 98, jj 99, jj 100, jj 101, jj 102, jj 103, jj 104, jj 105, jj 106, jj 107, jj 108, jj 109, jj 110, jj 111, jj 112, jj 113, jj 114, jj 115, jj 116, jj 117, jj 118, jj 119, jj 120, jj 121, jj 122, jj 123, jj 124, .slice A16 st.length c16, .int .i64 (st.length : Int), .int .i64 (j : Int), jj 128, jj 129, jj 130, jj 131, jj 132, jj 133, jj 134, jj 135, jj 136, jj 137, jj 138, jj 139, jj 140, jj 141, jj 142, jj 143, jj 144, jj 145, jj 146, jj 147, jj 148, jj 149, jj 150, jj 151, jj 152, jj 153, jj 154, jj 155, jj 156, jj 157, jj 158, jj 159, jj 160, jj 161, jj 162, jj 163, jj 164, jj 165, jj 166]) ∧ n + j = st.length ∧ Mem [] w3 w [.row eSt 52 v' (st.take j), .cell b19 (pC v' true x.1 x.2) 49]) st.length ⟨0, _, exj rfl, rfl, hM.sub (by (repeat constructor))⟩ ?_
  clear hM
  rintro n l w ⟨j, v', ⟨jj, rfl⟩, hnj, hM⟩
  repeat (first | refine gh ?_ | (refine ks ?_; intro w hM))
  refine c_cond rfl (fun hj => ?_) (fun hj => ?_)
  · repeat (first | refine gh ?_ | (refine ks ?_; intro w hM))
    refine kix hRs (fun b o y hy hA => ?_)
    rw [Int.toNat_natCast] at hy
    refine katr hM hA ?_
    refine kal hM (fun w b21 hM => ?_)
    refine kstw (vs := eSt.f y) hM (fun w hM => ?_) (h1 := eSt.h1 y)
    obtain ⟨A8, c8, hv8, _⟩ := (hM.row0 (v := v') (by (repeat constructor))).form
    subst hv8
    repeat (first | refine gh ?_ | (refine ks ?_; intro w hM))
    refine kpu y hM (fun _ v'' w hM => ?_) (hb := by simp; omega) (h63 := by simp; omega)
    obtain ⟨A9, c9, hv9, _⟩ := (hM.row0 (v := v'') (by (repeat constructor))).form
    subst hv9
    repeat (first | refine gh ?_ | (refine ks ?_; intro w hM))
    refine x_goes (n - 1) rfl (by omega) ⟨j + 1, .slice A9 (st.take j ++ [y]).length c9, exj rfl, by omega, ?_⟩
    rw [show st.take (j + 1) = st.take j ++ [y] by rw [List.take_add_one, hy]; rfl]
    exact hM.sub (by (repeat constructor))
  rw [List.take_of_length_le (by omega)] at hM
  obtain ⟨A8, c8, hv8, _⟩ := (hM.row0 (v := v') (by (repeat constructor))).form
  subst hv8
  have hRq := hM.rowRdO (en := eSt) (v := .slice A8 st.length c8) (xs := st) (by (repeat constructor))
  have hB19 := hM.blk (b := b19) (cs := pC (.slice A8 st.length c8) true x.1 x.2) (by (repeat constructor))
  repeat (first | refine gh ?_ | (refine ks ?_; intro w hM))
  obtain ⟨Y, hY⟩ : ∃ q, q = downsP x0.1 st true x.1 x.2 := ⟨_, rfl⟩
  have hYd : Y = downL x0.1 st.reverse [3 :: (x.1.1 ++ x.2.1)] := by rw [hY]; unfold downsP; rw [hcl]; rfl
  have hYc : ChainX Y := by rw [hYd]; exact down_chain _ _ _ (chain_one _)
  have hcu : climbUp x0.1 x.1 st.reverse (itemH x.1 x.2) = some (rootM m) := by
    unfold climbP at hcl
    split at hcl
    · rw [if_pos rfl] at hcl; exact hcl
    · cases hcl
  have hYt : shaH (Y.getLastD []) = rootM m := by rw [hYd]; exact down_top _ _ _ _ rfl hcu
  refine kdr hM (by kernel_rfl) (by kernel_rfl) (fun w hM => ?_)
  (try refine gwg ?_)
  refine kixg hit3 (fun bk ok y hx hA => ?_)
  rw [show (0 : Int).toNat = 0 from rfl, hx0] at hx
  obtain rfl := Option.some.inj hx
  (try refine gwg ?_)
  refine katrg hM (atK hA) ?_
  (try refine gwg ?_)
  refine lastg rfl (by kernel_rfl) (fun w hc => ?_)
  have hM := hM.call hc
  have hch4 : Ch [] w0 w := hch3.then hM.ch
  refine ca (downs_any x0.1 (.slice A8 st.length c8) true x.1 x.2 st w (hK.ch hch4 (by simp)) (hM.rowRdO (en := eSt) (by (repeat constructor)))) ?_
  rintro _ w4 ⟨v22, B22, rfl, hN⟩
  have hM := hM.join hN (by simp [As.plain])
  simp only [List.cons_append, List.nil_append] at hM
  rw [← hY] at hM
  rw [hcl]
  refine x_mid rfl hN.ch ?_
  (try refine gwg ?_)
  (intro w hc; have hM := hM.call hc)
  have hYR := hM.frdRd (t := Ty.sl tU8) (v := v22) (xs := Y) (by (repeat constructor))
  obtain ⟨qs2, hqs2, hQ2, hq2⟩ := hYR.raw
  obtain ⟨A22, c22, rfl⟩ := hQ2.form
  have e2 : (qs2.map (fun p : SlV × List UInt8 => p.1)).length = qs2.length := List.length_map _
  have hYq : Y.length = qs2.length := by rw [← hqs2, List.length_map]
  have hYp : 0 < Y.length := List.length_pos_iff.2 hYc.1
  have hYl : Y.length ≤ 257 := by rw [hY]; exact downsP_len _ _ _ _ _
  have hYb : ∀ x ∈ Y, x.length ≤ 66 := by rw [hY]; exact downsP_mem _ _ _ _ _
  rw [e2] at hQ2 hYR ⊢
  have hch5 : Ch [] w0 w := hch3.then hM.ch
  have hRm5 := hRm.ch hM.ch
  clear hM hN hA
  have hM := Mem.start w
  obtain ⟨rM, hrM⟩ : ∃ z, z = rootM m := ⟨_, rfl⟩
  rw [← hrM] at hYt
  repeat (first | refine gw ?_ | (refine ks ?_; intro w hM))
  (try ((with_reducible apply is_gd); first | refine gt ?_ | refine gf ?_ | refine gu ?_)); refine kca (X := .bool true) hM (chained_any (.slice A22 qs2.length c22) Y _ (hYR.ch hM.ch) (by omega) (fun x hx => by have := hYb x hx; omega) hYc) (fun w hM => ?_)
  repeat (first | refine gw ?_ | (refine ks ?_; intro w hM))
  (try ((with_reducible apply is_gd); first | refine gt ?_ | refine gf ?_ | refine gu ?_)); refine kix hQ2 (fun bk ok x hx hA => ?_) (h1 := by simp; omega)
  rw [show ((qs2.length : Int) - 1).toNat = qs2.length - 1 by omega, List.getElem?_map] at hx
  obtain ⟨q2, hql2, rfl⟩ := Option.map_eq_some_iff.1 hx
  have hqm2 := List.mem_of_getElem? hql2
  have hqx2 : Y.getLastD [] = q2.2 := getLastD_of (by rw [hYq, ← hqs2, List.getElem?_map, hql2]; rfl)
  have hqb2 := hYb q2.2 (by rw [← hqs2]; exact List.mem_map_of_mem hqm2)
  rw [hqx2] at hYt
  (try ((with_reducible apply is_gd); first | refine gt ?_ | refine gf ?_ | refine gu ?_)); refine kat hM hA ?_
  repeat (first | refine gw ?_ | (refine ks ?_; intro w hM))
  (try ((with_reducible apply is_gd); first | refine gt ?_ | refine gf ?_ | refine gu ?_)); refine kca (X := hv rM.1) hM (by rw [← hYt]; exact rsum_any (slv q2.1) q2.2 _ ((hq2 q2 hqm2).ch hM.ch) (by omega)) (fun w hM => ?_)
  repeat (first | refine gw ?_ | (refine ks ?_; intro w hM))
  (try ((with_reducible apply is_gd); first | refine gt ?_ | refine gf ?_ | refine gu ?_)); refine kca (X := hv rM.1) hM (by rw [hrM]; exact mroot_any _ v15 m _ rfl hms (by omega) (hRm5.ch hM.ch)) (fun w hM => ?_)
  (try ((with_reducible apply is_gd); first | refine gt ?_ | refine gf ?_ | refine gu ?_)); refine wl_val (r_eql8 (n := 32) (a := rM.1) (b := rM.1) (by kernel_rfl) rfl rfl rM.2 rM.2) ?_
  rw [decide_eq_true (show rM.1 = rM.1 from rfl)]
  repeat (first | refine gw ?_ | (refine ks ?_; intro w hM))
  have hch6 : Ch [] w0 w := hch5.then hM.ch
  (try ((with_reducible apply is_gd); first | refine gt ?_ | refine gf ?_ | refine gu ?_)); refine kca hM (lives20_any _ (hK.ch hch6 (by simp))) (fun w hM => ?_)
  repeat (first | refine gw ?_ | (refine ks ?_; intro w hM))
  exact out1 rfl ⟨rfl, hch5.then hM.ch⟩
end Go.Proofs.YtkdbinchlpdkmaaDoor

/- Walk: the law GrowthSays. -/
import Derived.Test.YtkdbinchlpdkmaaDoorQGrowthSays30
import Derived.Test.YtkdbinchlpdkmaaDoorQGrowthSays27
import Derived.Test.YtkdbinchlpdkmaaDoorQGrowthSays15
set_option linter.unusedVariables false
set_option linter.unusedSimpArgs false
set_option maxRecDepth 4000
namespace Go.Proofs.E
open Go Go.RowKit
section
variable {P : Program} {ops : Array Oper} {Q : Exit → Act → World → Prop} {rest : List Oper} {l l' : List Value} {O : List Nat} {w0 w : World} {L L' : List As} {T : TypeId} {pos : String} {after : Array Edge}
/-- A store of a whole element of a row. -/
theorem krsE {α : Type} {en : En α} {x y : Operand} {E t : TypeId} {g o i m c n by_ : Nat} {z : Value} {xs : List α} (b : α) [hi : Inf P t z n by_] (hM : Mem O w0 w L)
    (h : ∀ w', Ch [g] w w' → Mem O w0 w' (.row en E (.slice (some ⟨g, 0, none⟩) m c) (xs.set i b) :: L') → wpList P ops Q rest (fr l) w') (hil : i < xs.length) (ho : o = i * n) (hn : en.n = n := by exact rfl)
    (hx : ev l x = .pointer (some ⟨g, o, none⟩) := by exact rfl) (hy : ev l y = .agg (en.f b).toArray := by exact rfl) (hp : Pick L (.row en E (.slice (some ⟨g, 0, none⟩) m c) xs) L' := by (repeat (first | exact Go.Proofs.E.Pick.here | apply Go.Proofs.E.Pick.there))) :
    wpList P ops Q ({ dst := none, op := .store t x y, type := T, pos := pos, after := after, guard := none } :: rest) (fr l) w := by
  have hM' := hM.pick hp
  have hO : Own en w 0 E (.slice (some ⟨g, 0, none⟩) m c) xs := hM'.head
  subst hn
  obtain ⟨hlen, h2⟩ := hO
  rcases h2 with ⟨h, _⟩ | ⟨g', cap, cur, he, hg, hb, hcap, hmax, hsz, htk⟩
  · cases h
  · injection he with e1 e2 e3
    injection e1 with e1
    injection e1 with e1
    subst e1 e2 e3
    have hB : Blk w g (xs.flatMap en.f ++ cur.toList.drop (xs.length * en.n)) E := by
      rw [← htk, List.take_append_drop, Blk, Array.toArray_toList]
      exact hb
    have hfl := flatMap_len en.hl xs
    have hfl2 := flatMap_len en.hl (xs.set i b)
    rw [List.length_set] at hfl2
    refine stER rfl hB hx hy ho hil fun w' hB' hc _ => h w' hc (hM'.put hc (fun k' hk' => by simp at hk'; subst hk'; rfl) ?_ (fun k' hk' => .inl hk'))
    refine ⟨?_, .inr ⟨g, c, ((xs.set i b).flatMap en.f ++ cur.toList.drop (xs.length * en.n)).toArray, ?_, Nat.zero_le _, hB', by rw [List.length_set]; exact hcap, hmax, ?_, ?_⟩⟩
    · rw [flatMap_len en.hl]
    · rw [List.length_set]
    · have hle := Nat.mul_le_mul_right en.n hcap
      simp only [List.size_toArray, List.length_append, List.length_drop, Array.length_toList, hfl2]
      omega
    · rw [List.length_set, List.toList_toArray, List.take_left' hfl2]
theorem own_get {α : Type} {en : En α} {w : World} {base : Nat} {E : TypeId} {v : Value} {xs : List α} (h : Own en w base E v xs) (hne : xs ≠ []) : ∃ g c, v = .slice (some ⟨g, 0, none⟩) xs.length c := by
  rcases h.2 with ⟨_, h⟩ | ⟨g, c, cur, rfl, _⟩
  · exact absurd (List.eq_nil_of_length_eq_zero h) hne
  · exact ⟨g, c, rfl⟩
end
end Go.Proofs.E
namespace Go.Proofs.YtkdbinchlpdkmaaDoor
open Go Go.RowKit Go.Proofs.E
attribute [local irreducible] Go.wpList Go.Code.wp Go.Proofs.E.exec Go.Proofs.E.wpLexG
/-- A fact speaks of the first m leaves. -/
def isO (m : Nat) (f : Fv × List UInt8) : Bool := decide (f.1.1 = 0) && decide (f.1.2.1 = (m : Int))
theorem isO_step {m j : Nat} {rs : List (Fv × List UInt8)} {f : Fv × List UInt8} (h : rs[j]? = some f) : (rs.take (j + 1)).any (isO m) = ((rs.take j).any (isO m) || isO m f) := by
  rw [List.take_add_one, h, List.any_append]
  simp
set_option maxHeartbeats 16000000 in
theorem growthSays_any (vl : Value) (lv : List Hs) (I J : Nat) (ub : SlV) (bs : List UInt8) (w0 : World) (hK : Laid w0) (hI : I < 2 ^ 64) (hJ : J < 2 ^ 64) (hl : (Ty.enc eH).Rd [] w0 vl lv) (hb : tU8.Rd [] w0 (slv ub) bs) :
    Calls Tryd.prog 8 #[vl, .agg #[.int .u64 (I : Int), .int .u64 (J : Int)], slv ub] w0 (Ret fun u w' => u = .bool true ∧ Ch [] w0 w') := by
  have hM := Mem.start w0
  obtain ⟨A0, c0, rfl⟩ := hl.form
  obtain ⟨A2, c2, rfl⟩ := slv_formG hb
  refine enter [.slice A0 lv.length c0, .agg #[.int .u64 (I : Int), .int .u64 (J : Int)], slv (A2, bs.length, c2), undef, undef, undef, undef, undef, undef, undef, undef, undef, undef, undef, undef, undef, undef, undef, undef, undef, undef, undef, undef, undef, undef, undef, undef, undef, undef, undef, undef, undef, undef, undef, undef, undef, undef, undef, undef, undef, undef, undef, undef, undef, undef, undef, undef, undef, undef, undef, undef, undef, undef, undef, undef, undef, undef, undef, undef, undef, undef, undef, undef, undef, undef, undef, undef, undef, undef, undef, undef, undef, undef, undef, undef, undef, undef, undef, undef, undef, undef, undef, undef, undef, undef, undef, undef, undef, undef, undef, undef, undef, undef, undef, undef, undef, undef, undef, undef, undef, undef, undef, undef, undef, undef, undef, undef, undef, undef, undef, undef, undef, undef, undef, undef, undef, undef, undef, undef, undef, undef, undef, undef, undef, undef, undef, undef, undef, undef, undef, undef, undef, undef, undef, undef, undef, undef, undef, undef, undef, undef, undef, undef, undef, undef, undef, undef, undef, undef, undef, undef, undef, undef, undef, undef, undef, undef, undef, undef, undef, undef, undef, undef, undef, undef, undef, undef, undef, undef, undef, undef, undef, undef, undef, undef, undef, undef, undef, undef, undef, undef, undef, undef, undef, undef, undef, undef, undef, undef, undef, undef, undef, undef, undef, undef, undef, undef, undef, undef, undef, undef, undef] Tryd.func8 rfl rfl ?_
  repeat (first | refine gfo ?_ | (refine ks ?_; intro w hM))
  refine kbx (v := .agg #[.int .u64 (I : Int), .int .u64 (J : Int)]) hM (fun w b4 hM => ?_)
  have hM : Mem [] w0 w [.cell b4 [.int .u64 (I : Int), .int .u64 (J : Int)] 84] := hM
  repeat (first | refine gfo ?_ | (refine ks ?_; intro w hM))
  by_cases z0 : (lv.length : Int) = 0
  · rw [decide_eq_true z0]
    repeat (first | refine gfo ?_ | (refine ks ?_; intro w hM))
    refine c_condb rfl (fun _ => ?_) (fun h => by cases h)
    repeat (first | refine gfo ?_ | (refine ks ?_; intro w hM))
    refine kca hM (lives30_any _ (hK.ch hM.ch (by simp))) (fun w hM => ?_)
    repeat (first | refine gfo ?_ | (refine ks ?_; intro w hM))
    exact out1 rfl ⟨rfl, hM.ch⟩
  rw [decide_eq_false z0]
  repeat (first | refine gfo ?_ | (refine ks ?_; intro w hM))
  by_cases z1 : (60 : Int) < (lv.length : Int)
  · rw [decide_eq_true z1]
    repeat (first | refine gfo ?_ | (refine ks ?_; intro w hM))
    refine c_condb rfl (fun _ => ?_) (fun h => by cases h)
    repeat (first | refine gfo ?_ | (refine ks ?_; intro w hM))
    refine kca hM (lives30_any _ (hK.ch hM.ch (by simp))) (fun w hM => ?_)
    repeat (first | refine gfo ?_ | (refine ks ?_; intro w hM))
    exact out1 rfl ⟨rfl, hM.ch⟩
  rw [decide_eq_false z1]
  repeat (first | refine gfo ?_ | (refine ks ?_; intro w hM))
  by_cases z2 : (300 : Int) < (bs.length : Int)
  · rw [decide_eq_true z2]
    repeat (first | refine gfo ?_ | (refine ks ?_; intro w hM))
    refine c_condb rfl (fun _ => ?_) (fun h => by cases h)
    repeat (first | refine gfo ?_ | (refine ks ?_; intro w hM))
    refine kca hM (lives30_any _ (hK.ch hM.ch (by simp))) (fun w hM => ?_)
    repeat (first | refine gfo ?_ | (refine ks ?_; intro w hM))
    exact out1 rfl ⟨rfl, hM.ch⟩
  rw [decide_eq_false z2]
  repeat (first | refine gfo ?_ | (refine ks ?_; intro w hM))
  refine c_condb rfl (fun h => by cases h) (fun _ => ?_)
  repeat (first | refine gfo ?_ | (refine ks ?_; intro w hM))
  refine kbs (en := eH) (vs := []) [] hM (fun w b37 hM => ?_)
  repeat (first | refine gfo ?_ | (refine ks ?_; intro w hM))
  refine kap (en := eH) (v := .slice (some ⟨b37, 0, none⟩) 0 0) (yv := .slice A0 lv.length c0) (xs := []) (ys := lv) hM (hl.ch hM.ch) (fun v7 w hM => ?_) (hb := by simp; omega) (h63 := by simp; omega)
  rw [List.nil_append] at hM
  obtain ⟨g7, c7, rfl⟩ := own_get (hM.row0 (en := eH) (v := v7) (xs := lv) (by (repeat constructor))) (fun h => by rw [h] at z0; simp at z0)
  have hkl : I % lv.length < lv.length := Nat.mod_lt _ (by omega)
  have hkm : J % lv.length < lv.length := Nat.mod_lt _ (by omega)
  repeat (first | refine gfo ?_ | (refine ks ?_; intro w hM))
  rw [remN I lv.length, wrap_i64 (a := ((I % lv.length : Nat) : Int)) (by omega)]
  generalize I % lv.length = k at hkl ⊢
  repeat (first | refine gfo ?_ | (refine ks ?_; intro w hM))
  refine kca hM (rleafF_any _ bs _ (hb.ch hM.ch) (by omega)) (fun w hM => ?_)
  repeat (first | refine gfo ?_ | (refine ks ?_; intro w hM))
  (try ((with_reducible apply is_gd); first | refine gt ?_ | refine gf ?_ | refine gu ?_)); refine wl_val (r_indexAddr (b := g7) (o := 0) (n := lv.length) (c := c7) (i := (k : Int)) rfl rfl (by omega) (by omega)) ?_
  refine krsE (en := eH) (xs := lv) (i := k) (inH (0 :: bs)) (o := 0 + (k : Int).toNat * 32) hM (fun w hc hM => ?_) hkl (by rw [Int.toNat_natCast, Nat.zero_add])
  obtain ⟨L, hL⟩ : ∃ L, L = lv.set k (inH (0 :: bs)) := ⟨_, rfl⟩
  have hLl : L.length = lv.length := by rw [hL, List.length_set]
  have hx : L[k]? = some (inH (0 :: bs)) := by rw [hL, List.getElem?_set_self hkl]
  rw [← hL] at hM
  clear hL
  have h60 : L.length ≤ 60 := by omega
  repeat (first | refine gfo ?_ | (refine ks ?_; intro w hM))
  rw [remN J lv.length, wrap_i64 (a := ((J % lv.length : Nat) : Int)) (by omega)]
  generalize J % lv.length = m1 at hkm ⊢
  repeat (first | refine gfo ?_ | (refine ks ?_; intro w hM))
  refine ca (rpath_any L.length (.slice (some ⟨g7, 0, none⟩) lv.length c7) L (k : Int) w rfl (hM.rowRdO (en := eH) (by (repeat constructor))) (by omega)) ?_
  rintro _ w ⟨hc, v10, rfl, hS⟩
  obtain ⟨B10, hM⟩ := hM.gotRdB hc hS
  rw [inZ_t (by omega : k < L.length), pathZ_t (by omega : k < L.length)] at *
  repeat (first | refine gfo ?_ | (refine ks ?_; intro w hM))
  rw [show (1 : Int) + (m1 : Int) = ((m1 + 1 : Nat) : Int) by omega, wrap_i64 (a := ((m1 + 1 : Nat) : Int)) (by omega)]
  obtain ⟨m, hm⟩ : ∃ m, m = m1 + 1 := ⟨_, rfl⟩
  rw [← hm]
  have hm1 : 1 ≤ m := by omega
  have hmL : m ≤ L.length := by omega
  clear hm hkm
  obtain ⟨u10, rfl⟩ := (hM.rdRd (t := Ty.enc eH) (v := v10) (xs := (downH L k).reverse) (by (repeat constructor))).slv
  refine ca (rgrown_any (.slice (some ⟨g7, 0, none⟩) lv.length c7) L (m : Int) w (hM.rowRdO (en := eH) (by (repeat constructor))) (by omega)) ?_
  rintro _ w ⟨hc, v12, rfl, hS⟩
  obtain ⟨B12, hM⟩ := hM.gotRdB hc hS
  rw [inG_t hm1 hmL, grownZ_t hm1 hmL] at *
  obtain ⟨u12, rfl⟩ := (hM.rdRd (t := Ty.enc eH) (v := v12) (xs := (gdH m L true).reverse) (by (repeat constructor))).slv
  repeat (first | refine gfo ?_ | (refine ks ?_; intro w hM))
  refine kcuth (hM.rowRdO (en := eH) (v := .slice (some ⟨g7, 0, none⟩) lv.length c7) (xs := L) (by (repeat constructor))) (fun v74 hV => ?_)
  rw [Int.toNat_natCast] at hV
  repeat (first | refine gfo ?_ | (refine ks ?_; intro w hM))
  refine kca hM (rroot_any _ v74 (L.take m) _ rfl hV (by rw [List.length_take]; omega)) (fun w hM => ?_)
  repeat (first | refine gfo ?_ | (refine ks ?_; intro w hM))
  refine kca hM (rroot_any L.length (.slice (some ⟨g7, 0, none⟩) lv.length c7) L _ rfl (hM.rowRdO (en := eH) (by (repeat constructor))) (by omega)) (fun w hM => ?_)
  repeat (first | refine gfo ?_ | (refine ks ?_; intro w hM))
  refine kal hM (fun w b14 hM => ?_)
  refine kal hM (fun w b15 hM => ?_)
  rw [zero_cells] at hM
  obtain ⟨rm, hrm⟩ : ∃ r, r = rootH (L.take m) := ⟨_, rfl⟩
  obtain ⟨rL, hrL⟩ : ∃ r, r = rootH L := ⟨_, rfl⟩
  rw [← hrm, ← hrL]
  refine kstw (b := b14) (vs := rm.1.map u8v) hM (fun w hM => ?_) (hf := hf_len _)
  refine kstw (b := b15) (vs := rL.1.map u8v) hM (fun w hM => ?_) (hf := hf_len _)
  repeat (first | refine gfo ?_ | (refine ks ?_; intro w hM))
  have hdl : (downH L k).reverse.length ≤ 60 := by
    have := down_len L k
    rw [List.length_reverse]
    omega
  have hgl : (gdH m L true).reverse.length ≤ 61 := by
    have := gd_len m L true
    rw [List.length_reverse]
    omega
  obtain ⟨p1, p0, p2, p3⟩ := pathG_says (leaf := bs) (by omega : L.length ≤ 1000000000) hx
  obtain ⟨Y, y0, y1, y2, y3⟩ := grownO_says (by omega : L.length ≤ 1000000000) hm1 hmL
  rw [hLl] at p0 p1 p2 p3 y0
  rw [← hrL] at p3 y2
  rw [← hrm] at y0
  refine ca (gpath_any (lv.length : Int) (k : Int) (A2, bs.length, c2) u10 bs (downH L k).reverse _ (hK.ch hM.ch (by simp)) (hb.ch hM.ch) (hM.rdRd (by (repeat constructor))) (by omega) (by omega)) ?_
  rintro _ w2 ⟨v16, fs, B1, rfl, hfs, hN⟩
  have hM := hM.join hN ownF_plain
  simp only [List.cons_append, List.nil_append] at hM
  rw [p1]
  repeat (first | refine gfo ?_ | (refine ks ?_; intro w hM))
  refine ca (ggrown_any rm (m : Int) (lv.length : Int) u12 (gdH m L true).reverse _ (hK.ch hM.ch (by simp)) (hM.rdRd (by (repeat constructor))) (by omega)) ?_
  rintro _ w2 ⟨v18, gs, B2, rfl, hgs, hN⟩
  have hM := hM.join hN ownF_plain
  simp only [List.cons_append, List.nil_append] at hM
  rw [y0] at hgs ⊢
  rw [Option.isSome_some]
  repeat (first | refine gfob ?_ | (refine ks ?_; intro w hM))
  obtain ⟨hfn, fx, hfx, hfx2⟩ := top_last hfs p0
  obtain ⟨hgn, gx, hgx, hgx2⟩ := top_last hgs (fun e => by obtain ⟨f, hf, _⟩ := y3; rw [show Y = [] from e] at hf; cases hf)
  rw [p3] at hfx2
  rw [show topF ((some Y).getD []) = topF Y from rfl, y2] at hgx2
  have hfb : fs.length ≤ 121 := by
    have h1 := congrArg List.length hfs
    rw [List.length_map] at h1
    have h2 := pathG_le (n := (lv.length : Int)) (i := (k : Int)) (leaf := bs) (path := (downH L k).reverse)
    omega
  have hgb : gs.length ≤ 184 := by
    have h1 := congrArg List.length hgs
    rw [List.length_map] at h1
    have h2 := (grownO_in y0).1
    have h3 : ((some Y).getD []).length = Y.length := rfl
    omega
  have hfl : 0 < fs.length := List.length_pos_iff.2 hfn
  have hgl0 : 0 < gs.length := List.length_pos_iff.2 hgn
  obtain ⟨A16, c16, rfl, _⟩ := (hM.row0 (v := v16) (xs := fs.map (·.1)) (by (repeat constructor))).form
  obtain ⟨A18, c18, rfl, _⟩ := (hM.row0 (v := v18) (xs := gs.map (·.1)) (by (repeat constructor))).form
  have hRf := hM.rowRdO (en := eFv) (v := .slice A16 (fs.map (·.1)).length c16) (xs := fs.map (·.1)) (by (repeat constructor))
  have hRg := hM.rowRdO (en := eFv) (v := .slice A18 (gs.map (·.1)).length c18) (xs := gs.map (·.1)) (by (repeat constructor))
  have hRL := hM.rowRdO (en := eH) (v := .slice (some ⟨g7, 0, none⟩) lv.length c7) (xs := L) (by (repeat constructor))
  have hB15 := hM.blk (b := b15) (cs := rL.1.map u8v) (by (repeat constructor))
  have hif := hM.manyRd (ps := fs.map inpF) (by (repeat constructor))
  have hig := hM.manyRd (ps := gs.map inpF) (by (repeat constructor))
  have hch := hM.ch
  have e1 : (fs.map (fun x : Fv × List UInt8 => x.1)).length = fs.length := List.length_map _
  have e2 : (gs.map (fun x : Fv × List UInt8 => x.1)).length = gs.length := List.length_map _
  rw [e1] at hRf
  rw [e2] at hRg
  rw [e1, e2]
  clear hM
  have hM := Mem.start w2
  refine c_draw [] (by kernel_rfl) (by kernel_rfl) (fun w hc hs => ?_)
  have hM := hM.call hc
  (try refine gwg ?_)
  rw [show decide ((fs.length : Int) = 0) = false from decide_eq_false (by omega)]
  (try refine gwg ?_)
  rw [show decide ((gs.length : Int) = 0) = false from decide_eq_false (by omega)]
  (try refine gwg ?_)
  (try ((with_reducible apply is_gg); first | refine gtg ?_ | refine gfg ?_ | refine gug ?_)); refine kixg hRf (fun b1 o1 x hx1 hA => ?_) (h1 := by rw [List.length_map]; omega)
  rw [show ((fs.length : Int) - 1).toNat = fs.length - 1 by omega, List.getElem?_map, hfx] at hx1
  obtain rfl := Option.some.inj hx1
  (try refine gwg ?_)
  (try ((with_reducible apply is_gg); first | refine gtg ?_ | refine gfg ?_ | refine gug ?_)); refine katrg hM (atHash hA) ?_
  (try refine gwg ?_)
  (try ((with_reducible apply is_gg); first | refine gtg ?_ | refine gfg ?_ | refine gug ?_)); refine ldbrg (n := 32) (hB15.ch hM.ch (by simp)) (by simp) rfl (ds := rL.1.map u8v) (by rw [List.drop_zero]; exact List.take_of_length_le (by rw [hf_len]; omega)) (hf_len rL) ?_
  (try ((with_reducible apply is_gg); first | refine gtg ?_ | refine gfg ?_ | refine gug ?_)); refine wg_val (fun _ _ => r_neq8 (n := 32) (a := fx.1.2.2.1.1) (b := rL.1) (by kernel_rfl) rfl rfl fx.1.2.2.1.2 rL.2) ?_
  rw [decide_eq_true (congrArg Subtype.val hfx2 : fx.1.2.2.1.1 = rL.1)]
  (try refine gwg ?_)
  (try ((with_reducible apply is_gg); first | refine gtg ?_ | refine gfg ?_ | refine gug ?_)); refine kixg hRg (fun b1 o1 x hx1 hA => ?_) (h1 := by rw [List.length_map]; omega)
  rw [show ((gs.length : Int) - 1).toNat = gs.length - 1 by omega, List.getElem?_map, hgx] at hx1
  obtain rfl := Option.some.inj hx1
  (try refine gwg ?_)
  (try ((with_reducible apply is_gg); first | refine gtg ?_ | refine gfg ?_ | refine gug ?_)); refine katrg hM (atHash hA) ?_
  (try refine gwg ?_)
  (try ((with_reducible apply is_gg); first | refine gtg ?_ | refine gfg ?_ | refine gug ?_)); refine ldbrg (n := 32) (hB15.ch hM.ch (by simp)) (by simp) rfl (ds := rL.1.map u8v) (by rw [List.drop_zero]; exact List.take_of_length_le (by rw [hf_len]; omega)) (hf_len rL) ?_
  (try ((with_reducible apply is_gg); first | refine gtg ?_ | refine gfg ?_ | refine gug ?_)); refine wg_val (fun _ _ => r_neq8 (n := 32) (a := gx.1.2.2.1.1) (b := rL.1) (by kernel_rfl) rfl rfl gx.1.2.2.1.2 rL.2) ?_
  rw [decide_eq_true (congrArg Subtype.val hgx2 : gx.1.2.2.1.1 = rL.1)]
  (try refine gwg ?_)
  (intro w hc; have hM := hM.call hc)
  refine c_condb rfl (fun h => by cases h) (fun _ => ?_)
  repeat (first | refine gfo ?_ | (refine ks ?_; intro w hM))
  refine kbs (en := eFv) (vs := []) [] hM (fun w b134 hM => ?_)
  repeat (first | refine gfo ?_ | (refine ks ?_; intro w hM))
  refine kap (en := eFv) (v := .slice (some ⟨b134, 0, none⟩) 0 0) (yv := .slice A16 fs.length c16) (xs := []) (ys := fs.map (·.1)) hM (hRf.ch hM.ch) (fun v136 w hM => ?_) (hb := by simp; omega) (h63 := by simp; omega)
  rw [List.nil_append] at hM
  repeat (first | refine gfo ?_ | (refine ks ?_; intro w hM))
  refine kap (en := eFv) (v := v136) (yv := .slice A18 gs.length c18) (xs := fs.map (·.1)) (ys := gs.map (·.1)) hM (hRg.ch hM.ch) (fun v138 w3 hM => ?_) (hb := by simp; omega) (h63 := by simp; omega)
  rw [← List.map_append] at hM
  obtain ⟨rs, hrs⟩ : ∃ rs, rs = fs ++ gs := ⟨_, rfl⟩
  rw [← hrs] at hM
  have hrb : rs.length ≤ 305 := by rw [hrs, List.length_append]; omega
  have hin : ∀ f ∈ rs, tU8.Rd [] w3 (slv f.1.2.2.2) f.2 := fun f hf => by
    rw [hrs] at hf
    rcases List.mem_append.1 hf with hf | hf
    · exact (hif (inpF f) (List.mem_map.2 ⟨f, hf, rfl⟩)).ch hM.ch
    · exact (hig (inpF f) (List.mem_map.2 ⟨f, hf, rfl⟩)).ch hM.ch
  have hgs : gs.map dF = Y := hgs
  have hsay : ∀ f ∈ rs, Says L (dF f) ∧ (f.2 ≠ [] → f.1.2.2.1 = inH f.2) ∧ f.2.length ≤ 365 := fun f hf => by
    rw [hrs] at hf
    rcases List.mem_append.1 hf with hf | hf
    · have hd : dF f ∈ fs.map dF := List.mem_map.2 ⟨f, hf, rfl⟩
      rw [hfs] at hd
      refine ⟨p2 _ hd, sound_pathG _ hd, ?_⟩
      have h4 : f.2.length ≤ bs.length + 65 := pathG_in _ hd
      omega
    · have hd : dF f ∈ gs.map dF := List.mem_map.2 ⟨f, hf, rfl⟩
      rw [hgs] at hd
      refine ⟨y1 _ hd, sound_grown y0 _ hd, ?_⟩
      have h4 : f.2.length ≤ 65 := (grownO_in y0).2 _ hd
      omega
  have hocc : rs.any (isO m) = true := by
    obtain ⟨y, hy, hy1, hy2⟩ := y3
    rw [← hgs] at hy
    obtain ⟨f, hf, rfl⟩ := List.mem_map.1 hy
    rw [hrs, List.any_append, List.any_eq_true.2 ⟨f, hf, ?_⟩, Bool.or_true]
    have h1 : f.1.1 = 0 := hy1
    have h2 : f.1.2.1 = (m : Int) := hy2
    unfold isO
    rw [decide_eq_true h1, decide_eq_true h2]
    rfl
  obtain ⟨A, c, rfl, _⟩ := (hM.row0 (v := v138) (xs := rs.map (·.1)) (by (repeat constructor))).form
  have hR := hM.rowRdO (en := eFv) (v := .slice A (rs.map (·.1)).length c) (xs := rs.map (·.1)) (by (repeat constructor))
  have e3 : (rs.map (fun x : Fv × List UInt8 => x.1)).length = rs.length := List.length_map _
  rw [e3] at hR ⊢
  have hch := hch.then hM.ch
  have hRL := hRL.ch hM.ch
  clear hM hrs hif hig hRf hRg hfx hgx hfx2 hgx2 hfn hgn hfs hgs y0 y1 y2 y3 p0 p1 p2 p3 hB15
  have hM := Mem.start w3
  repeat (first | refine gfo ?_ | (refine ks ?_; intro w hM))
  
  refine c_loop (fun n l w => ∃ (j : Nat) (o : Bool), (∃ jj : Nat → Value, l = [.slice A0 lv.length c0, jj 1, jj 2, jj 3, jj 4, jj 5, jj 6, .slice (some ⟨g7, 0, none⟩) lv.length c7, jj 8, .int .i64 (m : Int), jj 10, jj 11, jj 12, jj 13, jj 14, jj 15, jj 16, jj 17, jj 18, jj 19, .bool o, jj 21, jj 22, jj 23, jj 24, jj 25, jj 26, jj 27, jj 28, jj 29, jj 30, jj 31, jj 32, jj 33, jj 34, jj 35, jj 36, jj 37, jj 38, jj 39, jj 40, jj 41, jj 42, jj 43, jj 44, jj 45, jj 46, jj 47, jj 48, jj 49, jj 50, jj 51, jj 52, jj 53, jj 54, jj 55, jj 56, jj 57, jj 58, jj 59, jj 60, jj 61, jj 62, jj 63, jj 64, jj 65, jj 66, jj 67, jj 68, jj 69, jj 70, jj 71, jj 72, jj 73, jj 74, jj 75, jj 76, jj 77, jj 78, jj 79, jj 80, jj 81, jj 82, jj 83, jj 84, jj 85, jj 86, jj 87, jj 88, jj 89, jj 90, jj 91, jj 92, jj 93, jj 94, jj 95, jj 96, jj 97, jj 98, jj 99, jj 100, jj 101, jj 102, jj 103, jj 104, jj 105, jj 106, jj 107, jj 108, jj 109, jj 110, jj 111, jj 112, jj 113, jj 114, jj 115, jj 116, jj 117, jj 118, jj 119, jj 120, jj 121, jj 122, jj 123, jj 124, jj 125, jj 126, jj 127, jj 128, jj 129, jj 130, jj 131, jj 132, jj 133, jj 134, jj 135, jj 136, jj 137, .slice A rs.length c, .int .i64 (rs.length : Int), .int .i64 (j : Int), jj 141, jj 142, jj 143, jj 144, jj 145, jj 146, jj 147, jj 148, jj 149, jj 150, jj 151, jj 152, jj 153, jj 154, jj 155, jj 156, jj 157, jj 158, jj 159, jj 160, jj 161, jj 162, jj 163, jj 164, jj 165, jj 166, jj 167, jj 168, jj 169, jj 170, jj 171, jj 172, jj 173, jj 174, jj 175, jj 176, jj 177, jj 178, jj 179, jj 180, jj 181, jj 182, jj 183, jj 184, jj 185, jj 186, jj 187, jj 188, jj 189, jj 190, jj 191, jj 192, jj 193, jj 194, jj 195, jj 196, jj 197, jj 198, jj 199, jj 200, jj 201]) ∧ n + j = rs.length ∧ o = (rs.take j).any (isO m) ∧ Mem [] w3 w []) rs.length
    ⟨0, false, exj rfl, rfl, rfl, hM⟩ ?_
  clear hM
  rintro n l w ⟨j, o, ⟨jj, rfl⟩, hnj, ho, hM⟩
  repeat (first | refine gfo ?_ | (refine ks ?_; intro w hM))
  refine c_cond rfl (fun hj => ?_) (fun hj => ?_)
  rotate_left
  · repeat (first | refine gfo ?_ | (refine ks ?_; intro w hM))
    rw [List.take_of_length_le (by omega : rs.length ≤ j), hocc] at ho
    rw [ho]
    (try ((with_reducible apply is_gd); first | refine gt ?_ | refine gf ?_ | refine gu ?_)); refine kca hM (lives30_any _ (hK.ch (hch.then hM.ch) (by simp))) (fun w hM => ?_)
    repeat (first | refine gfo ?_ | (refine ks ?_; intro w hM))
    exact out1 rfl ⟨rfl, hch.then hM.ch⟩
  repeat (first | refine gfo ?_ | (refine ks ?_; intro w hM))
  refine kix hR (fun bk ok x hx hA => ?_) (h1 := by rw [List.length_map]; omega)
  rw [Int.toNat_natCast, List.getElem?_map] at hx
  obtain ⟨f, hf, rfl⟩ := Option.map_eq_some_iff.1 hx
  have hfm := List.mem_of_getElem? hf
  refine katr hM hA ?_
  have hstep := isO_step (m := m) hf
  rw [← ho] at hstep
  obtain ⟨⟨lo, hi, h, sl⟩, inp⟩ := f
  have hRi := hin _ hfm
  obtain ⟨⟨a, n1, s1, s2, s3, s4, s5⟩, hsd, hib⟩ := hsay _ hfm
  simp only at hRi hsd hib
  have hs3 : lo = (a : Int) := s3
  have hs4 : hi = ((a + n1 : Nat) : Int) := s4
  have hrt : h = rootH (sg L a n1) := s5
  obtain ⟨Ai, ci, rfl⟩ := slv_form hRi
  refine kal hM (fun w b22 hM => ?_)
  have hM : Mem [] w3 w [.cell b22 (fC 0 0 zeroH (.slice none 0 0)) 74] := hM
  refine kstwF (vs := eFv.f (lo, hi, h, (Ai, inp.length, ci))) hM (fun w hc hM => ?_) (h1 := eFv.h1 _)
  have hM : Mem [] w3 w [.cell b22 (fC lo hi h (slv (Ai, inp.length, ci))) 74] := hM
  clear s3 s4 s5
  subst hs3 hs4
  repeat (first | refine gfob ?_ | (refine ks ?_; intro w hM))
  refine kdr hM (by kernel_rfl) (by kernel_rfl) (fun w hM => ?_)
  (try refine gwg ?_)
  (try ((with_reducible apply is_gg); first | refine gtg ?_ | refine gfg ?_ | refine gug ?_)); refine kldg (v := slv (Ai, inp.length, ci)) hM ?_ (hv := hf_get _ _ _ _)
  (try refine gwg ?_)
  by_cases q0 : (0 : Int) < (inp.length : Int)
  · rw [decide_eq_true q0]
    (try refine gwg ?_)
    (try ((with_reducible apply is_gg); first | refine gtg ?_ | refine gfg ?_ | refine gug ?_)); refine ldbrg (n := 32) (hM.blk (b := b22) (by (repeat constructor))) (by simp) rfl (ds := h.1.map u8v) (hf_take _ _ _ _) (hf_len h) ?_
    (try refine gwg ?_)
    (try ((with_reducible apply is_gg); first | refine gtg ?_ | refine gfg ?_ | refine gug ?_)); refine kldg (v := slv (Ai, inp.length, ci)) hM ?_ (hv := hf_get _ _ _ _)
    (try refine gwg ?_)
    (try ((with_reducible apply is_gg); first | refine gtg ?_ | refine gfg ?_ | refine gug ?_)); refine kcag (v := hv (shaOf inp)) hM (fun w1 hM1 => rsum_any (slv (Ai, inp.length, ci)) inp w1 (hRi.ch hM1.ch) (by omega)) ?_
    (try ((with_reducible apply is_gg); first | refine gtg ?_ | refine gfg ?_ | refine gug ?_)); refine wg_val (fun _ _ => r_neq8 (n := 32) (a := h.1) (b := shaOf inp) (by kernel_rfl) rfl rfl h.2 (shaOf_len inp)) ?_
    have hsum : h.1 = shaOf inp := congrArg Subtype.val (hsd (fun e => by rw [e] at q0; simp at q0))
    rw [decide_eq_true hsum]
    (try refine gwg ?_)
    (intro w hc; have hM := hM.call hc)
    refine c_condb rfl (fun h => by cases h) (fun _ => ?_)
    repeat (first | refine gfob ?_ | (refine ks ?_; intro w hM))
    refine kdr hM (by kernel_rfl) (by kernel_rfl) (fun w hM => ?_)
    (try refine gwg ?_)
    rw [decide_eq_false (by omega : ¬ ((a : Int) < 0))]
    (try refine gwg ?_)
    rw [decide_eq_false (by omega : ¬ (((a + n1 : Nat) : Int) ≤ (a : Int)))]
    (try refine gwg ?_)
    rw [decide_eq_false (by omega : ¬ ((lv.length : Int) < ((a + n1 : Nat) : Int)))]
    (try refine gwg ?_)
    (try ((with_reducible apply is_gg); first | refine gtg ?_ | refine gfg ?_ | refine gug ?_)); refine ldbrg (n := 32) (hM.blk (b := b22) (by (repeat constructor))) (by simp) rfl (ds := h.1.map u8v) (hf_take _ _ _ _) (hf_len h) ?_
    (try refine gwg ?_)
    (try ((with_reducible apply is_gg); first | refine gtg ?_ | refine gfg ?_ | refine gug ?_)); refine kcutg hRL (fun vs hV => ?_) (i := (a : Int)) (j := ((a + n1 : Nat) : Int))
    rw [Int.toNat_natCast, Int.toNat_natCast] at hV
    have hV : (Ty.enc eH).Rd [] w3 vs (sg L a n1) := hV
    (try refine gwg ?_)
    (try ((with_reducible apply is_gg); first | refine gtg ?_ | refine gfg ?_ | refine gug ?_)); refine kcag (v := hv (rootH (sg L a n1)).1) hM (fun w1 hM1 => rroot_any _ vs (sg L a n1) w1 rfl (hV.ch hM1.ch) (by rw [sg_len s2]; omega)) ?_
    (try ((with_reducible apply is_gg); first | refine gtg ?_ | refine gfg ?_ | refine gug ?_)); refine wg_val (fun _ _ => r_neq8 (n := 32) (a := h.1) (b := (rootH (sg L a n1)).1) (by kernel_rfl) rfl rfl h.2 (rootH (sg L a n1)).2) ?_
    rw [decide_eq_true (congrArg Subtype.val hrt : h.1 = (rootH (sg L a n1)).1)]
    (try refine gwg ?_)
    (intro w hc; have hM := hM.call hc)
    refine c_condb rfl (fun h => by cases h) (fun _ => ?_)
    repeat (first | refine gfo ?_ | (refine ks ?_; intro w hM))
    cases hoo : o with
    | true =>
      repeat (first | refine gfo ?_ | (refine ks ?_; intro w hM))
      exact x_goes (n - 1) rfl (by omega) ⟨j + 1, true, exj rfl, by omega, by rw [hstep, hoo]; rfl, hM.sub (by (repeat constructor))⟩
    | false =>
    have hO : (rs.take (j + 1)).any (isO m) = (decide ((a : Int) = 0) && decide (((a + n1 : Nat) : Int) = (m : Int))) := by rw [hstep, hoo]; rfl
    repeat (first | refine gfo ?_ | (refine ks ?_; intro w hM))
    by_cases r1 : (a : Int) = 0
    · rw [decide_eq_true r1] at hO ⊢
      repeat (first | refine gfo ?_ | (refine ks ?_; intro w hM))
      exact x_goes (n - 1) rfl (by omega) ⟨j + 1, _, exj rfl, by omega, by rw [hO]; rfl, hM.sub (by (repeat constructor))⟩
    · rw [decide_eq_false r1] at hO ⊢
      repeat (first | refine gfo ?_ | (refine ks ?_; intro w hM))
      exact x_goes (n - 1) rfl (by omega) ⟨j + 1, false, exj rfl, by omega, by rw [hO]; rfl, hM.sub (by (repeat constructor))⟩
  · rw [decide_eq_false q0]
    (try refine gwg ?_)
    (intro w hc; have hM := hM.call hc)
    refine c_condb rfl (fun h => by cases h) (fun _ => ?_)
    repeat (first | refine gfob ?_ | (refine ks ?_; intro w hM))
    refine kdr hM (by kernel_rfl) (by kernel_rfl) (fun w hM => ?_)
    (try refine gwg ?_)
    rw [decide_eq_false (by omega : ¬ ((a : Int) < 0))]
    (try refine gwg ?_)
    rw [decide_eq_false (by omega : ¬ (((a + n1 : Nat) : Int) ≤ (a : Int)))]
    (try refine gwg ?_)
    rw [decide_eq_false (by omega : ¬ ((lv.length : Int) < ((a + n1 : Nat) : Int)))]
    (try refine gwg ?_)
    (try ((with_reducible apply is_gg); first | refine gtg ?_ | refine gfg ?_ | refine gug ?_)); refine ldbrg (n := 32) (hM.blk (b := b22) (by (repeat constructor))) (by simp) rfl (ds := h.1.map u8v) (hf_take _ _ _ _) (hf_len h) ?_
    (try refine gwg ?_)
    (try ((with_reducible apply is_gg); first | refine gtg ?_ | refine gfg ?_ | refine gug ?_)); refine kcutg hRL (fun vs hV => ?_) (i := (a : Int)) (j := ((a + n1 : Nat) : Int))
    rw [Int.toNat_natCast, Int.toNat_natCast] at hV
    have hV : (Ty.enc eH).Rd [] w3 vs (sg L a n1) := hV
    (try refine gwg ?_)
    (try ((with_reducible apply is_gg); first | refine gtg ?_ | refine gfg ?_ | refine gug ?_)); refine kcag (v := hv (rootH (sg L a n1)).1) hM (fun w1 hM1 => rroot_any _ vs (sg L a n1) w1 rfl (hV.ch hM1.ch) (by rw [sg_len s2]; omega)) ?_
    (try ((with_reducible apply is_gg); first | refine gtg ?_ | refine gfg ?_ | refine gug ?_)); refine wg_val (fun _ _ => r_neq8 (n := 32) (a := h.1) (b := (rootH (sg L a n1)).1) (by kernel_rfl) rfl rfl h.2 (rootH (sg L a n1)).2) ?_
    rw [decide_eq_true (congrArg Subtype.val hrt : h.1 = (rootH (sg L a n1)).1)]
    (try refine gwg ?_)
    (intro w hc; have hM := hM.call hc)
    refine c_condb rfl (fun h => by cases h) (fun _ => ?_)
    repeat (first | refine gfo ?_ | (refine ks ?_; intro w hM))
    cases hoo : o with
    | true =>
      repeat (first | refine gfo ?_ | (refine ks ?_; intro w hM))
      exact x_goes (n - 1) rfl (by omega) ⟨j + 1, true, exj rfl, by omega, by rw [hstep, hoo]; rfl, hM.sub (by (repeat constructor))⟩
    | false =>
    have hO : (rs.take (j + 1)).any (isO m) = (decide ((a : Int) = 0) && decide (((a + n1 : Nat) : Int) = (m : Int))) := by rw [hstep, hoo]; rfl
    repeat (first | refine gfo ?_ | (refine ks ?_; intro w hM))
    by_cases r1 : (a : Int) = 0
    · rw [decide_eq_true r1] at hO ⊢
      repeat (first | refine gfo ?_ | (refine ks ?_; intro w hM))
      exact x_goes (n - 1) rfl (by omega) ⟨j + 1, _, exj rfl, by omega, by rw [hO]; rfl, hM.sub (by (repeat constructor))⟩
    · rw [decide_eq_false r1] at hO ⊢
      repeat (first | refine gfo ?_ | (refine ks ?_; intro w hM))
      exact x_goes (n - 1) rfl (by omega) ⟨j + 1, false, exj rfl, by omega, by rw [hO]; rfl, hM.sub (by (repeat constructor))⟩
end Go.Proofs.YtkdbinchlpdkmaaDoor

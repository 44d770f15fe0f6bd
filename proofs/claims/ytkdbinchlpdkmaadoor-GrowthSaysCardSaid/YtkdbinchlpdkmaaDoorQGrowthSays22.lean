/- Walks of growth: facts in memory; a fact of an input, of two sides; the ways.
   Walks of growth: what a path says, the program's. -/
import Derived.Test.YtkdbinchlpdkmaaDoorQGrowthSays18
import Derived.Test.YtkdbinchlpdkmaaDoorQGrowthSays21
import Derived.Test.YtkdbinchlpdkmaaDoorQGrowthSays00
set_option linter.unusedVariables false
set_option linter.unusedSimpArgs false
namespace Go.Proofs.YtkdbinchlpdkmaaDoor
open Go Go.RowKit Go.Proofs.E
attribute [local irreducible] Go.wpList Go.Code.wp Go.Proofs.E.exec Go.Proofs.E.wpLexG
abbrev Fv := Int × Int × Hs × SlV
theorem hf_len (h : Hs) : (h.1.map u8v).length = 32 := by rw [List.length_map]; exact h.2
abbrev fC (lo hi : Int) (h : Hs) (s : Value) : List Value := .int .i64 lo :: .int .i64 hi :: (h.1.map u8v ++ [s])
theorem fC_one (x : Fv) : ∀ u ∈ fC x.1 x.2.1 x.2.2.1 (slv x.2.2.2), u.oneCell' = true := by
  intro u hu
  simp only [fC, List.mem_cons, List.mem_append, List.not_mem_nil, or_false] at hu
  rcases hu with rfl | rfl | hu | rfl
  · rfl
  · rfl
  · exact one_u8 u hu
  · rfl
theorem fC_len (x : Fv) : (fC x.1 x.2.1 x.2.2.1 (slv x.2.2.2)).length = 35 := by simp [x.2.2.1.2]
abbrev eFv : En Fv := { f := fun x => fC x.1 x.2.1 x.2.2.1 (slv x.2.2.2), n := 35, hl := fC_len, h1 := fC_one }
theorem hf_get (lo hi : Int) (h : Hs) (s : Value) : (fC lo hi h s)[34]? = some s := by
  unfold fC
  rw [List.getElem?_cons_succ, List.getElem?_cons_succ, List.getElem?_append_right (by rw [hf_len]; omega), hf_len]
  rfl
theorem hf_take (lo hi : Int) (h : Hs) (s : Value) : ((fC lo hi h s).drop 2).take 32 = h.1.map u8v := by
  show ((h.1.map u8v ++ [s])).take 32 = _
  exact List.take_left' (hf_len h)
theorem hf_clen (lo hi : Int) (h : Hs) (s : Value) : (fC lo hi h s).length = 35 := by simp [h.2]
theorem kldf {P : Program} {ops : Array Oper} {Q : Exit → Act → World → Prop} {rest : List Oper} {l l' : List Value} {O : List Nat} {w0 w : World} {L L' : List As} {T : TypeId} {pos : String} {after : Array Edge} {d : Nat} {x : Operand} {E E' : TypeId} {b o by_ : Nat} {cs : List Value} {z : Value} {a : Hs} [hr : Row P E] [hi : Inf P E z 32 by_] (hM : Mem O w0 w L) (h : wpList P ops Q rest (fr l') w)
    (hx : ev l x = .pointer (some ⟨b, o, none⟩) := by exact rfl) (hp : Pick L (.cell b cs E') L' := by (repeat (first | exact Go.Proofs.E.Pick.here | apply Go.Proofs.E.Pick.there))) (hd : (cs.drop o).take 32 = a.1.map u8v := by exact hf_take _ _ _ _)
    (hl : l.set d (.agg (a.1.map u8v).toArray) = l' := by first | (dsimp only [List.set, Go.Proofs.E.set1, Go.Proofs.E.ev, Go.Proofs.E.nth]; done) | exact rfl) :
    wpList P ops Q ({ dst := some d, op := .load E x, type := T, pos := pos, after := after, guard := none } :: rest) (fr l) w := by
  subst hl
  exact kldp (a.1.map u8v) hM hd h hx hp (hf_len a) rfl
theorem gfo {G H : Prop} (h : H) (s : Hd H → G := by
  intro h
  (first | ((with_reducible apply is_ld); first | refine kld hM ?_ | refine kldw hM ?_ | refine kldf hM ?_ | refine kldw hM ?_ (hn := hf_clen _ _ _ _) | refine kle hM ?_ | refine klew hM ?_ | refine kld hM ?_ (hv := by exact hf_get _ _ _ _)) | ((with_reducible apply is_st); refine su ?_) | ((with_reducible apply is_gd); first | refine gt ?_ | refine gf ?_ | refine gu ?_) | ((with_reducible apply is_en); refine en ?_) | (with_reducible apply c_region) | refine ws ?_ | refine x_block_other (by decide) ?_ | fail)
  repeat (first | ((with_reducible apply is_ld); first | refine kld hM ?_ | refine kldw hM ?_ | refine kldf hM ?_ | refine kldw hM ?_ (hn := hf_clen _ _ _ _) | refine kle hM ?_ | refine klew hM ?_ | refine kld hM ?_ (hv := by exact hf_get _ _ _ _)) | ((with_reducible apply is_st); refine su ?_) | ((with_reducible apply is_gd); first | refine gt ?_ | refine gf ?_ | refine gu ?_) | ((with_reducible apply is_en); refine en ?_) | (with_reducible apply c_region) | refine ws ?_ | refine x_block_other (by decide) ?_)
  exact h.out) : G := s ⟨h⟩
theorem gfob {G H : Prop} (h : H) (s : Hd H → G := by
  intro h
  (first | ((with_reducible apply is_ld); first | refine kld hM ?_ | refine kldw hM ?_ | refine kldf hM ?_ | refine kldw hM ?_ (hn := hf_clen _ _ _ _) | refine kle hM ?_ | refine klew hM ?_ | refine kld hM ?_ (hv := by exact hf_get _ _ _ _)) | ((with_reducible apply is_st); refine su ?_) | ((with_reducible apply is_gd); first | refine gt ?_ | refine gf ?_ | refine gu ?_) | ((with_reducible apply is_en); refine en ?_) | refine ws ?_ | refine x_block_other (by decide) ?_ | fail)
  repeat (first | ((with_reducible apply is_ld); first | refine kld hM ?_ | refine kldw hM ?_ | refine kldf hM ?_ | refine kldw hM ?_ (hn := hf_clen _ _ _ _) | refine kle hM ?_ | refine klew hM ?_ | refine kld hM ?_ (hv := by exact hf_get _ _ _ _)) | ((with_reducible apply is_st); refine su ?_) | ((with_reducible apply is_gd); first | refine gt ?_ | refine gf ?_ | refine gu ?_) | ((with_reducible apply is_en); refine en ?_) | refine ws ?_ | refine x_block_other (by decide) ?_)
  exact h.out) : G := s ⟨h⟩
def dF (f : Fv × List UInt8) : Ft := (f.1.1, f.1.2.1, f.1.2.2.1, f.2)
def inpF (f : Fv × List UInt8) : SlV × List UInt8 := (f.1.2.2.2, f.2)
/-- Facts that a walk owns: the row of them, and their inputs. -/
abbrev ownF (B : Nat → Prop) (v : Value) (fs : List (Fv × List UInt8)) : List As := [.row eFv 74 v (fs.map (·.1)), .many tU8 B (fs.map inpF)]
def plF : Nat → Option (Nat × Nat) := (#[(0, 1), (1, 1), (2, 32), (34, 1)][·]?)
theorem spl_hash (lo hi : Int) (h h' : Hs) (s : Value) : spl (fC lo hi h s) 2 (hv h'.1).cells.toList = fC lo hi h' s := by
  have e : (hv h'.1).cells.toList = h'.1.map u8v := by simp [hv, Value.cells]
  rw [e]
  unfold spl
  rw [hf_len]
  show [.int .i64 lo, .int .i64 hi] ++ _ ++ ((h.1.map u8v ++ [s]).drop 32) = _
  rw [List.drop_left' (hf_len h)]
  simp [fC]
theorem spl_inp (lo hi : Int) (h : Hs) (s s' : Value) (hs : s'.cells = #[s']) : spl (fC lo hi h s) 34 s'.cells.toList = fC lo hi h s' := by
  rw [hs]
  unfold spl
  have e1 : (fC lo hi h s).take 34 = .int .i64 lo :: .int .i64 hi :: (h.1.map u8v) := by
    show (.int .i64 lo : Value) :: .int .i64 hi :: ((h.1.map u8v ++ [s]).take 32) = _
    rw [List.take_left' (hf_len h)]
  rw [e1, List.drop_of_length_le (by rw [hf_clen]; simp)]
  simp [fC]
theorem fl4 (lo hi : Int) (h : Hs) (s : SlV) : Fl plF (fC 0 0 zeroH (.slice none 0 0)) [(0, .int .i64 lo), (1, .int .i64 hi), (2, hv h.1), (3, slv s)] (eFv.f (lo, hi, h, s)) :=
  .cons rfl rfl (by rw [hf_clen]; omega) (.cons rfl rfl (by show 1 + 1 ≤ (fC lo 0 zeroH (.slice none 0 0)).length; rw [hf_clen]; omega) (.cons rfl (by simp [hv, Value.cells, h.2]) (by show 2 + 32 ≤ (fC lo hi zeroH (.slice none 0 0)).length; rw [hf_clen]; omega)
    (.cons rfl rfl (by
      show 34 + 1 ≤ (spl (fC lo hi zeroH (.slice none 0 0)) 2 (hv h.1).cells.toList).length
      rw [spl_hash, hf_clen]; omega) (.nil (by
      show spl (spl (fC lo hi zeroH (.slice none 0 0)) 2 (hv h.1).cells.toList) 34 (slv s).cells.toList = _
      rw [spl_hash, spl_inp _ _ _ _ _ rfl])))))
theorem fl3 (lo hi : Int) (h : Hs) : Fl plF (fC 0 0 zeroH (.slice none 0 0)) [(0, .int .i64 lo), (1, .int .i64 hi), (2, hv h.1)] (eFv.f (lo, hi, h, (none, 0, 0))) :=
  .cons rfl rfl (by rw [hf_clen]; omega) (.cons rfl rfl (by show 1 + 1 ≤ (fC lo 0 zeroH (.slice none 0 0)).length; rw [hf_clen]; omega) (.cons rfl (by simp [hv, Value.cells, h.2]) (by show 2 + 32 ≤ (fC lo hi zeroH (.slice none 0 0)).length; rw [hf_clen]; omega)
    (.nil (by
      show spl (fC lo hi zeroH (.slice none 0 0)) 2 (hv h.1).cells.toList = _
      rw [spl_hash]
      rfl))))
set_option maxHeartbeats 4000000 in
theorem fof_any (lo hi : Int) (s : SlV) (bs : List UInt8) (w0 : World) (hK : Laid w0) (hR : tU8.Rd [] w0 (slv s) bs) (hb : bs.length ≤ 281474976710656) :
    Calls Tryd.prog 70 #[.int .i64 lo, .int .i64 hi, slv s] w0 (Ret fun u w' => u = .agg (eFv.f (lo, hi, inH bs, s)).toArray ∧ Ch [] w0 w') := by
  have hM := Mem.start w0
  refine enter [.int .i64 lo, .int .i64 hi, slv s, undef, undef, undef, undef, undef, undef, undef, undef, undef, undef] Tryd.func70 rfl rfl ?_
  repeat (first | refine gw ?_ | (refine ks ?_; intro w hM))
  refine kal hM (fun w b6 hM => ?_)
  repeat (first | refine gw ?_ | (refine ks ?_; intro w hM))
  refine kca hM (sum_any (slv s) bs w (hK.ch hM.ch (by simp)) (hR.ch hM.ch) hb) (X := hv (inH bs).1) (fun w hM => ?_)
  repeat (first | refine gw ?_ | (refine ks ?_; intro w hM))
  (try ((with_reducible apply is_gd); first | refine gt ?_ | refine gf ?_ | refine gu ?_)); refine wl_val (r_bldS (vs := [(0, .int .i64 lo), (1, .int .i64 hi), (2, hv (inH bs).1), (3, slv s)]) (eFv.f (lo, hi, inH bs, s)) (z := fC 0 0 zeroH (.slice none 0 0)) (place := plF) (by intro ps; kernel_rfl) rfl (fl4 _ _ _ _)) ?_
  refine kstw (vs := eFv.f (lo, hi, inH bs, s)) hM (fun w hM => ?_) (hln := eFv.hl _) (h1 := eFv.h1 _)
  repeat (first | refine gw ?_ | (refine ks ?_; intro w hM))
  exact koc hM rfl ⟨rfl, hM.ch⟩ (hn := eFv.hl _)
theorem rof2 {w : World} {v1 v2 : SlV} {a b : List UInt8} (h1 : tU8.Rd [] w (slv v1) a) (h2 : tU8.Rd [] w (slv v2) b) : ∀ p ∈ [(v1, a), (v2, b)], tU8.Rd [] w (slv p.1) p.2 := fun p hp => by
  simp only [List.mem_cons, List.not_mem_nil, or_false] at hp
  rcases hp with rfl | rfl
  · exact h1
  · exact h2
theorem cell8 {O : List Nat} {w0 w : World} {L L' : List As} {b : Nat} {E : TypeId} (h : Mem O w0 w L) (a : Hs) (hp : Pick L (.cell b (a.1.map u8v) E) L') : tU8.Rd [] w (slv (some ⟨b, 0, none⟩, 32, 32)) a.1 := by
  have := (h.blk hp).rd8 (S := []) (cap := 32) (by simp) (by rw [a.2]; omega) (by rw [a.2]; omega)
  rwa [a.2] at this
theorem rows8 {O : List Nat} {w0 w : World} {L L' : List As} {E : TypeId} {v : Value} {ps : List (SlV × List UInt8)} (h : Mem O w0 w L) (hp : Pick L (.row eSl E v (ps.map (·.1))) L') (hps : ∀ p ∈ ps, tU8.Rd [] w (slv p.1) p.2) : (Ty.sl tU8).Rd [] w v (ps.map (fun p : SlV × List UInt8 => p.2)) := Ty.Rd.unraw (h.rowRdO (en := eSl) hp) hps
theorem zero_cells : (Value.agg (List.replicate 32 (Value.int .u8 0)).toArray).cells.toList = zeroH.1.map u8v := by kernel_rfl
set_option maxHeartbeats 8000000 in
theorem fnode_any (lo hi : Nat) (a b : Hs) (w0 : World) (hK : Laid w0) :
    Calls Tryd.prog 73 #[.int .i64 (lo : Int), .int .i64 (hi : Int), hv a.1, hv b.1] w0 (Ret fun u w' => ∃ (s : SlV) (B : Nat → Prop), u = .agg (eFv.f ((lo : Int), (hi : Int), nodeH a b, s)).toArray ∧ Ch [] w0 w' ∧ Mem [] w0 w' [.frd tU8 B (slv s) (1 :: (a.1 ++ b.1))]) := by
  have hM := Mem.start w0
  have ha := a.2
  have hb := b.2
  refine enter [.int .i64 (lo : Int), .int .i64 (hi : Int), hv a.1, hv b.1, undef, undef, undef, undef, undef, undef, undef, undef, undef, undef, undef, undef] Tryd.func73 rfl rfl ?_
  repeat (first | refine gw ?_ | (refine ks ?_; intro w hM))
  refine kbx hM (fun w b6 hM => ?_)
  refine kbx hM (fun w b7 hM => ?_)
  refine kal hM (fun w b8 hM => ?_)
  have hM : Mem [] w0 w [.cell b8 (fC 0 0 zeroH (.slice none 0 0)) 74, .cell b7 (b.1.map u8v) 30, .cell b6 (a.1.map u8v) 30] := hM
  repeat (first | refine gwb ?_ | (refine ks ?_; intro w hM))
  refine kdrl 7 hM (by kernel_rfl) (by kernel_rfl) (by kernel_rfl) (fun w hM => ?_)
  (try refine gwg ?_)
  refine wg_val (fun _ _ => r_cut_arr0 rfl) ?_
  refine wg_val (fun _ _ => r_cut_arr0 rfl) ?_
  refine lastg rfl (by kernel_rfl) (fun w hc => ?_)
  have hM := hM.call hc
  refine kbsC (en := eSl) (vs := [slv (some ⟨b6, 0, none⟩, 32, 32), slv (some ⟨b7, 0, none⟩, 32, 32)]) [(some ⟨b6, 0, none⟩, 32, 32), (some ⟨b7, 0, none⟩, 32, 32)] hM (fun w b13 hc hM => ?_)
  refine x_mid rfl hc ?_
  refine lastg rfl (by kernel_rfl) (fun w hc => ?_)
  have hM := hM.call hc
  have hRb := rows8 (ps := [((some ⟨b6, 0, none⟩, 32, 32), a.1), ((some ⟨b7, 0, none⟩, 32, 32), b.1)]) hM (by (repeat constructor)) (rof2 (cell8 hM a (b := b6) (by (repeat constructor))) (cell8 hM b (b := b7) (by (repeat constructor))))
  refine ca (bytes_any 1 _ _ w hRb (by simp [ha, hb])) ?_
  rintro v14 w2 ⟨hO, hc2⟩
  have hM := hM.got hc2 hO
  simp only [List.map_cons, List.map_nil, List.flatten_cons, List.flatten_nil, List.append_nil] at hM
  obtain ⟨s, rfl⟩ : ∃ u : SlV, v14 = slv u := by obtain ⟨A, c, rfl, _⟩ := hO.form; exact ⟨(A, _, c), rfl⟩
  have hM := hM.rowFrd (by simp [ha, hb])
  refine x_mid rfl hc2 ?_
  refine lastg rfl (by kernel_rfl) (fun w hc => ?_)
  have hM := hM.call hc
  refine ca (fof_any lo hi s (1 :: (a.1 ++ b.1)) w (hK.ch hM.ch (by simp)) (hM.frdRd (by (repeat constructor))) (by simp [ha, hb])) ?_
  rintro _ w3 ⟨rfl, hc3⟩
  have hM := hM.call hc3
  refine x_mid rfl hc3 ?_
  refine lastg rfl (by kernel_rfl) (fun w hc => ?_)
  have hM := hM.call hc
  refine kstw (vs := eFv.f ((lo : Int), (hi : Int), nodeH a b, s)) hM (fun w hM => ?_) (hln := eFv.hl _) (hf := hf_clen _ _ _ _) (h1 := eFv.h1 _)
  refine x_late rfl rfl ?_
  (try refine wkg ?_)
  (intro w hc; have hM := hM.call hc)
  repeat (first | refine gw ?_ | (refine ks ?_; intro w hM))
  exact koc hM rfl ⟨s, _, rfl, hM.ch, hM.sub (by (repeat constructor))⟩ (hn := eFv.hl _)
/-! ### The ways -/
abbrev eWy : En Wy := { f := fun t => [.int .i64 (t.1 : Int), .int .i64 (t.2.1 : Int), .int .i64 (t.2.2.1 : Int), .bool t.2.2.2], n := 4, hl := fun _ => rfl, h1 := fun t u hu => by simp at hu; rcases hu with rfl | rfl | rfl | rfl <;> rfl }
set_option maxHeartbeats 8000000 in
theorem gup_seq {ts : List Wy} {v : Value} {w0 : World} (b1 : Nat) (hb : ts.length ≤ 1099511627776) :
    SeqM Tryd.prog 9 116 #[.pointer (some ⟨b1, 0, none⟩)] (fun x : Nat × Wy => #[.int .i64 (x.1 : Int), .agg (eWy.f x.2).toArray]) (uplW ts) [] w0 [.cell b1 [v] 138, .row eWy 141 v ts] := by
  intro r Inv Stp w La hM0 hInv hY
  refine callsIn_wide.2 ?_
  have hM := hM0.perm List.perm_append_comm
  suffices h : Calls Tryd.prog 116 #[.func (.yield r) #[] #[], .pointer (some ⟨b1, 0, none⟩)] w (Ret fun _ W' => ∃ La', (Inv (uplW ts) La' ∨ ∃ pre, Stp pre La') ∧ Mem [] w0 W' (La' ++ [.cell b1 [v] 138, .row eWy 141 v ts])) from
    h.mono fun e w ⟨v, he, h⟩ => ⟨⟨v, he⟩, h⟩
  have hzl := uplW_len ts
  obtain ⟨A1, c1, rfl, _⟩ := Own.form ((hM.row0 (v := v) (xs := ts) (by (repeat constructor))))
  refine enter [.func (.yield r) #[] #[], .pointer (some ⟨b1, 0, none⟩), undef, undef, undef, undef, undef, undef, undef, undef, undef, undef, undef, undef, undef, undef, undef, undef, undef, undef, undef, undef] Tryd.func116 rfl rfl ?_
  simp only [List.cons_append, List.nil_append] at hM
  repeat (first | refine gw ?_ | (refine ks ?_; intro w hM))
  
  refine c_loop (fun k l w => ∃ (i : Nat) (La : List As), (∃ jj : Nat → Value, l = [.func (.yield r) #[] #[], .pointer (some ⟨b1, 0, none⟩), jj 2, jj 3, jj 4, .int .i64 (ts.length : Int), .int .i64 (i : Int), jj 7, jj 8, jj 9, jj 10, jj 11, jj 12, jj 13, jj 14, jj 15, jj 16, jj 17, jj 18, jj 19, jj 20, jj 21]) ∧ k + i = ts.length ∧ Inv ((uplW ts).take i) La ∧ Mem [] w0 w (.cell b1 [.slice A1 ts.length c1] 138 :: .row eWy 141 (.slice A1 ts.length c1) ts :: La)) ts.length
    ⟨0, La, exj rfl, rfl, hInv, hM⟩ ?_
  clear hM hM0 hInv
  rintro k l w ⟨i, La, ⟨jj, rfl⟩, hki, hInv, hM⟩
  repeat (first | refine gw ?_ | (refine ks ?_; intro w hM))
  refine c_cond rfl (fun hi => ?_) (fun hi => ?_)
  · have hiu : i < ts.length := by omega
    repeat (first | refine gwb ?_ | (refine ks ?_; intro w hM))
    obtain ⟨b, o, hA1, hat⟩ := rd_at (hM.rowRdO (en := eWy) (v := .slice A1 ts.length c1) (xs := ts) (by (repeat constructor))) (fun h => by subst h; simp at hiu)
    obtain ⟨x, hx⟩ : ∃ x, ts[ts.length - 1 - i]? = some x := ⟨_, List.getElem?_eq_getElem (by omega)⟩
    obtain ⟨hb, _, cs, hcs, hrow⟩ := hat _ _ hx
    have hcs' : cs = eWy.f x := hcs
    subst hcs'
    have hget := uplW_get hx hiu
    have hsn : (uplW ts).take (i + 1) = (uplW ts).take i ++ [(i, x)] := by rw [List.take_add_one, hget]; rfl
    have hyl := hY ((uplW ts).take i) (i, x) w La _ (by rw [← hsn]; exact List.take_prefix _ _) hInv (hM.perm (List.perm_append_comm (l₁ := [_, _]) (l₂ := La)))
    refine c_region ?_
    repeat (first | refine gwb ?_ | (refine ks ?_; intro w hM))
    refine (wpIn_wide (n := 9)).1 (wpIn_region_lit ?_)
    refine li_val (r_move _) ?_
    refine li_val (r_move _) ?_
    refine li_val (r_load_one rfl ((hM.blk (b := b1) (by (repeat constructor))).cell rfl)) ?_
    refine li_val (r_load_one rfl ((hM.blk (b := b1) (by (repeat constructor))).cell rfl)) ?_
    refine li_val (r_len rfl) ?_
    refine li_val (r_to (r_sub rfl rfl) (wrap_rng rfl (by omega) (by omega))) ?_
    refine li_val (r_move _) ?_
    refine li_val (r_to (r_sub rfl rfl) (wrap_rng rfl (by omega) (by omega))) ?_
    refine li_val (r_indexAddr (b := b) (o := o) (n := ts.length) (c := c1) (by rw [hA1]; rfl) rfl (by omega) (by omega)) ?_
    rw [show ((ts.length : Int) - 1 - (i : Int)).toNat = ts.length - 1 - i by omega]
    refine li_val (r_load_row rfl hrow (eWy.hl x)) ?_
    refine li_yield rfl rfl hyl ?_
    rintro e w2 (⟨rfl, La2, hI2, hM2⟩ | ⟨rfl, La2, hI2, hM2⟩)
    · refine ⟨_, rfl, ?_⟩
      refine li_val (r_not rfl) ?_
      refine wpListIn_nil ?_
      repeat (first | refine gwb ?_ | (refine ks ?_; intro w hM))
      refine c_condb rfl (fun h => by cases h) (fun _ => ?_)
      have hM := hM2.perm List.perm_append_comm
      repeat (first | refine gw ?_ | (refine ks ?_; intro w hM))
      exact x_goes (k - 1) rfl (by omega) ⟨i + 1, La2, exj rfl, by omega, by rw [hsn]; exact hI2, hM⟩
    · refine ⟨_, rfl, ?_⟩
      refine li_val (r_not rfl) ?_
      refine wpListIn_nil ?_
      repeat (first | refine gwb ?_ | (refine ks ?_; intro w hM))
      refine c_condb rfl (fun _ => ?_) (fun h => by cases h)
      repeat (first | refine gw ?_ | (refine ks ?_; intro w hM))
      exact out0 rfl ⟨La2, .inr ⟨_, hI2⟩, hM2⟩
  · repeat (first | refine gw ?_ | (refine ks ?_; intro w hM))
    rw [List.take_of_length_le (by omega)] at hInv
    exact out0 rfl ⟨La, .inl hInv, hM.perm (List.perm_append_comm (l₁ := [_, _]) (l₂ := La))⟩
theorem gup_any (s : SlV) (w0 : World) : Calls Tryd.prog 71 #[slv s] w0 (Ret fun u w' => ∃ b1, u = .func (.func 116) #[] #[.pointer (some ⟨b1, 0, none⟩)] ∧ Mem [] w0 w' [.cell b1 [slv s] 138]) := by
  have hM := Mem.start w0
  refine enter [slv s, undef, undef, undef] Tryd.func71 rfl rfl ?_
  repeat (first | refine gw ?_ | (refine ks ?_; intro w hM))
  refine kbx (v := slv s) hM (fun w b1 hM => ?_)
  repeat (first | refine gw ?_ | (refine ks ?_; intro w hM))
  (try ((with_reducible apply is_gd); first | refine gt ?_ | refine gf ?_ | refine gu ?_)); refine wl_val (r_makeFunc (cs := [.tmp 1])) ?_
  repeat (first | refine gw ?_ | (refine ks ?_; intro w hM))
  have hM : Mem [] w0 w [.cell b1 [slv s] 138] := hM
  exact out1 rfl ⟨b1, rfl, hM⟩
theorem waysF_len : ∀ f lo n i, (waysF f lo n i).length ≤ f := fun f lo n i => by rw [ways_turns]; exact turnsF_len f n i
set_option maxHeartbeats 4000000 in
theorem ways_any (n i : Nat) (hn : n ≤ 1099511627776) (hi : i < n) (w : World) :
    Calls Tryd.prog 72 #[.int .i64 (n : Int), .int .i64 (i : Int)] w (Ret fun u w' => Ch [] w w' ∧ Go.Proofs.E.Own eWy w' w.heap.size 141 u (waysF n 0 n i)) := by
  have hM := Mem.start w
  refine enter [.int .i64 (n : Int), .int .i64 (i : Int), undef, undef, undef, undef, undef, undef, undef, undef, undef, undef, undef, undef, undef, undef, undef, undef, undef, undef, undef, undef, undef, undef, undef, undef, undef, undef, undef, undef, undef, undef, undef, undef, undef, undef] Tryd.func72 rfl rfl ?_
  repeat (first | refine gw ?_ | (refine ks ?_; intro w hM))
  have hM0 := hM.nilRow eWy 141
  clear hM
  
  refine c_loop (fun k l w' => ∃ (lo m : Nat) (v5 : Value) (ts : List Wy), (∃ jj : Nat → Value, l = [jj 0, .int .i64 (i : Int), jj 2, jj 3, jj 4, v5, .int .i64 (lo : Int), .int .i64 ((lo + m : Nat) : Int), jj 8, jj 9, jj 10, jj 11, jj 12, jj 13, jj 14, jj 15, jj 16, jj 17, jj 18, jj 19, jj 20, jj 21, jj 22, jj 23, jj 24, jj 25, jj 26, jj 27, jj 28, jj 29, jj 30, jj 31, jj 32, jj 33, jj 34, jj 35]) ∧ m ≤ k ∧ lo ≤ i ∧ i < lo + m ∧ lo + m ≤ n ∧ ts.length + m ≤ n ∧ ts ++ waysF k lo m (i - lo) = waysF n 0 n i ∧ Mem [] w w' [.row eWy 141 v5 ts]) n
    ⟨0, n, .slice none 0 0, [], exj (by rw [Nat.zero_add]; rfl), Nat.le_refl _, Nat.zero_le _, by omega, by omega, by simp, by rw [Nat.sub_zero]; rfl, hM0⟩ ?_
  clear hM0
  rintro k l w1 ⟨lo, m, v5, ts, ⟨jj, rfl⟩, hmk, hlo, him, hlm, htl, hts, hM⟩
  repeat (first | refine gw ?_ | (refine ks ?_; intro w hM))
  rw [show ((lo + m : Nat) : Int) - (lo : Int) = (m : Int) by omega]
  refine c_cond rfl (fun h1 => ?_) (fun h1 => ?_)
  · have h2 : 2 ≤ m := by omega
    have hsp := splitN_lt (n := m) h2 (by omega)
    obtain ⟨f, rfl⟩ : ∃ f, k = f + 1 := ⟨k - 1, by omega⟩
    rw [waysF, if_neg (by omega)] at hts
    repeat (first | refine gw ?_ | (refine ks ?_; intro w hM))
    rw [show ((lo + m : Nat) : Int) - (lo : Int) = (m : Int) by omega]
    refine kcs (split_any (m : Int) (by omega) _) ?_
    rw [splitZ_nat]
    repeat (first | refine gw ?_ | (refine ks ?_; intro w hM))
    rw [show (lo : Int) + (splitN m : Int) = ((lo + splitN m : Nat) : Int) by omega]
    obtain ⟨A5, c5, rfl, _⟩ := Own.form (hM.row (v := v5) (xs := ts) (by (repeat constructor)))
    by_cases hs : i - lo < splitN m
    · rw [if_pos hs] at hts
      rw [decide_eq_false (by omega : ¬ (((lo + splitN m : Nat) : Int) ≤ (i : Int)))]
      (try ((with_reducible apply is_gd); first | refine gt ?_ | refine gf ?_ | refine gu ?_)); refine wl_val (r_bldS (vs := [(0, .int .i64 (lo : Int)), (1, .int .i64 ((lo + splitN m : Nat) : Int)), (2, .int .i64 ((lo + m : Nat) : Int)), (3, .bool false)]) (eWy.f (lo, lo + splitN m, lo + m, false)) (z := [.int .i64 0, .int .i64 0, .int .i64 0, .bool false]) (place := (#[(0, 1), (1, 1), (2, 1), (3, 1)][·]?)) (by intro ps; kernel_rfl) rfl (.cons rfl rfl (by simp) (.cons rfl rfl (by simp [spl, Value.cells]) (.cons rfl rfl (by simp [spl, Value.cells]) (.cons rfl rfl (by simp [spl, Value.cells]) (.nil rfl)))))) ?_
      refine kpu (en := eWy) (lo, lo + splitN m, lo + m, false) hM (fun _ v29 w hM => ?_)
      repeat (first | refine gw ?_ | (refine ks ?_; intro w hM))
      refine c_cond rfl (fun _ => ?_) (fun h => by omega)
      repeat (first | refine gw ?_ | (refine ks ?_; intro w hM))
      exact x_goes f rfl (by omega) ⟨lo, splitN m, v29, ts ++ [(lo, lo + splitN m, lo + m, false)], exj rfl, by omega, hlo, by omega, by omega, by simp; omega, by rw [List.append_assoc]; exact hts, hM⟩
    · rw [if_neg hs] at hts
      rw [decide_eq_true (by omega : (((lo + splitN m : Nat) : Int) ≤ (i : Int)))]
      (try ((with_reducible apply is_gd); first | refine gt ?_ | refine gf ?_ | refine gu ?_)); refine wl_val (r_bldS (vs := [(0, .int .i64 (lo : Int)), (1, .int .i64 ((lo + splitN m : Nat) : Int)), (2, .int .i64 ((lo + m : Nat) : Int)), (3, .bool true)]) (eWy.f (lo, lo + splitN m, lo + m, true)) (z := [.int .i64 0, .int .i64 0, .int .i64 0, .bool false]) (place := (#[(0, 1), (1, 1), (2, 1), (3, 1)][·]?)) (by intro ps; kernel_rfl) rfl (.cons rfl rfl (by simp) (.cons rfl rfl (by simp [spl, Value.cells]) (.cons rfl rfl (by simp [spl, Value.cells]) (.cons rfl rfl (by simp [spl, Value.cells]) (.nil rfl)))))) ?_
      refine kpu (en := eWy) (lo, lo + splitN m, lo + m, true) hM (fun _ v29 w hM => ?_)
      repeat (first | refine gw ?_ | (refine ks ?_; intro w hM))
      refine c_cond rfl (fun h => by omega) (fun _ => ?_)
      repeat (first | refine gw ?_ | (refine ks ?_; intro w hM))
      refine x_goes f rfl (by omega) ⟨lo + splitN m, m - splitN m, v29, ts ++ [(lo, lo + splitN m, lo + m, true)], exj (by rw [show lo + splitN m + (m - splitN m) = lo + m by omega]; rfl), by omega, by omega, by omega, by omega, by simp; omega, ?_, hM⟩
      rw [List.append_assoc, show i - (lo + splitN m) = i - lo - splitN m by omega]
      exact hts
  · have h2 : m = 1 := by omega
    subst h2
    have he : waysF k lo 1 (i - lo) = [] := by
      cases k with
      | zero => rfl
      | succ k => rw [waysF, if_pos (by omega)]
    rw [he, List.append_nil] at hts
    repeat (first | refine gw ?_ | (refine ks ?_; intro w hM))
    rw [← hts]
    exact out1 rfl ⟨hM.ch, hM.row (by (repeat constructor))⟩
end Go.Proofs.YtkdbinchlpdkmaaDoor
set_option linter.unusedVariables false
set_option linter.unusedSimpArgs false
namespace Go.Proofs.E
open Go Go.RowKit
section
variable {P : Program} {ops : Array Oper} {N : Nat} {S : List Nat} {Q : Exit → Act → World → Prop} {z : List Nat × List Nat} {fuel : Nat} {listed : Array Bool} {l : List Value} {w : World} {T : TypeId} {pos : String} {after : Array Edge}
/-- A load of a whole element. -/
theorem ynar {α : Type} {en : En α} {d : Nat} {x : Operand} {E : TypeId} {b o n by_ : Nat} {zv : Value} {a : α} [hr1 : Row P E] [hi : Inf P E zv n by_] (k : Nat) (ho : ops[k]? = some { dst := some d, op := .load E x, type := T, pos := pos, after := after, guard := none }) (hA : (Ty.enc en).At S w b o a) (hlt : b < N) (hx : ev l x = .pointer (some ⟨b, o, none⟩)) (hm : en.n = n)
    (h : WY P ops N S Q z fuel (listed.setIfInBounds k true) (fr (l.set d (.agg (en.f a).toArray))) w) (hr : (Region.ready .any ops listed).contains k = true := by kernel_rfl) (hf : Region.free .any ops listed k = true := by kernel_rfl) (hnf : k ∉ z.2 := by decide) : WY P ops N S Q z (fuel + 1) listed (fr l) w := by
  refine ynv (hnf := hnf) k ho hr hf (fun w1 hG => ?_) rfl h
  obtain ⟨hb, hS, cs, hR, hc⟩ := At.bw hA hG hlt
  have hR' : cs = en.f a := hR
  subst hR'
  exact r_load_row hx hc ((en.hl a).trans hm)
end
end Go.Proofs.E
namespace Go.Proofs.YtkdbinchlpdkmaaDoor
open Go Go.RowKit Go.Proofs.E
attribute [local irreducible] Go.wpList Go.Code.wp Go.Proofs.E.exec Go.Proofs.E.wpLexG
def pathG (n i : Int) (leaf : List UInt8) (path : List Hs) : List Ft := if (climbZ n i zeroH path).2 = true then pathN 0 n.toNat i.toNat leaf path else []
theorem climb_ok {n i : Int} {leaf : Hs} {path : List Hs} : (climbZ n i leaf path).2 = true ↔ inC n i = true ∧ (turnsN n.toNat i.toNat).length = path.length := by
  unfold climbZ
  split <;> simp_all
/-- A whole block stored, with what turned. -/
theorem kstwF {P : Program} {ops : Array Oper} {Q : Exit → Act → World → Prop} {rest : List Oper} {l : List Value} {O : List Nat} {w0 w : World} {L L' : List As} {T : TypeId} {pos : String} {after : Array Edge} {x y : Operand} {E t : TypeId} {b n by_ : Nat} {cs vs : List Value} {z : Value} [hi : Inf P t z n by_] (hM : Mem O w0 w L) (h : ∀ w', Ch [b] w w' → Mem O w0 w' (.cell b vs E :: L') → wpList P ops Q rest (fr l) w')
    (hx : ev l x = .pointer (some ⟨b, 0, none⟩) := by exact rfl) (hp : Pick L (.cell b cs E) L' := by (repeat (first | exact Go.Proofs.E.Pick.here | apply Go.Proofs.E.Pick.there))) (hy : ev l y = .agg vs.toArray := by exact rfl) (hln : vs.length = n := by first | exact hf_clen _ _ _ _ | exact hf_len _) (hf : cs.length = n := by first | exact hf_clen _ _ _ _ | exact hf_len _)
    (h1 : ∀ u ∈ vs, u.oneCell' = true := by first | exact Go.Proofs.E.one_u8 | exact fC_one _) :
    wpList P ops Q ({ dst := none, op := .store t x y, type := T, pos := pos, after := after, guard := none } :: rest) (fr l) w :=
  stbw (hM.blk hp) hx hy hln hf h1 fun w' hB hc _ => h w' hc ((hM.pick hp).set hB hc)
theorem topF_of {fs : List (Fv × List UInt8)} {f : Fv × List UInt8} (h : fs.getLast? = some f) : topF (fs.map dF) = f.1.2.2.1 := by
  unfold topF
  rw [List.getLast?_map, h]
  rfl
theorem pre_at {α : Type} {L pre : List α} {x : α} (h : (pre ++ [x]) <+: L) : L[pre.length]? = some x := by
  obtain ⟨t, ht⟩ := h
  rw [← ht]
  simp
theorem uplW_at {ts : List Wy} {i : Nat} {x : Nat × Wy} (h : (uplW ts)[i]? = some x) : x.1 = i := by
  unfold uplW at h
  rw [List.getElem?_map] at h
  obtain ⟨p, hp, rfl⟩ := Option.map_eq_some_iff.1 h
  rw [List.getElem?_zipIdx] at hp
  obtain ⟨q, _, rfl⟩ := Option.map_eq_some_iff.1 hp
  simp
set_option maxHeartbeats 32000000 in
theorem gpath_any (n i : Int) (ul up : SlV) (leaf : List UInt8) (path : List Hs) (w0 : World) (hK : Laid w0) (hRl : tU8.Rd [] w0 (slv ul) leaf) (hRp : (Ty.enc eH).Rd [] w0 (slv up) path) (hll : leaf.length ≤ 1000000000) (hpb : path.length ≤ 1000000) :
    Calls Tryd.prog 26 #[.int .i64 n, .int .i64 i, slv ul, slv up] w0 (Ret fun u w' => ∃ v fs B, u = .tuple #[v, .bool (climbZ n i zeroH path).2] ∧ fs.map dF = pathG n i leaf path ∧ Mem [] w0 w' (ownF B v fs)) := by
  have hM := Mem.start w0
  refine enterM [.int .i64 n, .int .i64 i, slv ul, slv up, undef, undef, undef, undef, undef, undef, undef, undef, undef, undef, undef, undef, undef, undef, undef, undef, undef, undef, undef, undef, undef, undef, undef, undef, undef, undef, undef, undef, undef, undef, undef, undef, undef, undef, undef, undef, undef, undef, undef, undef, undef, undef, undef, undef, undef, undef, undef, undef, undef, undef, undef, undef, undef, undef, undef, undef, undef, undef, undef, undef, undef, undef, undef, undef, undef, undef, undef, undef, undef, undef, undef, undef, undef, undef, undef, undef, undef, undef] Tryd.func26 rfl rfl ?_
  repeat (first | refine gfo ?_ | (refine ks ?_; intro w hM))
  refine kbx (v := slv up) hM (fun w b7 hM => ?_)
  have hM : Mem [] w0 w [.cell b7 [slv up] 27] := hM
  repeat (first | refine gfo ?_ | (refine ks ?_; intro w hM))
  (try ((with_reducible apply is_gd); first | refine gt ?_ | refine gf ?_ | refine gu ?_)); refine wl_val (r_build_arr0 (e := 5)) ?_
  repeat (first | refine gfo ?_ | (refine ks ?_; intro w hM))
  refine kca hM (climb_any n i zeroH (slv up) path w (hK.ch hM.ch (by simp)) (hRp.ch hM.ch)) (fun w hM => ?_)
  unfold pathG
  have hok := climb_ok (n := n) (i := i) (leaf := zeroH) (path := path)
  generalize climbZ n i zeroH path = cz at hok ⊢
  repeat (first | refine gfo ?_ | (refine ks ?_; intro w hM))
  refine kal hM (fun w b10 hM => ?_)
  refine kstw (vs := cz.1.1.map u8v) hM (fun w hM => ?_)
  repeat (first | refine gfo ?_ | (refine ks ?_; intro w hM))
  by_cases hc : cz.2 = true
  case neg =>
    rw [Bool.not_eq_true] at hc
    rw [hc]
    refine c_condb rfl (fun _ => ?_) (fun h => by cases h)
    repeat (first | refine gfo ?_ | (refine ks ?_; intro w hM))
    exact post0 (out2 rfl ⟨_, [], _, rfl, rfl, ((hM.nil.many0 tU8).nilRow eFv 74)⟩)
  case pos =>
    rw [hc]
    refine c_condb rfl (fun h => by cases h) (fun _ => ?_)
    obtain ⟨hin, hlen⟩ := hok.1 hc
    unfold inC at hin
    simp only [Bool.and_eq_true, decide_eq_true_eq] at hin
    obtain ⟨N, rfl⟩ := Int.eq_ofNat_of_zero_le (by omega : 0 ≤ n)
    obtain ⟨I, rfl⟩ := Int.eq_ofNat_of_zero_le (by omega : 0 ≤ i)
    rw [Int.toNat_natCast, Int.toNat_natCast] at hlen
    rw [if_pos rfl, Int.toNat_natCast, Int.toNat_natCast]
    have hIN : I < N := by omega
    have hwl : (waysF N 0 N I).length = path.length := by rw [ways_turns]; exact hlen
    have hw1 := waysF_len N 0 N I
    have hpw := path_ways N 0 N I leaf path (Nat.le_refl _) (by omega) hIN hwl.symm
    rw [Nat.zero_add] at hpw
    clear hok hc
    repeat (first | refine gfo ?_ | (refine ks ?_; intro w hM))
    refine kbs (en := eSl) (vs := [slv ul]) [ul] hM (fun w b33 hM => ?_)
    have hRb := rows8 (ps := [(ul, leaf)]) hM (by (repeat constructor)) (fun p hp => by simp at hp; subst hp; exact hRl.ch hM.ch)
    repeat (first | refine gfo ?_ | (refine ks ?_; intro w hM))
    refine ca (bytes_any 0 _ _ w hRb (by simp; omega)) ?_
    rintro v34 w2 ⟨hO, hc2⟩
    have hM := hM.got hc2 hO
    simp only [List.map_cons, List.map_nil, List.flatten_cons, List.flatten_nil, List.append_nil] at hM
    obtain ⟨s0, rfl⟩ : ∃ u : SlV, v34 = slv u := by obtain ⟨A, c, rfl, _⟩ := hO.form; exact ⟨(A, _, c), rfl⟩
    have hM := hM.rowFrd (by simp; omega)
    repeat (first | refine gfo ?_ | (refine ks ?_; intro w hM))
    obtain ⟨f0, hf0⟩ : ∃ f : Fv × List UInt8, f = (((I : Int), (I : Int) + 1, inH (0 :: leaf), s0), 0 :: leaf) := ⟨_, rfl⟩
    have hdf : dF f0 = factL I (I + 1) leaf := by rw [hf0]; rfl
    have hfo := fof_any (I : Int) ((I : Int) + 1) s0 (0 :: leaf) _ (hK.ch hM.ch (by simp)) (hM.frdRd (v := slv s0) (by (repeat constructor))) (by simp; omega)
    rw [show ((I : Int), (I : Int) + 1, inH (0 :: leaf), s0) = f0.1 by rw [hf0]] at hfo
    refine kca hM hfo (fun w hM => ?_)
    have hM := (hM.many0 tU8).manyPut
    obtain ⟨B1, hM⟩ : ∃ B1, Mem [] w0 w [.many tU8 B1 ([f0].map inpF), .cell b10 (cz.1.1.map u8v) 30, .cell b7 [slv up] 27] := ⟨_, by rw [hf0]; exact hM.sub (by (repeat constructor))⟩
    repeat (first | refine gfo ?_ | (refine ks ?_; intro w hM))
    refine kal hM (fun w b12 hM => ?_)
    refine kstw (vs := eFv.f f0.1) hM (fun w hM => ?_) (hln := eFv.hl _) (h1 := eFv.h1 _)
    repeat (first | refine gfo ?_ | (refine ks ?_; intro w hM))
    refine kbs (en := eFv) (vs := [.agg (eFv.f f0.1).toArray]) [f0.1] hM (fun w b37 hM => ?_) (hxs := by simp [Value.cells]) (hm := by intro v hv; simp only [List.mem_singleton] at hv; subst hv; exact hf_clen _ _ _ _)
    refine kal hM (fun w b13 hM => ?_)
    repeat (first | refine gfo ?_ | (refine ks ?_; intro w hM))
    refine kcr hM (ways_any N I (by omega) hIN w) (fun vs w hM => ?_)
    have hM : Mem [] w0 w (.row eWy 141 vs (waysF N 0 N I) :: _) := hM
    generalize waysF N 0 N I = ts at hwl hw1 hpw hM ⊢
    obtain ⟨A3, c3, rfl, _⟩ := (hM.row0 (v := vs) (xs := ts) (by (repeat constructor))).form
    repeat (first | refine gfo ?_ | (refine ks ?_; intro w hM))
    refine ca (gup_any (A3, ts.length, c3) w) ?_
    rintro _ w ⟨b1, rfl, hN⟩
    have hM := hM.join hN (by simp [As.plain])
    simp only [List.cons_append, List.nil_append] at hM
    repeat (first | refine gfo ?_ | (refine ks ?_; intro w hM))

    obtain ⟨B0, hM⟩ : ∃ B0, Mem [] w0 w ([.cell b12 (eFv.f f0.1) 74, .cell b13 [(.slice (some ⟨b37, 0, none⟩) 1 1)] 60, .row eFv 74 (.slice (some ⟨b37, 0, none⟩) 1 1) ([f0].map (·.1)), .many tU8 B0 ([f0].map inpF), .cell b7 [slv up] 27] ++ [.cell b1 [slv (A3, ts.length, c3)] 138, .row eWy 141 (slv (A3, ts.length, c3)) ts]) := ⟨_, hM.sub (by (repeat constructor))⟩
    
    refine c_rangeM2 (e1 := fun x : Nat × Wy => .int .i64 (x.1 : Int)) (e2 := fun x : Nat × Wy => .agg (eWy.f x.2).toArray) hM rfl (enters_of Tryd.func116 (by kernel_rfl) rfl) (gup_seq (ts := ts) b1 (by omega))
      (fun pre La => ∃ (fs : List (Fv × List UInt8)) (f : Fv × List UInt8) (v13 : Value) (B : Nat → Prop), La = [.cell b12 (eFv.f f.1) 74, .cell b13 [v13] 60, .row eFv 74 v13 (fs.map (·.1)), .many tU8 B (fs.map inpF), .cell b7 [slv up] 27] ∧ fs.getLast? = some f ∧ fs.map dF = pre.foldl (stepP path) [factL I (I + 1) leaf] ∧ fs.length = 2 * pre.length + 1)
      ⟨[f0], f0, _, B0, rfl, rfl, by simp [hdf], rfl⟩
      (fun cd pre La => False)
      (fun pre x l La => ∃ (fs : List (Fv × List UInt8)) (f : Fv × List UInt8) (v13 : Value) (B : Nat → Prop) (b15 : Nat), (∃ jj : Nat → Value, l = [jj 0, jj 1, jj 2, jj 3, jj 4, jj 5, jj 6, .pointer (some ⟨b7, 0, none⟩), jj 8, jj 9, jj 10, jj 11, .pointer (some ⟨b12, 0, none⟩), .pointer (some ⟨b13, 0, none⟩), .int .i64 (x.1 : Int), .pointer (some ⟨b15, 0, none⟩), jj 16, jj 17, jj 18, jj 19, jj 20, jj 21, jj 22, jj 23, jj 24, jj 25, jj 26, jj 27, jj 28, jj 29, jj 30, jj 31, jj 32, jj 33, jj 34, jj 35, jj 36, jj 37, jj 38, jj 39, jj 40, jj 41, jj 42, jj 43, jj 44, jj 45, jj 46, jj 47, jj 48, jj 49, jj 50, jj 51, jj 52, jj 53, jj 54, jj 55, jj 56, jj 57, jj 58, jj 59, jj 60, jj 61, jj 62, jj 63, jj 64, jj 65, jj 66, jj 67, jj 68, jj 69, jj 70, jj 71, jj 72, jj 73, jj 74, jj 75, jj 76, jj 77, jj 78, jj 79, jj 80, jj 81]) ∧ La = .cell b15 (eWy.f x.2) 141 :: [.cell b12 (eFv.f f.1) 74, .cell b13 [v13] 60, .row eFv 74 v13 (fs.map (·.1)), .many tU8 B (fs.map inpF), .cell b7 [slv up] 27] ∧ fs.getLast? = some f ∧ fs.map dF = pre.foldl (stepP path) [factL I (I + 1) leaf] ∧ fs.length = 2 * pre.length + 1)
      ?_ ?_ ?_ ?_
    · rintro r pre x w La X K hp ⟨fs, f, v13, B, rfl, h1, h2, h3⟩ hM hK
      simp only [List.cons_append, List.nil_append] at hM
      refine wpIn_seq ?_
      refine ci_region (by (repeat (first | exact noOut_round | exact noOut_fls | exact noOut_M | apply noOut_then | apply noOut_block))) rfl ?_
      repeat (first | refine gfo ?_ | (refine ks ?_; intro w hM))
      refine ci_region (by (repeat (first | exact noOut_round | exact noOut_fls | exact noOut_M | apply noOut_then | apply noOut_block))) rfl ?_
      repeat (first | refine gfo ?_ | (refine ks ?_; intro w hM))
      refine kal hM (fun w b15 hM => ?_)
      refine kstw (vs := eWy.f x.2) hM (fun w hM => ?_) (h1 := eWy.h1 x.2)
      repeat (first | refine gfo ?_ | (refine ks ?_; intro w hM))
      exact hK _ w _ ⟨fs, f, v13, B, b15, exj rfl, rfl, h1, h2, h3⟩ hM
    · rintro r pre x l w La X hp ⟨fs, f, v13, B, b15, ⟨jj, rfl⟩, rfl, h1, h2, h3⟩ hM
      have hprl : pre.length < ts.length := by
        have := hp.length_le
        rw [uplW_len] at this
        simp at this
        omega
      have hxi := uplW_at (pre_at hp)
      have hpj : path[x.1]? = some (path.getD x.1 zeroH) := by rw [List.getD_eq_getElem?_getD, List.getElem?_eq_getElem (by omega : x.1 < path.length)]; rfl
      have htop := topF_of h1
      obtain ⟨xj, lo, mid, hi, rt⟩ := x
      have hxi : xj = pre.length := hxi
      subst hxi
      have hpj : path[pre.length]? = some (path.getD pre.length zeroH) := hpj
      have hst : stepP path (fs.map dF) (pre.length, (lo, mid, hi, rt)) = (pre ++ [(pre.length, (lo, mid, hi, rt))]).foldl (stepP path) [factL I (I + 1) leaf] := by rw [List.foldl_append, ← h2]; rfl
      rw [stepP, htop] at hst
      simp only at hst
      generalize path.getD pre.length zeroH = pj at hpj hst
      obtain ⟨⟨flo, fhi, fh, fsl⟩, fin⟩ := f
      simp only at hM hst ⊢
      simp only [List.cons_append, List.nil_append] at hM
      have hlen100 : fs.length ≤ 4398046511104 := by omega
      obtain ⟨u13, rfl⟩ : ∃ u : SlV, v13 = slv u := by obtain ⟨A, c, rfl, _⟩ := (hM.row0 (v := v13) (by (repeat constructor))).form; exact ⟨(A, _, c), rfl⟩
      refine wpIn_block ?_
      refine wpIn_seq ?_
      refine ci_ordY ([], []) [] (by (repeat (first | exact noOut_round | exact noOut_fls | exact noOut_M | apply noOut_then | apply noOut_block))) rfl (by kernel_rfl) (by kernel_rfl) (by kernel_rfl) (fun w hc hs => ?_)
      have hM := hM.call hc
      have hl15 := Blk.lt (hM.blk (b := b15) (by (repeat constructor)))
      have hl7 := Blk.lt (hM.blk (b := b7) (by (repeat constructor)))
      (first | refine yn 0 rfl ?_ | refine ynt 0 rfl ?_ | refine ynff 0 rfl ?_)
      refine ynl 1 rfl (hM.blk (b := b15) (by (repeat constructor))) (by omega) (by simp) rfl rfl ?_
      (first | refine yn 2 rfl ?_ | refine ynt 2 rfl ?_ | refine ynff 2 rfl ?_)
      refine ynl 3 rfl (hM.blk (b := b15) (by (repeat constructor))) (by omega) (by simp) rfl rfl ?_
      refine ynl 4 rfl (hM.blk (b := b7) (by (repeat constructor))) (by omega) (by simp) rfl rfl ?_
      (first | refine yn 5 rfl ?_ | refine ynt 5 rfl ?_ | refine ynff 5 rfl ?_)
      refine kynx 6 rfl hRp rfl rfl rfl (by omega) (by omega) (fun bp op p hp' hAp => ?_)
      rw [Int.toNat_natCast, hpj] at hp'
      obtain rfl := Option.some.inj hp'
      refine ynar (en := eH) 7 rfl (hAp.mv hM.ch (by simp)) (by have := hAp.1; have := hM.ch.size; omega) rfl rfl ?_
      refine ynp 8 rfl (by kernel_rfl) (by kernel_rfl) (fun _ => r_bldS (vs := [(0, .int .i64 (mid : Int)), (1, .int .i64 (hi : Int)), (2, hv pj.1)]) (eFv.f ((mid : Int), (hi : Int), pj, (none, 0, 0))) (z := fC 0 0 zeroH (.slice none 0 0)) (place := plF) (by intro ps; kernel_rfl) rfl (fl3 _ _ _)) rfl ?_
      refine yk1 9 hM (by kernel_rfl) rfl (fun w h0 hM => ?_)
      refine kalN hM (fun w b16 hb16 hc hM => ?_)
      have hb16 := Nat.le_trans h0 hb16
      have hM : Mem [] w0 w (.cell b16 (fC 0 0 zeroH (.slice none 0 0)) 74 :: .cell b15 (eWy.f (lo, mid, hi, rt)) 141 :: .cell b12 (fC flo fhi fh (slv fsl)) 74 :: .cell b13 [slv u13] 60 :: .row eFv 74 (slv u13) (fs.map (·.1)) :: .many tU8 B (fs.map inpF) :: .cell b7 [slv up] 27 :: X) := hM
      refine x_wy (.inl (hc.gy h0)) rfl ?_
      refine yk1 10 hM (by kernel_rfl) rfl (fun w h0 hM => ?_)
      refine kstwF (vs := eFv.f ((mid : Int), (hi : Int), pj, (none, 0, 0))) hM (fun w hc hM => ?_)
      refine x_wy (.inl (hc.bwn h0 (.inl hb16))) rfl ?_
      refine wy_done (by kernel_rfl) (fun w hc => ?_)
      have hM := hM.call hc
      repeat (first | ((with_reducible apply is_ld); first | refine kld hM ?_ | refine kldw hM ?_ | refine kldf hM ?_ | refine kldw hM ?_ (hn := hf_clen _ _ _ _) | refine kle hM ?_ | refine klew hM ?_ | refine kld hM ?_ (hv := by exact hf_get _ _ _ _)) | ((with_reducible apply is_sto); first | (refine kst hM ?_; intro w hM) | (refine kstw hM ?_; intro w hM)) | ((with_reducible apply is_st); refine su ?_) | ((with_reducible apply is_gd); first | refine gt ?_ | refine gf ?_ | refine gu ?_) | ((with_reducible apply is_en); refine en ?_) | (with_reducible apply c_region) | refine ws ?_ | refine x_block_other (by decide) ?_ | (refine ci_region (by (repeat (first | exact noOut_round | exact noOut_fls | exact noOut_M | apply noOut_then | apply noOut_block))) rfl ?_) )
      refine ci_ordY ([], []) [] (by (repeat (first | exact noOut_round | exact noOut_fls | exact noOut_M | apply noOut_then | apply noOut_block))) rfl (by kernel_rfl) (by kernel_rfl) (by kernel_rfl) (fun w hc hs => ?_)
      have hM := hM.call hc
      have hl12 := Blk.lt (hM.blk (b := b12) (by (repeat constructor)))
      have hl7 := Blk.lt (hM.blk (b := b7) (by (repeat constructor)))
      (first | refine yn 0 rfl ?_ | refine ynt 0 rfl ?_ | refine ynff 0 rfl ?_)
      refine ynlr 1 rfl (hM.blk (b := b12) (by (repeat constructor))) (by omega) (by simp) rfl (ds := fh.1.map u8v) (hf_take _ _ _ _) (hf_len fh) ?_
      refine ynl 2 rfl (hM.blk (b := b7) (by (repeat constructor))) (by omega) (by simp) rfl rfl ?_
      (first | refine yn 3 rfl ?_ | refine ynt 3 rfl ?_ | refine ynff 3 rfl ?_)
      refine kynx 4 rfl hRp rfl rfl rfl (by omega) (by omega) (fun bp2 op2 p2 hp2 hAp2 => ?_)
      rw [Int.toNat_natCast, hpj] at hp2
      obtain rfl := Option.some.inj hp2
      refine ynar (en := eH) 5 rfl (hAp2.mv hM.ch (by simp)) (by have := hAp2.1; have := hM.ch.size; omega) rfl rfl ?_
      refine wy_cont (X := Nat × Nat) (fun x N w => (N ≤ x.1 ∧ N ≤ x.2) ∧ Mem [] w0 w (.cell x.1 (zeroH.1.map u8v) 30 :: .cell x.2 (zeroH.1.map u8v) 30 :: .cell b16 (fC mid hi pj (slv (none, 0, 0))) 74 :: .cell b15 (eWy.f (lo, mid, hi, rt)) 141 :: .cell b12 (fC flo fhi fh (slv fsl)) 74 :: .cell b13 [slv u13] 60 :: .row eFv 74 (slv u13) (fs.map (·.1)) :: .many tU8 B (fs.map inpF) :: .cell b7 [slv up] 27 :: X))
        (fun x l => (l.set 17 (.pointer (some ⟨x.1, 0, none⟩))).set 18 (.pointer (some ⟨x.2, 0, none⟩))) #[true, true, true, true, true, true, true, true, false, false] (fuel := 2) (fun hkk => ?_) ?_
      · skip
        refine yk2 6 7 hM (by kernel_rfl) rfl rfl (fun w h0 hM => ?_) (fun w h0 hM => ?_)
        · skip
          refine kalN hM (fun w b17 hb17 hc hM => ?_)
          have hb17 := Nat.le_trans h0 hb17
          rw [zero_cells] at hM
          refine x_wy (.inl (hc.gy h0)) rfl ?_
          refine yk1 7 hM (by kernel_rfl) rfl (fun w h0 hM => ?_)
          refine kalN hM (fun w b18 hb18 hc hM => ?_)
          have hb18 := Nat.le_trans h0 hb18
          rw [zero_cells] at hM
          refine x_wy (.inl (hc.gy h0)) rfl ?_
          exact hkk (b17, b18) _ _ _ (by kernel_rfl) rfl ⟨⟨hb17, hb18⟩, hM.sub (by (repeat (first | exact Go.Proofs.E.Sub.refl _ | exact Go.Proofs.E.Sub.nil | (apply Go.Proofs.E.Sub.cons; (repeat (first | exact Go.Proofs.E.Pick.here | apply Go.Proofs.E.Pick.there))) | apply Go.Proofs.E.Sub.tail)))⟩
        · skip
          refine kalN hM (fun w b18 hb18 hc hM => ?_)
          have hb18 := Nat.le_trans h0 hb18
          rw [zero_cells] at hM
          refine x_wy (.inl (hc.gy h0)) rfl ?_
          refine yk1 6 hM (by kernel_rfl) rfl (fun w h0 hM => ?_)
          refine kalN hM (fun w b17 hb17 hc hM => ?_)
          have hb17 := Nat.le_trans h0 hb17
          rw [zero_cells] at hM
          refine x_wy (.inl (hc.gy h0)) rfl ?_
          exact hkk (b17, b18) _ _ _ (by kernel_rfl) rfl ⟨⟨hb17, hb18⟩, hM.sub (by (repeat (first | exact Go.Proofs.E.Sub.refl _ | exact Go.Proofs.E.Sub.nil | (apply Go.Proofs.E.Sub.cons; (repeat (first | exact Go.Proofs.E.Pick.here | apply Go.Proofs.E.Pick.there))) | apply Go.Proofs.E.Sub.tail)))⟩
      clear hM
      rintro ⟨b17, b18⟩ w ⟨⟨hb17, hb18⟩, hM⟩
      simp only at hb17 hb18 hM
      refine wy_nf ?_
      refine yk1 8 hM (by kernel_rfl) rfl (fun w h0 hM => ?_)
      refine kstwF (vs := fh.1.map u8v) hM (fun w hc hM => ?_)
      refine x_wy (.inl (hc.bwn h0 (.inl hb17))) rfl ?_
      refine yk1 9 hM (by kernel_rfl) rfl (fun w h0 hM => ?_)
      refine kstwF (vs := pj.1.map u8v) hM (fun w hc hM => ?_)
      refine x_wy (.inl (hc.bwn h0 (.inl hb18))) rfl ?_
      refine wy_done (by kernel_rfl) (fun w hc => ?_)
      have hM := hM.call hc
      repeat (first | ((with_reducible apply is_ld); first | refine kld hM ?_ | refine kldw hM ?_ | refine kldf hM ?_ | refine kldw hM ?_ (hn := hf_clen _ _ _ _) | refine kle hM ?_ | refine klew hM ?_ | refine kld hM ?_ (hv := by exact hf_get _ _ _ _)) | ((with_reducible apply is_sto); first | (refine kst hM ?_; intro w hM) | (refine kstw hM ?_; intro w hM)) | ((with_reducible apply is_st); refine su ?_) | ((with_reducible apply is_gd); first | refine gt ?_ | refine gf ?_ | refine gu ?_) | ((with_reducible apply is_en); refine en ?_) | (with_reducible apply c_region) | refine ws ?_ | refine x_block_other (by decide) ?_ | (refine ci_region (by (repeat (first | exact noOut_round | exact noOut_fls | exact noOut_M | apply noOut_then | apply noOut_block))) rfl ?_) )
      cases rt with
      | true =>
        rw [if_pos rfl] at hst
        refine ci_condb rfl (fun _ => ?_) (fun h => by cases h)
        repeat (first | ((with_reducible apply is_ld); first | refine kld hM ?_ | refine kldw hM ?_ | refine kldf hM ?_ | refine kldw hM ?_ (hn := hf_clen _ _ _ _) | refine kle hM ?_ | refine klew hM ?_ | refine kld hM ?_ (hv := by exact hf_get _ _ _ _)) | ((with_reducible apply is_sto); first | (refine kst hM ?_; intro w hM) | (refine kstw hM ?_; intro w hM)) | ((with_reducible apply is_st); refine su ?_) | ((with_reducible apply is_gd); first | refine gt ?_ | refine gf ?_ | refine gu ?_) | ((with_reducible apply is_en); refine en ?_) | (with_reducible apply c_region) | refine ws ?_ | refine x_block_other (by decide) ?_ | (refine ci_region (by (repeat (first | exact noOut_round | exact noOut_fls | exact noOut_M | apply noOut_then | apply noOut_block))) rfl ?_) )
        refine ci_ordY ([], []) [b16] (by (repeat (first | exact noOut_round | exact noOut_fls | exact noOut_M | apply noOut_then | apply noOut_block))) rfl (by kernel_rfl) (by kernel_rfl) (by kernel_rfl) (fun w hc hs => ?_)
        have hM := hM.call hc
        have hl15 := Blk.lt (hM.blk (b := b15) (by (repeat constructor)))
        have hn15 : b15 ∉ [b16] := hM.nin (b := b16) (c := b15) (by (repeat constructor)) (by (repeat constructor))
        (first | refine yn 0 rfl ?_ | refine ynt 0 rfl ?_ | refine ynff 0 rfl ?_)
        refine ynl 1 rfl (hM.blk (b := b15) (by (repeat constructor))) (by omega) hn15 rfl rfl ?_
        (first | refine yn 2 rfl ?_ | refine ynt 2 rfl ?_ | refine ynff 2 rfl ?_)
        refine ynl 3 rfl (hM.blk (b := b15) (by (repeat constructor))) (by omega) hn15 rfl rfl ?_
        (first | refine yn 4 rfl ?_ | refine ynt 4 rfl ?_ | refine ynff 4 rfl ?_)
        refine yk1 5 hM (by kernel_rfl) rfl (fun w h0 hM => ?_)
        refine kstC hM (fun w hc hM => ?_) (hf := by rw [hf_clen]; omega)
        refine x_wy (.inl (hc.bwn h0 (.inr (by simp)))) rfl ?_
        (first | refine yn 6 rfl ?_ | refine ynt 6 rfl ?_ | refine ynff 6 rfl ?_)
        refine yk1 7 hM (by kernel_rfl) rfl (fun w h0 hM => ?_)
        refine kstC hM (fun w hc hM => ?_) (hf := by simp)
        refine x_wy (.inl (hc.bwn h0 (.inr (by simp)))) rfl ?_
        refine wy_done (by kernel_rfl) (fun w hc => ?_)
        have hM := hM.call hc
        repeat (first | ((with_reducible apply is_ld); first | refine kld hM ?_ | refine kldw hM ?_ | refine kldf hM ?_ | refine kldw hM ?_ (hn := hf_clen _ _ _ _) | refine kle hM ?_ | refine klew hM ?_ | refine kld hM ?_ (hv := by exact hf_get _ _ _ _)) | ((with_reducible apply is_sto); first | (refine kst hM ?_; intro w hM) | (refine kstw hM ?_; intro w hM)) | ((with_reducible apply is_st); refine su ?_) | ((with_reducible apply is_gd); first | refine gt ?_ | refine gf ?_ | refine gu ?_) | ((with_reducible apply is_en); refine en ?_) | (with_reducible apply c_region) | refine ws ?_ | refine x_block_other (by decide) ?_ | (refine ci_region (by (repeat (first | exact noOut_round | exact noOut_fls | exact noOut_M | apply noOut_then | apply noOut_block))) rfl ?_) )
        refine ca (fnode_any lo hi pj fh _ (hK.ch hM.ch (by simp))) ?_
        rintro _ w ⟨s1, B1, rfl, hc1, hN1⟩
        have hM := hM.join hN1 (by simp [As.plain])
        simp only [List.cons_append, List.nil_append] at hM
        obtain ⟨gs, hgs⟩ : ∃ g : Fv × List UInt8, g = (((lo : Int), (mid : Int), pj, (none, 0, 0)), []) := ⟨_, rfl⟩
        obtain ⟨gt, hgt⟩ : ∃ g : Fv × List UInt8, g = (((lo : Int), (hi : Int), nodeH pj fh, s1), 1 :: (pj.1 ++ fh.1)) := ⟨_, rfl⟩
        refine kstwF (vs := eFv.f ((lo : Int), (hi : Int), nodeH pj fh, s1)) hM (fun w hc hM => ?_)
        have hM : Mem [] w0 w (.cell b12 (eFv.f gt.1) 74 :: .frd tU8 B1 (slv s1) gt.2 :: .cell b16 (eFv.f gs.1) 74 :: .cell b13 [slv u13] 60 :: .row eFv 74 (slv u13) (fs.map (·.1)) :: .many tU8 B (fs.map inpF) :: .cell b7 [slv up] 27 :: X) := by rw [hgt, hgs]; exact hM.sub (by (repeat (first | exact Go.Proofs.E.Sub.refl _ | exact Go.Proofs.E.Sub.nil | (apply Go.Proofs.E.Sub.cons; (repeat (first | exact Go.Proofs.E.Pick.here | apply Go.Proofs.E.Pick.there))) | apply Go.Proofs.E.Sub.tail)))
        repeat (first | ((with_reducible apply is_ld); first | refine kld hM ?_ | refine kldw hM ?_ | refine kldf hM ?_ | refine kldw hM ?_ (hn := hf_clen _ _ _ _) | refine kle hM ?_ | refine klew hM ?_ | refine kld hM ?_ (hv := by exact hf_get _ _ _ _)) | ((with_reducible apply is_sto); first | (refine kst hM ?_; intro w hM) | (refine kstw hM ?_; intro w hM)) | ((with_reducible apply is_st); refine su ?_) | ((with_reducible apply is_gd); first | refine gt ?_ | refine gf ?_ | refine gu ?_) | ((with_reducible apply is_en); refine en ?_) | (with_reducible apply c_region) | refine ws ?_ | refine x_block_other (by decide) ?_ | (refine ci_region (by (repeat (first | exact noOut_round | exact noOut_fls | exact noOut_M | apply noOut_then | apply noOut_block))) rfl ?_) )
        refine kbs (en := eFv) (vs := [.agg (eFv.f gs.1).toArray, .agg (eFv.f gt.1).toArray]) [gs.1, gt.1] hM (fun w b79 hM => ?_) (hxs := by simp [Value.cells]) (hm := by
          intro v hv
          simp only [List.mem_cons, List.not_mem_nil, or_false] at hv
          rcases hv with rfl | rfl <;> exact hf_clen _ _ _ _)
        refine kap (en := eFv) (ys := [gs.1, gt.1]) hM (hM.rowRdO (en := eFv) (v := .slice (some ⟨b79, 0, none⟩) 2 2) (xs := [gs.1, gt.1]) (by (repeat constructor))) (fun v80 w hM => ?_) (hb := by simp; omega) (h63 := by simp; omega)
        obtain ⟨u80, rfl⟩ : ∃ u : SlV, v80 = slv u := by obtain ⟨A, c, rfl, _⟩ := (hM.row0 (v := v80) (by (repeat constructor))).form; exact ⟨(A, _, c), rfl⟩
        repeat (first | ((with_reducible apply is_ld); first | refine kld hM ?_ | refine kldw hM ?_ | refine kldf hM ?_ | refine kldw hM ?_ (hn := hf_clen _ _ _ _) | refine kle hM ?_ | refine klew hM ?_ | refine kld hM ?_ (hv := by exact hf_get _ _ _ _)) | ((with_reducible apply is_sto); first | (refine kst hM ?_; intro w hM) | (refine kstw hM ?_; intro w hM)) | ((with_reducible apply is_st); refine su ?_) | ((with_reducible apply is_gd); first | refine gt ?_ | refine gf ?_ | refine gu ?_) | ((with_reducible apply is_en); refine en ?_) | (with_reducible apply c_region) | refine ws ?_ | refine x_block_other (by decide) ?_ | (refine ci_region (by (repeat (first | exact noOut_round | exact noOut_fls | exact noOut_M | apply noOut_then | apply noOut_block))) rfl ?_) )
        have hM := hM.frd0 tU8 none 0
        have hM := (hM.pick (a := .many tU8 B (fs.map inpF)) (by (repeat constructor))).manyPut (u := (none, 0, 0))
        have hM := ((hM.pick (a := .frd tU8 B1 (slv s1) gt.2) (by (repeat constructor))).pick (a := .many tU8 _ _) (.there .here)).manyPut
        have e1 : fs.map inpF ++ [((none, 0, 0), [])] ++ [(s1, gt.2)] = (fs ++ [gs, gt]).map inpF := by rw [hgs, hgt, List.map_append]; simp [inpF]
        have e2 : fs.map (·.1) ++ [gs.1, gt.1] = (fs ++ [gs, gt]).map (·.1) := by rw [List.map_append]; rfl
        rw [e1] at hM
        rw [e2] at hM
        refine ⟨[.cell b12 (eFv.f gt.1) 74, .cell b13 [slv u80] 60, .row eFv 74 (slv u80) ((fs ++ [gs, gt]).map (·.1)), .many tU8 _ ((fs ++ [gs, gt]).map inpF), .cell b7 [slv up] 27], ⟨fs ++ [gs, gt], gt, slv u80, _, rfl, by simp, ?_, by simp; omega⟩, hM.sub (by (repeat (first | exact Go.Proofs.E.Sub.refl _ | exact Go.Proofs.E.Sub.nil | (apply Go.Proofs.E.Sub.cons; (repeat (first | exact Go.Proofs.E.Pick.here | apply Go.Proofs.E.Pick.there))) | apply Go.Proofs.E.Sub.tail)))⟩
        rw [← hst, List.map_append, hgs, hgt]
        rfl
      | false =>
        rw [if_neg (by simp)] at hst
        refine ci_condb rfl (fun h => by cases h) (fun _ => ?_)
        repeat (first | ((with_reducible apply is_ld); first | refine kld hM ?_ | refine kldw hM ?_ | refine kldf hM ?_ | refine kldw hM ?_ (hn := hf_clen _ _ _ _) | refine kle hM ?_ | refine klew hM ?_ | refine kld hM ?_ (hv := by exact hf_get _ _ _ _)) | ((with_reducible apply is_sto); first | (refine kst hM ?_; intro w hM) | (refine kstw hM ?_; intro w hM)) | ((with_reducible apply is_st); refine su ?_) | ((with_reducible apply is_gd); first | refine gt ?_ | refine gf ?_ | refine gu ?_) | ((with_reducible apply is_en); refine en ?_) | (with_reducible apply c_region) | refine ws ?_ | refine x_block_other (by decide) ?_ | (refine ci_region (by (repeat (first | exact noOut_round | exact noOut_fls | exact noOut_M | apply noOut_then | apply noOut_block))) rfl ?_) )
        refine ca (fnode_any lo hi fh pj _ (hK.ch hM.ch (by simp))) ?_
        rintro _ w ⟨s1, B1, rfl, hc1, hN1⟩
        have hM := hM.join hN1 (by simp [As.plain])
        simp only [List.cons_append, List.nil_append] at hM
        obtain ⟨gs, hgs⟩ : ∃ g : Fv × List UInt8, g = (((mid : Int), (hi : Int), pj, (none, 0, 0)), []) := ⟨_, rfl⟩
        obtain ⟨gt, hgt⟩ : ∃ g : Fv × List UInt8, g = (((lo : Int), (hi : Int), nodeH fh pj, s1), 1 :: (fh.1 ++ pj.1)) := ⟨_, rfl⟩
        refine kstwF (vs := eFv.f ((lo : Int), (hi : Int), nodeH fh pj, s1)) hM (fun w hc hM => ?_)
        have hM : Mem [] w0 w (.cell b12 (eFv.f gt.1) 74 :: .frd tU8 B1 (slv s1) gt.2 :: .cell b16 (eFv.f gs.1) 74 :: .cell b13 [slv u13] 60 :: .row eFv 74 (slv u13) (fs.map (·.1)) :: .many tU8 B (fs.map inpF) :: .cell b7 [slv up] 27 :: X) := by rw [hgt, hgs]; exact hM.sub (by (repeat (first | exact Go.Proofs.E.Sub.refl _ | exact Go.Proofs.E.Sub.nil | (apply Go.Proofs.E.Sub.cons; (repeat (first | exact Go.Proofs.E.Pick.here | apply Go.Proofs.E.Pick.there))) | apply Go.Proofs.E.Sub.tail)))
        repeat (first | ((with_reducible apply is_ld); first | refine kld hM ?_ | refine kldw hM ?_ | refine kldf hM ?_ | refine kldw hM ?_ (hn := hf_clen _ _ _ _) | refine kle hM ?_ | refine klew hM ?_ | refine kld hM ?_ (hv := by exact hf_get _ _ _ _)) | ((with_reducible apply is_sto); first | (refine kst hM ?_; intro w hM) | (refine kstw hM ?_; intro w hM)) | ((with_reducible apply is_st); refine su ?_) | ((with_reducible apply is_gd); first | refine gt ?_ | refine gf ?_ | refine gu ?_) | ((with_reducible apply is_en); refine en ?_) | (with_reducible apply c_region) | refine ws ?_ | refine x_block_other (by decide) ?_ | (refine ci_region (by (repeat (first | exact noOut_round | exact noOut_fls | exact noOut_M | apply noOut_then | apply noOut_block))) rfl ?_) )
        refine kbs (en := eFv) (vs := [.agg (eFv.f gs.1).toArray, .agg (eFv.f gt.1).toArray]) [gs.1, gt.1] hM (fun w b79 hM => ?_) (hxs := by simp [Value.cells]) (hm := by
          intro v hv
          simp only [List.mem_cons, List.not_mem_nil, or_false] at hv
          rcases hv with rfl | rfl <;> exact hf_clen _ _ _ _)
        refine kap (en := eFv) (ys := [gs.1, gt.1]) hM (hM.rowRdO (en := eFv) (v := .slice (some ⟨b79, 0, none⟩) 2 2) (xs := [gs.1, gt.1]) (by (repeat constructor))) (fun v80 w hM => ?_) (hb := by simp; omega) (h63 := by simp; omega)
        obtain ⟨u80, rfl⟩ : ∃ u : SlV, v80 = slv u := by obtain ⟨A, c, rfl, _⟩ := (hM.row0 (v := v80) (by (repeat constructor))).form; exact ⟨(A, _, c), rfl⟩
        repeat (first | ((with_reducible apply is_ld); first | refine kld hM ?_ | refine kldw hM ?_ | refine kldf hM ?_ | refine kldw hM ?_ (hn := hf_clen _ _ _ _) | refine kle hM ?_ | refine klew hM ?_ | refine kld hM ?_ (hv := by exact hf_get _ _ _ _)) | ((with_reducible apply is_sto); first | (refine kst hM ?_; intro w hM) | (refine kstw hM ?_; intro w hM)) | ((with_reducible apply is_st); refine su ?_) | ((with_reducible apply is_gd); first | refine gt ?_ | refine gf ?_ | refine gu ?_) | ((with_reducible apply is_en); refine en ?_) | (with_reducible apply c_region) | refine ws ?_ | refine x_block_other (by decide) ?_ | (refine ci_region (by (repeat (first | exact noOut_round | exact noOut_fls | exact noOut_M | apply noOut_then | apply noOut_block))) rfl ?_) )
        have hM := hM.frd0 tU8 none 0
        have hM := (hM.pick (a := .many tU8 B (fs.map inpF)) (by (repeat constructor))).manyPut (u := (none, 0, 0))
        have hM := ((hM.pick (a := .frd tU8 B1 (slv s1) gt.2) (by (repeat constructor))).pick (a := .many tU8 _ _) (.there .here)).manyPut
        have e1 : fs.map inpF ++ [((none, 0, 0), [])] ++ [(s1, gt.2)] = (fs ++ [gs, gt]).map inpF := by rw [hgs, hgt, List.map_append]; simp [inpF]
        have e2 : fs.map (·.1) ++ [gs.1, gt.1] = (fs ++ [gs, gt]).map (·.1) := by rw [List.map_append]; rfl
        rw [e1] at hM
        rw [e2] at hM
        refine ⟨[.cell b12 (eFv.f gt.1) 74, .cell b13 [slv u80] 60, .row eFv 74 (slv u80) ((fs ++ [gs, gt]).map (·.1)), .many tU8 _ ((fs ++ [gs, gt]).map inpF), .cell b7 [slv up] 27], ⟨fs ++ [gs, gt], gt, slv u80, _, rfl, by simp, ?_, by simp; omega⟩, hM.sub (by (repeat (first | exact Go.Proofs.E.Sub.refl _ | exact Go.Proofs.E.Sub.nil | (apply Go.Proofs.E.Sub.cons; (repeat (first | exact Go.Proofs.E.Pick.here | apply Go.Proofs.E.Pick.there))) | apply Go.Proofs.E.Sub.tail)))⟩
        rw [← hst, List.map_append, hgs, hgt]
        rfl
    · rintro D w La ⟨fs, f, v13, B, rfl, h1, h2, h3⟩ hM
      simp only [List.cons_append, List.nil_append] at hM
      rw [hpw] at h2
      have hD := hM.head
      change Code.wp _ _ _ _ _
      refine wp_seq ?_
      refine c_regd rfl (noOut_then noOut_M) ?_
      repeat (first | refine gfo ?_ | (refine ks ?_; intro w hM))
      change Code.wp _ _ _ (frd _ _) w
      refine wp_ret ?_
      refine post1 (hM.pick (a := .obj D _) (by (repeat constructor))).head ?_
      have hM := ((hM.pick (a := .obj D _) (by (repeat constructor))).putObj (o' := .deferred none)).sub (M := ownF B v13 fs) (by (repeat constructor))
      exact out2 rfl ⟨v13, fs, B, rfl, h2, hM⟩
    · rintro D cd pre w La h hM
      exact h.elim
end Go.Proofs.YtkdbinchlpdkmaaDoor

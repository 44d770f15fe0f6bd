/- Walks: the inputs on a leaf's way up, the reference's.
   Walks: Ups, First and Leaves, both.
   Walks: of two leaves at one place, both. -/
import Derived.Test.YtnkkeehoejmcnaaDoorG1
import Derived.Test.YtnkkeehoejmcnaaDoorClashE
set_option linter.unusedVariables false
set_option linter.unusedSimpArgs false
namespace Go.Proofs.YtnkkeehoejmcnaaDoor
open Go Go.RowKit Go.Proofs.E
attribute [local irreducible] Go.wpList Go.Code.wp Go.Proofs.E.exec Go.Proofs.E.wpLexG
theorem fold_stepW {path : List Hs} {k : Nat} : ∀ (xs : List (Bool × Nat)) (l : List (List UInt8)), (∀ x ∈ xs, x.2 < k) → xs.foldl (stepW (path.take k)) l = xs.foldl (stepW path) l
  | [], l, _ => rfl
  | x :: xs, l, hk => by
    have e : stepW (path.take k) l x = stepW path l x := by
      unfold stepW
      have := hk x (by simp)
      rw [List.getD_eq_getElem?_getD, List.getD_eq_getElem?_getD, List.getElem?_take, if_pos this]
    rw [List.foldl_cons, List.foldl_cons, e, fold_stepW xs _ (fun y hy => hk y (by simp [hy]))]
theorem upsT_take {path : List Hs} {leaf : List UInt8} {k : Nat} (sd : List Bool) (h : sd.length ≤ k) : upsT (path.take k) leaf sd = upsT path leaf sd :=
  fold_stepW _ _ (fun x hx => by have := List.snd_lt_of_mem_zipIdx hx; omega)
theorem fold_len (path : List Hs) : ∀ (xs : List (Bool × Nat)) (l : List (List UInt8)), (xs.foldl (stepW path) l).length = l.length + xs.length
  | [], l => rfl
  | x :: xs, l => by rw [List.foldl_cons, fold_len path xs, stepW_len, List.length_cons]; omega
theorem upsT_len (path : List Hs) (leaf : List UInt8) (sd : List Bool) : (upsT path leaf sd).length = sd.length + 1 := by
  unfold upsT
  rw [fold_len]
  simp
  omega
theorem fold_mem {path : List Hs} {m : Nat} (hm : 65 ≤ m) : ∀ (xs : List (Bool × Nat)) (l : List (List UInt8)), (∀ y ∈ l, y.length ≤ m) → ∀ y ∈ xs.foldl (stepW path) l, y.length ≤ m
  | [], l, h => h
  | x :: xs, l, h => fold_mem hm xs _ (stepW_mem hm h)
theorem upsT_mem {path : List Hs} {leaf : List UInt8} {sd : List Bool} {m : Nat} (hm : 65 ≤ m) (hl : leaf.length + 1 ≤ m) : ∀ y ∈ upsT path leaf sd, y.length ≤ m :=
  fold_mem hm _ _ (fun y hy => by simp at hy; subst hy; simpa using hl)
set_option maxHeartbeats 32000000 in
theorem rups_any (n : Nat) : ∀ (i : Nat) (vl vp : Value) (leaf : List UInt8) (path : List Hs) (w0 : World), tU8.Rd [] w0 vl leaf → (Ty.enc eH).Rd [] w0 vp path → n ≤ 1099511627776 → i < n → (turnsN n i).length = path.length → leaf.length ≤ 1000000000 →
    Calls Tryd.prog 83 #[.int .i64 (n : Int), .int .i64 (i : Int), vl, vp] w0 (Ret fun u w' => ∃ (ps : List (SlV × List UInt8)) (B : Nat → Prop), Mem [] w0 w' [.row eSl 28 u (ps.map (fun p : SlV × List UInt8 => p.1)), .many tU8 B ps] ∧ ps.map (fun p : SlV × List UInt8 => p.2) = upsT path leaf (sidesB n i)) := by
  induction n using Nat.strongRecOn with
  | _ n ih =>
  intro i vl vp leaf path w0 hRl hRp hn hin hlen hll
  have hM := Mem.start w0
  obtain ⟨ul, rfl⟩ := hRl.slv
  have hple := hRp.le
  obtain ⟨A, cap, rfl⟩ := hRp.form
  refine enter [.int .i64 (n : Int), .int .i64 (i : Int), slv ul, .slice A path.length cap, undef, undef, undef, undef, undef, undef, undef, undef, undef, undef, undef, undef, undef, undef, undef, undef, undef, undef, undef, undef, undef, undef, undef, undef, undef, undef, undef, undef, undef, undef, undef, undef, undef, undef, undef, undef, undef, undef, undef, undef, undef, undef, undef, undef, undef, undef, undef, undef, undef, undef, undef, undef, undef, undef, undef, undef, undef, undef, undef, undef, undef, undef, undef, undef, undef, undef, undef, undef, undef, undef] Tryd.func83 rfl rfl ?_
  repeat (first | ((with_reducible apply is_ld); first | refine kld hM ?_ | refine kldw hM ?_ | refine kle hM ?_ | refine klew hM ?_) | ((with_reducible apply is_sto); first | (refine kst hM ?_; intro w hM) | (refine kstw hM ?_; intro w hM)) | ((with_reducible apply is_st); refine su ?_) | ((with_reducible apply is_gd); first | refine gt ?_ | refine gf ?_ | refine gu ?_) | ((with_reducible apply is_en); refine en ?_) | (with_reducible apply c_region) | refine ws ?_ | refine x_block_other (by decide) ?_)
  by_cases h1 : n = 1
  · subst h1
    have hsd : sidesB 1 i = [] := by unfold sidesB; rw [turns_one (by omega)]; rfl
    refine c_cond rfl (fun _ => ?_) (fun h => absurd rfl h)
    repeat (first | ((with_reducible apply is_ld); first | refine kld hM ?_ | refine kldw hM ?_ | refine kle hM ?_ | refine klew hM ?_) | ((with_reducible apply is_sto); first | (refine kst hM ?_; intro w hM) | (refine kstw hM ?_; intro w hM)) | ((with_reducible apply is_st); refine su ?_) | ((with_reducible apply is_gd); first | refine gt ?_ | refine gf ?_ | refine gu ?_) | ((with_reducible apply is_en); refine en ?_) | (with_reducible apply c_region) | refine ws ?_ | refine x_block_other (by decide) ?_)
    refine kbs (en := eSl) (vs := [slv ul]) [ul] hM (fun w b28 hM => ?_)
    have hRb : (Ty.sl tU8).Rd [] w _ ([(ul, leaf)].map (fun p : SlV × List UInt8 => p.2)) := Ty.Rd.unraw (hM.rowRd (en := eSl) (xs := [ul]) (by (repeat constructor)) (by simp)) (fun p hp => by simp at hp; subst hp; exact hRl.ch hM.ch)
    repeat (first | ((with_reducible apply is_ld); first | refine kld hM ?_ | refine kldw hM ?_ | refine kle hM ?_ | refine klew hM ?_) | ((with_reducible apply is_sto); first | (refine kst hM ?_; intro w hM) | (refine kstw hM ?_; intro w hM)) | ((with_reducible apply is_st); refine su ?_) | ((with_reducible apply is_gd); first | refine gt ?_ | refine gf ?_ | refine gu ?_) | ((with_reducible apply is_en); refine en ?_) | (with_reducible apply c_region) | refine ws ?_ | refine x_block_other (by decide) ?_)
    refine ca (rbytes_any 0 _ _ w hRb (by simp; omega)) ?_
    rintro v29 w2 ⟨hO, hc2⟩
    have hM := hM.got hc2 hO
    obtain ⟨u29, rfl⟩ : ∃ u : SlV, v29 = slv u := by obtain ⟨A, c, rfl, _⟩ := hO.form; exact ⟨(A, _, c), rfl⟩
    have hM := hM.rowFrd (by simp; omega)
    have hM := (hM.many0 tU8).manyPut
    simp only [List.map_cons, List.map_nil, List.flatten_cons, List.flatten_nil, List.append_nil, List.nil_append] at hM
    refine kbs (en := eSl) (vs := [slv u29]) [u29] hM (fun w b30 hM => ?_)
    repeat (first | ((with_reducible apply is_ld); first | refine kld hM ?_ | refine kldw hM ?_ | refine kle hM ?_ | refine klew hM ?_) | ((with_reducible apply is_sto); first | (refine kst hM ?_; intro w hM) | (refine kstw hM ?_; intro w hM)) | ((with_reducible apply is_st); refine su ?_) | ((with_reducible apply is_gd); first | refine gt ?_ | refine gf ?_ | refine gu ?_) | ((with_reducible apply is_en); refine en ?_) | (with_reducible apply c_region) | refine ws ?_ | refine x_block_other (by decide) ?_)
    refine out1 rfl ⟨[(u29, 0 :: leaf)], _, hM.sub (by (repeat constructor)), ?_⟩
    rw [hsd]
    rfl
  · refine c_cond rfl (fun h => absurd h (by omega)) (fun _ => ?_)
    have hsp := splitN_lt (n := n) (by omega) (by omega)
    have hpp : 0 < path.length := by
      by_cases hi : i < splitN n
      · rw [turns_left (by omega) (by omega) hi, List.length_cons] at hlen
        omega
      · rw [turns_right (by omega) (by omega) hi, List.length_cons] at hlen
        omega
    have hptl := turns_len n i
    have hpn : path.length ≤ n := by omega
    repeat (first | ((with_reducible apply is_ld); first | refine kld hM ?_ | refine kldw hM ?_ | refine kle hM ?_ | refine klew hM ?_) | ((with_reducible apply is_sto); first | (refine kst hM ?_; intro w hM) | (refine kstw hM ?_; intro w hM)) | ((with_reducible apply is_st); refine su ?_) | ((with_reducible apply is_gd); first | refine gt ?_ | refine gf ?_ | refine gu ?_) | ((with_reducible apply is_en); refine en ?_) | (with_reducible apply c_region) | refine ws ?_ | refine x_block_other (by decide) ?_)
    refine kcs (rsplit_any (n : Int) (by omega) w0) ?_
    rw [splitZ_nat]
    repeat (first | ((with_reducible apply is_ld); first | refine kld hM ?_ | refine kldw hM ?_ | refine kle hM ?_ | refine klew hM ?_) | ((with_reducible apply is_sto); first | (refine kst hM ?_; intro w hM) | (refine kstw hM ?_; intro w hM)) | ((with_reducible apply is_st); refine su ?_) | ((with_reducible apply is_gd); first | refine gt ?_ | refine gf ?_ | refine gu ?_) | ((with_reducible apply is_en); refine en ?_) | (with_reducible apply c_region) | refine ws ?_ | refine x_block_other (by decide) ?_)
    refine kix hRp (fun b o last hx hA => ?_)
    rw [show ((path.length : Int) - 1).toNat = path.length - 1 by omega] at hx
    have hld : path.getD (path.length - 1) zeroH = last := by rw [List.getD_eq_getElem?_getD, hx]; rfl
    refine katr hM hA ?_
    refine kal hM (fun w b10 hM => ?_)
    refine kstw (vs := last.1.map u8v) hM (fun w hM => ?_)
    have hl32 : last.1.length = 32 := last.2
    repeat (first | ((with_reducible apply is_ld); first | refine kld hM ?_ | refine kldw hM ?_ | refine kle hM ?_ | refine klew hM ?_) | ((with_reducible apply is_sto); first | (refine kst hM ?_; intro w hM) | (refine kstw hM ?_; intro w hM)) | ((with_reducible apply is_st); refine su ?_) | ((with_reducible apply is_gd); first | refine gt ?_ | refine gf ?_ | refine gu ?_) | ((with_reducible apply is_en); refine en ?_) | (with_reducible apply c_region) | refine ws ?_ | refine x_block_other (by decide) ?_)
    refine kcuth hRp (fun v5 hV => ?_)
    rw [show ((path.length : Int) - 1).toNat = path.length - 1 by omega] at hV
    repeat (first | ((with_reducible apply is_ld); first | refine kld hM ?_ | refine kldw hM ?_ | refine kle hM ?_ | refine klew hM ?_) | ((with_reducible apply is_sto); first | (refine kst hM ?_; intro w hM) | (refine kstw hM ?_; intro w hM)) | ((with_reducible apply is_st); refine su ?_) | ((with_reducible apply is_gd); first | refine gt ?_ | refine gf ?_ | refine gu ?_) | ((with_reducible apply is_en); refine en ?_) | (with_reducible apply c_region) | refine ws ?_ | refine x_block_other (by decide) ?_)
    by_cases hik : i < splitN n
    · rw [decide_eq_true (by omega : (i : Int) < (splitN n : Int))]
      have htu := turns_left (n := n) (i := i) (by omega) (by omega) (by omega)
      rw [htu, List.length_cons] at hlen
      have hsd : sidesB n i = sidesB (splitN n) i ++ [false] := by
        unfold sidesB
        rw [htu]
        simp
      refine c_condb rfl (fun _ => ?_) (fun h => by cases h)
      repeat (first | ((with_reducible apply is_ld); first | refine kld hM ?_ | refine kldw hM ?_ | refine kle hM ?_ | refine klew hM ?_) | ((with_reducible apply is_sto); first | (refine kst hM ?_; intro w hM) | (refine kstw hM ?_; intro w hM)) | ((with_reducible apply is_st); refine su ?_) | ((with_reducible apply is_gd); first | refine gt ?_ | refine gf ?_ | refine gu ?_) | ((with_reducible apply is_en); refine en ?_) | (with_reducible apply c_region) | refine ws ?_ | refine x_block_other (by decide) ?_)
      refine ca (ih (splitN n) (by omega) i (slv ul) v5 leaf (path.take (path.length - 1)) w (hRl.ch hM.ch) (hV.ch hM.ch) (by omega) (by omega) (by rw [List.length_take]; omega) hll) ?_
      rintro v12 w2 ⟨ps, B, hN, hps⟩
      rw [upsT_take _ (by rw [sidesB_len]; omega)] at hps
      have hpl : ps.length = (turnsN (splitN n) i).length + 1 := by rw [← List.length_map (fun p : SlV × List UInt8 => p.2), hps, upsT_len, sidesB_len]
      have hbm := upsT_mem (path := path) (leaf := leaf) (sd := sidesB (splitN n) i) (m := 1000000065) (by omega) (by omega)
      rw [← hps] at hbm
      have hups : upsT path leaf (sidesB n i) = stepW path (ps.map (fun p : SlV × List UInt8 => p.2)) (false, path.length - 1) := by
        rw [hsd, upsT_snoc, hps, sidesB_len]
        congr 2
        omega
      have hM := hM.join hN (by simp [As.plain])
      simp only [List.cons_append, List.nil_append] at hM
      obtain ⟨A12, c12, rfl, _⟩ := (hM.row0 (v := v12) (by (repeat constructor))).form
      simp only [List.length_map] at hM ⊢
      repeat (first | ((with_reducible apply is_ld); first | refine kld hM ?_ | refine kldw hM ?_ | refine kle hM ?_ | refine klew hM ?_) | ((with_reducible apply is_sto); first | (refine kst hM ?_; intro w hM) | (refine kstw hM ?_; intro w hM)) | ((with_reducible apply is_st); refine su ?_) | ((with_reducible apply is_gd); first | refine gt ?_ | refine gf ?_ | refine gu ?_) | ((with_reducible apply is_en); refine en ?_) | (with_reducible apply c_region) | refine ws ?_ | refine x_block_other (by decide) ?_)
      (try ((with_reducible apply is_gd); first | refine gt ?_ | refine gf ?_ | refine gu ?_)); refine ix (hM.rowRd (en := eSl) (xs := ps.map (fun p : SlV × List UInt8 => p.1)) (by (repeat constructor)) (by simp; omega)) (fun b o x hx hA => ?_) (h1 := by simp; omega)
      (try ((with_reducible apply is_gd); first | refine gt ?_ | refine gf ?_ | refine gu ?_)); refine ld hA ?_
      rw [show ((ps.length : Int) - 1).toNat = ps.length - 1 by omega, List.getElem?_map] at hx
      obtain ⟨p, hpx, rfl⟩ := Option.map_eq_some_iff.1 hx
      have hpm := List.mem_of_getElem? hpx
      have hlast : (ps.map (fun p : SlV × List UInt8 => p.2)).getLastD [] = p.2 := getLastD_of (by rw [List.length_map, List.getElem?_map, hpx]; rfl)
      repeat (first | ((with_reducible apply is_ld); first | refine kld hM ?_ | refine kldw hM ?_ | refine kle hM ?_ | refine klew hM ?_) | ((with_reducible apply is_sto); first | (refine kst hM ?_; intro w hM) | (refine kstw hM ?_; intro w hM)) | ((with_reducible apply is_st); refine su ?_) | ((with_reducible apply is_gd); first | refine gt ?_ | refine gf ?_ | refine gu ?_) | ((with_reducible apply is_en); refine en ?_) | (with_reducible apply c_region) | refine ws ?_ | refine x_block_other (by decide) ?_)
      refine kca hM (rsum_any (slv p.1) p.2 w2 (hM.manyRd (ps := ps) (by (repeat constructor)) p hpm) (by have := hbm p.2 (List.mem_map_of_mem hpm); omega)) (X := hv (shaH p.2).1) (fun w hM => ?_)
      refine kal hM (fun w b13 hM => ?_)
      refine kstw (vs := (shaH p.2).1.map u8v) hM (fun w hM => ?_)
      have hsw : stepW path (ps.map (fun p : SlV × List UInt8 => p.2)) (false, path.length - 1) = ps.map (fun p : SlV × List UInt8 => p.2) ++ [1 :: ((shaH p.2).1 ++ last.1)] := by
        unfold stepW
        rw [hlast, hld]
        rfl
      generalize shaH p.2 = hH at hM hsw
      have hh32 : hH.1.length = 32 := hH.2
      repeat (first | ((with_reducible apply is_ld); first | refine kld hM ?_ | refine kldw hM ?_ | refine kle hM ?_ | refine klew hM ?_) | ((with_reducible apply is_sto); first | (refine kst hM ?_; intro w hM) | (refine kstw hM ?_; intro w hM)) | ((with_reducible apply is_st); refine su ?_) | ((with_reducible apply is_gd); first | refine gt ?_ | refine gf ?_ | refine gu ?_) | ((with_reducible apply is_en); refine en ?_) | (with_reducible apply c_region) | refine ws ?_ | refine x_block_other (by decide) ?_)
      rw [decide_eq_true (by omega : (i : Int) < (splitN n : Int))]
      refine c_condb rfl (fun _ => ?_) (fun h => by cases h)
      repeat (first | ((with_reducible apply is_ld); first | refine kld hM ?_ | refine kldw hM ?_ | refine kle hM ?_ | refine klew hM ?_) | ((with_reducible apply is_sto); first | (refine kst hM ?_; intro w hM) | (refine kstw hM ?_; intro w hM)) | ((with_reducible apply is_st); refine su ?_) | ((with_reducible apply is_gd); first | refine gt ?_ | refine gf ?_ | refine gu ?_) | ((with_reducible apply is_en); refine en ?_) | (with_reducible apply c_region) | refine ws ?_ | refine x_block_other (by decide) ?_)
      refine kdrl 6 hM (by kernel_rfl) (by kernel_rfl) (by kernel_rfl) (fun w hM => ?_)
      repeat (first | ((with_reducible apply is_sg); refine sgu ?_) | ((with_reducible apply is_gg); first | refine gtg ?_ | refine gfg ?_ | refine gug ?_) | ((with_reducible apply is_eg); refine eg ?_))
      refine wg_val (fun _ _ => r_cut_arr0 rfl) ?_
      refine wg_val (fun _ _ => r_cut_arr0 rfl) ?_
      refine lastg rfl (by kernel_rfl) (fun w hc => ?_)
      have hM := hM.call hc
      refine kbsC (en := eSl) (vs := [slv (some ⟨b13, 0, none⟩, 32, 32), slv (some ⟨b10, 0, none⟩, 32, 32)]) [(some ⟨b13, 0, none⟩, 32, 32), (some ⟨b10, 0, none⟩, 32, 32)] hM (fun w b60 hc hM => ?_)
      refine x_mid rfl hc ?_
      refine lastg rfl (by kernel_rfl) (fun w hc => ?_)
      have hM := hM.call hc
      have hhR : tU8.Rd [] w (slv (some ⟨b13, 0, none⟩, 32, 32)) hH.1 := by
        have := (hM.blk (b := b13) (by (repeat constructor))).rd8 (S := []) (cap := 32) (by simp) (by omega) (by omega)
        rwa [hh32] at this
      have hlR : tU8.Rd [] w (slv (some ⟨b10, 0, none⟩, 32, 32)) last.1 := by
        have := (hM.blk (b := b10) (by (repeat constructor))).rd8 (S := []) (cap := 32) (by simp) (by omega) (by omega)
        rwa [hl32] at this
      have hRb : (Ty.sl tU8).Rd [] w _ ([((some ⟨b13, 0, none⟩, 32, 32), hH.1), ((some ⟨b10, 0, none⟩, 32, 32), last.1)].map (fun p : SlV × List UInt8 => p.2)) := Ty.Rd.unraw (hM.rowRd (en := eSl) (xs := [(some ⟨b13, 0, none⟩, 32, 32), (some ⟨b10, 0, none⟩, 32, 32)]) (by (repeat constructor)) (by simp)) (fun p hp => by
        simp only [List.mem_cons, List.not_mem_nil, or_false] at hp
        rcases hp with rfl | rfl
        · exact hhR
        · exact hlR)
      refine ca (rbytes_any 1 _ _ w hRb (by simp [hl32, hh32])) ?_
      rintro v61 w2 ⟨hO, hc2⟩
      have hM := hM.got hc2 hO
      simp only [List.map_cons, List.map_nil, List.flatten_cons, List.flatten_nil, List.append_nil] at hM
      obtain ⟨u61, rfl⟩ : ∃ u : SlV, v61 = slv u := by obtain ⟨A, c, rfl, _⟩ := hO.form; exact ⟨(A, _, c), rfl⟩
      have hM := hM.rowFrd (by simp [hl32, hh32])
      have hM := (hM.pick (a := .many tU8 B ps) (by (repeat constructor))).manyPut
      refine x_mid rfl hc2 ?_
      refine lastg rfl (by kernel_rfl) (fun w hc => ?_)
      have hM := hM.call hc
      refine kbsC (en := eSl) (vs := [slv u61]) [u61] hM (fun w b65 hc hM => ?_)
      refine x_mid rfl hc ?_
      refine lastg rfl (by kernel_rfl) (fun w hc => ?_)
      have hM := hM.call hc
      refine kap (en := eSl) (ys := [u61]) hM (hM.rowRd (en := eSl) (xs := [u61]) (by (repeat constructor)) (by simp)) (fun v66 w hM => ?_) (hb := by simp; omega) (h63 := by simp; omega)
      obtain ⟨u66, rfl⟩ : ∃ u : SlV, v66 = slv u := by obtain ⟨A, c, rfl, _⟩ := (hM.row0 (v := v66) (by (repeat constructor))).form; exact ⟨(A, _, c), rfl⟩
      refine x_late rfl rfl ?_
      repeat (first | ((with_reducible apply is_sg); refine sgu ?_) | ((with_reducible apply is_gg); first | refine gtg ?_ | refine gfg ?_ | refine gug ?_) | ((with_reducible apply is_eg); refine eg ?_))
      intro w hc
      have hM := hM.call hc
      repeat (first | ((with_reducible apply is_ld); first | refine kld hM ?_ | refine kldw hM ?_ | refine kle hM ?_ | refine klew hM ?_) | ((with_reducible apply is_sto); first | (refine kst hM ?_; intro w hM) | (refine kstw hM ?_; intro w hM)) | ((with_reducible apply is_st); refine su ?_) | ((with_reducible apply is_gd); first | refine gt ?_ | refine gf ?_ | refine gu ?_) | ((with_reducible apply is_en); refine en ?_) | (with_reducible apply c_region) | refine ws ?_ | refine x_block_other (by decide) ?_)
      refine out1 rfl ⟨ps ++ [(u61, 1 :: (hH.1 ++ last.1))], fun k => B k ∨ (slv u61).ownBlock = some k, ?_, ?_⟩
      · rw [List.map_append]
        exact hM.sub (by (repeat constructor))
      · rw [List.map_append, hups, hsw]
        rfl
    · rw [decide_eq_false (by omega : ¬ (i : Int) < (splitN n : Int))]
      have htu := turns_right (n := n) (i := i) (by omega) (by omega) (by omega)
      rw [htu, List.length_cons] at hlen
      have hsd : sidesB n i = sidesB ((n - splitN n)) (i - splitN n) ++ [true] := by
        unfold sidesB
        rw [htu]
        simp
      refine c_condb rfl (fun h => by cases h) (fun _ => ?_)
      repeat (first | ((with_reducible apply is_ld); first | refine kld hM ?_ | refine kldw hM ?_ | refine kle hM ?_ | refine klew hM ?_) | ((with_reducible apply is_sto); first | (refine kst hM ?_; intro w hM) | (refine kstw hM ?_; intro w hM)) | ((with_reducible apply is_st); refine su ?_) | ((with_reducible apply is_gd); first | refine gt ?_ | refine gf ?_ | refine gu ?_) | ((with_reducible apply is_en); refine en ?_) | (with_reducible apply c_region) | refine ws ?_ | refine x_block_other (by decide) ?_)
      rw [show (n : Int) - (splitN n : Int) = ((n - splitN n : Nat) : Int) by omega, show (i : Int) - (splitN n : Int) = ((i - splitN n : Nat) : Int) by omega]
      refine ca (ih ((n - splitN n)) (by omega) (i - splitN n) (slv ul) v5 leaf (path.take (path.length - 1)) w (hRl.ch hM.ch) (hV.ch hM.ch) (by omega) (by omega) (by rw [List.length_take]; omega) hll) ?_
      rintro v12 w2 ⟨ps, B, hN, hps⟩
      rw [upsT_take _ (by rw [sidesB_len]; omega)] at hps
      have hpl : ps.length = (turnsN ((n - splitN n)) (i - splitN n)).length + 1 := by rw [← List.length_map (fun p : SlV × List UInt8 => p.2), hps, upsT_len, sidesB_len]
      have hbm := upsT_mem (path := path) (leaf := leaf) (sd := sidesB ((n - splitN n)) (i - splitN n)) (m := 1000000065) (by omega) (by omega)
      rw [← hps] at hbm
      have hups : upsT path leaf (sidesB n i) = stepW path (ps.map (fun p : SlV × List UInt8 => p.2)) (true, path.length - 1) := by
        rw [hsd, upsT_snoc, hps, sidesB_len]
        congr 2
        omega
      have hM := hM.join hN (by simp [As.plain])
      simp only [List.cons_append, List.nil_append] at hM
      obtain ⟨A12, c12, rfl, _⟩ := (hM.row0 (v := v12) (by (repeat constructor))).form
      simp only [List.length_map] at hM ⊢
      repeat (first | ((with_reducible apply is_ld); first | refine kld hM ?_ | refine kldw hM ?_ | refine kle hM ?_ | refine klew hM ?_) | ((with_reducible apply is_sto); first | (refine kst hM ?_; intro w hM) | (refine kstw hM ?_; intro w hM)) | ((with_reducible apply is_st); refine su ?_) | ((with_reducible apply is_gd); first | refine gt ?_ | refine gf ?_ | refine gu ?_) | ((with_reducible apply is_en); refine en ?_) | (with_reducible apply c_region) | refine ws ?_ | refine x_block_other (by decide) ?_)
      (try ((with_reducible apply is_gd); first | refine gt ?_ | refine gf ?_ | refine gu ?_)); refine ix (hM.rowRd (en := eSl) (xs := ps.map (fun p : SlV × List UInt8 => p.1)) (by (repeat constructor)) (by simp; omega)) (fun b o x hx hA => ?_) (h1 := by simp; omega)
      (try ((with_reducible apply is_gd); first | refine gt ?_ | refine gf ?_ | refine gu ?_)); refine ld hA ?_
      rw [show ((ps.length : Int) - 1).toNat = ps.length - 1 by omega, List.getElem?_map] at hx
      obtain ⟨p, hpx, rfl⟩ := Option.map_eq_some_iff.1 hx
      have hpm := List.mem_of_getElem? hpx
      have hlast : (ps.map (fun p : SlV × List UInt8 => p.2)).getLastD [] = p.2 := getLastD_of (by rw [List.length_map, List.getElem?_map, hpx]; rfl)
      repeat (first | ((with_reducible apply is_ld); first | refine kld hM ?_ | refine kldw hM ?_ | refine kle hM ?_ | refine klew hM ?_) | ((with_reducible apply is_sto); first | (refine kst hM ?_; intro w hM) | (refine kstw hM ?_; intro w hM)) | ((with_reducible apply is_st); refine su ?_) | ((with_reducible apply is_gd); first | refine gt ?_ | refine gf ?_ | refine gu ?_) | ((with_reducible apply is_en); refine en ?_) | (with_reducible apply c_region) | refine ws ?_ | refine x_block_other (by decide) ?_)
      refine kca hM (rsum_any (slv p.1) p.2 w2 (hM.manyRd (ps := ps) (by (repeat constructor)) p hpm) (by have := hbm p.2 (List.mem_map_of_mem hpm); omega)) (X := hv (shaH p.2).1) (fun w hM => ?_)
      refine kal hM (fun w b13 hM => ?_)
      refine kstw (vs := (shaH p.2).1.map u8v) hM (fun w hM => ?_)
      have hsw : stepW path (ps.map (fun p : SlV × List UInt8 => p.2)) (true, path.length - 1) = ps.map (fun p : SlV × List UInt8 => p.2) ++ [1 :: (last.1 ++ (shaH p.2).1)] := by
        unfold stepW
        rw [hlast, hld]
        rfl
      generalize shaH p.2 = hH at hM hsw
      have hh32 : hH.1.length = 32 := hH.2
      repeat (first | ((with_reducible apply is_ld); first | refine kld hM ?_ | refine kldw hM ?_ | refine kle hM ?_ | refine klew hM ?_) | ((with_reducible apply is_sto); first | (refine kst hM ?_; intro w hM) | (refine kstw hM ?_; intro w hM)) | ((with_reducible apply is_st); refine su ?_) | ((with_reducible apply is_gd); first | refine gt ?_ | refine gf ?_ | refine gu ?_) | ((with_reducible apply is_en); refine en ?_) | (with_reducible apply c_region) | refine ws ?_ | refine x_block_other (by decide) ?_)
      rw [decide_eq_false (by omega : ¬ (i : Int) < (splitN n : Int))]
      refine c_condb rfl (fun h => by cases h) (fun _ => ?_)
      repeat (first | ((with_reducible apply is_ld); first | refine kld hM ?_ | refine kldw hM ?_ | refine kle hM ?_ | refine klew hM ?_) | ((with_reducible apply is_sto); first | (refine kst hM ?_; intro w hM) | (refine kstw hM ?_; intro w hM)) | ((with_reducible apply is_st); refine su ?_) | ((with_reducible apply is_gd); first | refine gt ?_ | refine gf ?_ | refine gu ?_) | ((with_reducible apply is_en); refine en ?_) | (with_reducible apply c_region) | refine ws ?_ | refine x_block_other (by decide) ?_)
      refine kdrl 6 hM (by kernel_rfl) (by kernel_rfl) (by kernel_rfl) (fun w hM => ?_)
      repeat (first | ((with_reducible apply is_sg); refine sgu ?_) | ((with_reducible apply is_gg); first | refine gtg ?_ | refine gfg ?_ | refine gug ?_) | ((with_reducible apply is_eg); refine eg ?_))
      refine wg_val (fun _ _ => r_cut_arr0 rfl) ?_
      refine wg_val (fun _ _ => r_cut_arr0 rfl) ?_
      refine lastg rfl (by kernel_rfl) (fun w hc => ?_)
      have hM := hM.call hc
      refine kbsC (en := eSl) (vs := [slv (some ⟨b10, 0, none⟩, 32, 32), slv (some ⟨b13, 0, none⟩, 32, 32)]) [(some ⟨b10, 0, none⟩, 32, 32), (some ⟨b13, 0, none⟩, 32, 32)] hM (fun w b60 hc hM => ?_)
      refine x_mid rfl hc ?_
      refine lastg rfl (by kernel_rfl) (fun w hc => ?_)
      have hM := hM.call hc
      have hhR : tU8.Rd [] w (slv (some ⟨b13, 0, none⟩, 32, 32)) hH.1 := by
        have := (hM.blk (b := b13) (by (repeat constructor))).rd8 (S := []) (cap := 32) (by simp) (by omega) (by omega)
        rwa [hh32] at this
      have hlR : tU8.Rd [] w (slv (some ⟨b10, 0, none⟩, 32, 32)) last.1 := by
        have := (hM.blk (b := b10) (by (repeat constructor))).rd8 (S := []) (cap := 32) (by simp) (by omega) (by omega)
        rwa [hl32] at this
      have hRb : (Ty.sl tU8).Rd [] w _ ([((some ⟨b10, 0, none⟩, 32, 32), last.1), ((some ⟨b13, 0, none⟩, 32, 32), hH.1)].map (fun p : SlV × List UInt8 => p.2)) := Ty.Rd.unraw (hM.rowRd (en := eSl) (xs := [(some ⟨b10, 0, none⟩, 32, 32), (some ⟨b13, 0, none⟩, 32, 32)]) (by (repeat constructor)) (by simp)) (fun p hp => by
        simp only [List.mem_cons, List.not_mem_nil, or_false] at hp
        rcases hp with rfl | rfl
        · exact hlR
        · exact hhR)
      refine ca (rbytes_any 1 _ _ w hRb (by simp [hl32, hh32])) ?_
      rintro v61 w2 ⟨hO, hc2⟩
      have hM := hM.got hc2 hO
      simp only [List.map_cons, List.map_nil, List.flatten_cons, List.flatten_nil, List.append_nil] at hM
      obtain ⟨u61, rfl⟩ : ∃ u : SlV, v61 = slv u := by obtain ⟨A, c, rfl, _⟩ := hO.form; exact ⟨(A, _, c), rfl⟩
      have hM := hM.rowFrd (by simp [hl32, hh32])
      have hM := (hM.pick (a := .many tU8 B ps) (by (repeat constructor))).manyPut
      refine x_mid rfl hc2 ?_
      refine lastg rfl (by kernel_rfl) (fun w hc => ?_)
      have hM := hM.call hc
      refine kbsC (en := eSl) (vs := [slv u61]) [u61] hM (fun w b65 hc hM => ?_)
      refine x_mid rfl hc ?_
      refine lastg rfl (by kernel_rfl) (fun w hc => ?_)
      have hM := hM.call hc
      refine kap (en := eSl) (ys := [u61]) hM (hM.rowRd (en := eSl) (xs := [u61]) (by (repeat constructor)) (by simp)) (fun v66 w hM => ?_) (hb := by simp; omega) (h63 := by simp; omega)
      obtain ⟨u66, rfl⟩ : ∃ u : SlV, v66 = slv u := by obtain ⟨A, c, rfl, _⟩ := (hM.row0 (v := v66) (by (repeat constructor))).form; exact ⟨(A, _, c), rfl⟩
      refine x_late rfl rfl ?_
      repeat (first | ((with_reducible apply is_sg); refine sgu ?_) | ((with_reducible apply is_gg); first | refine gtg ?_ | refine gfg ?_ | refine gug ?_) | ((with_reducible apply is_eg); refine eg ?_))
      intro w hc
      have hM := hM.call hc
      repeat (first | ((with_reducible apply is_ld); first | refine kld hM ?_ | refine kldw hM ?_ | refine kle hM ?_ | refine klew hM ?_) | ((with_reducible apply is_sto); first | (refine kst hM ?_; intro w hM) | (refine kstw hM ?_; intro w hM)) | ((with_reducible apply is_st); refine su ?_) | ((with_reducible apply is_gd); first | refine gt ?_ | refine gf ?_ | refine gu ?_) | ((with_reducible apply is_en); refine en ?_) | (with_reducible apply c_region) | refine ws ?_ | refine x_block_other (by decide) ?_)
      refine out1 rfl ⟨ps ++ [(u61, 1 :: (last.1 ++ hH.1))], fun k => B k ∨ (slv u61).ownBlock = some k, ?_, ?_⟩
      · rw [List.map_append]
        exact hM.sub (by (repeat constructor))
      · rw [List.map_append, hups, hsw]
        rfl
end Go.Proofs.YtnkkeehoejmcnaaDoor
set_option linter.unusedVariables false
set_option linter.unusedSimpArgs false
namespace Go.Proofs.YtnkkeehoejmcnaaDoor
open Go Go.RowKit Go.Proofs.E
attribute [local irreducible] Go.wpList Go.Code.wp Go.Proofs.E.exec Go.Proofs.E.wpLexG
set_option maxHeartbeats 8000000 in
theorem rUps_any (n i : Int) (vl vp : Value) (leaf : List UInt8) (path : List Hs) (w0 : World) (hRl : tU8.Rd [] w0 vl leaf) (hRp : (Ty.enc eH).Rd [] w0 vp path) (hll : leaf.length ≤ 1000000000) :
    Calls Tryd.prog 29 #[.int .i64 n, .int .i64 i, vl, vp] w0 (Ret fun u w' => ∃ v B, u = .tuple #[v, .bool (climbZ n i zeroH path).2] ∧ Mem [] w0 w' [.frd (Ty.sl tU8) B v (upsZ n i leaf path)]) := by
  have hM := Mem.start w0
  obtain ⟨ul, rfl⟩ := hRl.slv
  obtain ⟨up, rfl⟩ := hRp.slv
  refine enter [.int .i64 n, .int .i64 i, slv ul, slv up, undef, undef, undef, undef, undef, undef, undef, undef, undef, undef, undef, undef, undef, undef, undef, undef, undef, undef, undef, undef, undef, undef, undef] Tryd.func29 rfl rfl ?_
  repeat (first | ((with_reducible apply is_ld); first | refine kld hM ?_ | refine kldw hM ?_ | refine kle hM ?_ | refine klew hM ?_) | ((with_reducible apply is_sto); first | (refine kst hM ?_; intro w hM) | (refine kstw hM ?_; intro w hM)) | ((with_reducible apply is_st); refine su ?_) | ((with_reducible apply is_gd); first | refine gt ?_ | refine gf ?_ | refine gu ?_) | ((with_reducible apply is_en); refine en ?_) | (with_reducible apply c_region) | refine ws ?_ | refine x_block_other (by decide) ?_)
  (try ((with_reducible apply is_gd); first | refine gt ?_ | refine gf ?_ | refine gu ?_)); refine wl_val (r_build_arr0 (e := 5)) ?_
  repeat (first | ((with_reducible apply is_ld); first | refine kld hM ?_ | refine kldw hM ?_ | refine kle hM ?_ | refine klew hM ?_) | ((with_reducible apply is_sto); first | (refine kst hM ?_; intro w hM) | (refine kstw hM ?_; intro w hM)) | ((with_reducible apply is_st); refine su ?_) | ((with_reducible apply is_gd); first | refine gt ?_ | refine gf ?_ | refine gu ?_) | ((with_reducible apply is_en); refine en ?_) | (with_reducible apply c_region) | refine ws ?_ | refine x_block_other (by decide) ?_)
  refine kca hM (rclimb_any n i zeroH (slv up) path w0 hRp) (fun w hM => ?_)
  unfold upsZ
  have hok := climbZ_ok (n := n) (i := i) (leaf := zeroH) (path := path)
  generalize climbZ n i zeroH path = cz at hok ⊢
  repeat (first | ((with_reducible apply is_ld); first | refine kld hM ?_ | refine kldw hM ?_ | refine kle hM ?_ | refine klew hM ?_) | ((with_reducible apply is_sto); first | (refine kst hM ?_; intro w hM) | (refine kstw hM ?_; intro w hM)) | ((with_reducible apply is_st); refine su ?_) | ((with_reducible apply is_gd); first | refine gt ?_ | refine gf ?_ | refine gu ?_) | ((with_reducible apply is_en); refine en ?_) | (with_reducible apply c_region) | refine ws ?_ | refine x_block_other (by decide) ?_)
  refine kal hM (fun w b10 hM => ?_)
  refine kstw (vs := cz.1.1.map u8v) hM (fun w hM => ?_)
  repeat (first | ((with_reducible apply is_ld); first | refine kld hM ?_ | refine kldw hM ?_ | refine kle hM ?_ | refine klew hM ?_) | ((with_reducible apply is_sto); first | (refine kst hM ?_; intro w hM) | (refine kstw hM ?_; intro w hM)) | ((with_reducible apply is_st); refine su ?_) | ((with_reducible apply is_gd); first | refine gt ?_ | refine gf ?_ | refine gu ?_) | ((with_reducible apply is_en); refine en ?_) | (with_reducible apply c_region) | refine ws ?_ | refine x_block_other (by decide) ?_)
  by_cases hc : cz.2 = true
  case neg =>
    rw [Bool.not_eq_true] at hc
    rw [hc]
    refine c_condb rfl (fun _ => ?_) (fun h => by cases h)
    repeat (first | ((with_reducible apply is_ld); first | refine kld hM ?_ | refine kldw hM ?_ | refine kle hM ?_ | refine klew hM ?_) | ((with_reducible apply is_sto); first | (refine kst hM ?_; intro w hM) | (refine kstw hM ?_; intro w hM)) | ((with_reducible apply is_st); refine su ?_) | ((with_reducible apply is_gd); first | refine gt ?_ | refine gf ?_ | refine gu ?_) | ((with_reducible apply is_en); refine en ?_) | (with_reducible apply c_region) | refine ws ?_ | refine x_block_other (by decide) ?_)
    exact out2 rfl ⟨_, _, rfl, (hM.nil.frd0 (Ty.sl tU8) none 0)⟩
  case pos =>
    rw [hc]
    refine c_condb rfl (fun h => by cases h) (fun _ => ?_)
    obtain ⟨hin, hlen⟩ := hok.1 hc
    unfold inC at hin
    simp only [Bool.and_eq_true, decide_eq_true_eq] at hin
    obtain ⟨N, rfl⟩ := Int.eq_ofNat_of_zero_le (by omega : 0 ≤ n)
    obtain ⟨I, rfl⟩ := Int.eq_ofNat_of_zero_le (by omega : 0 ≤ i)
    rw [Int.toNat_natCast, Int.toNat_natCast] at hlen
    rw [Int.toNat_natCast, Int.toNat_natCast, if_pos rfl]
    have htl := turns_len N I
    repeat (first | ((with_reducible apply is_ld); first | refine kld hM ?_ | refine kldw hM ?_ | refine kle hM ?_ | refine klew hM ?_) | ((with_reducible apply is_sto); first | (refine kst hM ?_; intro w hM) | (refine kstw hM ?_; intro w hM)) | ((with_reducible apply is_st); refine su ?_) | ((with_reducible apply is_gd); first | refine gt ?_ | refine gf ?_ | refine gu ?_) | ((with_reducible apply is_en); refine en ?_) | (with_reducible apply c_region) | refine ws ?_ | refine x_block_other (by decide) ?_)
    refine ca (rups_any N I (slv ul) (slv up) leaf path w (hRl.ch hM.ch) (hRp.ch hM.ch) (by omega) (by omega) hlen hll) ?_
    rintro v w2 ⟨ps, B, hN, hps⟩
    have hM := hM.nil.join hN (by simp [As.plain])
    have hpl : ps.length = (sidesB N I).length + 1 := by rw [← List.length_map (fun p : SlV × List UInt8 => p.2), hps, upsT_len]
    rw [sidesB_len] at hpl
    repeat (first | ((with_reducible apply is_ld); first | refine kld hM ?_ | refine kldw hM ?_ | refine kle hM ?_ | refine klew hM ?_) | ((with_reducible apply is_sto); first | (refine kst hM ?_; intro w hM) | (refine kstw hM ?_; intro w hM)) | ((with_reducible apply is_st); refine su ?_) | ((with_reducible apply is_gd); first | refine gt ?_ | refine gf ?_ | refine gu ?_) | ((with_reducible apply is_en); refine en ?_) | (with_reducible apply c_region) | refine ws ?_ | refine x_block_other (by decide) ?_)
    have hM := (hM.sub (M := [.row eSl 28 v (ps.map (fun p : SlV × List UInt8 => p.1)), .many tU8 B ps]) (by (repeat constructor))).manyFrd (by omega)
    rw [hps] at hM
    exact out2 rfl ⟨_, _, rfl, hM⟩
set_option maxHeartbeats 16000000 in
theorem rfirst_any (va vb : Value) (xs ys : List (List UInt8)) (w0 : World) (hRa : (Ty.sl tU8).Rd [] w0 va xs) (hRb : (Ty.sl tU8).Rd [] w0 vb ys)
    (ha : ∀ x ∈ xs, x.length ≤ 1099511627776) (hb : ∀ x ∈ ys, x.length ≤ 1099511627776) (hla : xs.length ≤ 1099511627776) :
    Calls Tryd.prog 44 #[va, vb] w0 (Ret fun u w' => ∃ v1 v2, u = .tuple #[v1, v2, .bool (firstL (pairsL xs ys)).isSome] ∧
      Mem [] w0 w' [.row eU8 5 v1 (fstL (firstL (pairsL xs ys))), .row eU8 5 v2 (sndL (firstL (pairsL xs ys)))]) := by
  obtain ⟨ps, rfl, hPa, hpa⟩ := hRa.raw
  obtain ⟨qs, rfl, hPb, hqb⟩ := hRb.raw
  have hM := Mem.start w0
  unfold pairsL
  rw [zip_pr]
  obtain ⟨R, hR⟩ : ∃ R, ps.reverse.zip qs.reverse = R := ⟨_, rfl⟩
  have hmem : ∀ r ∈ R, r.1 ∈ ps ∧ r.2 ∈ qs := fun r hr => by
    rw [← hR] at hr
    have := List.of_mem_zip (a := r.1) (b := r.2) hr
    simpa using this
  rw [hR]
  have hRl : R.length = min ps.length qs.length := by rw [← hR]; simp
  have hle1 := hPa.le
  have hle2 := hPb.le
  obtain ⟨A1, c1, rfl⟩ := hPa.form
  obtain ⟨A2, c2, rfl⟩ := hPb.form
  simp only [List.length_map] at hla hle1 hle2 hPa hPb ⊢
  refine enter [.slice A1 ps.length c1, .slice A2 qs.length c2, undef, undef, undef, undef, undef, undef, undef, undef, undef, undef, undef, undef, undef, undef, undef, undef, undef, undef, undef, undef, undef, undef, undef, undef, undef, undef, undef, undef, undef, undef, undef, undef, undef, undef, undef, undef, undef, undef, undef, undef, undef, undef, undef, undef, undef, undef, undef, undef, undef, undef] Tryd.func44 rfl rfl ?_
  repeat (first | ((with_reducible apply is_ld); first | refine kld hM ?_ | refine kldw hM ?_ | refine kle hM ?_ | refine klew hM ?_) | ((with_reducible apply is_sto); first | (refine kst hM ?_; intro w hM) | (refine kstw hM ?_; intro w hM)) | ((with_reducible apply is_st); refine su ?_) | ((with_reducible apply is_gd); first | refine gt ?_ | refine gf ?_ | refine gu ?_) | ((with_reducible apply is_en); refine en ?_) | (with_reducible apply c_region) | refine ws ?_ | refine x_block_other (by decide) ?_)
  
  refine c_loop (fun k l w => ∃ (j : Nat), (∃ jj : Nat → Value, l = [.slice A1 ps.length c1, .slice A2 qs.length c2, jj 2, jj 3, jj 4, jj 5, jj 6, .int .i64 ((j : Int) + 1), jj 8, jj 9, jj 10, jj 11, jj 12, jj 13, jj 14, jj 15, jj 16, jj 17, jj 18, jj 19, jj 20, jj 21, jj 22, jj 23, jj 24, jj 25, jj 26, jj 27, jj 28, jj 29, jj 30, jj 31, jj 32, jj 33, jj 34, jj 35, jj 36, jj 37, jj 38, jj 39, jj 40, jj 41, jj 42, jj 43, jj 44, jj 45, jj 46, jj 47, jj 48, jj 49, jj 50, jj 51]) ∧ k + j = R.length ∧ Mem [] w0 w [] ∧ firstL (R.map fun r => (r.1.2, r.2.2)) = firstL ((R.drop j).map fun r => (r.1.2, r.2.2))) R.length
    ⟨0, exj rfl, rfl, hM, rfl⟩ ?_
  clear hM
  rintro k l w ⟨j, ⟨jj, rfl⟩, hkj, hM, hf⟩
  repeat (first | ((with_reducible apply is_ld); first | refine kld hM ?_ | refine kldw hM ?_ | refine kle hM ?_ | refine klew hM ?_) | ((with_reducible apply is_sto); first | (refine kst hM ?_; intro w hM) | (refine kstw hM ?_; intro w hM)) | ((with_reducible apply is_st); refine su ?_) | ((with_reducible apply is_gd); first | refine gt ?_ | refine gf ?_ | refine gu ?_) | ((with_reducible apply is_en); refine en ?_) | (with_reducible apply c_region) | refine ws ?_ | refine x_block_other (by decide) ?_)
  by_cases hj : j < R.length
  · rw [decide_eq_true (by omega : (j : Int) + 1 ≤ (ps.length : Int))]
    repeat (first | ((with_reducible apply is_ld); first | refine kld hM ?_ | refine kldw hM ?_ | refine kle hM ?_ | refine klew hM ?_) | ((with_reducible apply is_sto); first | (refine kst hM ?_; intro w hM) | (refine kstw hM ?_; intro w hM)) | ((with_reducible apply is_st); refine su ?_) | ((with_reducible apply is_gd); first | refine gt ?_ | refine gf ?_ | refine gu ?_) | ((with_reducible apply is_en); refine en ?_) | (with_reducible apply c_region) | refine ws ?_ | refine x_block_other (by decide) ?_)
    rw [decide_eq_true (by omega : (j : Int) + 1 ≤ (qs.length : Int))]
    repeat (first | ((with_reducible apply is_ld); first | refine kld hM ?_ | refine kldw hM ?_ | refine kle hM ?_ | refine klew hM ?_) | ((with_reducible apply is_sto); first | (refine kst hM ?_; intro w hM) | (refine kstw hM ?_; intro w hM)) | ((with_reducible apply is_st); refine su ?_) | ((with_reducible apply is_gd); first | refine gt ?_ | refine gf ?_ | refine gu ?_) | ((with_reducible apply is_en); refine en ?_) | (with_reducible apply c_region) | refine ws ?_ | refine x_block_other (by decide) ?_)
    refine c_condb rfl (fun _ => ?_) (fun h => by cases h)
    obtain ⟨q, hq⟩ : ∃ q, R[j]? = some q := ⟨_, List.getElem?_eq_getElem hj⟩
    have hqm := hmem q (List.mem_of_getElem? hq)
    have hx := hpa q.1 hqm.1
    have hy := hqb q.2 hqm.2
    have hxl := ha q.1.2 (List.mem_map_of_mem hqm.1)
    have hyl := hb q.2.2 (List.mem_map_of_mem hqm.2)
    have hd : R.drop j = q :: R.drop (j + 1) := by
      obtain ⟨hlt, he⟩ := List.getElem?_eq_some_iff.1 hq
      rw [List.drop_eq_getElem_cons hlt, he]
    rw [hd, List.map_cons] at hf
    have hqa : ps[ps.length - 1 - j]? = some q.1 ∧ qs[qs.length - 1 - j]? = some q.2 := by
      rw [← hR, List.getElem?_zip_eq_some, List.getElem?_reverse (by omega), List.getElem?_reverse (by omega)] at hq
      exact hq
    repeat (first | ((with_reducible apply is_ld); first | refine kld hM ?_ | refine kldw hM ?_ | refine kle hM ?_ | refine klew hM ?_) | ((with_reducible apply is_sto); first | (refine kst hM ?_; intro w hM) | (refine kstw hM ?_; intro w hM)) | ((with_reducible apply is_st); refine su ?_) | ((with_reducible apply is_gd); first | refine gt ?_ | refine gf ?_ | refine gu ?_) | ((with_reducible apply is_en); refine en ?_) | (with_reducible apply c_region) | refine ws ?_ | refine x_block_other (by decide) ?_)
    refine kdr hM (by kernel_rfl) (by kernel_rfl) (fun w hM => ?_)
    repeat (first | ((with_reducible apply is_ldg); first | refine kldg hM ?_ | refine kldwg hM ?_) | ((with_reducible apply is_sg); refine sgu ?_) | ((with_reducible apply is_gg); first | refine gtg ?_ | refine gfg ?_ | refine gug ?_) | ((with_reducible apply is_eg); refine eg ?_))
    refine kixg hPa (fun o1 o2 x hx' hA => ?_) (h1 := by simp; omega)
    refine katg hM hA ?_
    repeat (first | ((with_reducible apply is_ldg); first | refine kldg hM ?_ | refine kldwg hM ?_) | ((with_reducible apply is_sg); refine sgu ?_) | ((with_reducible apply is_gg); first | refine gtg ?_ | refine gfg ?_ | refine gug ?_) | ((with_reducible apply is_eg); refine eg ?_))
    refine kixg hPb (fun o3 o4 y hy' hA' => ?_) (h1 := by simp; omega)
    refine katg hM hA' ?_
    rw [show ((ps.length : Int) - ((j : Int) + 1)).toNat = ps.length - 1 - j by omega, List.getElem?_map, hqa.1] at hx'
    rw [show ((qs.length : Int) - ((j : Int) + 1)).toNat = qs.length - 1 - j by omega, List.getElem?_map, hqa.2] at hy'
    obtain rfl := Option.some.inj hx'
    obtain rfl := Option.some.inj hy'
    obtain ⟨⟨u1, x1⟩, ⟨u2, x2⟩⟩ := q
    simp only at hx hy hxl hyl hf hA hA' ⊢
    repeat (first | ((with_reducible apply is_ldg); first | refine kldg hM ?_ | refine kldwg hM ?_) | ((with_reducible apply is_sg); refine sgu ?_) | ((with_reducible apply is_gg); first | refine gtg ?_ | refine gfg ?_ | refine gug ?_) | ((with_reducible apply is_eg); refine eg ?_))
    (intro w hc; have hM := hM.call hc)
    repeat (first | ((with_reducible apply is_ld); first | refine kld hM ?_ | refine kldw hM ?_ | refine kle hM ?_ | refine klew hM ?_) | ((with_reducible apply is_sto); first | (refine kst hM ?_; intro w hM) | (refine kstw hM ?_; intro w hM)) | ((with_reducible apply is_st); refine su ?_) | ((with_reducible apply is_gd); first | refine gt ?_ | refine gf ?_ | refine gu ?_) | ((with_reducible apply is_en); refine en ?_) | (with_reducible apply c_region) | refine ws ?_ | refine x_block_other (by decide) ?_)
    (try ((with_reducible apply is_gd); first | refine gt ?_ | refine gf ?_ | refine gu ?_)); refine wl_val (r_b2s (hx.ch hM.ch)) ?_
    repeat (first | ((with_reducible apply is_ld); first | refine kld hM ?_ | refine kldw hM ?_ | refine kle hM ?_ | refine klew hM ?_) | ((with_reducible apply is_sto); first | (refine kst hM ?_; intro w hM) | (refine kstw hM ?_; intro w hM)) | ((with_reducible apply is_st); refine su ?_) | ((with_reducible apply is_gd); first | refine gt ?_ | refine gf ?_ | refine gu ?_) | ((with_reducible apply is_en); refine en ?_) | (with_reducible apply c_region) | refine ws ?_ | refine x_block_other (by decide) ?_)
    (try ((with_reducible apply is_gd); first | refine gt ?_ | refine gf ?_ | refine gu ?_)); refine wl_val (r_b2s (hy.ch hM.ch)) ?_
    (try ((with_reducible apply is_gd); first | refine gt ?_ | refine gf ?_ | refine gu ?_)); refine wl_val (r_eqst) ?_
    repeat (first | ((with_reducible apply is_ld); first | refine kld hM ?_ | refine kldw hM ?_ | refine kle hM ?_ | refine klew hM ?_) | ((with_reducible apply is_sto); first | (refine kst hM ?_; intro w hM) | (refine kstw hM ?_; intro w hM)) | ((with_reducible apply is_st); refine su ?_) | ((with_reducible apply is_gd); first | refine gt ?_ | refine gf ?_ | refine gu ?_) | ((with_reducible apply is_en); refine en ?_) | (with_reducible apply c_region) | refine ws ?_ | refine x_block_other (by decide) ?_)
    by_cases hxy : x1 = x2
    · rw [decide_eq_true hxy]
      refine c_condb rfl (fun _ => ?_) (fun h => by cases h)
      repeat (first | ((with_reducible apply is_ld); first | refine kld hM ?_ | refine kldw hM ?_ | refine kle hM ?_ | refine klew hM ?_) | ((with_reducible apply is_sto); first | (refine kst hM ?_; intro w hM) | (refine kstw hM ?_; intro w hM)) | ((with_reducible apply is_st); refine su ?_) | ((with_reducible apply is_gd); first | refine gt ?_ | refine gf ?_ | refine gu ?_) | ((with_reducible apply is_en); refine en ?_) | (with_reducible apply c_region) | refine ws ?_ | refine x_block_other (by decide) ?_)
      refine x_goes (k - 1) rfl (by omega) ⟨j + 1, exj rfl, by omega, hM, ?_⟩
      rw [hf, firstL, if_pos hxy]
    · rw [decide_eq_false hxy]
      refine c_condb rfl (fun h => by cases h) (fun _ => ?_)
      repeat (first | ((with_reducible apply is_ld); first | refine kld hM ?_ | refine kldw hM ?_ | refine kle hM ?_ | refine klew hM ?_) | ((with_reducible apply is_sto); first | (refine kst hM ?_; intro w hM) | (refine kstw hM ?_; intro w hM)) | ((with_reducible apply is_st); refine su ?_) | ((with_reducible apply is_gd); first | refine gt ?_ | refine gf ?_ | refine gu ?_) | ((with_reducible apply is_en); refine en ?_) | (with_reducible apply c_region) | refine ws ?_ | refine x_block_other (by decide) ?_)
      refine kca hM (rsum_any (slv u1) x1 w (hx.ch hM.ch) (by omega)) (fun w hM => ?_)
      repeat (first | ((with_reducible apply is_ld); first | refine kld hM ?_ | refine kldw hM ?_ | refine kle hM ?_ | refine klew hM ?_) | ((with_reducible apply is_sto); first | (refine kst hM ?_; intro w hM) | (refine kstw hM ?_; intro w hM)) | ((with_reducible apply is_st); refine su ?_) | ((with_reducible apply is_gd); first | refine gt ?_ | refine gf ?_ | refine gu ?_) | ((with_reducible apply is_en); refine en ?_) | (with_reducible apply c_region) | refine ws ?_ | refine x_block_other (by decide) ?_)
      refine kca hM (rsum_any (slv u2) x2 w (hy.ch hM.ch) (by omega)) (fun w hM => ?_)
      (try ((with_reducible apply is_gd); first | refine gt ?_ | refine gf ?_ | refine gu ?_)); refine wl_val (r_neq8 (a := shaOf x1) (b := shaOf x2) (by kernel_rfl) rfl rfl (shaOf_len _) (shaOf_len _)) ?_
      repeat (first | ((with_reducible apply is_ld); first | refine kld hM ?_ | refine kldw hM ?_ | refine kle hM ?_ | refine klew hM ?_) | ((with_reducible apply is_sto); first | (refine kst hM ?_; intro w hM) | (refine kstw hM ?_; intro w hM)) | ((with_reducible apply is_st); refine su ?_) | ((with_reducible apply is_gd); first | refine gt ?_ | refine gf ?_ | refine gu ?_) | ((with_reducible apply is_en); refine en ?_) | (with_reducible apply c_region) | refine ws ?_ | refine x_block_other (by decide) ?_)
      by_cases hs : shaOf x1 = shaOf x2
      · have hv : firstL (R.map fun r => (r.1.2, r.2.2)) = some (x1, x2) := by rw [hf, firstL, if_neg hxy, if_pos hs]
        rw [decide_eq_true hs, hv]
        refine c_condb rfl (fun h => by cases h) (fun _ => ?_)
        repeat (first | ((with_reducible apply is_ld); first | refine kld hM ?_ | refine kldw hM ?_ | refine kle hM ?_ | refine klew hM ?_) | ((with_reducible apply is_sto); first | (refine kst hM ?_; intro w hM) | (refine kstw hM ?_; intro w hM)) | ((with_reducible apply is_st); refine su ?_) | ((with_reducible apply is_gd); first | refine gt ?_ | refine gf ?_ | refine gu ?_) | ((with_reducible apply is_en); refine en ?_) | (with_reducible apply c_region) | refine ws ?_ | refine x_block_other (by decide) ?_)
        refine kbs (en := eU8) (vs := []) [] hM (fun w b46 hM => ?_)
        repeat (first | ((with_reducible apply is_ld); first | refine kld hM ?_ | refine kldw hM ?_ | refine kle hM ?_ | refine klew hM ?_) | ((with_reducible apply is_sto); first | (refine kst hM ?_; intro w hM) | (refine kstw hM ?_; intro w hM)) | ((with_reducible apply is_st); refine su ?_) | ((with_reducible apply is_gd); first | refine gt ?_ | refine gf ?_ | refine gu ?_) | ((with_reducible apply is_en); refine en ?_) | (with_reducible apply c_region) | refine ws ?_ | refine x_block_other (by decide) ?_)
        refine kap (en := eU8) (ys := x1) hM (hx.ch hM.ch) (fun v1 w hM => ?_) (hb := by simp; omega) (h63 := by simp; omega)
        obtain ⟨A3, c3, rfl, _⟩ := (hM.row0 (v := v1) (by (repeat constructor))).form
        refine kbs (en := eU8) (vs := []) [] hM (fun w b49 hM => ?_)
        repeat (first | ((with_reducible apply is_ld); first | refine kld hM ?_ | refine kldw hM ?_ | refine kle hM ?_ | refine klew hM ?_) | ((with_reducible apply is_sto); first | (refine kst hM ?_; intro w hM) | (refine kstw hM ?_; intro w hM)) | ((with_reducible apply is_st); refine su ?_) | ((with_reducible apply is_gd); first | refine gt ?_ | refine gf ?_ | refine gu ?_) | ((with_reducible apply is_en); refine en ?_) | (with_reducible apply c_region) | refine ws ?_ | refine x_block_other (by decide) ?_)
        refine kap (en := eU8) (ys := x2) hM (hy.ch hM.ch) (fun v2 w hM => ?_) (hb := by simp; omega) (h63 := by simp; omega)
        obtain ⟨A4, c4, rfl, _⟩ := (hM.row0 (v := v2) (by (repeat constructor))).form
        repeat (first | ((with_reducible apply is_ld); first | refine kld hM ?_ | refine kldw hM ?_ | refine kle hM ?_ | refine klew hM ?_) | ((with_reducible apply is_sto); first | (refine kst hM ?_; intro w hM) | (refine kstw hM ?_; intro w hM)) | ((with_reducible apply is_st); refine su ?_) | ((with_reducible apply is_gd); first | refine gt ?_ | refine gf ?_ | refine gu ?_) | ((with_reducible apply is_en); refine en ?_) | (with_reducible apply c_region) | refine ws ?_ | refine x_block_other (by decide) ?_)
        exact out3 rfl ⟨_, _, rfl, hM.sub (M := [.row eU8 5 _ ([] ++ x1), .row eU8 5 _ ([] ++ x2)]) (by (repeat constructor))⟩
      · have hv : firstL (R.map fun r => (r.1.2, r.2.2)) = none := by rw [hf, firstL, if_neg hxy, if_neg hs]
        rw [decide_eq_false hs, hv]
        refine c_condb rfl (fun _ => ?_) (fun h => by cases h)
        repeat (first | ((with_reducible apply is_ld); first | refine kld hM ?_ | refine kldw hM ?_ | refine kle hM ?_ | refine klew hM ?_) | ((with_reducible apply is_sto); first | (refine kst hM ?_; intro w hM) | (refine kstw hM ?_; intro w hM)) | ((with_reducible apply is_st); refine su ?_) | ((with_reducible apply is_gd); first | refine gt ?_ | refine gf ?_ | refine gu ?_) | ((with_reducible apply is_en); refine en ?_) | (with_reducible apply c_region) | refine ws ?_ | refine x_block_other (by decide) ?_)
        exact out3 rfl ⟨_, _, rfl, (hM.nilRow eU8 5).nilRow eU8 5⟩
  · have hv : firstL (R.map fun r => (r.1.2, r.2.2)) = none := by rw [hf, List.drop_eq_nil_of_le (by omega)]; rfl
    rw [hv]
    by_cases h1 : (j : Int) + 1 ≤ (ps.length : Int)
    · rw [decide_eq_true h1]
      repeat (first | ((with_reducible apply is_ld); first | refine kld hM ?_ | refine kldw hM ?_ | refine kle hM ?_ | refine klew hM ?_) | ((with_reducible apply is_sto); first | (refine kst hM ?_; intro w hM) | (refine kstw hM ?_; intro w hM)) | ((with_reducible apply is_st); refine su ?_) | ((with_reducible apply is_gd); first | refine gt ?_ | refine gf ?_ | refine gu ?_) | ((with_reducible apply is_en); refine en ?_) | (with_reducible apply c_region) | refine ws ?_ | refine x_block_other (by decide) ?_)
      rw [decide_eq_false (by omega : ¬ (j : Int) + 1 ≤ (qs.length : Int))]
      repeat (first | ((with_reducible apply is_ld); first | refine kld hM ?_ | refine kldw hM ?_ | refine kle hM ?_ | refine klew hM ?_) | ((with_reducible apply is_sto); first | (refine kst hM ?_; intro w hM) | (refine kstw hM ?_; intro w hM)) | ((with_reducible apply is_st); refine su ?_) | ((with_reducible apply is_gd); first | refine gt ?_ | refine gf ?_ | refine gu ?_) | ((with_reducible apply is_en); refine en ?_) | (with_reducible apply c_region) | refine ws ?_ | refine x_block_other (by decide) ?_)
      refine c_condb rfl (fun h => by cases h) (fun _ => ?_)
      repeat (first | ((with_reducible apply is_ld); first | refine kld hM ?_ | refine kldw hM ?_ | refine kle hM ?_ | refine klew hM ?_) | ((with_reducible apply is_sto); first | (refine kst hM ?_; intro w hM) | (refine kstw hM ?_; intro w hM)) | ((with_reducible apply is_st); refine su ?_) | ((with_reducible apply is_gd); first | refine gt ?_ | refine gf ?_ | refine gu ?_) | ((with_reducible apply is_en); refine en ?_) | (with_reducible apply c_region) | refine ws ?_ | refine x_block_other (by decide) ?_)
      exact out3 rfl ⟨_, _, rfl, (hM.nilRow eU8 5).nilRow eU8 5⟩
    · rw [decide_eq_false h1]
      repeat (first | ((with_reducible apply is_ld); first | refine kld hM ?_ | refine kldw hM ?_ | refine kle hM ?_ | refine klew hM ?_) | ((with_reducible apply is_sto); first | (refine kst hM ?_; intro w hM) | (refine kstw hM ?_; intro w hM)) | ((with_reducible apply is_st); refine su ?_) | ((with_reducible apply is_gd); first | refine gt ?_ | refine gf ?_ | refine gu ?_) | ((with_reducible apply is_en); refine en ?_) | (with_reducible apply c_region) | refine ws ?_ | refine x_block_other (by decide) ?_)
      refine c_condb rfl (fun h => by cases h) (fun _ => ?_)
      repeat (first | ((with_reducible apply is_ld); first | refine kld hM ?_ | refine kldw hM ?_ | refine kle hM ?_ | refine klew hM ?_) | ((with_reducible apply is_sto); first | (refine kst hM ?_; intro w hM) | (refine kstw hM ?_; intro w hM)) | ((with_reducible apply is_st); refine su ?_) | ((with_reducible apply is_gd); first | refine gt ?_ | refine gf ?_ | refine gu ?_) | ((with_reducible apply is_en); refine en ?_) | (with_reducible apply c_region) | refine ws ?_ | refine x_block_other (by decide) ?_)
      exact out3 rfl ⟨_, _, rfl, (hM.nilRow eU8 5).nilRow eU8 5⟩
end Go.Proofs.YtnkkeehoejmcnaaDoor
set_option linter.unusedVariables false
set_option linter.unusedSimpArgs false
namespace Go.Proofs.YtnkkeehoejmcnaaDoor
open Go Go.RowKit Go.Proofs.E
attribute [local irreducible] Go.wpList Go.Code.wp Go.Proofs.E.exec Go.Proofs.E.wpLexG
theorem upsZ_mem {n i : Int} {leaf : List UInt8} {path : List Hs} (hl : leaf.length ≤ 1000000000) : ∀ x ∈ upsZ n i leaf path, x.length ≤ 1099511627776 := by
  intro x hx
  unfold upsZ at hx
  split at hx
  · have := upsT_mem (path := path) (leaf := leaf) (m := 1000000065) (by omega) (by omega) x hx
    omega
  · simp at hx
theorem upsZ_len {n i : Int} {leaf : List UInt8} {path : List Hs} : (upsZ n i leaf path).length ≤ path.length + 1 := by
  unfold upsZ
  split
  · rename_i h
    rw [upsT_len, sidesB_len, (climbZ_ok.1 h).2]
    exact Nat.le_refl _
  · simp
def leavesZ (n i : Int) (a : List UInt8) (p : List Hs) (b : List UInt8) (q : List Hs) : Option (List UInt8 × List UInt8) :=
  if (climbZ n i zeroH p).2 = true ∧ (climbZ n i zeroH q).2 = true then firstL (pairsL (upsZ n i a p) (upsZ n i b q)) else none
set_option maxHeartbeats 8000000 in
theorem cleaves_any (n i : Int) (va vp vb vq : Value) (a b : List UInt8) (p q : List Hs) (w0 : World) (hK : Laid w0) (hRa : tU8.Rd [] w0 va a) (hRp : (Ty.enc eH).Rd [] w0 vp p) (hRb : tU8.Rd [] w0 vb b) (hRq : (Ty.enc eH).Rd [] w0 vq q)
    (hla : a.length ≤ 1000000000) (hlb : b.length ≤ 1000000000) (hlp : p.length ≤ 1000000000) :
    Calls Tryd.prog 78 #[.int .i64 n, .int .i64 i, va, vp, vb, vq] w0 (Ret fun u w' => ∃ v1 v2, u = .tuple #[v1, v2, .bool (leavesZ n i a p b q).isSome] ∧
      Mem [] w0 w' [.row eU8 5 v1 (fstL (leavesZ n i a p b q)), .row eU8 5 v2 (sndL (leavesZ n i a p b q))]) := by
  have hM := Mem.start w0
  refine enter [.int .i64 n, .int .i64 i, va, vp, vb, vq, undef, undef, undef, undef, undef, undef, undef, undef, undef, undef, undef, undef, undef, undef, undef, undef, undef, undef, undef, undef, undef, undef, undef, undef, undef, undef, undef, undef, undef, undef, undef, undef, undef, undef, undef, undef, undef, undef, undef, undef, undef] Tryd.func78 rfl rfl ?_
  repeat (first | ((with_reducible apply is_ld); first | refine kld hM ?_ | refine kldw hM ?_ | refine kle hM ?_ | refine klew hM ?_) | ((with_reducible apply is_sto); first | (refine kst hM ?_; intro w hM) | (refine kstw hM ?_; intro w hM)) | ((with_reducible apply is_st); refine su ?_) | ((with_reducible apply is_gd); first | refine gt ?_ | refine gf ?_ | refine gu ?_) | ((with_reducible apply is_en); refine en ?_) | (with_reducible apply c_region) | refine ws ?_ | refine x_block_other (by decide) ?_)
  refine ca ((fun n i vl vp leaf path w h1 h2 h3 h4 => cups_any n i vl vp leaf path w h1 h2 h3 h4) n i va vp a p w0 hK hRa hRp hla) ?_
  rintro _ w1 ⟨v1, B1, rfl, hN1⟩
  have hM := hM.join hN1 (by simp [As.plain])
  repeat (first | ((with_reducible apply is_ld); first | refine kld hM ?_ | refine kldw hM ?_ | refine kle hM ?_ | refine klew hM ?_) | ((with_reducible apply is_sto); first | (refine kst hM ?_; intro w hM) | (refine kstw hM ?_; intro w hM)) | ((with_reducible apply is_st); refine su ?_) | ((with_reducible apply is_gd); first | refine gt ?_ | refine gf ?_ | refine gu ?_) | ((with_reducible apply is_en); refine en ?_) | (with_reducible apply c_region) | refine ws ?_ | refine x_block_other (by decide) ?_)
  refine ca ((fun n i vl vp leaf path w h1 h2 h3 h4 => cups_any n i vl vp leaf path w h1 h2 h3 h4) n i vb vq b q w1 (hK.ch hM.ch (by simp)) (hRb.ch hM.ch) (hRq.ch hM.ch) hlb) ?_
  rintro _ w2 ⟨v2, B2, rfl, hN2⟩
  have hM := hM.join hN2 (by simp [As.plain])
  simp only [List.cons_append, List.nil_append] at hM
  unfold leavesZ
  have hm1 := upsZ_mem (n := n) (i := i) (path := p) hla
  have hm2 := upsZ_mem (n := n) (i := i) (path := q) hlb
  have hml := upsZ_len (n := n) (i := i) (leaf := a) (path := p)
  generalize upsZ n i a p = xs at hM hm1 hml ⊢
  generalize upsZ n i b q = ys at hM hm2 ⊢
  generalize (climbZ n i zeroH p).2 = c1
  generalize (climbZ n i zeroH q).2 = c2
  repeat (first | ((with_reducible apply is_ld); first | refine kld hM ?_ | refine kldw hM ?_ | refine kle hM ?_ | refine klew hM ?_) | ((with_reducible apply is_sto); first | (refine kst hM ?_; intro w hM) | (refine kstw hM ?_; intro w hM)) | ((with_reducible apply is_st); refine su ?_) | ((with_reducible apply is_gd); first | refine gt ?_ | refine gf ?_ | refine gu ?_) | ((with_reducible apply is_en); refine en ?_) | (with_reducible apply c_region) | refine ws ?_ | refine x_block_other (by decide) ?_)
  have none_ : ∀ {fn : Func} {l : List Value}, fn.results = #[.tmp 12, .tmp 13, .tmp 14] → ev l (.tmp 12) = .slice none 0 0 → ev l (.tmp 13) = .slice none 0 0 → ev l (.tmp 14) = .bool false → bodyPost Tryd.prog fn (Ret fun u w' => ∃ v1 v2, u = .tuple #[v1, v2, .bool (none : Option (List UInt8 × List UInt8)).isSome] ∧
      Mem [] w0 w' [.row eU8 5 v1 (fstL none), .row eU8 5 v2 (sndL none)]) .ret (fr l) w2 := fun hr h1 h2 h3 => out3 hr ⟨_, _, by rw [h1, h2, h3]; rfl, (hM.nil.nilRow eU8 5).nilRow eU8 5⟩
  cases c1 with
  | false =>
    rw [if_neg (by simp)]
    repeat (first | ((with_reducible apply is_ld); first | refine kld hM ?_ | refine kldw hM ?_ | refine kle hM ?_ | refine klew hM ?_) | ((with_reducible apply is_sto); first | (refine kst hM ?_; intro w hM) | (refine kstw hM ?_; intro w hM)) | ((with_reducible apply is_st); refine su ?_) | ((with_reducible apply is_gd); first | refine gt ?_ | refine gf ?_ | refine gu ?_) | ((with_reducible apply is_en); refine en ?_) | (with_reducible apply c_region) | refine ws ?_ | refine x_block_other (by decide) ?_)
    refine c_condb rfl (fun _ => ?_) (fun h => by cases h)
    repeat (first | ((with_reducible apply is_ld); first | refine kld hM ?_ | refine kldw hM ?_ | refine kle hM ?_ | refine klew hM ?_) | ((with_reducible apply is_sto); first | (refine kst hM ?_; intro w hM) | (refine kstw hM ?_; intro w hM)) | ((with_reducible apply is_st); refine su ?_) | ((with_reducible apply is_gd); first | refine gt ?_ | refine gf ?_ | refine gu ?_) | ((with_reducible apply is_en); refine en ?_) | (with_reducible apply c_region) | refine ws ?_ | refine x_block_other (by decide) ?_)
    exact none_ rfl rfl rfl rfl
  | true =>
    cases c2 with
    | false =>
      rw [if_neg (by simp)]
      repeat (first | ((with_reducible apply is_ld); first | refine kld hM ?_ | refine kldw hM ?_ | refine kle hM ?_ | refine klew hM ?_) | ((with_reducible apply is_sto); first | (refine kst hM ?_; intro w hM) | (refine kstw hM ?_; intro w hM)) | ((with_reducible apply is_st); refine su ?_) | ((with_reducible apply is_gd); first | refine gt ?_ | refine gf ?_ | refine gu ?_) | ((with_reducible apply is_en); refine en ?_) | (with_reducible apply c_region) | refine ws ?_ | refine x_block_other (by decide) ?_)
      refine c_condb rfl (fun _ => ?_) (fun h => by cases h)
      repeat (first | ((with_reducible apply is_ld); first | refine kld hM ?_ | refine kldw hM ?_ | refine kle hM ?_ | refine klew hM ?_) | ((with_reducible apply is_sto); first | (refine kst hM ?_; intro w hM) | (refine kstw hM ?_; intro w hM)) | ((with_reducible apply is_st); refine su ?_) | ((with_reducible apply is_gd); first | refine gt ?_ | refine gf ?_ | refine gu ?_) | ((with_reducible apply is_en); refine en ?_) | (with_reducible apply c_region) | refine ws ?_ | refine x_block_other (by decide) ?_)
      exact none_ rfl rfl rfl rfl
    | true =>
      rw [if_pos ⟨rfl, rfl⟩]
      repeat (first | ((with_reducible apply is_ld); first | refine kld hM ?_ | refine kldw hM ?_ | refine kle hM ?_ | refine klew hM ?_) | ((with_reducible apply is_sto); first | (refine kst hM ?_; intro w hM) | (refine kstw hM ?_; intro w hM)) | ((with_reducible apply is_st); refine su ?_) | ((with_reducible apply is_gd); first | refine gt ?_ | refine gf ?_ | refine gu ?_) | ((with_reducible apply is_en); refine en ?_) | (with_reducible apply c_region) | refine ws ?_ | refine x_block_other (by decide) ?_)
      refine c_condb rfl (fun h => by cases h) (fun _ => ?_)
      repeat (first | ((with_reducible apply is_ld); first | refine kld hM ?_ | refine kldw hM ?_ | refine kle hM ?_ | refine klew hM ?_) | ((with_reducible apply is_sto); first | (refine kst hM ?_; intro w hM) | (refine kstw hM ?_; intro w hM)) | ((with_reducible apply is_st); refine su ?_) | ((with_reducible apply is_gd); first | refine gt ?_ | refine gf ?_ | refine gu ?_) | ((with_reducible apply is_en); refine en ?_) | (with_reducible apply c_region) | refine ws ?_ | refine x_block_other (by decide) ?_)
      refine ca ((fun va vb xs ys w h1 => first_any va vb xs ys w h1) v1 v2 xs ys w2 (hK.ch hM.ch (by simp)) (hM.frdRd (xs := xs) (by (repeat constructor))) (hM.frdRd (xs := ys) (by (repeat constructor))) hm1 hm2 (by omega)) ?_
      rintro _ w3 ⟨u1, u2, rfl, hN3⟩
      have hM := hM.nil.join hN3 (by simp [As.plain])
      repeat (first | ((with_reducible apply is_ld); first | refine kld hM ?_ | refine kldw hM ?_ | refine kle hM ?_ | refine klew hM ?_) | ((with_reducible apply is_sto); first | (refine kst hM ?_; intro w hM) | (refine kstw hM ?_; intro w hM)) | ((with_reducible apply is_st); refine su ?_) | ((with_reducible apply is_gd); first | refine gt ?_ | refine gf ?_ | refine gu ?_) | ((with_reducible apply is_en); refine en ?_) | (with_reducible apply c_region) | refine ws ?_ | refine x_block_other (by decide) ?_)
      exact out3 rfl ⟨_, _, rfl, hM⟩
end Go.Proofs.YtnkkeehoejmcnaaDoor

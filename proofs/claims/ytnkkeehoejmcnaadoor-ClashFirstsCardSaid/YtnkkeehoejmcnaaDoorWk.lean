/- Drawn regions with operations that make new memory and that no edge orders: every order, one end.
   Walks: the inputs on a key's way.
   Walks: the inputs on a key's way, the reference's; two of one hash of two proofs, both.
   Walks: of two proofs of one key, both; whether lists of byte strings are the same; proofs in the document's form; what a key has. -/
import Derived.Test.YtnkkeehoejmcnaaDoorG1
import Derived.Test.YtnkkeehoejmcnaaDoorClashV
set_option linter.unusedVariables false
set_option linter.unusedSimpArgs false
set_option linter.unusedVariables false
set_option linter.unusedSimpArgs false
namespace Go.Proofs.YtnkkeehoejmcnaaDoor
open Go Go.RowKit Go.Proofs.E
attribute [local irreducible] Go.wpList Go.Code.wp Go.Proofs.E.exec Go.Proofs.E.wpLexG
def forkX (k : Hs) (s : Int × Hs) (h : Hs) : List UInt8 := 4 :: UInt8.ofNat s.1.toNat :: (if bitZ k s.1 = 0 then h.1 ++ s.2.1 else s.2.1 ++ h.1)
theorem stepUp_sha (k : Hs) (s : Int × Hs) (h : Hs) : stepUp k s h = shaH (forkX k s h) := by
  unfold stepUp forkX forkH
  split <;> rfl
def downL (k : Hs) : List (Int × Hs) → List (List UInt8) → List (List UInt8)
  | [], l => l
  | s :: r, l => downL k r (l ++ [forkX k s (shaH (l.getLastD []))])
def downsP (k : Hs) (st : List (Int × Hs)) (lf : Bool) (pk pv : Hs) : List (List UInt8) :=
  if (climbP k st lf pk pv).isSome = true then (if lf = true then downL k st.reverse [3 :: (pk.1 ++ pv.1)] else [[5]]) else []
theorem forkX_len (k : Hs) (s : Int × Hs) (h : Hs) : (forkX k s h).length = 66 := by
  unfold forkX
  split <;> simp
theorem goodSt_len : ∀ {st : List (Int × Hs)} {last : Int}, goodSt last st = true → last ≤ 255 → (st.length : Int) ≤ 255 - last
  | [], last, _, hl => by simp; omega
  | x :: r, last, h, hl => by
    simp only [goodSt, Bool.and_eq_true, decide_eq_true_eq] at h
    have := goodSt_len h.2 h.1.2
    simp
    omega
theorem both_set (k : Hs) (xi : Int) (xs h : Hs) (uS uH : SlV) : ∃ (ua ub : SlV) (xa xb : List UInt8), [slv uS, slv uS].set (0 + ((bitZ k xi : Nat) : Int).toNat * 1) (slv uH) = [slv ua, slv ub] ∧
    (∀ w, tU8.Rd [] w (slv uH) h.1 → tU8.Rd [] w (slv uS) xs.1 → tU8.Rd [] w (slv ua) xa ∧ tU8.Rd [] w (slv ub) xb) ∧ forkX k (xi, xs) h = 4 :: UInt8.ofNat xi.toNat :: (xa ++ xb) ∧ xa.length = 32 ∧ xb.length = 32 := by
  unfold forkX
  rcases bit_two k xi with h0 | h0
  · rw [h0]
    exact ⟨uH, uS, h.1, xs.1, rfl, fun w a b => ⟨a, b⟩, rfl, by simp, by simp⟩
  · rw [h0]
    exact ⟨uS, uH, xs.1, h.1, rfl, fun w a b => ⟨b, a⟩, rfl, by simp, by simp⟩
set_option maxHeartbeats 64000000 in
theorem downs_any (k : Hs) (sp : Value) (lf : Bool) (pk pv : Hs) (st : List (Int × Hs)) (w0 : World) (hK : Laid w0) (hR : (Ty.enc eSt).Rd [] w0 sp st) :
    Calls Tryd.prog 30 #[hv k.1, .agg (pC sp lf pk pv).toArray] w0 (Ret fun u w' => ∃ v B, u = .tuple #[v, .bool (climbP k st lf pk pv).isSome] ∧ Mem [] w0 w' [.frd (Ty.sl tU8) B v (downsP k st lf pk pv)]) := by
  have hM := Mem.start w0
  have hle := hR.le
  obtain ⟨A, c, rfl⟩ := hR.form
  refine enterM [hv k.1, .agg (pC (.slice A st.length c) lf pk pv).toArray, undef, undef, undef, undef, undef, undef, undef, undef, undef, undef, undef, undef, undef, undef, undef, undef, undef, undef, undef, undef, undef, undef, undef, undef, undef, undef, undef, undef, undef, undef, undef, undef, undef, undef, undef, undef, undef, undef, undef, undef, undef, undef, undef, undef, undef, undef, undef, undef, undef, undef, undef, undef, undef, undef, undef, undef, undef, undef, undef, undef, undef, undef, undef] Tryd.func30 rfl rfl ?_
  repeat (first | ((with_reducible apply is_ld); first | refine kld hM ?_ | refine kldw hM ?_ | refine kle hM ?_ | refine klew hM ?_) | ((with_reducible apply is_sto); first | (refine kst hM ?_; intro w hM) | (refine kstw hM ?_; intro w hM)) | ((with_reducible apply is_st); refine su ?_) | ((with_reducible apply is_gd); first | refine gt ?_ | refine gf ?_ | refine gu ?_) | ((with_reducible apply is_en); refine en ?_) | (with_reducible apply c_region) | refine ws ?_ | refine x_block_other (by decide) ?_)
  refine kbx hM (fun w b2 hM => ?_)
  refine kbx hM (fun w b3 hM => ?_)
  have hM : Mem [] w0 w [.cell b3 (pC (.slice A st.length c) lf pk pv) 41, .cell b2 (k.1.map u8v) 31] := hM
  repeat (first | ((with_reducible apply is_ld); first | refine kld hM ?_ | refine kldw hM ?_ | refine kle hM ?_ | refine klew hM ?_ | refine kldh hM ?_ | refine kld hM ?_ (hv := by first | exact hs_get _ _ _ | exact hs_get1 _ _ _ _)) | ((with_reducible apply is_sto); first | (refine kst hM ?_; intro w hM) | (refine kstw hM ?_; intro w hM)) | ((with_reducible apply is_st); refine su ?_) | ((with_reducible apply is_gd); first | refine gt ?_ | refine gf ?_ | refine gu ?_) | ((with_reducible apply is_en); refine en ?_) | (with_reducible apply c_region) | refine ws ?_ | refine x_block_other (by decide) ?_)
  refine kca hM (mclimb_any k (.slice A st.length c) lf pk pv st w (hK.ch hM.ch (by simp)) (hR.ch hM.ch)) (X := .tuple #[hv ((climbP k st lf pk pv).getD zeroH).1, .bool (climbP k st lf pk pv).isSome]) (fun w hM => ?_)
  unfold downsP
  obtain ⟨cz, hcz⟩ : ∃ cz, climbP k st lf pk pv = cz := ⟨_, rfl⟩
  rw [hcz]
  repeat (first | ((with_reducible apply is_ld); first | refine kld hM ?_ | refine kldw hM ?_ | refine kle hM ?_ | refine klew hM ?_ | refine kldh hM ?_ | refine kld hM ?_ (hv := by first | exact hs_get _ _ _ | exact hs_get1 _ _ _ _)) | ((with_reducible apply is_sto); first | (refine kst hM ?_; intro w hM) | (refine kstw hM ?_; intro w hM)) | ((with_reducible apply is_st); refine su ?_) | ((with_reducible apply is_gd); first | refine gt ?_ | refine gf ?_ | refine gu ?_) | ((with_reducible apply is_en); refine en ?_) | (with_reducible apply c_region) | refine ws ?_ | refine x_block_other (by decide) ?_)
  refine kal hM (fun w b6 hM => ?_)
  refine kstw (vs := (cz.getD zeroH).1.map u8v) hM (fun w hM => ?_)
  repeat (first | ((with_reducible apply is_ld); first | refine kld hM ?_ | refine kldw hM ?_ | refine kle hM ?_ | refine klew hM ?_ | refine kldh hM ?_ | refine kld hM ?_ (hv := by first | exact hs_get _ _ _ | exact hs_get1 _ _ _ _)) | ((with_reducible apply is_sto); first | (refine kst hM ?_; intro w hM) | (refine kstw hM ?_; intro w hM)) | ((with_reducible apply is_st); refine su ?_) | ((with_reducible apply is_gd); first | refine gt ?_ | refine gf ?_ | refine gu ?_) | ((with_reducible apply is_en); refine en ?_) | (with_reducible apply c_region) | refine ws ?_ | refine x_block_other (by decide) ?_)
  cases cz with
  | none =>
    refine c_condb rfl (fun _ => ?_) (fun h => by cases h)
    repeat (first | ((with_reducible apply is_ld); first | refine kld hM ?_ | refine kldw hM ?_ | refine kle hM ?_ | refine klew hM ?_ | refine kldh hM ?_ | refine kld hM ?_ (hv := by first | exact hs_get _ _ _ | exact hs_get1 _ _ _ _)) | ((with_reducible apply is_sto); first | (refine kst hM ?_; intro w hM) | (refine kstw hM ?_; intro w hM)) | ((with_reducible apply is_st); refine su ?_) | ((with_reducible apply is_gd); first | refine gt ?_ | refine gf ?_ | refine gu ?_) | ((with_reducible apply is_en); refine en ?_) | (with_reducible apply c_region) | refine ws ?_ | refine x_block_other (by decide) ?_)
    exact post0 (out2 rfl ⟨_, _, rfl, (hM.nil.frd0 (Ty.sl tU8) none 0)⟩)
  | some hh =>
    refine c_condb rfl (fun h => by cases h) (fun _ => ?_)
    rw [if_pos (Option.isSome_some)]
    have hg : goodP st lf pk pv = true := by
      unfold climbP at hcz
      split at hcz
      · assumption
      · cases hcz
    have hgm := goodSt_mem (show goodSt (-1) st = true by unfold goodP at hg; simp only [Bool.and_eq_true] at hg; exact hg.1) (by omega)
    have hM := hM.sub (M := [.cell b3 (pC (.slice A st.length c) lf pk pv) 41, .cell b2 (k.1.map u8v) 31]) (by (repeat constructor))
    repeat (first | ((with_reducible apply is_ld); first | refine kld hM ?_ | refine kldw hM ?_ | refine kle hM ?_ | refine klew hM ?_ | refine kldh hM ?_ | refine kld hM ?_ (hv := by first | exact hs_get _ _ _ | exact hs_get1 _ _ _ _)) | ((with_reducible apply is_sto); first | (refine kst hM ?_; intro w hM) | (refine kstw hM ?_; intro w hM)) | ((with_reducible apply is_st); refine su ?_) | ((with_reducible apply is_gd); first | refine gt ?_ | refine gf ?_ | refine gu ?_) | ((with_reducible apply is_en); refine en ?_) | (with_reducible apply c_region) | refine ws ?_ | refine x_block_other (by decide) ?_)
    cases lf with
    | false =>
      refine c_condb rfl (fun _ => ?_) (fun h => by cases h)
      repeat (first | ((with_reducible apply is_ld); first | refine kld hM ?_ | refine kldw hM ?_ | refine kle hM ?_ | refine klew hM ?_ | refine kldh hM ?_ | refine kld hM ?_ (hv := by first | exact hs_get _ _ _ | exact hs_get1 _ _ _ _)) | ((with_reducible apply is_sto); first | (refine kst hM ?_; intro w hM) | (refine kstw hM ?_; intro w hM)) | ((with_reducible apply is_st); refine su ?_) | ((with_reducible apply is_gd); first | refine gt ?_ | refine gf ?_ | refine gu ?_) | ((with_reducible apply is_en); refine en ?_) | (with_reducible apply c_region) | refine ws ?_ | refine x_block_other (by decide) ?_)
      refine ca (bytes_any 5 _ [] w (Ty.Rd.nil _ _ _ _ _) (by simp)) ?_
      rintro v24 w2 ⟨hO, hc2⟩
      have hM := hM.got hc2 hO
      obtain ⟨u24, rfl⟩ : ∃ u : SlV, v24 = slv u := by obtain ⟨A, c, rfl, _⟩ := hO.form; exact ⟨(A, _, c), rfl⟩
      have hM := (hM.rowFrd (by simp)).sub (M := [.frd tU8 (fun k => (slv u24).ownBlock = some k) (slv u24) [5]]) (by (repeat constructor))
      have hM := (hM.many0 tU8).manyPut
      refine kbs (en := eSl) (vs := [slv u24]) [u24] hM (fun w b25 hM => ?_)
      have hM := hM.manyFrd (ps := [(u24, [5])]) (by simp)
      repeat (first | ((with_reducible apply is_ld); first | refine kld hM ?_ | refine kldw hM ?_ | refine kle hM ?_ | refine klew hM ?_ | refine kldh hM ?_ | refine kld hM ?_ (hv := by first | exact hs_get _ _ _ | exact hs_get1 _ _ _ _)) | ((with_reducible apply is_sto); first | (refine kst hM ?_; intro w hM) | (refine kstw hM ?_; intro w hM)) | ((with_reducible apply is_st); refine su ?_) | ((with_reducible apply is_gd); first | refine gt ?_ | refine gf ?_ | refine gu ?_) | ((with_reducible apply is_en); refine en ?_) | (with_reducible apply c_region) | refine ws ?_ | refine x_block_other (by decide) ?_)
      exact post0 (out2 rfl ⟨_, _, rfl, hM⟩)
    | true =>
      refine c_condb rfl (fun h => by cases h) (fun _ => ?_)
      rw [if_pos (rfl : true = true)]
      repeat (first | ((with_reducible apply is_ld); first | refine kld hM ?_ | refine kldw hM ?_ | refine kle hM ?_ | refine klew hM ?_ | refine kldh hM ?_ | refine kld hM ?_ (hv := by first | exact hs_get _ _ _ | exact hs_get1 _ _ _ _)) | ((with_reducible apply is_sto); first | (refine kst hM ?_; intro w hM) | (refine kstw hM ?_; intro w hM)) | ((with_reducible apply is_st); refine su ?_) | ((with_reducible apply is_gd); first | refine gt ?_ | refine gf ?_ | refine gu ?_) | ((with_reducible apply is_en); refine en ?_) | (with_reducible apply c_region) | refine ws ?_ | refine x_block_other (by decide) ?_)
      refine c_ordY ([], []) [] (by kernel_rfl) (by kernel_rfl) (by kernel_rfl) (fun w hc hs => ?_)
      have hM := hM.call hc
      (first | refine yn 0 rfl ?_ | refine ynt 0 rfl ?_ | refine ynff 0 rfl ?_)
      refine ynp 1 rfl (by kernel_rfl) (by kernel_rfl) (fun _ => r_cut_arr0 rfl) rfl ?_
      (first | refine yn 2 rfl ?_ | refine ynt 2 rfl ?_ | refine ynff 2 rfl ?_)
      refine ynp 3 rfl (by kernel_rfl) (by kernel_rfl) (fun _ => r_cut_arr0 rfl) rfl ?_
      refine wy_cont (X := Nat × SlV × Nat × Nat) (fun x N w => N ≤ x.2.2.2 ∧ Mem [] w0 w [.cell x.2.2.2 [.slice none 0 0] 134, .row eSl 28 (.slice (some ⟨x.2.2.1, 0, none⟩) 1 1) [x.2.1], .frd tU8 (fun k => (slv x.2.1).ownBlock = some k) (slv x.2.1) (3 :: (pk.1 ++ pv.1)), .cell b3 (pC (.slice A st.length c) true pk pv) 41, .cell b2 (k.1.map u8v) 31])
        (fun x l => (((l.set 30 (.slice (some ⟨x.1, 0, none⟩) 2 2)).set 31 (slv x.2.1)).set 32 (.slice (some ⟨x.2.2.1, 0, none⟩) 1 1)).set 8 (.pointer (some ⟨x.2.2.2, 0, none⟩))) #[true, true, true, true, true, true, true, true, false] (fuel := 1) (fun hk => ?_) ?_
      · skip
        refine yk2 4 7 hM (by kernel_rfl) rfl rfl (fun w h0 hM => ?_) (fun w h0 hM => ?_)
        · skip
          refine kbsC (en := eSl) (vs := [slv (some ⟨b3, 2, none⟩, 32, 32), slv (some ⟨b3, 34, none⟩, 32, 32)]) [(some ⟨b3, 2, none⟩, 32, 32), (some ⟨b3, 34, none⟩, 32, 32)] hM (fun w b60 hc hM => ?_)
          refine x_wy (.inl (hc.gy h0)) rfl ?_
          refine yk2 5 7 hM (by kernel_rfl) rfl rfl (fun w h0 hM => ?_) (fun w h0 hM => ?_)
          · skip
            have hRb := hM.rows8 (ps := [((some ⟨b3, 2, none⟩, 32, 32), pk.1), ((some ⟨b3, 34, none⟩, 32, 32), pv.1)]) (by (repeat constructor)) (rof3 (hM.cell8 (b := b3) (o := 2) (by (repeat constructor)) (hs_takeA _ _) pk.2) (hM.cell8 (b := b3) (o := 34) (by (repeat constructor)) (by exact hs_takeB _ _) pv.2))
            refine ca (bytes_any 3 _ _ w hRb (by simp)) ?_
            rintro v61 w2 ⟨hO, hc⟩
            have hM := hM.got hc hO
            obtain ⟨u61, rfl⟩ : ∃ u : SlV, v61 = slv u := by obtain ⟨A, c, rfl, _⟩ := hO.form; exact ⟨(A, _, c), rfl⟩
            have hM := hM.rowFrd (by simp)
            rw [show 3 :: (List.map (fun p : SlV × List UInt8 => p.2) [((some ⟨b3, 2, none⟩, 32, 32), pk.1), ((some ⟨b3, 34, none⟩, 32, 32), pv.1)]).flatten = 3 :: (pk.1 ++ pv.1) by simp] at hM
            refine x_wy (.inl (hc.gy h0)) rfl ?_
            refine yk2 6 7 hM (by kernel_rfl) rfl rfl (fun w h0 hM => ?_) (fun w h0 hM => ?_)
            · skip
              refine kbsC (en := eSl) (vs := [slv u61]) [u61] hM (fun w b65 hc hM => ?_)
              refine x_wy (.inl (hc.gy h0)) rfl ?_
              refine yk1 7 hM (by kernel_rfl) rfl (fun w h0 hM => ?_)
              refine kalN hM (fun w b8 hb8 hc hM => ?_)
              have hb8 := Nat.le_trans h0 hb8
              refine x_wy (.inl (hc.gy h0)) rfl ?_
              exact hk (b60, u61, b65, b8) _ _ _ (by kernel_rfl) rfl ⟨hb8, hM.sub (by (repeat constructor))⟩
            · skip
              refine kalN hM (fun w b8 hb8 hc hM => ?_)
              have hb8 := Nat.le_trans h0 hb8
              refine x_wy (.inl (hc.gy h0)) rfl ?_
              refine yk1 6 hM (by kernel_rfl) rfl (fun w h0 hM => ?_)
              refine kbsC (en := eSl) (vs := [slv u61]) [u61] hM (fun w b65 hc hM => ?_)
              refine x_wy (.inl (hc.gy h0)) rfl ?_
              exact hk (b60, u61, b65, b8) _ _ _ (by kernel_rfl) rfl ⟨hb8, hM.sub (by (repeat constructor))⟩
          · skip
            refine kalN hM (fun w b8 hb8 hc hM => ?_)
            have hb8 := Nat.le_trans h0 hb8
            refine x_wy (.inl (hc.gy h0)) rfl ?_
            refine yk1 5 hM (by kernel_rfl) rfl (fun w h0 hM => ?_)
            have hRb := hM.rows8 (ps := [((some ⟨b3, 2, none⟩, 32, 32), pk.1), ((some ⟨b3, 34, none⟩, 32, 32), pv.1)]) (by (repeat constructor)) (rof3 (hM.cell8 (b := b3) (o := 2) (by (repeat constructor)) (hs_takeA _ _) pk.2) (hM.cell8 (b := b3) (o := 34) (by (repeat constructor)) (by exact hs_takeB _ _) pv.2))
            refine ca (bytes_any 3 _ _ w hRb (by simp)) ?_
            rintro v61 w2 ⟨hO, hc⟩
            have hM := hM.got hc hO
            obtain ⟨u61, rfl⟩ : ∃ u : SlV, v61 = slv u := by obtain ⟨A, c, rfl, _⟩ := hO.form; exact ⟨(A, _, c), rfl⟩
            have hM := hM.rowFrd (by simp)
            rw [show 3 :: (List.map (fun p : SlV × List UInt8 => p.2) [((some ⟨b3, 2, none⟩, 32, 32), pk.1), ((some ⟨b3, 34, none⟩, 32, 32), pv.1)]).flatten = 3 :: (pk.1 ++ pv.1) by simp] at hM
            refine x_wy (.inl (hc.gy h0)) rfl ?_
            refine yk1 6 hM (by kernel_rfl) rfl (fun w h0 hM => ?_)
            refine kbsC (en := eSl) (vs := [slv u61]) [u61] hM (fun w b65 hc hM => ?_)
            refine x_wy (.inl (hc.gy h0)) rfl ?_
            exact hk (b60, u61, b65, b8) _ _ _ (by kernel_rfl) rfl ⟨hb8, hM.sub (by (repeat constructor))⟩
        · skip
          refine kalN hM (fun w b8 hb8 hc hM => ?_)
          have hb8 := Nat.le_trans h0 hb8
          refine x_wy (.inl (hc.gy h0)) rfl ?_
          refine yk1 4 hM (by kernel_rfl) rfl (fun w h0 hM => ?_)
          refine kbsC (en := eSl) (vs := [slv (some ⟨b3, 2, none⟩, 32, 32), slv (some ⟨b3, 34, none⟩, 32, 32)]) [(some ⟨b3, 2, none⟩, 32, 32), (some ⟨b3, 34, none⟩, 32, 32)] hM (fun w b60 hc hM => ?_)
          refine x_wy (.inl (hc.gy h0)) rfl ?_
          refine yk1 5 hM (by kernel_rfl) rfl (fun w h0 hM => ?_)
          have hRb := hM.rows8 (ps := [((some ⟨b3, 2, none⟩, 32, 32), pk.1), ((some ⟨b3, 34, none⟩, 32, 32), pv.1)]) (by (repeat constructor)) (rof3 (hM.cell8 (b := b3) (o := 2) (by (repeat constructor)) (hs_takeA _ _) pk.2) (hM.cell8 (b := b3) (o := 34) (by (repeat constructor)) (by exact hs_takeB _ _) pv.2))
          refine ca (bytes_any 3 _ _ w hRb (by simp)) ?_
          rintro v61 w2 ⟨hO, hc⟩
          have hM := hM.got hc hO
          obtain ⟨u61, rfl⟩ : ∃ u : SlV, v61 = slv u := by obtain ⟨A, c, rfl, _⟩ := hO.form; exact ⟨(A, _, c), rfl⟩
          have hM := hM.rowFrd (by simp)
          rw [show 3 :: (List.map (fun p : SlV × List UInt8 => p.2) [((some ⟨b3, 2, none⟩, 32, 32), pk.1), ((some ⟨b3, 34, none⟩, 32, 32), pv.1)]).flatten = 3 :: (pk.1 ++ pv.1) by simp] at hM
          refine x_wy (.inl (hc.gy h0)) rfl ?_
          refine yk1 6 hM (by kernel_rfl) rfl (fun w h0 hM => ?_)
          refine kbsC (en := eSl) (vs := [slv u61]) [u61] hM (fun w b65 hc hM => ?_)
          refine x_wy (.inl (hc.gy h0)) rfl ?_
          exact hk (b60, u61, b65, b8) _ _ _ (by kernel_rfl) rfl ⟨hb8, hM.sub (by (repeat constructor))⟩
      clear hM
      rintro ⟨b60, u61, b65, b8⟩ w ⟨hb8, hM⟩
      simp only at hb8 hM
      refine wy_nf ?_
      refine yk1 8 hM (by kernel_rfl) rfl (fun w h0 hM => ?_)
      refine kstC (v := slv (some ⟨b65, 0, none⟩, 1, 1)) hM (fun w hc hM => ?_)
      refine x_wy (.inl (hc.bwn h0 (.inl hb8))) rfl ?_
      refine wy_done (by kernel_rfl) (fun w hc => ?_)
      have hM := hM.call hc
      have hM : Mem [] w0 w [.cell b8 [slv (some ⟨b65, 0, none⟩, 1, 1)] 134, .row eSl 28 (slv (some ⟨b65, 0, none⟩, 1, 1)) [u61], .frd tU8 (fun k => (slv u61).ownBlock = some k) (slv u61) (3 :: (pk.1 ++ pv.1)), .cell b3 (pC (.slice A st.length c) true pk pv) 41, .cell b2 (k.1.map u8v) 31] := hM
      have hM := ((hM.pick (a := .frd tU8 _ _ _) (by (repeat constructor))).many0 tU8).manyPut
      obtain ⟨B0, hM⟩ : ∃ B0, Mem [] w0 w [.cell b8 [slv (some ⟨b65, 0, none⟩, 1, 1)] 134, .row eSl 28 (slv (some ⟨b65, 0, none⟩, 1, 1)) ([(u61, 3 :: (pk.1 ++ pv.1))].map (fun p : SlV × List UInt8 => p.1)), .many tU8 B0 [(u61, 3 :: (pk.1 ++ pv.1))], .cell b3 (pC (.slice A st.length c) true pk pv) 41, .cell b2 (k.1.map u8v) 31] := ⟨_, hM.sub (by (repeat constructor))⟩
      have hsl := goodSt_len (show goodSt (-1) st = true by unfold goodP at hg; simp only [Bool.and_eq_true] at hg; exact hg.1) (by omega)
      have hl0 : ∀ x ∈ [(u61, 3 :: (pk.1 ++ pv.1))].map (fun p : SlV × List UInt8 => p.2), x.length ≤ 66 := by
        intro x hx
        simp at hx
        subst hx
        simp
      have hd0 : [3 :: (pk.1 ++ pv.1)] = [(u61, 3 :: (pk.1 ++ pv.1))].map (fun p : SlV × List UInt8 => p.2) := rfl
      rw [hd0]
      have hp0 : [(u61, 3 :: (pk.1 ++ pv.1))].length = 1 := rfl
      clear hd0
      generalize [(u61, 3 :: (pk.1 ++ pv.1))] = ps0 at hM hl0 hp0 ⊢
      generalize ((some ⟨b65, 0, none⟩, 1, 1) : SlV) = uw0 at hM
      repeat (first | ((with_reducible apply is_ld); first | refine kld hM ?_ | refine kldw hM ?_ | refine kle hM ?_ | refine klew hM ?_ | refine kldh hM ?_ | refine kld hM ?_ (hv := by first | exact hs_get _ _ _ | exact hs_get1 _ _ _ _)) | ((with_reducible apply is_sto); first | (refine kst hM ?_; intro w hM) | (refine kstw hM ?_; intro w hM)) | ((with_reducible apply is_st); refine su ?_) | ((with_reducible apply is_gd); first | refine gt ?_ | refine gf ?_ | refine gu ?_) | ((with_reducible apply is_en); refine en ?_) | (with_reducible apply c_region) | refine ws ?_ | refine x_block_other (by decide) ?_)
      refine ca (back_any (.slice A st.length c) w rfl) ?_
      rintro _ w1 ⟨b9, rfl, hN⟩
      have hM := (hM.join hN (by simp [As.plain])).perm List.perm_append_comm
      repeat (first | ((with_reducible apply is_ld); first | refine kld hM ?_ | refine kldw hM ?_ | refine kle hM ?_ | refine klew hM ?_ | refine kldh hM ?_ | refine kld hM ?_ (hv := by first | exact hs_get _ _ _ | exact hs_get1 _ _ _ _)) | ((with_reducible apply is_sto); first | (refine kst hM ?_; intro w hM) | (refine kstw hM ?_; intro w hM)) | ((with_reducible apply is_st); refine su ?_) | ((with_reducible apply is_gd); first | refine gt ?_ | refine gf ?_ | refine gu ?_) | ((with_reducible apply is_en); refine en ?_) | (with_reducible apply c_region) | refine ws ?_ | refine x_block_other (by decide) ?_)
      
      refine c_rangeM2 (e1 := fun x : (Int × Hs) × Nat => .int .i64 (x.2 : Int)) (e2 := fun x : (Int × Hs) × Nat => .agg (eSt.f x.1).toArray) hM rfl (enters_of Tryd.func144 (by kernel_rfl) rfl) (back_seq b9 hR)
        (fun pre La => ∃ (uw : SlV) (ps : List (SlV × List UInt8)) (B : Nat → Prop), La = [.cell b8 [slv uw] 134, .row eSl 28 (slv uw) (ps.map (fun p : SlV × List UInt8 => p.1)), .many tU8 B ps, .cell b3 (pC (.slice A st.length c) true pk pv) 41, .cell b2 (k.1.map u8v) 31] ∧ ps.length = pre.length + 1 ∧ (∀ x ∈ ps.map (fun p : SlV × List UInt8 => p.2), x.length ≤ 66) ∧ downL k st.reverse (ps0.map (fun p : SlV × List UInt8 => p.2)) = downL k (st.reverse.drop pre.length) (ps.map (fun p : SlV × List UInt8 => p.2))) ⟨uw0, ps0, B0, rfl, hp0, hl0, rfl⟩
        (fun cd pre La => False)
        (fun pre x l La => ∃ (uw : SlV) (ps : List (SlV × List UInt8)) (B : Nat → Prop) (b10 : Nat), (∃ jj : Nat → Value, l = [jj 0, jj 1, .pointer (some ⟨b2, 0, none⟩), .pointer (some ⟨b3, 0, none⟩), jj 4, jj 5, jj 6, jj 7, .pointer (some ⟨b8, 0, none⟩), jj 9, .pointer (some ⟨b10, 0, none⟩), jj 11, jj 12, jj 13, jj 14, jj 15, jj 16, jj 17, jj 18, jj 19, jj 20, jj 21, jj 22, jj 23, jj 24, jj 25, jj 26, jj 27, jj 28, jj 29, jj 30, jj 31, jj 32, jj 33, jj 34, jj 35, jj 36, jj 37, jj 38, jj 39, jj 40, jj 41, jj 42, jj 43, jj 44, jj 45, jj 46, jj 47, jj 48, jj 49, jj 50, jj 51, jj 52, jj 53, jj 54, jj 55, jj 56, jj 57, jj 58, jj 59, jj 60, jj 61, jj 62, jj 63, jj 64]) ∧ La = [.cell b10 (eSt.f x.1) 72, .cell b8 [slv uw] 134, .row eSl 28 (slv uw) (ps.map (fun p : SlV × List UInt8 => p.1)), .many tU8 B ps, .cell b3 (pC (.slice A st.length c) true pk pv) 41, .cell b2 (k.1.map u8v) 31] ∧ ps.length = pre.length + 1 ∧ (∀ x ∈ ps.map (fun p : SlV × List UInt8 => p.2), x.length ≤ 66) ∧ downL k st.reverse (ps0.map (fun p : SlV × List UInt8 => p.2)) = downL k (st.reverse.drop pre.length) (ps.map (fun p : SlV × List UInt8 => p.2)))
        ?_ ?_ ?_ ?_
      · rintro r pre x w La X K hp ⟨uw, ps, B, rfl, h1, h2, h3⟩ hM hK
        simp only [List.cons_append, List.nil_append] at hM
        refine ci_region (by (repeat (first | exact noOut_round | exact noOut_fls | exact noOut_M | apply noOut_then | apply noOut_block))) rfl ?_
        repeat (first | ((with_reducible apply is_ld); first | refine kld hM ?_ | refine kldw hM ?_ | refine kle hM ?_ | refine klew hM ?_ | refine kldh hM ?_ | refine kld hM ?_ (hv := by first | exact hs_get _ _ _ | exact hs_get1 _ _ _ _)) | ((with_reducible apply is_sto); first | (refine kst hM ?_; intro w hM) | (refine kstw hM ?_; intro w hM)) | ((with_reducible apply is_st); refine su ?_) | ((with_reducible apply is_gd); first | refine gt ?_ | refine gf ?_ | refine gu ?_) | ((with_reducible apply is_en); refine en ?_) | (with_reducible apply c_region) | refine ws ?_ | refine x_block_other (by decide) ?_)
        refine kal hM (fun w b10 hM => ?_)
        refine kstw (vs := eSt.f x.1) hM (fun w hM => ?_) (h1 := eSt.h1 x.1)
        repeat (first | ((with_reducible apply is_ld); first | refine kld hM ?_ | refine kldw hM ?_ | refine kle hM ?_ | refine klew hM ?_ | refine kldh hM ?_ | refine kld hM ?_ (hv := by first | exact hs_get _ _ _ | exact hs_get1 _ _ _ _)) | ((with_reducible apply is_sto); first | (refine kst hM ?_; intro w hM) | (refine kstw hM ?_; intro w hM)) | ((with_reducible apply is_st); refine su ?_) | ((with_reducible apply is_gd); first | refine gt ?_ | refine gf ?_ | refine gu ?_) | ((with_reducible apply is_en); refine en ?_) | (with_reducible apply c_region) | refine ws ?_ | refine x_block_other (by decide) ?_)
        exact hK _ w _ ⟨uw, ps, B, b10, exj rfl, rfl, h1, h2, h3⟩ hM
      · rintro r pre x l w La X hp ⟨uw, ps, B, b10, ⟨jj, rfl⟩, rfl, hpl, hpb, hf⟩ hM
        have hprl : pre.length < st.length := by
          have := hp.length_le
          simp at this
          omega
        obtain ⟨hd, hxm⟩ := zr_pre hp
        rw [hd, downL] at hf
        have hx := hgm x.1 hxm
        obtain ⟨⟨xi, xs⟩, xn⟩ := x
        simp only at hf hx hM ⊢
        simp only [List.cons_append, List.nil_append] at hM
        obtain ⟨I, rfl⟩ := Int.eq_ofNat_of_zero_le hx.1
        have hu : u8v (UInt8.ofNat I) = .int .u8 (I : Int) := by
          unfold u8v
          rw [UInt8.toNat_ofNat', Nat.mod_eq_of_lt (by omega)]
        refine wpIn_block ?_
        repeat (first | ((with_reducible apply is_ld); first | refine kld hM ?_ | refine kldw hM ?_ | refine kle hM ?_ | refine klew hM ?_ | refine kldh hM ?_ | refine kld hM ?_ (hv := by first | exact hs_get _ _ _ | exact hs_get1 _ _ _ _)) | ((with_reducible apply is_sto); first | (refine kst hM ?_; intro w hM) | (refine kstw hM ?_; intro w hM)) | ((with_reducible apply is_st); refine su ?_) | ((with_reducible apply is_gd); first | refine gt ?_ | refine gf ?_ | refine gu ?_) | ((with_reducible apply is_en); refine en ?_) | (with_reducible apply c_region) | refine ws ?_ | refine x_block_other (by decide) ?_ | (refine ci_region (by (repeat (first | exact noOut_round | exact noOut_fls | exact noOut_M | apply noOut_then | apply noOut_block))) rfl ?_) )
        have hRw : (Ty.sl tU8).Rd [] w (slv uw) (ps.map (fun p : SlV × List UInt8 => p.2)) := hM.rows8 (by (repeat constructor)) (hM.manyRd (by (repeat constructor)))
        refine kca hM (top_any (slv uw) _ w (hK.ch hM.ch (by simp)) hRw (fun h => by have := congrArg List.length h; simp at this; subst this; simp at hpl) (fun x hx => by have := hpb x hx; omega)) (X := hv (shaH ((ps.map (fun p : SlV × List UInt8 => p.2)).getLastD [])).1) (fun w hM => ?_)
        refine kal hM (fun w b11 hM => ?_)
        refine kstw (vs := (shaH ((ps.map (fun p : SlV × List UInt8 => p.2)).getLastD [])).1.map u8v) hM (fun w hM => ?_)
        generalize shaH ((ps.map (fun p : SlV × List UInt8 => p.2)).getLastD []) = hH at hM hf
        repeat (first | ((with_reducible apply is_ld); first | refine kld hM ?_ | refine kldw hM ?_ | refine kle hM ?_ | refine klew hM ?_ | refine kldh hM ?_ | refine kld hM ?_ (hv := by first | exact hs_get _ _ _ | exact hs_get1 _ _ _ _)) | ((with_reducible apply is_sto); first | (refine kst hM ?_; intro w hM) | (refine kstw hM ?_; intro w hM)) | ((with_reducible apply is_st); refine su ?_) | ((with_reducible apply is_gd); first | refine gt ?_ | refine gf ?_ | refine gu ?_) | ((with_reducible apply is_en); refine en ?_) | (with_reducible apply c_region) | refine ws ?_ | refine x_block_other (by decide) ?_ | (refine ci_region (by (repeat (first | exact noOut_round | exact noOut_fls | exact noOut_M | apply noOut_then | apply noOut_block))) rfl ?_) )
        refine ci_ordY ([], []) [] (by (repeat (first | exact noOut_round | exact noOut_fls | exact noOut_M | apply noOut_then | apply noOut_block))) rfl (by kernel_rfl) (by kernel_rfl) (by kernel_rfl) (fun w hc hs => ?_)
        have hM := hM.call hc
        (first | refine yn 0 rfl ?_ | refine ynt 0 rfl ?_ | refine ynff 0 rfl ?_)
        refine ynp 1 rfl (by kernel_rfl) (by kernel_rfl) (fun _ => r_cut_arr0 rfl) rfl ?_
        (first | refine yn 2 rfl ?_ | refine ynt 2 rfl ?_ | refine ynff 2 rfl ?_)
        refine ynp 3 rfl (by kernel_rfl) (by kernel_rfl) (fun _ => r_cut_arr0 rfl) rfl ?_
        refine ynp 4 rfl (by kernel_rfl) (by kernel_rfl) (fun _ => r_bld (vs := [(0, slv (some ⟨b10, 1, none⟩, 32, 32)), (1, slv (some ⟨b10, 1, none⟩, 32, 32))]) (cells := #[slv (some ⟨b10, 1, none⟩, 32, 32), slv (some ⟨b10, 1, none⟩, 32, 32)]) rfl (by kernel_rfl)) rfl ?_
        refine yk1 5 hM (by kernel_rfl) rfl (fun w h0 hM => ?_)
        refine kalN hM (fun w b12 hb12 hc hM => ?_)
        have hb12 := Nat.le_trans h0 hb12
        refine x_wy (.inl (hc.gy h0)) rfl ?_
        refine yst (n := 2) (vs := [slv (some ⟨b10, 1, none⟩, 32, 32), slv (some ⟨b10, 1, none⟩, 32, 32)]) 6 (by kernel_rfl) rfl (hM.blk (b := b12) (by (repeat constructor))) (.inl hb12) rfl rfl rfl rfl (by simp) (fun w hB hc => ?_)
        have hM := hM.cellSet hB hc
        refine wy_done (by kernel_rfl) (fun w hc => ?_)
        have hM := hM.call hc
        repeat (first | ((with_reducible apply is_ld); first | refine kld hM ?_ | refine kldw hM ?_ | refine kle hM ?_ | refine klew hM ?_ | refine kldh hM ?_ | refine kld hM ?_ (hv := by first | exact hs_get _ _ _ | exact hs_get1 _ _ _ _)) | ((with_reducible apply is_sto); first | (refine kst hM ?_; intro w hM) | (refine kstw hM ?_; intro w hM)) | ((with_reducible apply is_st); refine su ?_) | ((with_reducible apply is_gd); first | refine gt ?_ | refine gf ?_ | refine gu ?_) | ((with_reducible apply is_en); refine en ?_) | (with_reducible apply c_region) | refine ws ?_ | refine x_block_other (by decide) ?_ | (refine ci_region (by (repeat (first | exact noOut_round | exact noOut_fls | exact noOut_M | apply noOut_then | apply noOut_block))) rfl ?_) )
        have hM : Mem [] w0 w (.cell b12 [slv (some ⟨b10, 1, none⟩, 32, 32), slv (some ⟨b10, 1, none⟩, 32, 32)] 137 :: .cell b11 (hH.1.map u8v) 31 :: .cell b10 (eSt.f ((I : Int), xs)) 72 :: .cell b8 [slv uw] 134 :: .row eSl 28 (slv uw) (ps.map (fun p : SlV × List UInt8 => p.1)) :: .many tU8 B ps :: .cell b3 (pC (.slice A st.length c) true pk pv) 41 :: .cell b2 (k.1.map u8v) 31 :: X) := hM
        obtain ⟨ua, ub, xa, xb, hset, hrd, hfx, hxa, hxb⟩ := both_set k (I : Int) xs hH (some ⟨b10, 1, none⟩, 32, 32) (some ⟨b11, 0, none⟩, 32, 32)
        refine ci_ordY ([], []) [b12] (by (repeat (first | exact noOut_round | exact noOut_fls | exact noOut_M | apply noOut_then | apply noOut_block))) rfl (by kernel_rfl) (by kernel_rfl) (by kernel_rfl) (fun w hc hs => ?_)
        have hM := hM.call hc
        have hl2 := Blk.lt (hM.blk (b := b2) (by (repeat constructor)))
        have hl10 := Blk.lt (hM.blk (b := b10) (by (repeat constructor)))
        have hn2 : b2 ∉ [b12] := hM.nin (b := b12) (c := b2) (by (repeat constructor)) (by (repeat constructor))
        have hn10 : b10 ∉ [b12] := hM.nin (b := b12) (c := b10) (by (repeat constructor)) (by (repeat constructor))
        refine ynlr 0 rfl (hM.blk (b := b2) (by (repeat constructor))) (by omega) hn2 rfl (ds := k.1.map u8v) (hs_take k) (by simp) ?_
        (first | refine yn 1 rfl ?_ | refine ynt 1 rfl ?_ | refine ynff 1 rfl ?_)
        refine ynl 2 rfl (hM.blk (b := b10) (by (repeat constructor))) (by omega) hn10 rfl rfl ?_
        refine ync (vs := [hv k.1, .int .i64 (I : Int)]) (v := .int .i64 (bitZ k (I : Int) : Int)) 3 rfl (by kernel_rfl) (by kernel_rfl) rfl (fun w1 hc1 => tbit_any k (I : Int) w1) rfl (wy_nf ?_)
        refine ynp 4 rfl (by kernel_rfl) (by kernel_rfl) (fun _ => r_cut_arr0 rfl) rfl ?_
        have hlt := bitZ_lt k (I : Int)
        refine ynp 5 rfl (by kernel_rfl) (by kernel_rfl) (fun _ => r_indexAddr_arr (i := ((bitZ k (I : Int) : Nat) : Int)) rfl rfl (by omega) (by omega)) rfl ?_
        refine yk1 6 hM (by kernel_rfl) rfl (fun w h0 hM => ?_)
        refine kstC (v := slv (some ⟨b11, 0, none⟩, 32, 32)) hM (fun w hc hM => ?_) (hf := by simp; omega) (hs := hset)
        refine x_wy (.inl (hc.bwn h0 (.inr (by simp)))) rfl ?_
        refine wy_done (by kernel_rfl) (fun w hc => ?_)
        have hM := hM.call hc
        repeat (first | ((with_reducible apply is_ld); first | refine kld hM ?_ | refine kldw hM ?_ | refine kle hM ?_ | refine klew hM ?_ | refine kldh hM ?_ | refine kld hM ?_ (hv := by first | exact hs_get _ _ _ | exact hs_get1 _ _ _ _)) | ((with_reducible apply is_sto); first | (refine kst hM ?_; intro w hM) | (refine kstw hM ?_; intro w hM)) | ((with_reducible apply is_st); refine su ?_) | ((with_reducible apply is_gd); first | refine gt ?_ | refine gf ?_ | refine gu ?_) | ((with_reducible apply is_en); refine en ?_) | (with_reducible apply c_region) | refine ws ?_ | refine x_block_other (by decide) ?_ | (refine ci_region (by (repeat (first | exact noOut_round | exact noOut_fls | exact noOut_M | apply noOut_then | apply noOut_block))) rfl ?_) )
        refine ci_ordY ([12, 13], []) [] (by (repeat (first | exact noOut_round | exact noOut_fls | exact noOut_M | apply noOut_then | apply noOut_block))) rfl (by kernel_rfl) (by kernel_rfl) (by kernel_rfl) (fun w hc hs => ?_)
        have hM := hM.call hc
        have hl8 := Blk.lt (hM.blk (b := b8) (by (repeat constructor)))
        have hl10 := Blk.lt (hM.blk (b := b10) (by (repeat constructor)))
        have hl12 := Blk.lt (hM.blk (b := b12) (by (repeat constructor)))
        refine ynl 0 rfl (hM.blk (b := b8) (by (repeat constructor))) (by omega) (by simp) rfl rfl ?_
        (first | refine yn 1 rfl ?_ | refine ynt 1 rfl ?_ | refine ynff 1 rfl ?_)
        refine ynl 2 rfl (hM.blk (b := b10) (by (repeat constructor))) (by omega) (by simp) rfl rfl ?_
        (first | refine yn 3 rfl ?_ | refine ynt 3 rfl ?_ | refine ynff 3 rfl ?_)
        rw [← hu]
        (first | refine yn 5 rfl ?_ | refine ynt 5 rfl ?_ | refine ynff 5 rfl ?_)
        refine ynl 6 rfl (hM.blk (b := b12) (by (repeat constructor))) (by omega) (by simp) rfl rfl ?_
        (first | refine yn 7 rfl ?_ | refine ynt 7 rfl ?_ | refine ynff 7 rfl ?_)
        refine ynl 8 rfl (hM.blk (b := b12) (by (repeat constructor))) (by omega) (by simp) rfl rfl ?_
        refine yk1 4 hM (by kernel_rfl) rfl (fun w h0 hM => ?_)
        refine kbsC (en := eU8) (vs := [u8v (UInt8.ofNat I)]) [UInt8.ofNat I] hM (fun w b59 hc hM => ?_) (hm := by intro v hv; simp at hv; subst hv; rfl)
        refine x_wy (.inl (hc.gy h0)) rfl ?_
        refine yk1 9 hM (by kernel_rfl) rfl (fun w h0 hM => ?_)
        refine kbsC (en := eSl) (vs := [slv (some ⟨b59, 0, none⟩, 1, 1), slv ua, slv ub]) [(some ⟨b59, 0, none⟩, 1, 1), ua, ub] hM (fun w b60 hc hM => ?_)
        refine x_wy (.inl (hc.gy h0)) rfl ?_
        refine yk1 10 hM (by kernel_rfl) rfl (fun w h0 hM => ?_)
        obtain ⟨hra, hrb⟩ := hrd w (hM.cell8 (b := b11) (o := 0) (by (repeat constructor)) (by exact hs_take _) hH.2) (hM.cell8 (b := b10) (o := 1) (by (repeat constructor)) (by exact hs_take _) xs.2)
        have hRb := hM.rows8 (ps := [((some ⟨b59, 0, none⟩, 1, 1), [UInt8.ofNat I]), (ua, xa), (ub, xb)]) (by (repeat constructor)) (rof33 (hM.rowRdO (en := eU8) (by (repeat constructor))) hra hrb)
        have hbz := bytes_any 4 _ _ w hRb (by simp [hxa, hxb])
        rw [show 4 :: (List.map (fun p : SlV × List UInt8 => p.2) [((some ⟨b59, 0, none⟩, 1, 1), [UInt8.ofNat I]), (ua, xa), (ub, xb)]).flatten = forkX k ((I : Int), xs) hH by rw [hfx]; simp] at hbz
        refine ca hbz ?_
        rintro v61 w2 ⟨hO, hc2⟩
        have hM := hM.got hc2 hO
        obtain ⟨u61, rfl⟩ : ∃ u : SlV, v61 = slv u := by obtain ⟨A, c, rfl, _⟩ := hO.form; exact ⟨(A, _, c), rfl⟩
        have hM := hM.rowFrd (by rw [forkX_len]; omega)
        have hM := (hM.pick (a := .many tU8 B ps) (by (repeat constructor))).manyPut
        refine x_wy (.inl (hc2.gy h0)) rfl ?_
        refine yk1 11 hM (by kernel_rfl) rfl (fun w h0 hM => ?_)
        refine kbsC (en := eSl) (vs := [slv u61]) [u61] hM (fun w b65 hc hM => ?_)
        refine x_wy (.inl (hc.gy h0)) rfl ?_
        refine yk1 12 hM (by kernel_rfl) rfl (fun w h0 hM => ?_)
        refine kapC (en := eSl) (ys := [u61]) hM (hM.rowRd (en := eSl) (xs := [u61]) (by (repeat constructor)) (by simp)) (fun v66 w hsz hM => ?_) (hb := by simp; omega) (h63 := by simp; omega)
        obtain ⟨u66, rfl⟩ : ∃ u : SlV, v66 = slv u := by obtain ⟨A, c, rfl, _⟩ := (hM.row0 (v := v66) (by (repeat constructor))).form; exact ⟨(A, _, c), rfl⟩
        refine x_wy (.inr ⟨by decide, Nat.le_trans h0 hsz⟩) rfl ?_
        refine yk1 13 hM (by kernel_rfl) rfl (fun w h0 hM => ?_)
        refine kstC (v := slv u66) hM (fun w hc hM => ?_)
        refine x_wy (.inr ⟨by decide, Nat.le_trans h0 hc.size⟩) rfl ?_
        refine wy_done (by kernel_rfl) (fun w hc => ?_)
        have hM := hM.call hc
        repeat (first | ((with_reducible apply is_ld); first | refine kld hM ?_ | refine kldw hM ?_ | refine kle hM ?_ | refine klew hM ?_ | refine kldh hM ?_ | refine kld hM ?_ (hv := by first | exact hs_get _ _ _ | exact hs_get1 _ _ _ _)) | ((with_reducible apply is_sto); first | (refine kst hM ?_; intro w hM) | (refine kstw hM ?_; intro w hM)) | ((with_reducible apply is_st); refine su ?_) | ((with_reducible apply is_gd); first | refine gt ?_ | refine gf ?_ | refine gu ?_) | ((with_reducible apply is_en); refine en ?_) | (with_reducible apply c_region) | refine ws ?_ | refine x_block_other (by decide) ?_ | (refine ci_region (by (repeat (first | exact noOut_round | exact noOut_fls | exact noOut_M | apply noOut_then | apply noOut_block))) rfl ?_) )
        have hmp : ps.map (fun p : SlV × List UInt8 => p.1) ++ [u61] = (ps ++ [(u61, forkX k ((I : Int), xs) hH)]).map (fun p : SlV × List UInt8 => p.1) := by simp
        rw [hmp] at hM
        refine ⟨[.cell b8 [slv u66] 134, .row eSl 28 (slv u66) ((ps ++ [(u61, forkX k ((I : Int), xs) hH)]).map (fun p : SlV × List UInt8 => p.1)), .many tU8 _ (ps ++ [(u61, forkX k ((I : Int), xs) hH)]), .cell b3 (pC (.slice A st.length c) true pk pv) 41, .cell b2 (k.1.map u8v) 31], ⟨u66, _, _, rfl, by simp [hpl], ?_, ?_⟩, hM.sub (by (repeat (first | exact Go.Proofs.E.Sub.refl _ | exact Go.Proofs.E.Sub.nil | (apply Go.Proofs.E.Sub.cons; (repeat (first | exact Go.Proofs.E.Pick.here | apply Go.Proofs.E.Pick.there))) | apply Go.Proofs.E.Sub.tail)))⟩
        · intro x hx
          rw [List.map_append, List.mem_append] at hx
          rcases hx with hx | hx
          · exact hpb x hx
          · simp at hx
            subst hx
            rw [forkX_len]
            omega
        · rw [hf, List.length_append, List.map_append]
          rfl
      · rintro D w La ⟨uw, ps, B, rfl, hpl, hpb, hf⟩ hM
        rw [List.drop_eq_nil_of_le (by simp), downL] at hf
        rw [hf]
        simp only [List.cons_append, List.nil_append] at hM
        have hD := hM.head
        change Code.wp _ _ _ _ _
        refine wp_seq ?_
        refine c_regd rfl (noOut_then noOut_M) ?_
        repeat (first | ((with_reducible apply is_ld); first | refine kld hM ?_ | refine kldw hM ?_ | refine kle hM ?_ | refine klew hM ?_ | refine kldh hM ?_ | refine kld hM ?_ (hv := by first | exact hs_get _ _ _ | exact hs_get1 _ _ _ _)) | ((with_reducible apply is_sto); first | (refine kst hM ?_; intro w hM) | (refine kstw hM ?_; intro w hM)) | ((with_reducible apply is_st); refine su ?_) | ((with_reducible apply is_gd); first | refine gt ?_ | refine gf ?_ | refine gu ?_) | ((with_reducible apply is_en); refine en ?_) | (with_reducible apply c_region) | refine ws ?_ | refine x_block_other (by decide) ?_)
        change Code.wp _ _ _ (frd _ _) w
        refine wp_ret ?_
        refine post1 (hM.pick (a := .obj D _) (by (repeat constructor))).head ?_
        have hM := ((hM.pick (a := .obj D _) (by (repeat constructor))).putObj (o' := .deferred none)).sub (M := [.row eSl 28 (slv uw) (ps.map (fun p : SlV × List UInt8 => p.1)), .many tU8 B ps]) (by (repeat constructor))
        have hM := hM.manyFrd (by simp at hpl; omega)
        exact out2 rfl ⟨_, _, rfl, hM⟩
      · rintro D cd pre w La h hM
        exact h.elim
end Go.Proofs.YtnkkeehoejmcnaaDoor
set_option linter.unusedVariables false
set_option linter.unusedSimpArgs false
namespace Go.Proofs.YtnkkeehoejmcnaaDoor
open Go Go.RowKit Go.Proofs.E
attribute [local irreducible] Go.wpList Go.Code.wp Go.Proofs.E.exec Go.Proofs.E.wpLexG
set_option maxHeartbeats 64000000 in
theorem rdowns_any (k : Hs) (sp : Value) (lf : Bool) (pk pv : Hs) (st : List (Int × Hs)) (w0 : World) (hR : (Ty.enc eSt).Rd [] w0 sp st) :
    Calls Tryd.prog 31 #[hv k.1, .agg (pC sp lf pk pv).toArray] w0 (Ret fun u w' => ∃ v B, u = .tuple #[v, .bool (climbP k st lf pk pv).isSome] ∧ Mem [] w0 w' [.frd (Ty.sl tU8) B v (downsP k st lf pk pv)]) := by
  have hM := Mem.start w0
  have hle := hR.le
  obtain ⟨A, c, rfl⟩ := hR.form
  refine enter [hv k.1, .agg (pC (.slice A st.length c) lf pk pv).toArray, undef, undef, undef, undef, undef, undef, undef, undef, undef, undef, undef, undef, undef, undef, undef, undef, undef, undef, undef, undef, undef, undef, undef, undef, undef, undef, undef, undef, undef, undef, undef, undef, undef, undef, undef, undef, undef, undef, undef, undef, undef, undef, undef, undef, undef, undef, undef, undef, undef, undef, undef, undef, undef, undef, undef, undef, undef, undef, undef, undef, undef, undef, undef, undef, undef, undef, undef, undef, undef, undef, undef, undef, undef, undef, undef, undef, undef, undef, undef] Tryd.func31 rfl rfl ?_
  repeat (first | ((with_reducible apply is_ld); first | refine kld hM ?_ | refine kldw hM ?_ | refine kle hM ?_ | refine klew hM ?_) | ((with_reducible apply is_sto); first | (refine kst hM ?_; intro w hM) | (refine kstw hM ?_; intro w hM)) | ((with_reducible apply is_st); refine su ?_) | ((with_reducible apply is_gd); first | refine gt ?_ | refine gf ?_ | refine gu ?_) | ((with_reducible apply is_en); refine en ?_) | (with_reducible apply c_region) | refine ws ?_ | refine x_block_other (by decide) ?_)
  refine kbx hM (fun w b2 hM => ?_)
  refine kbx hM (fun w b3 hM => ?_)
  have hM : Mem [] w0 w [.cell b3 (pC (.slice A st.length c) lf pk pv) 52, .cell b2 (k.1.map u8v) 31] := hM
  repeat (first | ((with_reducible apply is_ld); first | refine kld hM ?_ | refine kldw hM ?_ | refine kle hM ?_ | refine klew hM ?_ | refine kldh hM ?_ | refine kld hM ?_ (hv := by first | exact hs_get _ _ _ | exact hs_get1 _ _ _ _)) | ((with_reducible apply is_sto); first | (refine kst hM ?_; intro w hM) | (refine kstw hM ?_; intro w hM)) | ((with_reducible apply is_st); refine su ?_) | ((with_reducible apply is_gd); first | refine gt ?_ | refine gf ?_ | refine gu ?_) | ((with_reducible apply is_en); refine en ?_) | (with_reducible apply c_region) | refine ws ?_ | refine x_block_other (by decide) ?_)
  refine kca hM (rclimb12_any k (.slice A st.length c) lf pk pv st w (hR.ch hM.ch)) (X := .tuple #[hv ((climbP k st lf pk pv).getD zeroH).1, .bool (climbP k st lf pk pv).isSome]) (fun w hM => ?_)
  unfold downsP
  obtain ⟨cz, hcz⟩ : ∃ cz, climbP k st lf pk pv = cz := ⟨_, rfl⟩
  rw [hcz]
  repeat (first | ((with_reducible apply is_ld); first | refine kld hM ?_ | refine kldw hM ?_ | refine kle hM ?_ | refine klew hM ?_ | refine kldh hM ?_ | refine kld hM ?_ (hv := by first | exact hs_get _ _ _ | exact hs_get1 _ _ _ _)) | ((with_reducible apply is_sto); first | (refine kst hM ?_; intro w hM) | (refine kstw hM ?_; intro w hM)) | ((with_reducible apply is_st); refine su ?_) | ((with_reducible apply is_gd); first | refine gt ?_ | refine gf ?_ | refine gu ?_) | ((with_reducible apply is_en); refine en ?_) | (with_reducible apply c_region) | refine ws ?_ | refine x_block_other (by decide) ?_)
  refine kal hM (fun w b6 hM => ?_)
  refine kstw (vs := (cz.getD zeroH).1.map u8v) hM (fun w hM => ?_)
  repeat (first | ((with_reducible apply is_ld); first | refine kld hM ?_ | refine kldw hM ?_ | refine kle hM ?_ | refine klew hM ?_ | refine kldh hM ?_ | refine kld hM ?_ (hv := by first | exact hs_get _ _ _ | exact hs_get1 _ _ _ _)) | ((with_reducible apply is_sto); first | (refine kst hM ?_; intro w hM) | (refine kstw hM ?_; intro w hM)) | ((with_reducible apply is_st); refine su ?_) | ((with_reducible apply is_gd); first | refine gt ?_ | refine gf ?_ | refine gu ?_) | ((with_reducible apply is_en); refine en ?_) | (with_reducible apply c_region) | refine ws ?_ | refine x_block_other (by decide) ?_)
  cases cz with
  | none =>
    refine c_condb rfl (fun _ => ?_) (fun h => by cases h)
    repeat (first | ((with_reducible apply is_ld); first | refine kld hM ?_ | refine kldw hM ?_ | refine kle hM ?_ | refine klew hM ?_ | refine kldh hM ?_ | refine kld hM ?_ (hv := by first | exact hs_get _ _ _ | exact hs_get1 _ _ _ _)) | ((with_reducible apply is_sto); first | (refine kst hM ?_; intro w hM) | (refine kstw hM ?_; intro w hM)) | ((with_reducible apply is_st); refine su ?_) | ((with_reducible apply is_gd); first | refine gt ?_ | refine gf ?_ | refine gu ?_) | ((with_reducible apply is_en); refine en ?_) | (with_reducible apply c_region) | refine ws ?_ | refine x_block_other (by decide) ?_)
    exact out2 rfl ⟨_, _, rfl, (hM.nil.frd0 (Ty.sl tU8) none 0)⟩
  | some hh =>
    refine c_condb rfl (fun h => by cases h) (fun _ => ?_)
    rw [if_pos (Option.isSome_some)]
    have hg : goodP st lf pk pv = true := by
      unfold climbP at hcz
      split at hcz
      · assumption
      · cases hcz
    have hg1 : goodSt (-1) st = true := by unfold goodP at hg; simp only [Bool.and_eq_true] at hg; exact hg.1
    have hgm := goodSt_mem hg1 (by omega)
    have hsl := goodSt_len hg1 (by omega)
    have hM := hM.sub (M := [.cell b3 (pC (.slice A st.length c) lf pk pv) 52, .cell b2 (k.1.map u8v) 31]) (by (repeat constructor))
    repeat (first | ((with_reducible apply is_ld); first | refine kld hM ?_ | refine kldw hM ?_ | refine kle hM ?_ | refine klew hM ?_ | refine kldh hM ?_ | refine kld hM ?_ (hv := by first | exact hs_get _ _ _ | exact hs_get1 _ _ _ _)) | ((with_reducible apply is_sto); first | (refine kst hM ?_; intro w hM) | (refine kstw hM ?_; intro w hM)) | ((with_reducible apply is_st); refine su ?_) | ((with_reducible apply is_gd); first | refine gt ?_ | refine gf ?_ | refine gu ?_) | ((with_reducible apply is_en); refine en ?_) | (with_reducible apply c_region) | refine ws ?_ | refine x_block_other (by decide) ?_)
    cases lf with
    | false =>
      refine c_condb rfl (fun _ => ?_) (fun h => by cases h)
      repeat (first | ((with_reducible apply is_ld); first | refine kld hM ?_ | refine kldw hM ?_ | refine kle hM ?_ | refine klew hM ?_ | refine kldh hM ?_ | refine kld hM ?_ (hv := by first | exact hs_get _ _ _ | exact hs_get1 _ _ _ _)) | ((with_reducible apply is_sto); first | (refine kst hM ?_; intro w hM) | (refine kstw hM ?_; intro w hM)) | ((with_reducible apply is_st); refine su ?_) | ((with_reducible apply is_gd); first | refine gt ?_ | refine gf ?_ | refine gu ?_) | ((with_reducible apply is_en); refine en ?_) | (with_reducible apply c_region) | refine ws ?_ | refine x_block_other (by decide) ?_)
      refine ca (rbytes_any 5 _ [] w (Ty.Rd.nil _ _ _ _ _) (by simp)) ?_
      rintro v24 w2 ⟨hO, hc2⟩
      have hM := hM.got hc2 hO
      obtain ⟨u24, rfl⟩ : ∃ u : SlV, v24 = slv u := by obtain ⟨A, c, rfl, _⟩ := hO.form; exact ⟨(A, _, c), rfl⟩
      have hM := (hM.rowFrd (by simp)).sub (M := [.frd tU8 (fun k => (slv u24).ownBlock = some k) (slv u24) [5]]) (by (repeat constructor))
      have hM := (hM.many0 tU8).manyPut
      refine kbs (en := eSl) (vs := [slv u24]) [u24] hM (fun w b25 hM => ?_)
      have hM := hM.manyFrd (ps := [(u24, [5])]) (by simp)
      repeat (first | ((with_reducible apply is_ld); first | refine kld hM ?_ | refine kldw hM ?_ | refine kle hM ?_ | refine klew hM ?_ | refine kldh hM ?_ | refine kld hM ?_ (hv := by first | exact hs_get _ _ _ | exact hs_get1 _ _ _ _)) | ((with_reducible apply is_sto); first | (refine kst hM ?_; intro w hM) | (refine kstw hM ?_; intro w hM)) | ((with_reducible apply is_st); refine su ?_) | ((with_reducible apply is_gd); first | refine gt ?_ | refine gf ?_ | refine gu ?_) | ((with_reducible apply is_en); refine en ?_) | (with_reducible apply c_region) | refine ws ?_ | refine x_block_other (by decide) ?_)
      exact out2 rfl ⟨_, _, rfl, hM⟩
    | true =>
      refine c_condb rfl (fun h => by cases h) (fun _ => ?_)
      rw [if_pos (rfl : true = true)]
      repeat (first | ((with_reducible apply is_ld); first | refine kld hM ?_ | refine kldw hM ?_ | refine kle hM ?_ | refine klew hM ?_ | refine kldh hM ?_ | refine kld hM ?_ (hv := by first | exact hs_get _ _ _ | exact hs_get1 _ _ _ _)) | ((with_reducible apply is_sto); first | (refine kst hM ?_; intro w hM) | (refine kstw hM ?_; intro w hM)) | ((with_reducible apply is_st); refine su ?_) | ((with_reducible apply is_gd); first | refine gt ?_ | refine gf ?_ | refine gu ?_) | ((with_reducible apply is_en); refine en ?_) | (with_reducible apply c_region) | refine ws ?_ | refine x_block_other (by decide) ?_)
      refine c_ordY ([], []) [] (by kernel_rfl) (by kernel_rfl) (by kernel_rfl) (fun w hc hs => ?_)
      have hM := hM.call hc
      (first | refine yn 0 rfl ?_ | refine ynt 0 rfl ?_ | refine ynff 0 rfl ?_)
      refine ynp 1 rfl (by kernel_rfl) (by kernel_rfl) (fun _ => r_cut_arr0 rfl) rfl ?_
      (first | refine yn 2 rfl ?_ | refine ynt 2 rfl ?_ | refine ynff 2 rfl ?_)
      refine ynp 3 rfl (by kernel_rfl) (by kernel_rfl) (fun _ => r_cut_arr0 rfl) rfl ?_
      refine yk1 4 hM (by kernel_rfl) rfl (fun w h0 hM => ?_)
      refine kbsC (en := eSl) (vs := [slv (some ⟨b3, 2, none⟩, 32, 32), slv (some ⟨b3, 34, none⟩, 32, 32)]) [(some ⟨b3, 2, none⟩, 32, 32), (some ⟨b3, 34, none⟩, 32, 32)] hM (fun w b60 hc hM => ?_)
      refine x_wy (.inl (hc.gy h0)) rfl ?_
      refine yk1 5 hM (by kernel_rfl) rfl (fun w h0 hM => ?_)
      have hRb := hM.rows8 (ps := [((some ⟨b3, 2, none⟩, 32, 32), pk.1), ((some ⟨b3, 34, none⟩, 32, 32), pv.1)]) (by (repeat constructor)) (rof3 (hM.cell8 (b := b3) (o := 2) (by (repeat constructor)) (by exact hs_takeA _ _) pk.2) (hM.cell8 (b := b3) (o := 34) (by (repeat constructor)) (by exact hs_takeB _ _) pv.2))
      refine ca (rbytes_any 3 _ _ w hRb (by simp)) ?_
      rintro v61 w2 ⟨hO, hc⟩
      have hM := hM.got hc hO
      obtain ⟨u61, rfl⟩ : ∃ u : SlV, v61 = slv u := by obtain ⟨A, c, rfl, _⟩ := hO.form; exact ⟨(A, _, c), rfl⟩
      have hM := hM.rowFrd (by simp)
      rw [show 3 :: (List.map (fun p : SlV × List UInt8 => p.2) [((some ⟨b3, 2, none⟩, 32, 32), pk.1), ((some ⟨b3, 34, none⟩, 32, 32), pv.1)]).flatten = 3 :: (pk.1 ++ pv.1) by simp] at hM
      refine x_wy (.inl (hc.gy h0)) rfl ?_
      refine yk1 6 hM (by kernel_rfl) rfl (fun w h0 hM => ?_)
      refine kbsC (en := eSl) (vs := [slv u61]) [u61] hM (fun w b65 hc hM => ?_)
      refine x_wy (.inl (hc.gy h0)) rfl ?_
      (first | refine yn 7 rfl ?_ | refine ynt 7 rfl ?_ | refine ynff 7 rfl ?_)
      refine wy_done (by kernel_rfl) (fun w hc => ?_)
      have hM := hM.call hc
      have hM := ((hM.pick (a := .frd tU8 _ _ _) (by (repeat constructor))).many0 tU8).manyPut
      obtain ⟨B0, hM⟩ : ∃ B0, Mem [] w0 w [.row eSl 28 (.slice (some ⟨b65, 0, none⟩) 1 1) ([(u61, 3 :: (pk.1 ++ pv.1))].map (fun p : SlV × List UInt8 => p.1)), .many tU8 B0 [(u61, 3 :: (pk.1 ++ pv.1))], .cell b3 (pC (.slice A st.length c) true pk pv) 52, .cell b2 (k.1.map u8v) 31] := ⟨_, hM.sub (by (repeat constructor))⟩
      have hl0 : ∀ x ∈ [(u61, 3 :: (pk.1 ++ pv.1))].map (fun p : SlV × List UInt8 => p.2), x.length ≤ 66 := by
        intro x hx
        simp at hx
        subst hx
        simp
      have hd0 : [3 :: (pk.1 ++ pv.1)] = [(u61, 3 :: (pk.1 ++ pv.1))].map (fun p : SlV × List UInt8 => p.2) := rfl
      rw [hd0]
      have hp0 : [(u61, 3 :: (pk.1 ++ pv.1))].length = 0 + 1 := rfl
      clear hd0
      generalize [(u61, 3 :: (pk.1 ++ pv.1))] = ps0 at hM hl0 hp0 ⊢
      generalize Value.slice (some ⟨b65, 0, none⟩) 1 1 = uv0 at hM ⊢
      repeat (first | ((with_reducible apply is_ld); first | refine kld hM ?_ | refine kldw hM ?_ | refine kle hM ?_ | refine klew hM ?_ | refine kldh hM ?_ | refine kld hM ?_ (hv := by first | exact hs_get _ _ _ | exact hs_get1 _ _ _ _)) | ((with_reducible apply is_sto); first | (refine kst hM ?_; intro w hM) | (refine kstw hM ?_; intro w hM)) | ((with_reducible apply is_st); refine su ?_) | ((with_reducible apply is_gd); first | refine gt ?_ | refine gf ?_ | refine gu ?_) | ((with_reducible apply is_en); refine en ?_) | (with_reducible apply c_region) | refine ws ?_ | refine x_block_other (by decide) ?_)
      
      refine c_loop (fun n l w => ∃ (i : Nat) (uv : Value) (ps : List (SlV × List UInt8)) (B : Nat → Prop), (∃ jj : Nat → Value, l = [jj 0, jj 1, .pointer (some ⟨b2, 0, none⟩), .pointer (some ⟨b3, 0, none⟩), jj 4, jj 5, jj 6, jj 7, uv, .int .i64 ((st.length : Int) - 1 - (i : Int)), jj 10, jj 11, jj 12, jj 13, jj 14, jj 15, jj 16, jj 17, jj 18, jj 19, jj 20, jj 21, jj 22, jj 23, jj 24, jj 25, jj 26, jj 27, jj 28, jj 29, jj 30, jj 31, jj 32, jj 33, jj 34, jj 35, jj 36, jj 37, jj 38, jj 39, jj 40, jj 41, jj 42, jj 43, jj 44, jj 45, jj 46, jj 47, jj 48, jj 49, jj 50, jj 51, jj 52, jj 53, jj 54, jj 55, jj 56, jj 57, jj 58, jj 59, jj 60, jj 61, jj 62, jj 63, jj 64, jj 65, jj 66, jj 67, jj 68, jj 69, jj 70, jj 71, jj 72, jj 73, jj 74, jj 75, jj 76, jj 77, jj 78, jj 79, jj 80]) ∧ n + i = st.length ∧ ps.length = i + 1 ∧ (∀ x ∈ ps.map (fun p : SlV × List UInt8 => p.2), x.length ≤ 66) ∧ downL k st.reverse (ps0.map (fun p : SlV × List UInt8 => p.2)) = downL k (st.reverse.drop i) (ps.map (fun p : SlV × List UInt8 => p.2)) ∧
        Mem [] w0 w [.row eSl 28 uv (ps.map (fun p : SlV × List UInt8 => p.1)), .many tU8 B ps, .cell b3 (pC (.slice A st.length c) true pk pv) 52, .cell b2 (k.1.map u8v) 31]) st.length
        ⟨0, uv0, ps0, B0, exj (by rw [show (st.length : Int) - 1 - ((0 : Nat) : Int) = (st.length : Int) - 1 by omega]; rfl), rfl, hp0, hl0, rfl, hM⟩ ?_
      clear hM
      rintro n l w ⟨i, uv, ps, B, ⟨jj, rfl⟩, hni, hpl, hpb, hf, hM⟩
      repeat (first | ((with_reducible apply is_ld); first | refine kld hM ?_ | refine kldw hM ?_ | refine kle hM ?_ | refine klew hM ?_ | refine kldh hM ?_ | refine kld hM ?_ (hv := by first | exact hs_get _ _ _ | exact hs_get1 _ _ _ _)) | ((with_reducible apply is_sto); first | (refine kst hM ?_; intro w hM) | (refine kstw hM ?_; intro w hM)) | ((with_reducible apply is_st); refine su ?_) | ((with_reducible apply is_gd); first | refine gt ?_ | refine gf ?_ | refine gu ?_) | ((with_reducible apply is_en); refine en ?_) | (with_reducible apply c_region) | refine ws ?_ | refine x_block_other (by decide) ?_)
      refine c_cond rfl (fun hi => ?_) (fun hi => ?_)
      · have hiu : i < st.length := by omega
        repeat (first | ((with_reducible apply is_ld); first | refine kld hM ?_ | refine kldw hM ?_ | refine kle hM ?_ | refine klew hM ?_ | refine kldh hM ?_ | refine kld hM ?_ (hv := by first | exact hs_get _ _ _ | exact hs_get1 _ _ _ _)) | ((with_reducible apply is_sto); first | (refine kst hM ?_; intro w hM) | (refine kstw hM ?_; intro w hM)) | ((with_reducible apply is_st); refine su ?_) | ((with_reducible apply is_gd); first | refine gt ?_ | refine gf ?_ | refine gu ?_) | ((with_reducible apply is_en); refine en ?_) | (with_reducible apply c_region) | refine ws ?_ | refine x_block_other (by decide) ?_)
        refine kix hR (fun b o x hx hA => ?_)
        rw [show ((st.length : Int) - 1 - (i : Int)).toNat = st.length - 1 - i by omega] at hx
        rw [rev_drop hiu hx, downL] at hf
        have hxx := hgm x (List.mem_of_getElem? hx)
        refine katr hM hA ?_
        obtain ⟨xi, xs⟩ := x
        simp only at hf hxx
        obtain ⟨I, rfl⟩ := Int.eq_ofNat_of_zero_le hxx.1
        have hu : u8v (UInt8.ofNat I) = .int .u8 (I : Int) := by
          unfold u8v
          rw [UInt8.toNat_ofNat', Nat.mod_eq_of_lt (by omega)]
        refine kal hM (fun w b10 hM => ?_)
        refine kstw (vs := eSt.f ((I : Int), xs)) hM (fun w hM => ?_) (h1 := eSt.h1 ((I : Int), xs))
        obtain ⟨A8, c8, rfl, _⟩ := (hM.row0 (v := uv) (by (repeat constructor))).form
        simp only [List.length_map] at hM ⊢
        repeat (first | ((with_reducible apply is_ld); first | refine kld hM ?_ | refine kldw hM ?_ | refine kle hM ?_ | refine klew hM ?_ | refine kldh hM ?_ | refine kld hM ?_ (hv := by first | exact hs_get _ _ _ | exact hs_get1 _ _ _ _)) | ((with_reducible apply is_sto); first | (refine kst hM ?_; intro w hM) | (refine kstw hM ?_; intro w hM)) | ((with_reducible apply is_st); refine su ?_) | ((with_reducible apply is_gd); first | refine gt ?_ | refine gf ?_ | refine gu ?_) | ((with_reducible apply is_en); refine en ?_) | (with_reducible apply c_region) | refine ws ?_ | refine x_block_other (by decide) ?_)
        (try ((with_reducible apply is_gd); first | refine gt ?_ | refine gf ?_ | refine gu ?_)); refine ix (hM.rowRdO (en := eSl) (xs := ps.map (fun p : SlV × List UInt8 => p.1)) (by (repeat constructor))) (fun b o x hx hA => ?_) (h1 := by simp; omega)
        (try ((with_reducible apply is_gd); first | refine gt ?_ | refine gf ?_ | refine gu ?_)); refine ld hA ?_
        rw [show ((ps.length : Int) - 1).toNat = ps.length - 1 by omega, List.getElem?_map] at hx
        obtain ⟨p, hpx, rfl⟩ := Option.map_eq_some_iff.1 hx
        have hpm := List.mem_of_getElem? hpx
        have hlast : (ps.map (fun p : SlV × List UInt8 => p.2)).getLastD [] = p.2 := getLastD_of (by rw [List.length_map, List.getElem?_map, hpx]; rfl)
        rw [hlast] at hf
        repeat (first | ((with_reducible apply is_ld); first | refine kld hM ?_ | refine kldw hM ?_ | refine kle hM ?_ | refine klew hM ?_ | refine kldh hM ?_ | refine kld hM ?_ (hv := by first | exact hs_get _ _ _ | exact hs_get1 _ _ _ _)) | ((with_reducible apply is_sto); first | (refine kst hM ?_; intro w hM) | (refine kstw hM ?_; intro w hM)) | ((with_reducible apply is_st); refine su ?_) | ((with_reducible apply is_gd); first | refine gt ?_ | refine gf ?_ | refine gu ?_) | ((with_reducible apply is_en); refine en ?_) | (with_reducible apply c_region) | refine ws ?_ | refine x_block_other (by decide) ?_)
        refine kca hM (rsum_any (slv p.1) p.2 w (hM.manyRd (ps := ps) (by (repeat constructor)) p hpm) (by have := hpb p.2 (List.mem_map_of_mem hpm); omega)) (X := hv (shaH p.2).1) (fun w hM => ?_)
        refine kal hM (fun w b11 hM => ?_)
        refine kstw (vs := (shaH p.2).1.map u8v) hM (fun w hM => ?_)
        generalize shaH p.2 = hH at hM hf
        repeat (first | ((with_reducible apply is_ld); first | refine kld hM ?_ | refine kldw hM ?_ | refine kle hM ?_ | refine klew hM ?_ | refine kldh hM ?_ | refine kld hM ?_ (hv := by first | exact hs_get _ _ _ | exact hs_get1 _ _ _ _)) | ((with_reducible apply is_sto); first | (refine kst hM ?_; intro w hM) | (refine kstw hM ?_; intro w hM)) | ((with_reducible apply is_st); refine su ?_) | ((with_reducible apply is_gd); first | refine gt ?_ | refine gf ?_ | refine gu ?_) | ((with_reducible apply is_en); refine en ?_) | (with_reducible apply c_region) | refine ws ?_ | refine x_block_other (by decide) ?_)
        rw [← hu]
        refine kbs (en := eU8) (vs := [u8v (UInt8.ofNat I)]) [UInt8.ofNat I] hM (fun w b59 hM => ?_) (hm := by intro v hv; simp at hv; subst hv; rfl)
        repeat (first | ((with_reducible apply is_ld); first | refine kld hM ?_ | refine kldw hM ?_ | refine kle hM ?_ | refine klew hM ?_ | refine kldh hM ?_ | refine kld hM ?_ (hv := by first | exact hs_get _ _ _ | exact hs_get1 _ _ _ _)) | ((with_reducible apply is_sto); first | (refine kst hM ?_; intro w hM) | (refine kstw hM ?_; intro w hM)) | ((with_reducible apply is_st); refine su ?_) | ((with_reducible apply is_gd); first | refine gt ?_ | refine gf ?_ | refine gu ?_) | ((with_reducible apply is_en); refine en ?_) | (with_reducible apply c_region) | refine ws ?_ | refine x_block_other (by decide) ?_)
        refine kca hM (rbit_any k (I : Int) w) (fun w hM => ?_)
        repeat (first | ((with_reducible apply is_ld); first | refine kld hM ?_ | refine kldw hM ?_ | refine kle hM ?_ | refine klew hM ?_ | refine kldh hM ?_ | refine kld hM ?_ (hv := by first | exact hs_get _ _ _ | exact hs_get1 _ _ _ _)) | ((with_reducible apply is_sto); first | (refine kst hM ?_; intro w hM) | (refine kstw hM ?_; intro w hM)) | ((with_reducible apply is_st); refine su ?_) | ((with_reducible apply is_gd); first | refine gt ?_ | refine gf ?_ | refine gu ?_) | ((with_reducible apply is_en); refine en ?_) | (with_reducible apply c_region) | refine ws ?_ | refine x_block_other (by decide) ?_)
        have hM : Mem [] w0 w [.row eU8 5 (.slice (some ⟨b59, 0, none⟩) 1 1) [UInt8.ofNat I], .cell b11 (hH.1.map u8v) 31, .cell b10 (eSt.f ((I : Int), xs)) 71, .row eSl 28 (.slice A8 ps.length c8) (ps.map (fun p : SlV × List UInt8 => p.1)), .many tU8 B ps, .cell b3 (pC (.slice A st.length c) true pk pv) 52, .cell b2 (k.1.map u8v) 31] := hM
        by_cases hb0 : bitZ k (I : Int) = 0
        · rw [decide_eq_true (by omega : (bitZ k (I : Int) : Int) = 0)]
          have hfx : forkX k ((I : Int), xs) hH = 4 :: UInt8.ofNat I :: (hH.1 ++ xs.1) := by unfold forkX; rw [if_pos hb0]; rfl
          refine c_condb rfl (fun _ => ?_) (fun h => by cases h)
          repeat (first | ((with_reducible apply is_ld); first | refine kld hM ?_ | refine kldw hM ?_ | refine kle hM ?_ | refine klew hM ?_ | refine kldh hM ?_ | refine kld hM ?_ (hv := by first | exact hs_get _ _ _ | exact hs_get1 _ _ _ _)) | ((with_reducible apply is_sto); first | (refine kst hM ?_; intro w hM) | (refine kstw hM ?_; intro w hM)) | ((with_reducible apply is_st); refine su ?_) | ((with_reducible apply is_gd); first | refine gt ?_ | refine gf ?_ | refine gu ?_) | ((with_reducible apply is_en); refine en ?_) | (with_reducible apply c_region) | refine ws ?_ | refine x_block_other (by decide) ?_)
          refine c_ordY ([8], []) [] (by kernel_rfl) (by kernel_rfl) (by kernel_rfl) (fun w hc hs => ?_)
          have hM := hM.call hc
          (first | refine yn 0 rfl ?_ | refine ynt 0 rfl ?_ | refine ynff 0 rfl ?_); (first | refine yn 1 rfl ?_ | refine ynt 1 rfl ?_ | refine ynff 1 rfl ?_)
          refine ynp 2 rfl (by kernel_rfl) (by kernel_rfl) (fun _ => r_cut_arr0 rfl) rfl ?_
          (first | refine yn 3 rfl ?_ | refine ynt 3 rfl ?_ | refine ynff 3 rfl ?_)
          refine ynp 4 rfl (by kernel_rfl) (by kernel_rfl) (fun _ => r_cut_arr0 rfl) rfl ?_
          refine yk1 5 hM (by kernel_rfl) rfl (fun w h0 hM => ?_)
          refine kbsC (en := eSl) (vs := [slv (some ⟨b59, 0, none⟩, 1, 1), slv (some ⟨b11, 0, none⟩, 32, 32), slv (some ⟨b10, 1, none⟩, 32, 32)]) [(some ⟨b59, 0, none⟩, 1, 1), (some ⟨b11, 0, none⟩, 32, 32), (some ⟨b10, 1, none⟩, 32, 32)] hM (fun w b60 hc hM => ?_)
          refine x_wy (.inl (hc.gy h0)) rfl ?_
          refine yk1 6 hM (by kernel_rfl) rfl (fun w h0 hM => ?_)
          have hra := hM.cell8 (b := b11) (o := 0) (by (repeat constructor)) (by exact hs_take _) hH.2
          have hrb := hM.cell8 (b := b10) (o := 1) (by (repeat constructor)) (by exact hs_take _) xs.2
          have hRb := hM.rows8 (ps := [((some ⟨b59, 0, none⟩, 1, 1), [UInt8.ofNat I]), ((some ⟨b11, 0, none⟩, 32, 32), hH.1), ((some ⟨b10, 1, none⟩, 32, 32), xs.1)]) (by (repeat constructor)) (rof33 (hM.rowRdO (en := eU8) (by (repeat constructor))) hra hrb)
          have hbz := rbytes_any 4 _ _ w hRb (by simp)
          rw [show 4 :: (List.map (fun p : SlV × List UInt8 => p.2) [((some ⟨b59, 0, none⟩, 1, 1), [UInt8.ofNat I]), ((some ⟨b11, 0, none⟩, 32, 32), hH.1), ((some ⟨b10, 1, none⟩, 32, 32), xs.1)]).flatten = forkX k ((I : Int), xs) hH by rw [hfx]; simp] at hbz
          refine ca hbz ?_
          rintro v61 w2 ⟨hO, hc2⟩
          have hM := hM.got hc2 hO
          obtain ⟨u61, rfl⟩ : ∃ u : SlV, v61 = slv u := by obtain ⟨A, c, rfl, _⟩ := hO.form; exact ⟨(A, _, c), rfl⟩
          have hM := hM.rowFrd (by rw [forkX_len]; omega)
          have hM := (hM.pick (a := .many tU8 B ps) (by (repeat constructor))).manyPut
          refine x_wy (.inl (hc2.gy h0)) rfl ?_
          refine yk1 7 hM (by kernel_rfl) rfl (fun w h0 hM => ?_)
          refine kbsC (en := eSl) (vs := [slv u61]) [u61] hM (fun w b65 hc hM => ?_)
          refine x_wy (.inl (hc.gy h0)) rfl ?_
          refine yk1 8 hM (by kernel_rfl) rfl (fun w h0 hM => ?_)
          refine kapC (en := eSl) (ys := [u61]) hM (hM.rowRd (en := eSl) (xs := [u61]) (by (repeat constructor)) (by simp)) (fun v66 w hsz hM => ?_) (hb := by simp; omega) (h63 := by simp; omega)
          refine x_wy (.inr ⟨by decide, Nat.le_trans h0 hsz⟩) rfl ?_
          (first | refine yn 9 rfl ?_ | refine ynt 9 rfl ?_ | refine ynff 9 rfl ?_)
          refine wy_done (by kernel_rfl) (fun w hc => ?_)
          have hM := hM.call hc
          have hmp : ps.map (fun p : SlV × List UInt8 => p.1) ++ [u61] = (ps ++ [(u61, forkX k ((I : Int), xs) hH)]).map (fun p : SlV × List UInt8 => p.1) := by simp
          rw [hmp] at hM
          repeat (first | ((with_reducible apply is_ld); first | refine kld hM ?_ | refine kldw hM ?_ | refine kle hM ?_ | refine klew hM ?_ | refine kldh hM ?_ | refine kld hM ?_ (hv := by first | exact hs_get _ _ _ | exact hs_get1 _ _ _ _)) | ((with_reducible apply is_sto); first | (refine kst hM ?_; intro w hM) | (refine kstw hM ?_; intro w hM)) | ((with_reducible apply is_st); refine su ?_) | ((with_reducible apply is_gd); first | refine gt ?_ | refine gf ?_ | refine gu ?_) | ((with_reducible apply is_en); refine en ?_) | (with_reducible apply c_region) | refine ws ?_ | refine x_block_other (by decide) ?_)
          refine x_goes (n - 1) rfl (by omega) ⟨i + 1, v66, ps ++ [(u61, forkX k ((I : Int), xs) hH)], _, exj (by rw [show (st.length : Int) - 1 - ((i + 1 : Nat) : Int) = (st.length : Int) - 1 - (i : Int) - 1 by omega]; rfl), by omega, by simp [hpl], ?_, ?_, hM.sub (by (repeat constructor))⟩
          · intro x hx
            rw [List.map_append, List.mem_append] at hx
            rcases hx with hx | hx
            · exact hpb x hx
            · simp at hx
              subst hx
              rw [forkX_len]
              omega
          · rw [hf, List.map_append]
            rfl
        · rw [decide_eq_false (by omega : ¬ (bitZ k (I : Int) : Int) = 0)]
          have hfx : forkX k ((I : Int), xs) hH = 4 :: UInt8.ofNat I :: (xs.1 ++ hH.1) := by unfold forkX; rw [if_neg hb0]; rfl
          refine c_condb rfl (fun h => by cases h) (fun _ => ?_)
          repeat (first | ((with_reducible apply is_ld); first | refine kld hM ?_ | refine kldw hM ?_ | refine kle hM ?_ | refine klew hM ?_ | refine kldh hM ?_ | refine kld hM ?_ (hv := by first | exact hs_get _ _ _ | exact hs_get1 _ _ _ _)) | ((with_reducible apply is_sto); first | (refine kst hM ?_; intro w hM) | (refine kstw hM ?_; intro w hM)) | ((with_reducible apply is_st); refine su ?_) | ((with_reducible apply is_gd); first | refine gt ?_ | refine gf ?_ | refine gu ?_) | ((with_reducible apply is_en); refine en ?_) | (with_reducible apply c_region) | refine ws ?_ | refine x_block_other (by decide) ?_)
          refine c_ordY ([8], []) [] (by kernel_rfl) (by kernel_rfl) (by kernel_rfl) (fun w hc hs => ?_)
          have hM := hM.call hc
          (first | refine yn 0 rfl ?_ | refine ynt 0 rfl ?_ | refine ynff 0 rfl ?_); (first | refine yn 1 rfl ?_ | refine ynt 1 rfl ?_ | refine ynff 1 rfl ?_)
          (first | refine yn 2 rfl ?_ | refine ynt 2 rfl ?_ | refine ynff 2 rfl ?_)
          refine ynp 3 rfl (by kernel_rfl) (by kernel_rfl) (fun _ => r_cut_arr0 rfl) rfl ?_
          refine ynp 4 rfl (by kernel_rfl) (by kernel_rfl) (fun _ => r_cut_arr0 rfl) rfl ?_
          refine yk1 5 hM (by kernel_rfl) rfl (fun w h0 hM => ?_)
          refine kbsC (en := eSl) (vs := [slv (some ⟨b59, 0, none⟩, 1, 1), slv (some ⟨b10, 1, none⟩, 32, 32), slv (some ⟨b11, 0, none⟩, 32, 32)]) [(some ⟨b59, 0, none⟩, 1, 1), (some ⟨b10, 1, none⟩, 32, 32), (some ⟨b11, 0, none⟩, 32, 32)] hM (fun w b60 hc hM => ?_)
          refine x_wy (.inl (hc.gy h0)) rfl ?_
          refine yk1 6 hM (by kernel_rfl) rfl (fun w h0 hM => ?_)
          have hra := hM.cell8 (b := b11) (o := 0) (by (repeat constructor)) (by exact hs_take _) hH.2
          have hrb := hM.cell8 (b := b10) (o := 1) (by (repeat constructor)) (by exact hs_take _) xs.2
          have hRb := hM.rows8 (ps := [((some ⟨b59, 0, none⟩, 1, 1), [UInt8.ofNat I]), ((some ⟨b10, 1, none⟩, 32, 32), xs.1), ((some ⟨b11, 0, none⟩, 32, 32), hH.1)]) (by (repeat constructor)) (rof33 (hM.rowRdO (en := eU8) (by (repeat constructor))) hrb hra)
          have hbz := rbytes_any 4 _ _ w hRb (by simp)
          rw [show 4 :: (List.map (fun p : SlV × List UInt8 => p.2) [((some ⟨b59, 0, none⟩, 1, 1), [UInt8.ofNat I]), ((some ⟨b10, 1, none⟩, 32, 32), xs.1), ((some ⟨b11, 0, none⟩, 32, 32), hH.1)]).flatten = forkX k ((I : Int), xs) hH by rw [hfx]; simp] at hbz
          refine ca hbz ?_
          rintro v61 w2 ⟨hO, hc2⟩
          have hM := hM.got hc2 hO
          obtain ⟨u61, rfl⟩ : ∃ u : SlV, v61 = slv u := by obtain ⟨A, c, rfl, _⟩ := hO.form; exact ⟨(A, _, c), rfl⟩
          have hM := hM.rowFrd (by rw [forkX_len]; omega)
          have hM := (hM.pick (a := .many tU8 B ps) (by (repeat constructor))).manyPut
          refine x_wy (.inl (hc2.gy h0)) rfl ?_
          refine yk1 7 hM (by kernel_rfl) rfl (fun w h0 hM => ?_)
          refine kbsC (en := eSl) (vs := [slv u61]) [u61] hM (fun w b65 hc hM => ?_)
          refine x_wy (.inl (hc.gy h0)) rfl ?_
          refine yk1 8 hM (by kernel_rfl) rfl (fun w h0 hM => ?_)
          refine kapC (en := eSl) (ys := [u61]) hM (hM.rowRd (en := eSl) (xs := [u61]) (by (repeat constructor)) (by simp)) (fun v66 w hsz hM => ?_) (hb := by simp; omega) (h63 := by simp; omega)
          refine x_wy (.inr ⟨by decide, Nat.le_trans h0 hsz⟩) rfl ?_
          (first | refine yn 9 rfl ?_ | refine ynt 9 rfl ?_ | refine ynff 9 rfl ?_)
          refine wy_done (by kernel_rfl) (fun w hc => ?_)
          have hM := hM.call hc
          have hmp : ps.map (fun p : SlV × List UInt8 => p.1) ++ [u61] = (ps ++ [(u61, forkX k ((I : Int), xs) hH)]).map (fun p : SlV × List UInt8 => p.1) := by simp
          rw [hmp] at hM
          repeat (first | ((with_reducible apply is_ld); first | refine kld hM ?_ | refine kldw hM ?_ | refine kle hM ?_ | refine klew hM ?_ | refine kldh hM ?_ | refine kld hM ?_ (hv := by first | exact hs_get _ _ _ | exact hs_get1 _ _ _ _)) | ((with_reducible apply is_sto); first | (refine kst hM ?_; intro w hM) | (refine kstw hM ?_; intro w hM)) | ((with_reducible apply is_st); refine su ?_) | ((with_reducible apply is_gd); first | refine gt ?_ | refine gf ?_ | refine gu ?_) | ((with_reducible apply is_en); refine en ?_) | (with_reducible apply c_region) | refine ws ?_ | refine x_block_other (by decide) ?_)
          refine x_goes (n - 1) rfl (by omega) ⟨i + 1, v66, ps ++ [(u61, forkX k ((I : Int), xs) hH)], _, exj (by rw [show (st.length : Int) - 1 - ((i + 1 : Nat) : Int) = (st.length : Int) - 1 - (i : Int) - 1 by omega]; rfl), by omega, by simp [hpl], ?_, ?_, hM.sub (by (repeat constructor))⟩
          · intro x hx
            rw [List.map_append, List.mem_append] at hx
            rcases hx with hx | hx
            · exact hpb x hx
            · simp at hx
              subst hx
              rw [forkX_len]
              omega
          · rw [hf, List.map_append]
            rfl
      · repeat (first | ((with_reducible apply is_ld); first | refine kld hM ?_ | refine kldw hM ?_ | refine kle hM ?_ | refine klew hM ?_ | refine kldh hM ?_ | refine kld hM ?_ (hv := by first | exact hs_get _ _ _ | exact hs_get1 _ _ _ _)) | ((with_reducible apply is_sto); first | (refine kst hM ?_; intro w hM) | (refine kstw hM ?_; intro w hM)) | ((with_reducible apply is_st); refine su ?_) | ((with_reducible apply is_gd); first | refine gt ?_ | refine gf ?_ | refine gu ?_) | ((with_reducible apply is_en); refine en ?_) | (with_reducible apply c_region) | refine ws ?_ | refine x_block_other (by decide) ?_)
        rw [List.drop_eq_nil_of_le (by simp; omega), downL] at hf
        rw [hf]
        have hM := (hM.sub (M := [.row eSl 28 uv (ps.map (fun p : SlV × List UInt8 => p.1)), .many tU8 B ps]) (by (repeat constructor))).manyFrd (by omega)
        exact out2 rfl ⟨_, _, rfl, hM⟩
end Go.Proofs.YtnkkeehoejmcnaaDoor
set_option linter.unusedVariables false
set_option linter.unusedSimpArgs false
namespace Go.Proofs.YtnkkeehoejmcnaaDoor
open Go Go.RowKit Go.Proofs.E
attribute [local irreducible] Go.wpList Go.Code.wp Go.Proofs.E.exec Go.Proofs.E.wpLexG
theorem downL_mem (k : Hs) : ∀ (r : List (Int × Hs)) (l : List (List UInt8)), (∀ x ∈ l, x.length ≤ 66) → ∀ x ∈ downL k r l, x.length ≤ 66
  | [], l, h => h
  | s :: r, l, h => downL_mem k r _ (fun x hx => by
    rcases List.mem_append.1 hx with hx | hx
    · exact h x hx
    · simp at hx
      subst hx
      rw [forkX_len]
      omega)
theorem downL_len (k : Hs) : ∀ (r : List (Int × Hs)) (l : List (List UInt8)), (downL k r l).length = l.length + r.length
  | [], l => rfl
  | s :: r, l => by
    rw [downL, downL_len k r]
    simp
    omega
theorem climbP_good {k : Hs} {st : List (Int × Hs)} {lf : Bool} {pk pv : Hs} (h : (climbP k st lf pk pv).isSome = true) : goodSt (-1) st = true := by
  unfold climbP at h
  split at h
  · rename_i hg
    unfold goodP at hg
    simp only [Bool.and_eq_true] at hg
    exact hg.1
  · cases h
theorem downsP_mem (k : Hs) (st : List (Int × Hs)) (lf : Bool) (pk pv : Hs) : ∀ x ∈ downsP k st lf pk pv, x.length ≤ 66 := by
  unfold downsP
  split
  · split
    · exact downL_mem k _ _ (fun x hx => by simp at hx; subst hx; simp)
    · intro x hx
      simp at hx
      subst hx
      simp
  · simp
theorem downsP_len (k : Hs) (st : List (Int × Hs)) (lf : Bool) (pk pv : Hs) : (downsP k st lf pk pv).length ≤ 257 := by
  unfold downsP
  split
  · rename_i h
    have := goodSt_len (climbP_good h) (by omega)
    split
    · rw [downL_len]
      simp
      omega
    · simp
  · simp
def membersZ (k : Hs) (s1 : List (Int × Hs)) (f1 : Bool) (k1 v1 : Hs) (s2 : List (Int × Hs)) (f2 : Bool) (k2 v2 : Hs) : Option (List UInt8 × List UInt8) :=
  if (climbP k s1 f1 k1 v1).isSome = true ∧ (climbP k s2 f2 k2 v2).isSome = true then firstL (pairsL (downsP k s1 f1 k1 v1) (downsP k s2 f2 k2 v2)) else none
set_option maxHeartbeats 8000000 in
theorem cmembers_any (k : Hs) (sp sq : Value) (f1 f2 : Bool) (k1 v1 k2 v2 : Hs) (s1 s2 : List (Int × Hs)) (w0 : World) (hK : Laid w0) (hR1 : (Ty.enc eSt).Rd [] w0 sp s1) (hR2 : (Ty.enc eSt).Rd [] w0 sq s2) :
    Calls Tryd.prog 45 #[hv k.1, .agg (pC sp f1 k1 v1).toArray, .agg (pC sq f2 k2 v2).toArray] w0 (Ret fun u w' => ∃ u1 u2, u = .tuple #[u1, u2, .bool (membersZ k s1 f1 k1 v1 s2 f2 k2 v2).isSome] ∧
      Mem [] w0 w' [.row eU8 5 u1 (fstL (membersZ k s1 f1 k1 v1 s2 f2 k2 v2)), .row eU8 5 u2 (sndL (membersZ k s1 f1 k1 v1 s2 f2 k2 v2))]) := by
  have hM := Mem.start w0
  refine enter [hv k.1, .agg (pC sp f1 k1 v1).toArray, .agg (pC sq f2 k2 v2).toArray, undef, undef, undef, undef, undef, undef, undef, undef, undef, undef, undef, undef, undef, undef, undef, undef, undef, undef, undef, undef, undef, undef, undef, undef, undef, undef, undef, undef, undef, undef, undef, undef, undef, undef] Tryd.func45 rfl rfl ?_
  repeat (first | ((with_reducible apply is_ld); first | refine kld hM ?_ | refine kldw hM ?_ | refine kle hM ?_ | refine klew hM ?_) | ((with_reducible apply is_sto); first | (refine kst hM ?_; intro w hM) | (refine kstw hM ?_; intro w hM)) | ((with_reducible apply is_st); refine su ?_) | ((with_reducible apply is_gd); first | refine gt ?_ | refine gf ?_ | refine gu ?_) | ((with_reducible apply is_en); refine en ?_) | (with_reducible apply c_region) | refine ws ?_ | refine x_block_other (by decide) ?_)
  refine kbx hM (fun w b3 hM => ?_)
  refine kbx hM (fun w b4 hM => ?_)
  refine kbx hM (fun w b5 hM => ?_)
  have hM : Mem [] w0 w [.cell b5 (pC sq f2 k2 v2) 41, .cell b4 (pC sp f1 k1 v1) 41, .cell b3 (k.1.map u8v) 31] := hM
  repeat (first | ((with_reducible apply is_ld); first | refine kld hM ?_ | refine kldw hM ?_ | refine kle hM ?_ | refine klew hM ?_ | refine kldh hM ?_ | refine kld hM ?_ (hv := by first | exact hs_get _ _ _ | exact hs_get1 _ _ _ _)) | ((with_reducible apply is_sto); first | (refine kst hM ?_; intro w hM) | (refine kstw hM ?_; intro w hM)) | ((with_reducible apply is_st); refine su ?_) | ((with_reducible apply is_gd); first | refine gt ?_ | refine gf ?_ | refine gu ?_) | ((with_reducible apply is_en); refine en ?_) | (with_reducible apply c_region) | refine ws ?_ | refine x_block_other (by decide) ?_)
  refine ca ((fun k sp lf pk pv st w h1 h2 => downs_any k sp lf pk pv st w h1 h2) k sp f1 k1 v1 s1 w (hK.ch hM.ch (by simp)) (hR1.ch hM.ch)) ?_
  rintro _ w1 ⟨u1, B1, rfl, hN1⟩
  have hM := hM.join hN1 (by simp [As.plain])
  simp only [List.cons_append, List.nil_append] at hM
  repeat (first | ((with_reducible apply is_ld); first | refine kld hM ?_ | refine kldw hM ?_ | refine kle hM ?_ | refine klew hM ?_ | refine kldh hM ?_ | refine kld hM ?_ (hv := by first | exact hs_get _ _ _ | exact hs_get1 _ _ _ _)) | ((with_reducible apply is_sto); first | (refine kst hM ?_; intro w hM) | (refine kstw hM ?_; intro w hM)) | ((with_reducible apply is_st); refine su ?_) | ((with_reducible apply is_gd); first | refine gt ?_ | refine gf ?_ | refine gu ?_) | ((with_reducible apply is_en); refine en ?_) | (with_reducible apply c_region) | refine ws ?_ | refine x_block_other (by decide) ?_)
  refine ca ((fun k sp lf pk pv st w h1 h2 => downs_any k sp lf pk pv st w h1 h2) k sq f2 k2 v2 s2 w1 (hK.ch hM.ch (by simp)) (hR2.ch hM.ch)) ?_
  rintro _ w2 ⟨u2, B2, rfl, hN2⟩
  have hM := hM.join hN2 (by simp [As.plain])
  simp only [List.cons_append, List.nil_append] at hM
  unfold membersZ
  have hm1 := downsP_mem k s1 f1 k1 v1
  have hm2 := downsP_mem k s2 f2 k2 v2
  have hml := downsP_len k s1 f1 k1 v1
  generalize downsP k s1 f1 k1 v1 = xs at hM hm1 hml ⊢
  generalize downsP k s2 f2 k2 v2 = ys at hM hm2 ⊢
  generalize (climbP k s1 f1 k1 v1).isSome = c1
  generalize (climbP k s2 f2 k2 v2).isSome = c2
  repeat (first | ((with_reducible apply is_ld); first | refine kld hM ?_ | refine kldw hM ?_ | refine kle hM ?_ | refine klew hM ?_ | refine kldh hM ?_ | refine kld hM ?_ (hv := by first | exact hs_get _ _ _ | exact hs_get1 _ _ _ _)) | ((with_reducible apply is_sto); first | (refine kst hM ?_; intro w hM) | (refine kstw hM ?_; intro w hM)) | ((with_reducible apply is_st); refine su ?_) | ((with_reducible apply is_gd); first | refine gt ?_ | refine gf ?_ | refine gu ?_) | ((with_reducible apply is_en); refine en ?_) | (with_reducible apply c_region) | refine ws ?_ | refine x_block_other (by decide) ?_)
  have none_ : ∀ {fn : Func} {l : List Value}, fn.results = #[.tmp 6, .tmp 7, .tmp 8] → ev l (.tmp 6) = .slice none 0 0 → ev l (.tmp 7) = .slice none 0 0 → ev l (.tmp 8) = .bool false → bodyPost Tryd.prog fn (Ret fun u w' => ∃ v1 v2, u = .tuple #[v1, v2, .bool (none : Option (List UInt8 × List UInt8)).isSome] ∧
      Mem [] w0 w' [.row eU8 5 v1 (fstL none), .row eU8 5 v2 (sndL none)]) .ret (fr l) w2 := fun hr h1 h2 h3 => out3 hr ⟨_, _, by rw [h1, h2, h3]; rfl, (hM.nil.nilRow eU8 5).nilRow eU8 5⟩
  cases c1 with
  | false =>
    rw [if_neg (by simp)]
    repeat (first | ((with_reducible apply is_ld); first | refine kld hM ?_ | refine kldw hM ?_ | refine kle hM ?_ | refine klew hM ?_ | refine kldh hM ?_ | refine kld hM ?_ (hv := by first | exact hs_get _ _ _ | exact hs_get1 _ _ _ _)) | ((with_reducible apply is_sto); first | (refine kst hM ?_; intro w hM) | (refine kstw hM ?_; intro w hM)) | ((with_reducible apply is_st); refine su ?_) | ((with_reducible apply is_gd); first | refine gt ?_ | refine gf ?_ | refine gu ?_) | ((with_reducible apply is_en); refine en ?_) | (with_reducible apply c_region) | refine ws ?_ | refine x_block_other (by decide) ?_)
    refine c_condb rfl (fun _ => ?_) (fun h => by cases h)
    repeat (first | ((with_reducible apply is_ld); first | refine kld hM ?_ | refine kldw hM ?_ | refine kle hM ?_ | refine klew hM ?_ | refine kldh hM ?_ | refine kld hM ?_ (hv := by first | exact hs_get _ _ _ | exact hs_get1 _ _ _ _)) | ((with_reducible apply is_sto); first | (refine kst hM ?_; intro w hM) | (refine kstw hM ?_; intro w hM)) | ((with_reducible apply is_st); refine su ?_) | ((with_reducible apply is_gd); first | refine gt ?_ | refine gf ?_ | refine gu ?_) | ((with_reducible apply is_en); refine en ?_) | (with_reducible apply c_region) | refine ws ?_ | refine x_block_other (by decide) ?_)
    exact none_ rfl rfl rfl rfl
  | true =>
    cases c2 with
    | false =>
      rw [if_neg (by simp)]
      repeat (first | ((with_reducible apply is_ld); first | refine kld hM ?_ | refine kldw hM ?_ | refine kle hM ?_ | refine klew hM ?_ | refine kldh hM ?_ | refine kld hM ?_ (hv := by first | exact hs_get _ _ _ | exact hs_get1 _ _ _ _)) | ((with_reducible apply is_sto); first | (refine kst hM ?_; intro w hM) | (refine kstw hM ?_; intro w hM)) | ((with_reducible apply is_st); refine su ?_) | ((with_reducible apply is_gd); first | refine gt ?_ | refine gf ?_ | refine gu ?_) | ((with_reducible apply is_en); refine en ?_) | (with_reducible apply c_region) | refine ws ?_ | refine x_block_other (by decide) ?_)
      refine c_condb rfl (fun _ => ?_) (fun h => by cases h)
      repeat (first | ((with_reducible apply is_ld); first | refine kld hM ?_ | refine kldw hM ?_ | refine kle hM ?_ | refine klew hM ?_ | refine kldh hM ?_ | refine kld hM ?_ (hv := by first | exact hs_get _ _ _ | exact hs_get1 _ _ _ _)) | ((with_reducible apply is_sto); first | (refine kst hM ?_; intro w hM) | (refine kstw hM ?_; intro w hM)) | ((with_reducible apply is_st); refine su ?_) | ((with_reducible apply is_gd); first | refine gt ?_ | refine gf ?_ | refine gu ?_) | ((with_reducible apply is_en); refine en ?_) | (with_reducible apply c_region) | refine ws ?_ | refine x_block_other (by decide) ?_)
      exact none_ rfl rfl rfl rfl
    | true =>
      rw [if_pos ⟨rfl, rfl⟩]
      repeat (first | ((with_reducible apply is_ld); first | refine kld hM ?_ | refine kldw hM ?_ | refine kle hM ?_ | refine klew hM ?_ | refine kldh hM ?_ | refine kld hM ?_ (hv := by first | exact hs_get _ _ _ | exact hs_get1 _ _ _ _)) | ((with_reducible apply is_sto); first | (refine kst hM ?_; intro w hM) | (refine kstw hM ?_; intro w hM)) | ((with_reducible apply is_st); refine su ?_) | ((with_reducible apply is_gd); first | refine gt ?_ | refine gf ?_ | refine gu ?_) | ((with_reducible apply is_en); refine en ?_) | (with_reducible apply c_region) | refine ws ?_ | refine x_block_other (by decide) ?_)
      refine c_condb rfl (fun h => by cases h) (fun _ => ?_)
      repeat (first | ((with_reducible apply is_ld); first | refine kld hM ?_ | refine kldw hM ?_ | refine kle hM ?_ | refine klew hM ?_ | refine kldh hM ?_ | refine kld hM ?_ (hv := by first | exact hs_get _ _ _ | exact hs_get1 _ _ _ _)) | ((with_reducible apply is_sto); first | (refine kst hM ?_; intro w hM) | (refine kstw hM ?_; intro w hM)) | ((with_reducible apply is_st); refine su ?_) | ((with_reducible apply is_gd); first | refine gt ?_ | refine gf ?_ | refine gu ?_) | ((with_reducible apply is_en); refine en ?_) | (with_reducible apply c_region) | refine ws ?_ | refine x_block_other (by decide) ?_)
      refine ca ((fun va vb xs ys w h1 => first_any va vb xs ys w h1) u1 u2 xs ys w2 (hK.ch hM.ch (by simp)) (hM.frdRd (xs := xs) (by (repeat constructor))) (hM.frdRd (xs := ys) (by (repeat constructor))) (fun x hx => Nat.le_trans (hm1 x hx) (by omega)) (fun x hx => Nat.le_trans (hm2 x hx) (by omega)) (by omega)) ?_
      rintro _ w3 ⟨a1, a2, rfl, hN3⟩
      have hM := hM.nil.join hN3 (by simp [As.plain])
      repeat (first | ((with_reducible apply is_ld); first | refine kld hM ?_ | refine kldw hM ?_ | refine kle hM ?_ | refine klew hM ?_ | refine kldh hM ?_ | refine kld hM ?_ (hv := by first | exact hs_get _ _ _ | exact hs_get1 _ _ _ _)) | ((with_reducible apply is_sto); first | (refine kst hM ?_; intro w hM) | (refine kstw hM ?_; intro w hM)) | ((with_reducible apply is_st); refine su ?_) | ((with_reducible apply is_gd); first | refine gt ?_ | refine gf ?_ | refine gu ?_) | ((with_reducible apply is_en); refine en ?_) | (with_reducible apply c_region) | refine ws ?_ | refine x_block_other (by decide) ?_)
      exact out3 rfl ⟨_, _, rfl, hM⟩
set_option maxHeartbeats 8000000 in
theorem rmembers_any (k : Hs) (sp sq : Value) (f1 f2 : Bool) (k1 v1 k2 v2 : Hs) (s1 s2 : List (Int × Hs)) (w0 : World) (hK : True) (hR1 : (Ty.enc eSt).Rd [] w0 sp s1) (hR2 : (Ty.enc eSt).Rd [] w0 sq s2) :
    Calls Tryd.prog 46 #[hv k.1, .agg (pC sp f1 k1 v1).toArray, .agg (pC sq f2 k2 v2).toArray] w0 (Ret fun u w' => ∃ u1 u2, u = .tuple #[u1, u2, .bool (membersZ k s1 f1 k1 v1 s2 f2 k2 v2).isSome] ∧
      Mem [] w0 w' [.row eU8 5 u1 (fstL (membersZ k s1 f1 k1 v1 s2 f2 k2 v2)), .row eU8 5 u2 (sndL (membersZ k s1 f1 k1 v1 s2 f2 k2 v2))]) := by
  have hM := Mem.start w0
  refine enter [hv k.1, .agg (pC sp f1 k1 v1).toArray, .agg (pC sq f2 k2 v2).toArray, undef, undef, undef, undef, undef, undef, undef, undef, undef, undef, undef, undef, undef, undef, undef, undef, undef, undef, undef, undef, undef, undef, undef, undef, undef, undef, undef, undef, undef, undef, undef, undef, undef, undef] Tryd.func46 rfl rfl ?_
  repeat (first | ((with_reducible apply is_ld); first | refine kld hM ?_ | refine kldw hM ?_ | refine kle hM ?_ | refine klew hM ?_) | ((with_reducible apply is_sto); first | (refine kst hM ?_; intro w hM) | (refine kstw hM ?_; intro w hM)) | ((with_reducible apply is_st); refine su ?_) | ((with_reducible apply is_gd); first | refine gt ?_ | refine gf ?_ | refine gu ?_) | ((with_reducible apply is_en); refine en ?_) | (with_reducible apply c_region) | refine ws ?_ | refine x_block_other (by decide) ?_)
  refine kbx hM (fun w b3 hM => ?_)
  refine kbx hM (fun w b4 hM => ?_)
  refine kbx hM (fun w b5 hM => ?_)
  have hM : Mem [] w0 w [.cell b5 (pC sq f2 k2 v2) 52, .cell b4 (pC sp f1 k1 v1) 52, .cell b3 (k.1.map u8v) 31] := hM
  repeat (first | ((with_reducible apply is_ld); first | refine kld hM ?_ | refine kldw hM ?_ | refine kle hM ?_ | refine klew hM ?_ | refine kldh hM ?_ | refine kld hM ?_ (hv := by first | exact hs_get _ _ _ | exact hs_get1 _ _ _ _)) | ((with_reducible apply is_sto); first | (refine kst hM ?_; intro w hM) | (refine kstw hM ?_; intro w hM)) | ((with_reducible apply is_st); refine su ?_) | ((with_reducible apply is_gd); first | refine gt ?_ | refine gf ?_ | refine gu ?_) | ((with_reducible apply is_en); refine en ?_) | (with_reducible apply c_region) | refine ws ?_ | refine x_block_other (by decide) ?_)
  refine ca ((fun k sp lf pk pv st w (_ : True) h2 => rdowns_any k sp lf pk pv st w h2) k sp f1 k1 v1 s1 w (hK) (hR1.ch hM.ch)) ?_
  rintro _ w1 ⟨u1, B1, rfl, hN1⟩
  have hM := hM.join hN1 (by simp [As.plain])
  simp only [List.cons_append, List.nil_append] at hM
  repeat (first | ((with_reducible apply is_ld); first | refine kld hM ?_ | refine kldw hM ?_ | refine kle hM ?_ | refine klew hM ?_ | refine kldh hM ?_ | refine kld hM ?_ (hv := by first | exact hs_get _ _ _ | exact hs_get1 _ _ _ _)) | ((with_reducible apply is_sto); first | (refine kst hM ?_; intro w hM) | (refine kstw hM ?_; intro w hM)) | ((with_reducible apply is_st); refine su ?_) | ((with_reducible apply is_gd); first | refine gt ?_ | refine gf ?_ | refine gu ?_) | ((with_reducible apply is_en); refine en ?_) | (with_reducible apply c_region) | refine ws ?_ | refine x_block_other (by decide) ?_)
  refine ca ((fun k sp lf pk pv st w (_ : True) h2 => rdowns_any k sp lf pk pv st w h2) k sq f2 k2 v2 s2 w1 (hK) (hR2.ch hM.ch)) ?_
  rintro _ w2 ⟨u2, B2, rfl, hN2⟩
  have hM := hM.join hN2 (by simp [As.plain])
  simp only [List.cons_append, List.nil_append] at hM
  unfold membersZ
  have hm1 := downsP_mem k s1 f1 k1 v1
  have hm2 := downsP_mem k s2 f2 k2 v2
  have hml := downsP_len k s1 f1 k1 v1
  generalize downsP k s1 f1 k1 v1 = xs at hM hm1 hml ⊢
  generalize downsP k s2 f2 k2 v2 = ys at hM hm2 ⊢
  generalize (climbP k s1 f1 k1 v1).isSome = c1
  generalize (climbP k s2 f2 k2 v2).isSome = c2
  repeat (first | ((with_reducible apply is_ld); first | refine kld hM ?_ | refine kldw hM ?_ | refine kle hM ?_ | refine klew hM ?_ | refine kldh hM ?_ | refine kld hM ?_ (hv := by first | exact hs_get _ _ _ | exact hs_get1 _ _ _ _)) | ((with_reducible apply is_sto); first | (refine kst hM ?_; intro w hM) | (refine kstw hM ?_; intro w hM)) | ((with_reducible apply is_st); refine su ?_) | ((with_reducible apply is_gd); first | refine gt ?_ | refine gf ?_ | refine gu ?_) | ((with_reducible apply is_en); refine en ?_) | (with_reducible apply c_region) | refine ws ?_ | refine x_block_other (by decide) ?_)
  have none_ : ∀ {fn : Func} {l : List Value}, fn.results = #[.tmp 6, .tmp 7, .tmp 8] → ev l (.tmp 6) = .slice none 0 0 → ev l (.tmp 7) = .slice none 0 0 → ev l (.tmp 8) = .bool false → bodyPost Tryd.prog fn (Ret fun u w' => ∃ v1 v2, u = .tuple #[v1, v2, .bool (none : Option (List UInt8 × List UInt8)).isSome] ∧
      Mem [] w0 w' [.row eU8 5 v1 (fstL none), .row eU8 5 v2 (sndL none)]) .ret (fr l) w2 := fun hr h1 h2 h3 => out3 hr ⟨_, _, by rw [h1, h2, h3]; rfl, (hM.nil.nilRow eU8 5).nilRow eU8 5⟩
  cases c1 with
  | false =>
    rw [if_neg (by simp)]
    repeat (first | ((with_reducible apply is_ld); first | refine kld hM ?_ | refine kldw hM ?_ | refine kle hM ?_ | refine klew hM ?_ | refine kldh hM ?_ | refine kld hM ?_ (hv := by first | exact hs_get _ _ _ | exact hs_get1 _ _ _ _)) | ((with_reducible apply is_sto); first | (refine kst hM ?_; intro w hM) | (refine kstw hM ?_; intro w hM)) | ((with_reducible apply is_st); refine su ?_) | ((with_reducible apply is_gd); first | refine gt ?_ | refine gf ?_ | refine gu ?_) | ((with_reducible apply is_en); refine en ?_) | (with_reducible apply c_region) | refine ws ?_ | refine x_block_other (by decide) ?_)
    refine c_condb rfl (fun _ => ?_) (fun h => by cases h)
    repeat (first | ((with_reducible apply is_ld); first | refine kld hM ?_ | refine kldw hM ?_ | refine kle hM ?_ | refine klew hM ?_ | refine kldh hM ?_ | refine kld hM ?_ (hv := by first | exact hs_get _ _ _ | exact hs_get1 _ _ _ _)) | ((with_reducible apply is_sto); first | (refine kst hM ?_; intro w hM) | (refine kstw hM ?_; intro w hM)) | ((with_reducible apply is_st); refine su ?_) | ((with_reducible apply is_gd); first | refine gt ?_ | refine gf ?_ | refine gu ?_) | ((with_reducible apply is_en); refine en ?_) | (with_reducible apply c_region) | refine ws ?_ | refine x_block_other (by decide) ?_)
    exact none_ rfl rfl rfl rfl
  | true =>
    cases c2 with
    | false =>
      rw [if_neg (by simp)]
      repeat (first | ((with_reducible apply is_ld); first | refine kld hM ?_ | refine kldw hM ?_ | refine kle hM ?_ | refine klew hM ?_ | refine kldh hM ?_ | refine kld hM ?_ (hv := by first | exact hs_get _ _ _ | exact hs_get1 _ _ _ _)) | ((with_reducible apply is_sto); first | (refine kst hM ?_; intro w hM) | (refine kstw hM ?_; intro w hM)) | ((with_reducible apply is_st); refine su ?_) | ((with_reducible apply is_gd); first | refine gt ?_ | refine gf ?_ | refine gu ?_) | ((with_reducible apply is_en); refine en ?_) | (with_reducible apply c_region) | refine ws ?_ | refine x_block_other (by decide) ?_)
      refine c_condb rfl (fun _ => ?_) (fun h => by cases h)
      repeat (first | ((with_reducible apply is_ld); first | refine kld hM ?_ | refine kldw hM ?_ | refine kle hM ?_ | refine klew hM ?_ | refine kldh hM ?_ | refine kld hM ?_ (hv := by first | exact hs_get _ _ _ | exact hs_get1 _ _ _ _)) | ((with_reducible apply is_sto); first | (refine kst hM ?_; intro w hM) | (refine kstw hM ?_; intro w hM)) | ((with_reducible apply is_st); refine su ?_) | ((with_reducible apply is_gd); first | refine gt ?_ | refine gf ?_ | refine gu ?_) | ((with_reducible apply is_en); refine en ?_) | (with_reducible apply c_region) | refine ws ?_ | refine x_block_other (by decide) ?_)
      exact none_ rfl rfl rfl rfl
    | true =>
      rw [if_pos ⟨rfl, rfl⟩]
      repeat (first | ((with_reducible apply is_ld); first | refine kld hM ?_ | refine kldw hM ?_ | refine kle hM ?_ | refine klew hM ?_ | refine kldh hM ?_ | refine kld hM ?_ (hv := by first | exact hs_get _ _ _ | exact hs_get1 _ _ _ _)) | ((with_reducible apply is_sto); first | (refine kst hM ?_; intro w hM) | (refine kstw hM ?_; intro w hM)) | ((with_reducible apply is_st); refine su ?_) | ((with_reducible apply is_gd); first | refine gt ?_ | refine gf ?_ | refine gu ?_) | ((with_reducible apply is_en); refine en ?_) | (with_reducible apply c_region) | refine ws ?_ | refine x_block_other (by decide) ?_)
      refine c_condb rfl (fun h => by cases h) (fun _ => ?_)
      repeat (first | ((with_reducible apply is_ld); first | refine kld hM ?_ | refine kldw hM ?_ | refine kle hM ?_ | refine klew hM ?_ | refine kldh hM ?_ | refine kld hM ?_ (hv := by first | exact hs_get _ _ _ | exact hs_get1 _ _ _ _)) | ((with_reducible apply is_sto); first | (refine kst hM ?_; intro w hM) | (refine kstw hM ?_; intro w hM)) | ((with_reducible apply is_st); refine su ?_) | ((with_reducible apply is_gd); first | refine gt ?_ | refine gf ?_ | refine gu ?_) | ((with_reducible apply is_en); refine en ?_) | (with_reducible apply c_region) | refine ws ?_ | refine x_block_other (by decide) ?_)
      refine ca ((fun va vb xs ys w (_ : True) => rfirst_any va vb xs ys w) u1 u2 xs ys w2 (hK) (hM.frdRd (xs := xs) (by (repeat constructor))) (hM.frdRd (xs := ys) (by (repeat constructor))) (fun x hx => Nat.le_trans (hm1 x hx) (by omega)) (fun x hx => Nat.le_trans (hm2 x hx) (by omega)) (by omega)) ?_
      rintro _ w3 ⟨a1, a2, rfl, hN3⟩
      have hM := hM.nil.join hN3 (by simp [As.plain])
      repeat (first | ((with_reducible apply is_ld); first | refine kld hM ?_ | refine kldw hM ?_ | refine kle hM ?_ | refine klew hM ?_ | refine kldh hM ?_ | refine kld hM ?_ (hv := by first | exact hs_get _ _ _ | exact hs_get1 _ _ _ _)) | ((with_reducible apply is_sto); first | (refine kst hM ?_; intro w hM) | (refine kstw hM ?_; intro w hM)) | ((with_reducible apply is_st); refine su ?_) | ((with_reducible apply is_gd); first | refine gt ?_ | refine gf ?_ | refine gu ?_) | ((with_reducible apply is_en); refine en ?_) | (with_reducible apply c_region) | refine ws ?_ | refine x_block_other (by decide) ?_)
      exact out3 rfl ⟨_, _, rfl, hM⟩
set_option maxHeartbeats 8000000 in
theorem same20_any (va vb : Value) (xss : List (List UInt8)) (w0 : World) (h1 : (Ty.sl tU8).Rd [] w0 va xss) (h2 : (Ty.sl tU8).Rd [] w0 vb xss) :
    Calls Tryd.prog 33 #[va, vb] w0 (Ret fun u w' => u = .bool true ∧ Ch [] w0 w') := by
  have hM := Mem.start w0
  obtain ⟨ps, hps, hP, hp⟩ := h1.raw
  obtain ⟨qs, hqs, hQ, hq⟩ := h2.raw
  have hpq : ps.length = qs.length := by
    have e1 := congrArg List.length hps
    have e2 := congrArg List.length hqs
    simp at e1 e2
    omega
  have hle := hP.le
  obtain ⟨A1, c1, rfl⟩ := hP.form
  obtain ⟨A2, c2, rfl⟩ := hQ.form
  simp only [List.length_map] at hle hP hQ ⊢
  rw [← hpq] at hQ ⊢
  refine enter [.slice A1 ps.length c1, .slice A2 ps.length c2, undef, undef, undef, undef, undef, undef, undef, undef, undef, undef, undef, undef, undef, undef, undef, undef, undef, undef, undef, undef, undef, undef, undef, undef, undef, undef] Tryd.func33 rfl rfl ?_
  repeat (first | ((with_reducible apply is_ld); first | refine kld hM ?_ | refine kldw hM ?_ | refine kle hM ?_ | refine klew hM ?_) | ((with_reducible apply is_sto); first | (refine kst hM ?_; intro w hM) | (refine kstw hM ?_; intro w hM)) | ((with_reducible apply is_st); refine su ?_) | ((with_reducible apply is_gd); first | refine gt ?_ | refine gf ?_ | refine gu ?_) | ((with_reducible apply is_en); refine en ?_) | (with_reducible apply c_region) | refine ws ?_ | refine x_block_other (by decide) ?_)
  refine c_cond rfl (fun h => absurd rfl h) (fun _ => ?_)
  repeat (first | ((with_reducible apply is_ld); first | refine kld hM ?_ | refine kldw hM ?_ | refine kle hM ?_ | refine klew hM ?_) | ((with_reducible apply is_sto); first | (refine kst hM ?_; intro w hM) | (refine kstw hM ?_; intro w hM)) | ((with_reducible apply is_st); refine su ?_) | ((with_reducible apply is_gd); first | refine gt ?_ | refine gf ?_ | refine gu ?_) | ((with_reducible apply is_en); refine en ?_) | (with_reducible apply c_region) | refine ws ?_ | refine x_block_other (by decide) ?_)
  
  refine c_loop (fun n l w => ∃ (j : Nat), (∃ jj : Nat → Value, l = [.slice A1 ps.length c1, .slice A2 ps.length c2, jj 2, jj 3, .bool false, jj 5, jj 6, jj 7, jj 8, jj 9, jj 10, jj 11, .int .i64 (ps.length : Int), .int .i64 (j : Int), jj 14, jj 15, jj 16, jj 17, jj 18, jj 19, jj 20, jj 21, jj 22, jj 23, jj 24, jj 25, jj 26, jj 27]) ∧ n + j = ps.length ∧ Mem [] w0 w []) ps.length ⟨0, exj rfl, rfl, hM⟩ ?_
  clear hM
  rintro n l w ⟨j, ⟨jj, rfl⟩, hnj, hM⟩
  repeat (first | ((with_reducible apply is_ld); first | refine kld hM ?_ | refine kldw hM ?_ | refine kle hM ?_ | refine klew hM ?_) | ((with_reducible apply is_sto); first | (refine kst hM ?_; intro w hM) | (refine kstw hM ?_; intro w hM)) | ((with_reducible apply is_st); refine su ?_) | ((with_reducible apply is_gd); first | refine gt ?_ | refine gf ?_ | refine gu ?_) | ((with_reducible apply is_en); refine en ?_) | (with_reducible apply c_region) | refine ws ?_ | refine x_block_other (by decide) ?_)
  refine c_cond rfl (fun hj => ?_) (fun hj => ?_)
  · repeat (first | ((with_reducible apply is_ld); first | refine kld hM ?_ | refine kldw hM ?_ | refine kle hM ?_ | refine klew hM ?_) | ((with_reducible apply is_sto); first | (refine kst hM ?_; intro w hM) | (refine kstw hM ?_; intro w hM)) | ((with_reducible apply is_st); refine su ?_) | ((with_reducible apply is_gd); first | refine gt ?_ | refine gf ?_ | refine gu ?_) | ((with_reducible apply is_en); refine en ?_) | (with_reducible apply c_region) | refine ws ?_ | refine x_block_other (by decide) ?_)
    refine kdr hM (by kernel_rfl) (by kernel_rfl) (fun w hM => ?_)
    repeat (first | ((with_reducible apply is_ldg); first | refine kldg hM ?_ | refine kldwg hM ?_) | ((with_reducible apply is_sg); refine sgu ?_) | ((with_reducible apply is_gg); first | refine gtg ?_ | refine gfg ?_ | refine gug ?_) | ((with_reducible apply is_eg); refine eg ?_))
    refine kixg hP (fun o1 o2 x hx hA => ?_) (h1 := by simp; omega)
    refine katg hM hA ?_
    rw [Int.toNat_natCast, List.getElem?_map] at hx
    obtain ⟨p, hpx, rfl⟩ := Option.map_eq_some_iff.1 hx
    refine wg_val (fun w1 hc1 => r_b2s (((hp p (List.mem_of_getElem? hpx)).ch hM.ch).ch hc1)) ?_
    repeat (first | ((with_reducible apply is_ldg); first | refine kldg hM ?_ | refine kldwg hM ?_) | ((with_reducible apply is_sg); refine sgu ?_) | ((with_reducible apply is_gg); first | refine gtg ?_ | refine gfg ?_ | refine gug ?_) | ((with_reducible apply is_eg); refine eg ?_))
    refine kixg hQ (fun o3 o4 y hy hA' => ?_) (h1 := by simp; omega)
    refine katg hM hA' ?_
    rw [Int.toNat_natCast, List.getElem?_map] at hy
    obtain ⟨q, hqx, rfl⟩ := Option.map_eq_some_iff.1 hy
    have hpq2 : p.2 = q.2 := by
      have e1 : (ps.map (·.2))[j]? = some p.2 := by rw [List.getElem?_map, hpx]; rfl
      have e2 : (qs.map (·.2))[j]? = some q.2 := by rw [List.getElem?_map, hqx]; rfl
      rw [hps, ← hqs, e2] at e1
      exact (Option.some.inj e1).symm
    refine wg_val (fun w1 hc1 => r_b2s (((hq q (List.mem_of_getElem? hqx)).ch hM.ch).ch hc1)) ?_
    rw [hpq2]
    refine wg_val (fun _ _ => r_neqst) ?_
    rw [decide_eq_true rfl]
    repeat (first | ((with_reducible apply is_ldg); first | refine kldg hM ?_ | refine kldwg hM ?_) | ((with_reducible apply is_sg); refine sgu ?_) | ((with_reducible apply is_gg); first | refine gtg ?_ | refine gfg ?_ | refine gug ?_) | ((with_reducible apply is_eg); refine eg ?_))
    (intro w hc; have hM := hM.call hc)
    refine c_condb rfl (fun h => by cases h) (fun _ => ?_)
    repeat (first | ((with_reducible apply is_ld); first | refine kld hM ?_ | refine kldw hM ?_ | refine kle hM ?_ | refine klew hM ?_) | ((with_reducible apply is_sto); first | (refine kst hM ?_; intro w hM) | (refine kstw hM ?_; intro w hM)) | ((with_reducible apply is_st); refine su ?_) | ((with_reducible apply is_gd); first | refine gt ?_ | refine gf ?_ | refine gu ?_) | ((with_reducible apply is_en); refine en ?_) | (with_reducible apply c_region) | refine ws ?_ | refine x_block_other (by decide) ?_)
    exact x_goes (n - 1) rfl (by omega) ⟨j + 1, exj rfl, by omega, hM⟩
  · repeat (first | ((with_reducible apply is_ld); first | refine kld hM ?_ | refine kldw hM ?_ | refine kle hM ?_ | refine klew hM ?_) | ((with_reducible apply is_sto); first | (refine kst hM ?_; intro w hM) | (refine kstw hM ?_; intro w hM)) | ((with_reducible apply is_st); refine su ?_) | ((with_reducible apply is_gd); first | refine gt ?_ | refine gf ?_ | refine gu ?_) | ((with_reducible apply is_en); refine en ?_) | (with_reducible apply c_region) | refine ws ?_ | refine x_block_other (by decide) ?_)
    exact out1 rfl ⟨rfl, hM.ch⟩
set_option maxHeartbeats 8000000 in
theorem plain_any (sp : Value) (lf : Bool) (k v : Hs) (st : List (Int × Hs)) (w0 : World) (hR : (Ty.enc eSt).Rd [] w0 sp st) (hl : st.length ≤ 1000) :
    Calls Tryd.prog 32 #[.agg (pC sp lf k v).toArray] w0 (Ret fun u w' => ∃ v', u = .agg (pC v' lf k v).toArray ∧ Mem [] w0 w' [.row eSt 71 v' st]) := by
  have hM := Mem.start w0
  obtain ⟨A, c, rfl⟩ := hR.form
  refine enter [.agg (pC (.slice A st.length c) lf k v).toArray, undef, undef, undef, undef, undef, undef, undef, undef, undef, undef, undef, undef, undef, undef, undef, undef, undef, undef, undef, undef, undef, undef, undef, undef, undef, undef, undef] Tryd.func32 rfl rfl ?_
  repeat (first | ((with_reducible apply is_ld); first | refine kld hM ?_ | refine kldw hM ?_ | refine kle hM ?_ | refine klew hM ?_) | ((with_reducible apply is_sto); first | (refine kst hM ?_; intro w hM) | (refine kstw hM ?_; intro w hM)) | ((with_reducible apply is_st); refine su ?_) | ((with_reducible apply is_gd); first | refine gt ?_ | refine gf ?_ | refine gu ?_) | ((with_reducible apply is_en); refine en ?_) | (with_reducible apply c_region) | refine ws ?_ | refine x_block_other (by decide) ?_)
  refine kbx hM (fun w b1 hM => ?_)
  refine kal hM (fun w b2 hM => ?_)
  have hM : Mem [] w0 w [.cell b2 (pC (.slice none 0 0) false zeroH zeroH) 52, .cell b1 (pC (.slice A st.length c) lf k v) 41] := hM
  repeat (first | ((with_reducible apply is_ld); first | refine kld hM ?_ | refine kldw hM ?_ | refine kle hM ?_ | refine klew hM ?_ | refine kldh hM ?_ | refine kld hM ?_ (hv := by first | exact hs_get _ _ _ | exact hs_get1 _ _ _ _)) | ((with_reducible apply is_sto); first | (refine kst hM ?_; intro w hM) | (refine kstw hM ?_; intro w hM)) | ((with_reducible apply is_st); refine su ?_) | ((with_reducible apply is_gd); first | refine gt ?_ | refine gf ?_ | refine gu ?_) | ((with_reducible apply is_en); refine en ?_) | (with_reducible apply c_region) | refine ws ?_ | refine x_block_other (by decide) ?_)
  (try ((with_reducible apply is_gd); first | refine gt ?_ | refine gf ?_ | refine gu ?_)); refine wl_val (r_bldS (vs := [(1, .bool lf), (2, hv k.1), (3, hv v.1)]) (pC (.slice none 0 0) lf k v) (z := .slice none 0 0 :: .bool false :: List.replicate 64 (.int .u8 0)) (place := (#[(0, 1), (1, 1), (2, 32), (34, 32)][·]?)) (by intro ps; kernel_rfl) rfl (.cons rfl rfl (by simp) (.cons rfl (by simp [hv, Value.cells]) (by simp [spl, Value.cells]) (.cons rfl (by simp [hv, Value.cells]) (by simp [spl, hv, Value.cells]) (.nil (by simp [spl, hv, Value.cells])))))) ?_
  refine kal hM (fun w b3 hM => ?_)
  refine kstw (vs := pC (.slice none 0 0) lf k v) hM (fun w hM => ?_) (h1 := by
    intro u hu
    simp only [List.mem_cons, List.mem_append] at hu
    rcases hu with rfl | rfl | hu | hu
    · rfl
    · rfl
    · exact one_u8 u hu
    · exact one_u8 u hu)
  have hM := hM.nilRow eSt 71
  repeat (first | ((with_reducible apply is_ld); first | refine kld hM ?_ | refine kldw hM ?_ | refine kle hM ?_ | refine klew hM ?_ | refine kldh hM ?_ | refine kld hM ?_ (hv := by first | exact hs_get _ _ _ | exact hs_get1 _ _ _ _)) | ((with_reducible apply is_sto); first | (refine kst hM ?_; intro w hM) | (refine kstw hM ?_; intro w hM)) | ((with_reducible apply is_st); refine su ?_) | ((with_reducible apply is_gd); first | refine gt ?_ | refine gf ?_ | refine gu ?_) | ((with_reducible apply is_en); refine en ?_) | (with_reducible apply c_region) | refine ws ?_ | refine x_block_other (by decide) ?_)
  
  refine c_loop (fun n l w => ∃ (j : Nat) (v' : Value), (∃ jj : Nat → Value, l = [jj 0, .pointer (some ⟨b1, 0, none⟩), .pointer (some ⟨b2, 0, none⟩), .pointer (some ⟨b3, 0, none⟩), jj 4, jj 5, jj 6, jj 7, jj 8, jj 9, jj 10, jj 11, jj 12, jj 13, .slice A st.length c, .int .i64 (st.length : Int), .int .i64 (j : Int), jj 17, jj 18, jj 19, jj 20, jj 21, jj 22, jj 23, jj 24, jj 25, jj 26, jj 27]) ∧ n + j = st.length ∧ Mem [] w0 w [.row eSt 71 v' (st.take j), .cell b3 (pC v' lf k v) 52, .cell b2 (pC (.slice none 0 0) false zeroH zeroH) 52]) st.length ⟨0, _, exj rfl, rfl, hM.sub (by (repeat constructor))⟩ ?_
  clear hM
  rintro n l w ⟨j, v', ⟨jj, rfl⟩, hnj, hM⟩
  repeat (first | ((with_reducible apply is_ld); first | refine kld hM ?_ | refine kldw hM ?_ | refine kle hM ?_ | refine klew hM ?_ | refine kldh hM ?_ | refine kld hM ?_ (hv := by first | exact hs_get _ _ _ | exact hs_get1 _ _ _ _)) | ((with_reducible apply is_sto); first | (refine kst hM ?_; intro w hM) | (refine kstw hM ?_; intro w hM)) | ((with_reducible apply is_st); refine su ?_) | ((with_reducible apply is_gd); first | refine gt ?_ | refine gf ?_ | refine gu ?_) | ((with_reducible apply is_en); refine en ?_) | (with_reducible apply c_region) | refine ws ?_ | refine x_block_other (by decide) ?_)
  refine c_cond rfl (fun hj => ?_) (fun hj => ?_)
  · repeat (first | ((with_reducible apply is_ld); first | refine kld hM ?_ | refine kldw hM ?_ | refine kle hM ?_ | refine klew hM ?_ | refine kldh hM ?_ | refine kld hM ?_ (hv := by first | exact hs_get _ _ _ | exact hs_get1 _ _ _ _)) | ((with_reducible apply is_sto); first | (refine kst hM ?_; intro w hM) | (refine kstw hM ?_; intro w hM)) | ((with_reducible apply is_st); refine su ?_) | ((with_reducible apply is_gd); first | refine gt ?_ | refine gf ?_ | refine gu ?_) | ((with_reducible apply is_en); refine en ?_) | (with_reducible apply c_region) | refine ws ?_ | refine x_block_other (by decide) ?_)
    refine kix hR (fun b o x hx hA => ?_)
    rw [Int.toNat_natCast] at hx
    refine katr hM hA ?_
    refine kal hM (fun w b5 hM => ?_)
    refine kstw (vs := eSt.f x) hM (fun w hM => ?_) (h1 := eSt.h1 x)
    obtain ⟨A8, c8, hv8, _⟩ := (hM.row0 (v := v') (by (repeat constructor))).form
    subst hv8
    repeat (first | ((with_reducible apply is_ld); first | refine kld hM ?_ | refine kldw hM ?_ | refine kle hM ?_ | refine klew hM ?_ | refine kldh hM ?_ | refine kld hM ?_ (hv := by first | exact hs_get _ _ _ | exact hs_get1 _ _ _ _)) | ((with_reducible apply is_sto); first | (refine kst hM ?_; intro w hM) | (refine kstw hM ?_; intro w hM)) | ((with_reducible apply is_st); refine su ?_) | ((with_reducible apply is_gd); first | refine gt ?_ | refine gf ?_ | refine gu ?_) | ((with_reducible apply is_en); refine en ?_) | (with_reducible apply c_region) | refine ws ?_ | refine x_block_other (by decide) ?_)
    refine kpu x hM (fun _ v'' w hM => ?_) (hb := by simp; omega) (h63 := by simp; omega)
    obtain ⟨A9, c9, hv9, _⟩ := (hM.row0 (v := v'') (by (repeat constructor))).form
    subst hv9
    repeat (first | ((with_reducible apply is_ld); first | refine kld hM ?_ | refine kldw hM ?_ | refine kle hM ?_ | refine klew hM ?_ | refine kldh hM ?_ | refine kld hM ?_ (hv := by first | exact hs_get _ _ _ | exact hs_get1 _ _ _ _)) | ((with_reducible apply is_sto); first | (refine kst hM ?_; intro w hM) | (refine kstw hM ?_; intro w hM)) | ((with_reducible apply is_st); refine su ?_) | ((with_reducible apply is_gd); first | refine gt ?_ | refine gf ?_ | refine gu ?_) | ((with_reducible apply is_en); refine en ?_) | (with_reducible apply c_region) | refine ws ?_ | refine x_block_other (by decide) ?_)
    refine x_goes (n - 1) rfl (by omega) ⟨j + 1, .slice A9 (st.take j ++ [x]).length c9, exj rfl, by omega, ?_⟩
    rw [show st.take (j + 1) = st.take j ++ [x] by rw [List.take_add_one, hx]; rfl]
    exact hM.sub (by (repeat constructor))
  · rw [List.take_of_length_le (by omega)] at hM
    obtain ⟨A8, c8, hv8, _⟩ := (hM.row0 (v := v') (by (repeat constructor))).form
    subst hv8
    repeat (first | ((with_reducible apply is_ld); first | refine kld hM ?_ | refine kldw hM ?_ | refine kle hM ?_ | refine klew hM ?_ | refine kldh hM ?_ | refine kld hM ?_ (hv := by first | exact hs_get _ _ _ | exact hs_get1 _ _ _ _)) | ((with_reducible apply is_sto); first | (refine kst hM ?_; intro w hM) | (refine kstw hM ?_; intro w hM)) | ((with_reducible apply is_st); refine su ?_) | ((with_reducible apply is_gd); first | refine gt ?_ | refine gf ?_ | refine gu ?_) | ((with_reducible apply is_en); refine en ?_) | (with_reducible apply c_region) | refine ws ?_ | refine x_block_other (by decide) ?_)
    refine kstw (vs := pC (.slice A8 st.length c8) lf k v) hM (fun w hM => ?_) (h1 := by
      intro u hu
      simp only [List.mem_cons, List.mem_append] at hu
      rcases hu with rfl | rfl | hu | hu
      · rfl
      · rfl
      · exact one_u8 u hu
      · exact one_u8 u hu)
    repeat (first | ((with_reducible apply is_ld); first | refine kld hM ?_ | refine kldw hM ?_ | refine kle hM ?_ | refine klew hM ?_ | refine kldh hM ?_ | refine kld hM ?_ (hv := by first | exact hs_get _ _ _ | exact hs_get1 _ _ _ _)) | ((with_reducible apply is_sto); first | (refine kst hM ?_; intro w hM) | (refine kstw hM ?_; intro w hM)) | ((with_reducible apply is_st); refine su ?_) | ((with_reducible apply is_gd); first | refine gt ?_ | refine gf ?_ | refine gu ?_) | ((with_reducible apply is_en); refine en ?_) | (with_reducible apply c_region) | refine ws ?_ | refine x_block_other (by decide) ?_)
    exact koc hM rfl ⟨_, rfl, hM.sub (by (repeat constructor))⟩
end Go.Proofs.YtnkkeehoejmcnaaDoor

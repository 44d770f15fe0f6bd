/- Walks: the law of what is shown of leaves side by side: it is accepted under the root of all. -/
import Derived.Test.YtfldckjkipmibaaDoorSpanW
import Derived.Test.YtfldckjkipmibaaDoorYapp
set_option linter.unusedVariables false
set_option linter.unusedSimpArgs false
namespace Go.Proofs.YtfldckjkipmibaaDoor
open Go Go.RowKit Go.Proofs.E
attribute [local irreducible] Go.wpList Go.Code.wp Go.Proofs.E.exec Go.Proofs.E.wpLexG
theorem prove_nil {lv : List Hs} {k m : Nat} (hkm : k < m) (hm : m ≤ lv.length) (hl : lv.length ≤ 1000000) : (proveZ lv (k : Int) (m : Int)).length = 0 ↔ m - k = lv.length := by
  have hmay : mayZ (lv.length : Int) (k : Int) (m : Int) = true := mayZ_t (by omega) (by omega) (by omega) (by omega)
  have hp : (proveZ lv (k : Int) (m : Int)).length = (sidesN k m 0 lv.length).length := by
    unfold proveZ sidesZ
    rw [hmay, List.length_map]
    rfl
  rw [hp]
  constructor
  · intro h0
    have hs : sidesN k m 0 lv.length = [] := List.eq_nil_of_length_eq_zero h0
    have := parts_ok hkm lv.length 0 lv.length rfl (by omega) (by omega)
    rw [hs] at this
    have e : posN k m 0 = posN k m lv.length := this
    unfold posN at e
    rw [if_pos (by omega), if_neg (by omega)] at e
    split at e <;> omega
  · intro h
    rw [sides_in (a := k) (b := m) (lo := 0) (hi := lv.length) (by omega) (by omega) (.inr (by omega))]
    rfl
set_option maxHeartbeats 16000000 in
theorem sholds_any (v : Value) (lv : List Hs) (I J : Nat) (w0 : World) (hK : Laid w0) (hI : I < 2 ^ 64) (hJ : J < 2 ^ 64) (hR : (Ty.enc eH).Rd [] w0 v lv) :
    Calls Tryd.prog 6 #[v, .agg #[.int .u64 (I : Int), .int .u64 (J : Int)]] w0 (Ret fun u w' => u = .bool true ∧ Ch [] w0 w') := by
  have hM := Mem.start w0
  have hl1 := hR.le
  obtain ⟨A1, c1, rfl⟩ := hR.form
  refine enter [.slice A1 lv.length c1, .agg #[.int .u64 (I : Int), .int .u64 (J : Int)], undef, undef, undef, undef, undef, undef, undef, undef, undef, undef, undef, undef, undef, undef, undef, undef, undef, undef, undef, undef, undef, undef, undef, undef, undef, undef, undef, undef, undef, undef, undef, undef, undef, undef, undef, undef, undef, undef, undef, undef, undef, undef, undef, undef, undef, undef, undef, undef, undef, undef, undef, undef, undef, undef, undef, undef, undef, undef, undef, undef, undef, undef, undef, undef, undef, undef, undef, undef, undef, undef, undef, undef, undef, undef, undef, undef, undef, undef, undef, undef, undef, undef, undef, undef, undef, undef, undef, undef, undef, undef, undef] Tryd.func6 rfl rfl ?_
  repeat (first | ((with_reducible apply is_ld); first | refine kld hM ?_ | refine kldw hM ?_ | refine kle hM ?_ | refine klew hM ?_) | ((with_reducible apply is_sto); first | (refine kst hM ?_; intro w hM) | (refine kstw hM ?_; intro w hM)) | ((with_reducible apply is_st); refine su ?_) | ((with_reducible apply is_gd); first | refine gt ?_ | refine gf ?_ | refine gu ?_) | ((with_reducible apply is_en); refine en ?_) | (with_reducible first | apply x_then | apply wp_seq | apply c_region | apply wp_block | apply wp_skip | apply wp_exit | apply wp_ret | apply wp_label | apply wp_scope_straight | apply x_ng | apply x_ng_ret | apply x_ng_exit | apply x_then_ret | apply x_then_exit | apply x_block | apply x_block_ret | apply x_block_exit | refine x_block_other (by decide) ?_))
  refine kbx hM (fun w b3 hM => ?_)
  have hM : Mem [] w0 w [.cell b3 [.int .u64 (I : Int), .int .u64 (J : Int)] 37] := hM
  by_cases g : lv.length ≠ 0 ∧ lv.length ≤ 60
  · obtain ⟨g1, g2⟩ := g
    have hkl : I % lv.length < lv.length := Nat.mod_lt _ (by omega)
    repeat ((fail_if_success (with_reducible apply Go.Proofs.E.is_dst (d := 24))); first | ((with_reducible apply is_ld); first | refine kld hM ?_ | refine kldw hM ?_ | refine kle hM ?_ | refine klew hM ?_) | ((with_reducible apply is_sto); first | (refine kst hM ?_; intro w hM) | (refine kstw hM ?_; intro w hM)) | ((with_reducible apply is_co); first | (refine c_condb rfl (fun _ => ?_) ?hf; (case hf => intro h; cases h; done)) | (refine c_condb rfl ?ht (fun _ => ?_); (case ht => intro h; cases h; done)) | (refine c_cond rfl (fun _ => ?_) ?hf; (case hf => intro h; exfalso; apply h; omega)) | (refine c_cond rfl ?ht (fun _ => ?_); (case ht => intro h; exfalso; omega))) | ((with_reducible apply is_st); refine su ?_) | ((with_reducible apply is_gd); first | refine gt ?_ | refine gf ?_ | refine gu ?_) | ((with_reducible apply is_en); refine en ?_) | (with_reducible first | apply x_then | apply wp_seq | apply c_region | apply wp_block | apply wp_skip | apply wp_exit | apply wp_ret | apply wp_label | apply wp_scope_straight | apply x_ng | apply x_ng_ret | apply x_ng_exit | apply x_then_ret | apply x_then_exit | apply x_block | apply x_block_ret | apply x_block_exit | refine x_block_other (by decide) ?_))
    (try ((with_reducible apply is_gd); first | refine gt ?_ | refine gf ?_ | refine gu ?_)); refine wl_val (r_remN I lv.length rfl rfl (by omega) rfl rfl) ?_
    generalize I % lv.length = k at hkl ⊢
    have hql : J % (lv.length - k) < lv.length - k := Nat.mod_lt _ (by omega)
    repeat ((fail_if_success (with_reducible apply Go.Proofs.E.is_dst (d := 35))); first | ((with_reducible apply is_ld); first | refine kld hM ?_ | refine kldw hM ?_ | refine kle hM ?_ | refine klew hM ?_) | ((with_reducible apply is_sto); first | (refine kst hM ?_; intro w hM) | (refine kstw hM ?_; intro w hM)) | ((with_reducible apply is_st); refine su ?_) | ((with_reducible apply is_gd); first | refine gt ?_ | refine gf ?_ | refine gu ?_) | ((with_reducible apply is_en); refine en ?_) | (with_reducible first | apply x_then | apply wp_seq | apply c_region | apply wp_block | apply wp_skip | apply wp_exit | apply wp_ret | apply wp_label | apply wp_scope_straight | apply x_ng | apply x_ng_ret | apply x_ng_exit | apply x_then_ret | apply x_then_exit | apply x_block | apply x_block_ret | apply x_block_exit | refine x_block_other (by decide) ?_))
    (try ((with_reducible apply is_gd); first | refine gt ?_ | refine gf ?_ | refine gu ?_)); refine wl_val (r_remN J (lv.length - k) rfl (by omega) (by omega) rfl rfl) ?_
    generalize J % (lv.length - k) = q at hql ⊢
    repeat (first | ((with_reducible apply is_ld); first | refine kld hM ?_ | refine kldw hM ?_ | refine kle hM ?_ | refine klew hM ?_) | ((with_reducible apply is_sto); first | (refine kst hM ?_; intro w hM) | (refine kstw hM ?_; intro w hM)) | ((with_reducible apply is_st); refine su ?_) | ((with_reducible apply is_gd); first | refine gt ?_ | refine gf ?_ | refine gu ?_) | ((with_reducible apply is_en); refine en ?_) | (with_reducible first | apply x_then | apply wp_seq | apply c_region | apply wp_block | apply wp_skip | apply wp_exit | apply wp_ret | apply wp_label | apply wp_scope_straight | apply x_ng | apply x_ng_ret | apply x_ng_exit | apply x_then_ret | apply x_then_exit | apply x_block | apply x_block_ret | apply x_block_exit | refine x_block_other (by decide) ?_))
    obtain ⟨m, hm⟩ : ∃ m, k + 1 + q = m := ⟨_, rfl⟩
    rw [show (k : Int) + 1 + (q : Int) = (m : Int) by omega]
    refine ca (prove_any _ lv (k : Int) (m : Int) w (hK.ch hM.ch (by simp)) (hR.ch hM.ch) (by omega)) ?_
    rintro _ w ⟨p, rfl, hc, hO⟩
    have hM := hM.got hc hO
    have hp : (proveZ lv (k : Int) (m : Int)).length ≤ 60 := by
      unfold proveZ sidesZ
      rw [List.length_map, mayZ_t (by omega) (by omega) (by omega) (by omega), if_pos rfl]
      have := sides_len (a := (k : Int).toNat) (b := (m : Int).toNat) (lo := 0) (hi := (lv.length : Int).toNat) (by omega) (by omega)
      omega
    have hroot := root_prove (lv := lv) (k := k) (m := m) (by omega) (by omega) (by omega)
    have hmore := root_more (lv := lv) (k := k) (m := m) (by omega) (by omega) (by omega)
    have hnil := prove_nil (lv := lv) (k := k) (m := m) (by omega) (by omega) (by omega)
    have hmay : mayZ (lv.length : Int) (k : Int) (m : Int) = true := mayZ_t (by omega) (by omega) (by omega) (by omega)
    rw [hmay]
    generalize proveZ lv (k : Int) (m : Int) = pz at hM hp hroot hmore hnil
    obtain ⟨Ap, cp, hpf⟩ := (hM.row (v := p) (by (repeat (first | exact Go.Proofs.E.Pick.here | apply Go.Proofs.E.Pick.there)))).form
    obtain rfl := hpf.1
    have hpl : ((lv.take m).drop k).length ≤ 1000000 := by rw [List.length_drop, List.length_take]; omega
    repeat (first | ((with_reducible apply is_ld); first | refine kld hM ?_ | refine kldw hM ?_ | refine kle hM ?_ | refine klew hM ?_) | ((with_reducible apply is_sto); first | (refine kst hM ?_; intro w hM) | (refine kstw hM ?_; intro w hM)) | ((with_reducible apply is_st); refine su ?_) | ((with_reducible apply is_gd); first | refine gt ?_ | refine gf ?_ | refine gu ?_) | ((with_reducible apply is_en); refine en ?_) | (with_reducible first | apply x_then | apply wp_seq | apply c_region | apply wp_block | apply wp_skip | apply wp_exit | apply wp_ret | apply wp_label | apply wp_scope_straight | apply x_ng | apply x_ng_ret | apply x_ng_exit | apply x_then_ret | apply x_then_exit | apply x_block | apply x_block_ret | apply x_block_exit | refine x_block_other (by decide) ?_))
    refine kca hM (rroot_any lv.length _ lv w rfl (hR.ch hM.ch) (by omega)) (fun w hM => ?_)
    have hs1 : scheckZ (rootH lv) (lv.length : Int) (k : Int) ((lv.take m).drop k) pz = true := scheck_root hroot
    generalize rootH lv = R at hroot hs1 ⊢
    have hs2 : scheckZ R (lv.length : Int) (k : Int) ((lv.take m).drop k) (pz ++ [R]) = false := by unfold scheckZ; rw [hmore]; rfl
    refine kal hM (fun w b9 hM => ?_)
    repeat (first | ((with_reducible apply is_ld); first | refine kld hM ?_ | refine kldw hM ?_ | refine kle hM ?_ | refine klew hM ?_) | ((with_reducible apply is_sto); first | (refine kst hM ?_; intro w hM) | (refine kstw hM ?_; intro w hM)) | ((with_reducible apply is_st); refine su ?_) | ((with_reducible apply is_gd); first | refine gt ?_ | refine gf ?_ | refine gu ?_) | ((with_reducible apply is_en); refine en ?_) | (with_reducible first | apply x_then | apply wp_seq | apply c_region | apply wp_block | apply wp_skip | apply wp_exit | apply wp_ret | apply wp_label | apply wp_scope_straight | apply x_ng | apply x_ng_ret | apply x_ng_exit | apply x_then_ret | apply x_then_exit | apply x_block | apply x_block_ret | apply x_block_exit | refine x_block_other (by decide) ?_))
    have hlt9 := (hM.blk (b := b9) (by (repeat (first | exact Go.Proofs.E.Pick.here | apply Go.Proofs.E.Pick.there)))).lt'
    have hT : ((R.1.map u8v).drop 0).take 32 = R.1.map u8v := by simp [List.take_of_length_le, R.2]
    refine c_ordY ([], []) [] (by kernel_rfl) (by kernel_rfl) (by kernel_rfl) (fun w hc hs => ?_)
    have z0 := hc.size
    have hM := hM.call hc
    (first | refine yn 0 rfl ?_ | refine ynt 0 rfl ?_ | refine ynff 0 rfl ?_); (first | refine yn 1 rfl ?_ | refine ynt 1 rfl ?_ | refine ynff 1 rfl ?_)
    refine ynlrt 2 rfl (n := 32) (hM.blk (b := b9) (by (repeat (first | exact Go.Proofs.E.Pick.here | apply Go.Proofs.E.Pick.there)))) hlt9 (by simp) hT (by simp [R.2]) ?_
    (first | refine yn 3 rfl ?_ | refine ynt 3 rfl ?_ | refine ynff 3 rfl ?_); (first | refine yn 4 rfl ?_ | refine ynt 4 rfl ?_ | refine ynff 4 rfl ?_); (first | refine yn 5 rfl ?_ | refine ynt 5 rfl ?_ | refine ynff 5 rfl ?_); (first | refine yn 6 rfl ?_ | refine ynt 6 rfl ?_ | refine ynff 6 rfl ?_); (first | refine yn 7 rfl ?_ | refine ynt 7 rfl ?_ | refine ynff 7 rfl ?_); (first | refine yn 8 rfl ?_ | refine ynt 8 rfl ?_ | refine ynff 8 rfl ?_)
    refine yncutt 9 rfl hR (fun v1 hV1 => ?_)
    rw [Int.toNat_natCast, Int.toNat_natCast] at hV1
    (first | refine yn 10 rfl ?_ | refine ynt 10 rfl ?_ | refine ynff 10 rfl ?_)
    refine ynct (vs := [hv R.1, .int .i64 (lv.length : Int), .int .i64 (k : Int), v1, .slice Ap pz.length cp]) 11 rfl (fun w1 hG => scheck_any R _ _ v1 (.slice Ap pz.length cp) _ pz w1 (hK.ch (hM.call (hG.ch' hs)).ch (by simp)) (hV1.ch (hM.call (hG.ch' hs)).ch) ((hM.call (hG.ch' hs)).rowRd (v := .slice Ap pz.length cp) (by (repeat (first | exact Go.Proofs.E.Pick.here | apply Go.Proofs.E.Pick.there))) (by omega)) hpl) ?_
    rw [hs1]
    (first | refine yn 12 rfl ?_ | refine ynt 12 rfl ?_ | refine ynff 12 rfl ?_); (first | refine yn 13 rfl ?_ | refine ynt 13 rfl ?_ | refine ynff 13 rfl ?_)
    refine ynlrt 14 rfl (n := 32) (hM.blk (b := b9) (by (repeat (first | exact Go.Proofs.E.Pick.here | apply Go.Proofs.E.Pick.there)))) hlt9 (by simp) hT (by simp [R.2]) ?_
    (first | refine yn 15 rfl ?_ | refine ynt 15 rfl ?_ | refine ynff 15 rfl ?_); (first | refine yn 16 rfl ?_ | refine ynt 16 rfl ?_ | refine ynff 16 rfl ?_); (first | refine yn 17 rfl ?_ | refine ynt 17 rfl ?_ | refine ynff 17 rfl ?_); (first | refine yn 18 rfl ?_ | refine ynt 18 rfl ?_ | refine ynff 18 rfl ?_); (first | refine yn 19 rfl ?_ | refine ynt 19 rfl ?_ | refine ynff 19 rfl ?_); (first | refine yn 20 rfl ?_ | refine ynt 20 rfl ?_ | refine ynff 20 rfl ?_)
    refine yncutt 21 rfl hR (fun v2 hV2 => ?_)
    rw [Int.toNat_natCast, Int.toNat_natCast] at hV2
    (first | refine yn 23 rfl ?_ | refine ynt 23 rfl ?_ | refine ynff 23 rfl ?_)
    refine ynlrt 25 rfl (n := 32) (hM.blk (b := b9) (by (repeat (first | exact Go.Proofs.E.Pick.here | apply Go.Proofs.E.Pick.there)))) hlt9 (by simp) hT (by simp [R.2]) ?_
    refine wy_nf ?_
    refine yappg (en := eH) (n := 32) (ys := pz) (v3 := hv R.1) 22 24 26 (by kernel_rfl) rfl rfl rfl rfl rfl (Nat.le_of_ble_eq_true rfl) (by decide) (by decide) (Nat.le_of_ble_eq_true rfl) (by decide) (by decide) rfl rfl rfl (hM.rowRd (v := .slice Ap pz.length cp) (by (repeat (first | exact Go.Proofs.E.Pick.here | apply Go.Proofs.E.Pick.there))) (by omega)) rfl (by simp [hv, Value.cells, R.2]) (by decide) (by omega) (by omega) (by decide) (by kernel_rfl) (by kernel_rfl) (by kernel_rfl) (by kernel_rfl) (fun w' u1 u2 bs hc' hO' hBs hbs => ?_)
    have z1 := hc'.size
    have hM := hM.got hc' hO'
    have hcl : (hv R.1).cells.toList = R.1.map u8v := by simp [hv, Value.cells]
    rw [hcl] at hBs
    refine yn1 27 (by kernel_rfl) rfl (fun w3 hc3 => gt ?_)
    have z3 := hc3.size
    have hM := hM.call hc3
    refine wl_append (en := eH) (n := 32) (base := 0) (v := u2) (xs := pz) (ys := [R]) rfl rfl (by decide) rfl (hM.row0 (by (repeat (first | exact Go.Proofs.E.Pick.here | apply Go.Proofs.E.Pick.there)))) (Nat.zero_le _) rfl ((hBs.ch hc3 (by simp)).row (n := 32) (o := 0) (ds := [R].flatMap eH.f) (by simp [List.take_of_length_le, R.2])) (by simp; omega) (by simp; omega) (fun v4 w4 hO4 hc4 hat => ?_)
    have z4 := hc4.size
    have hM := (hM.pick (a := .row eH 29 u2 pz) (by (repeat (first | exact Go.Proofs.E.Pick.here | apply Go.Proofs.E.Pick.there)))).put (a' := .row eH 29 v4 (pz ++ [R])) hc4 (fun k hk => show u2.ownBlock = some k by simpa using hk) hO4 (fun k hk => by
      rcases hat with e | e
      · exact .inl (e.symm.trans hk)
      · have : w3.heap.size = k := Option.some.inj (e.symm.trans hk)
        exact .inr (this ▸ Nat.le_refl _))
    refine x_wy (.inl (hc4.bwl (by omega) (fun x hx => by
      have := (hO'.lt (k := x) (by simpa using hx)).1
      omega))) rfl (wy_nf ?_)
    refine yn1 28 (by kernel_rfl) rfl (fun w5 hc5 => gt ?_)
    have z5 := hc5.size
    have hM := hM.call hc5
    refine ca (scheck_any R _ _ v2 v4 _ (pz ++ [R]) w5 (hK.ch hM.ch (by simp)) (hV2.ch hM.ch) (hM.rowRd (v := v4) (by (repeat (first | exact Go.Proofs.E.Pick.here | apply Go.Proofs.E.Pick.there))) (by simp; omega)) hpl) ?_
    rw [hs2]
    rintro _ w6 ⟨rfl, hc6⟩
    have z6 := hc6.size
    have hM := hM.call hc6
    refine x_wy (.inl (hc6.gy (by omega))) rfl (wy_nf ?_)
    (first | refine yn 29 rfl ?_ | refine ynt 29 rfl ?_ | refine ynff 29 rfl ?_); (first | refine yn 30 rfl ?_ | refine ynt 30 rfl ?_ | refine ynff 30 rfl ?_); (first | refine yn 31 rfl ?_ | refine ynt 31 rfl ?_ | refine ynff 31 rfl ?_)
    (first | refine yn 32 rfl ?_ | refine ynt 32 rfl ?_ | refine ynff 32 rfl ?_); (first | refine yn 33 rfl ?_ | refine ynt 33 rfl ?_ | refine ynff 33 rfl ?_); (first | refine yn 34 rfl ?_ | refine ynt 34 rfl ?_ | refine ynff 34 rfl ?_); (first | refine yn 35 rfl ?_ | refine ynt 35 rfl ?_ | refine ynff 35 rfl ?_); (first | refine yn 36 rfl ?_ | refine ynt 36 rfl ?_ | refine ynff 36 rfl ?_); (first | refine yn 37 rfl ?_ | refine ynt 37 rfl ?_ | refine ynff 37 rfl ?_); (first | refine yn 38 rfl ?_ | refine ynt 38 rfl ?_ | refine ynff 38 rfl ?_); (first | refine yn 39 rfl ?_ | refine ynt 39 rfl ?_ | refine ynff 39 rfl ?_); (first | refine yn 40 rfl ?_ | refine ynt 40 rfl ?_ | refine ynff 40 rfl ?_)
    refine ynpt 41 rfl (by kernel_rfl) (by kernel_rfl) rfl rfl (Nat.le_of_ble_eq_true rfl) rfl (fun _ => r_eqbb rfl rfl) rfl ?_
    rw [show (decide ((pz.length : Int) = 0) == decide ((m : Int) - (k : Int) = (lv.length : Int))) = true by
      by_cases h0 : pz.length = 0
      · have := hnil.1 h0
        rw [decide_eq_true (by omega : (pz.length : Int) = 0), decide_eq_true (by omega : (m : Int) - (k : Int) = (lv.length : Int))]
        rfl
      · have := fun h => h0 (hnil.2 h)
        rw [decide_eq_false (by omega : ¬ (pz.length : Int) = 0), decide_eq_false (by omega : ¬ (m : Int) - (k : Int) = (lv.length : Int))]
        rfl]
    (first | refine yn 42 rfl ?_ | refine ynt 42 rfl ?_ | refine ynff 42 rfl ?_); (first | refine yn 43 rfl ?_ | refine ynt 43 rfl ?_ | refine ynff 43 rfl ?_)
    refine ynct (vs := []) 44 rfl (fun w1 hG => lives28_any w1) ?_
    (first | refine yn 45 rfl ?_ | refine ynt 45 rfl ?_ | refine ynff 45 rfl ?_); (first | refine yn 46 rfl ?_ | refine ynt 46 rfl ?_ | refine ynff 46 rfl ?_)
    refine wy_done (by kernel_rfl) (fun w hc => ?_)
    have hM := hM.call hc
    repeat (first | ((with_reducible apply is_ld); first | refine kld hM ?_ | refine kldw hM ?_ | refine kle hM ?_ | refine klew hM ?_) | ((with_reducible apply is_sto); first | (refine kst hM ?_; intro w hM) | (refine kstw hM ?_; intro w hM)) | ((with_reducible apply is_st); refine su ?_) | ((with_reducible apply is_gd); first | refine gt ?_ | refine gf ?_ | refine gu ?_) | ((with_reducible apply is_en); refine en ?_) | (with_reducible first | apply x_then | apply wp_seq | apply c_region | apply wp_block | apply wp_skip | apply wp_exit | apply wp_ret | apply wp_label | apply wp_scope_straight | apply x_ng | apply x_ng_ret | apply x_ng_exit | apply x_then_ret | apply x_then_exit | apply x_block | apply x_block_ret | apply x_block_exit | refine x_block_other (by decide) ?_))
    exact out1 rfl ⟨rfl, hM.ch⟩
  · have g' : lv.length = 0 ∨ (lv.length ≠ 0 ∧ 60 < lv.length) := by omega
    rcases g' with g' | ⟨g1, g'⟩
    all_goals
      repeat (first | ((with_reducible apply is_ld); first | refine kld hM ?_ | refine kldw hM ?_ | refine kle hM ?_ | refine klew hM ?_) | ((with_reducible apply is_sto); first | (refine kst hM ?_; intro w hM) | (refine kstw hM ?_; intro w hM)) | ((with_reducible apply is_co); first | (refine c_condb rfl (fun _ => ?_) ?hf; (case hf => intro h; cases h; done)) | (refine c_condb rfl ?ht (fun _ => ?_); (case ht => intro h; cases h; done)) | (refine c_cond rfl (fun _ => ?_) ?hf; (case hf => intro h; exfalso; apply h; omega)) | (refine c_cond rfl ?ht (fun _ => ?_); (case ht => intro h; exfalso; omega))) | ((with_reducible apply is_st); refine su ?_) | ((with_reducible apply is_gd); first | refine gt ?_ | refine gf ?_ | refine gu ?_) | ((with_reducible apply is_en); refine en ?_) | (with_reducible first | apply x_then | apply wp_seq | apply c_region | apply wp_block | apply wp_skip | apply wp_exit | apply wp_ret | apply wp_label | apply wp_scope_straight | apply x_ng | apply x_ng_ret | apply x_ng_exit | apply x_then_ret | apply x_then_exit | apply x_block | apply x_block_ret | apply x_block_exit | refine x_block_other (by decide) ?_))
      refine kca hM (lives28_any w) (fun w hM => ?_)
      repeat (first | ((with_reducible apply is_ld); first | refine kld hM ?_ | refine kldw hM ?_ | refine kle hM ?_ | refine klew hM ?_) | ((with_reducible apply is_sto); first | (refine kst hM ?_; intro w hM) | (refine kstw hM ?_; intro w hM)) | ((with_reducible apply is_st); refine su ?_) | ((with_reducible apply is_gd); first | refine gt ?_ | refine gf ?_ | refine gu ?_) | ((with_reducible apply is_en); refine en ?_) | (with_reducible first | apply x_then | apply wp_seq | apply c_region | apply wp_block | apply wp_skip | apply wp_exit | apply wp_ret | apply wp_label | apply wp_scope_straight | apply x_ng | apply x_ng_ret | apply x_ng_exit | apply x_then_ret | apply x_then_exit | apply x_block | apply x_block_ret | apply x_block_exit | refine x_block_other (by decide) ?_))
      exact out1 rfl ⟨rfl, hM.ch⟩
end Go.Proofs.YtfldckjkipmibaaDoor

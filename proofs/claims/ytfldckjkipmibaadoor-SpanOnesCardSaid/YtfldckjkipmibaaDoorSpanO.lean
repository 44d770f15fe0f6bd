/- Walks: the law of one leaf: beside it stand the hashes of its path. -/
import Derived.Test.YtfldckjkipmibaaDoorSpanW
set_option linter.unusedVariables false
set_option linter.unusedSimpArgs false
namespace Go.Proofs.YtfldckjkipmibaaDoor
open Go Go.RowKit Go.Proofs.E
attribute [local irreducible] Go.wpList Go.Code.wp Go.Proofs.E.exec Go.Proofs.E.wpLexG
def cntH (h : Hs) (xs : List Hs) (j : Nat) : Nat := ((xs.take j).filter fun x => decide (x.1 = h.1)).length
theorem cntH_succ {h x : Hs} {xs : List Hs} {j : Nat} (hx : xs[j]? = some x) : cntH h xs (j + 1) = cntH h xs j + if x.1 = h.1 then 1 else 0 := by
  unfold cntH
  rw [List.take_add_one, hx, List.filter_append, List.length_append]
  congr 1
  by_cases e : x.1 = h.1 <;> simp [e]
theorem cntH_le (h : Hs) (xs : List Hs) (j : Nat) : cntH h xs j ≤ j := by
  unfold cntH
  exact Nat.le_trans (List.length_filter_le _ _) (by rw [List.length_take]; omega)
theorem cntH_perm {h : Hs} {xs ys : List Hs} (hp : xs.Perm ys) : cntH h xs xs.length = cntH h ys xs.length := by
  unfold cntH
  rw [List.take_length, hp.length_eq, List.take_length]
  exact (hp.filter _).length_eq
theorem prove_path {lv : List Hs} {k : Nat} (hk : k < lv.length) (hl : lv.length ≤ 1000) : (proveZ lv (k : Int) ((k + 1 : Nat) : Int)).Perm (pathZ lv (k : Int)) := by
  have hmay : mayZ (lv.length : Int) (k : Int) ((k + 1 : Nat) : Int) = true := mayZ_t (by omega) (by omega) (by omega) (by omega)
  have hp : proveZ lv (k : Int) ((k + 1 : Nat) : Int) = (sidesN k (k + 1) 0 lv.length).map (fun p => partH lv p.1 p.2) := by
    unfold proveZ sidesZ
    rw [hmay]
    rfl
  have := sides_down lv (by omega) k lv.length 0 lv.length rfl (Nat.zero_le _) hk (Nat.le_refl _)
  rw [List.take_length, List.drop_zero, Nat.sub_zero] at this
  rw [hp, pathZ_t hk]
  exact this.trans (List.reverse_perm _).symm
set_option maxHeartbeats 16000000 in
theorem sones_any (v : Value) (lv : List Hs) (I : Nat) (w0 : World) (hK : Laid w0) (hI : I < 2 ^ 64) (hR : (Ty.enc eH).Rd [] w0 v lv) :
    Calls Tryd.prog 3 #[v, .int .u64 (I : Int)] w0 (Ret fun u w' => u = .bool true ∧ Ch [] w0 w') := by
  have hM := Mem.start w0
  have hl1 := hR.le
  obtain ⟨A1, c1, rfl⟩ := hR.form
  refine enter [.slice A1 lv.length c1, .int .u64 (I : Int), undef, undef, undef, undef, undef, undef, undef, undef, undef, undef, undef, undef, undef, undef, undef, undef, undef, undef, undef, undef, undef, undef, undef, undef, undef, undef, undef, undef, undef, undef, undef, undef, undef, undef, undef, undef, undef, undef, undef, undef, undef, undef, undef, undef, undef, undef, undef, undef, undef, undef, undef, undef, undef, undef, undef, undef, undef, undef, undef, undef, undef, undef, undef, undef, undef, undef, undef, undef, undef, undef, undef, undef, undef, undef, undef, undef, undef, undef, undef, undef, undef, undef, undef, undef, undef, undef, undef, undef] Tryd.func3 rfl rfl ?_
  by_cases g : lv.length ≠ 0 ∧ lv.length ≤ 60
  · obtain ⟨g1, g2⟩ := g
    have hkl : I % lv.length < lv.length := Nat.mod_lt _ (by omega)
    repeat ((fail_if_success (with_reducible apply Go.Proofs.E.is_dst (d := 28))); first | ((with_reducible apply is_ld); first | refine kld hM ?_ | refine kldw hM ?_ | refine kle hM ?_ | refine klew hM ?_) | ((with_reducible apply is_sto); first | (refine kst hM ?_; intro w hM) | (refine kstw hM ?_; intro w hM)) | ((with_reducible apply is_co); first | (refine c_condb rfl (fun _ => ?_) ?hf; (case hf => intro h; cases h; done)) | (refine c_condb rfl ?ht (fun _ => ?_); (case ht => intro h; cases h; done)) | (refine c_cond rfl (fun _ => ?_) ?hf; (case hf => intro h; exfalso; apply h; omega)) | (refine c_cond rfl ?ht (fun _ => ?_); (case ht => intro h; exfalso; omega))) | ((with_reducible apply is_st); refine su ?_) | ((with_reducible apply is_gd); first | refine gt ?_ | refine gf ?_ | refine gu ?_) | ((with_reducible apply is_en); refine en ?_) | (with_reducible first | apply x_then | apply wp_seq | apply c_region | apply wp_block | apply wp_skip | apply wp_exit | apply wp_ret | apply wp_label | apply wp_scope_straight | apply x_ng | apply x_ng_ret | apply x_ng_exit | apply x_then_ret | apply x_then_exit | apply x_block | apply x_block_ret | apply x_block_exit | refine x_block_other (by decide) ?_))
    (try ((with_reducible apply is_gd); first | refine gt ?_ | refine gf ?_ | refine gu ?_)); refine wl_val (r_remN I lv.length rfl rfl (by omega) rfl rfl) ?_
    generalize I % lv.length = k at hkl ⊢
    repeat (first | ((with_reducible apply is_ld); first | refine kld hM ?_ | refine kldw hM ?_ | refine kle hM ?_ | refine klew hM ?_) | ((with_reducible apply is_sto); first | (refine kst hM ?_; intro w hM) | (refine kstw hM ?_; intro w hM)) | ((with_reducible apply is_st); refine su ?_) | ((with_reducible apply is_gd); first | refine gt ?_ | refine gf ?_ | refine gu ?_) | ((with_reducible apply is_en); refine en ?_) | (with_reducible first | apply x_then | apply wp_seq | apply c_region | apply wp_block | apply wp_skip | apply wp_exit | apply wp_ret | apply wp_label | apply wp_scope_straight | apply x_ng | apply x_ng_ret | apply x_ng_exit | apply x_then_ret | apply x_then_exit | apply x_block | apply x_block_ret | apply x_block_exit | refine x_block_other (by decide) ?_))
    rw [show (k : Int) + 1 = ((k + 1 : Nat) : Int) by omega]
    refine ca (prove_any _ lv (k : Int) ((k + 1 : Nat) : Int) w0 hK hR (by omega)) ?_
    rintro _ w ⟨p, rfl, hc, hO⟩
    have hM := hM.got hc hO
    repeat (first | ((with_reducible apply is_ld); first | refine kld hM ?_ | refine kldw hM ?_ | refine kle hM ?_ | refine klew hM ?_) | ((with_reducible apply is_sto); first | (refine kst hM ?_; intro w hM) | (refine kstw hM ?_; intro w hM)) | ((with_reducible apply is_st); refine su ?_) | ((with_reducible apply is_gd); first | refine gt ?_ | refine gf ?_ | refine gu ?_) | ((with_reducible apply is_en); refine en ?_) | (with_reducible first | apply x_then | apply wp_seq | apply c_region | apply wp_block | apply wp_skip | apply wp_exit | apply wp_ret | apply wp_label | apply wp_scope_straight | apply x_ng | apply x_ng_ret | apply x_ng_exit | apply x_then_ret | apply x_then_exit | apply x_block | apply x_block_ret | apply x_block_exit | refine x_block_other (by decide) ?_))
    refine ca (rpath_any lv.length _ lv (k : Int) w rfl (hR.ch hM.ch) (by omega)) ?_
    rintro _ w ⟨hc, q, rfl, hS⟩
    obtain ⟨B, hM⟩ := hM.gotRdB hc hS
    have hperm := prove_path (lv := lv) (k := k) hkl (by omega)
    rw [mayZ_t (by omega) (by omega) (by omega) (by omega), inZ_t hkl]
    have hql : (pathZ lv (k : Int)).length ≤ 60 := by
      rw [pathZ_t hkl, List.length_reverse]
      have := down_len lv k
      omega
    generalize proveZ lv (k : Int) ((k + 1 : Nat) : Int) = pz at hM hperm
    generalize pathZ lv (k : Int) = qz at hM hperm hql
    have hlen := hperm.length_eq
    obtain ⟨A2, c2, hpf⟩ := (hM.row (v := p) (by (repeat (first | exact Go.Proofs.E.Pick.here | apply Go.Proofs.E.Pick.there)))).form
    obtain rfl := hpf.1
    obtain ⟨A3, c3, rfl⟩ := (hM.rdRd (v := q) (by (repeat (first | exact Go.Proofs.E.Pick.here | apply Go.Proofs.E.Pick.there)))).form
    repeat (first | ((with_reducible apply is_ld); first | refine kld hM ?_ | refine kldw hM ?_ | refine kle hM ?_ | refine klew hM ?_) | ((with_reducible apply is_sto); first | (refine kst hM ?_; intro w hM) | (refine kstw hM ?_; intro w hM)) | ((with_reducible apply is_co); first | (refine c_condb rfl (fun _ => ?_) ?hf; (case hf => intro h; cases h; done)) | (refine c_condb rfl ?ht (fun _ => ?_); (case ht => intro h; cases h; done)) | (refine c_cond rfl (fun _ => ?_) ?hf; (case hf => intro h; exfalso; apply h; omega)) | (refine c_cond rfl ?ht (fun _ => ?_); (case ht => intro h; exfalso; omega))) | ((with_reducible apply is_st); refine su ?_) | ((with_reducible apply is_gd); first | refine gt ?_ | refine gf ?_ | refine gu ?_) | ((with_reducible apply is_en); refine en ?_) | (with_reducible first | apply x_then | apply wp_seq | apply c_region | apply wp_block | apply wp_skip | apply wp_exit | apply wp_ret | apply wp_label | apply wp_scope_straight | apply x_ng | apply x_ng_ret | apply x_ng_exit | apply x_then_ret | apply x_then_exit | apply x_block | apply x_block_ret | apply x_block_exit | refine x_block_other (by decide) ?_))
    have hpl : pz.length ≤ 60 := by omega
    
    refine c_loop (fun k l w => ∃ (i : Nat), (∃ jj : Nat → Value, l = [jj 0, jj 1, jj 2, jj 3, jj 4, jj 5, .slice A2 pz.length c2, jj 7, .slice A3 qz.length c3, jj 9, jj 10, jj 11, jj 12, jj 13, jj 14, jj 15, jj 16, jj 17, jj 18, jj 19, jj 20, jj 21, jj 22, jj 23, jj 24, jj 25, jj 26, jj 27, jj 28, jj 29, jj 30, jj 31, jj 32, jj 33, jj 34, jj 35, jj 36, jj 37, jj 38, jj 39, jj 40, jj 41, jj 42, jj 43, jj 44, jj 45, jj 46, jj 47, jj 48, jj 49, jj 50, jj 51, jj 52, jj 53, jj 54, jj 55, jj 56, .slice A3 qz.length c3, .int .i64 (qz.length : Int), .int .i64 (i : Int), jj 60, jj 61, jj 62, jj 63, jj 64, jj 65, jj 66, jj 67, jj 68, jj 69, jj 70, jj 71, jj 72, jj 73, jj 74, jj 75, jj 76, jj 77, jj 78, jj 79, jj 80, jj 81, jj 82, jj 83, jj 84, jj 85, jj 86, jj 87, jj 88, jj 89]) ∧ k + i = qz.length ∧ Mem [] w0 w [.row eH 29 (.slice A2 pz.length c2) pz, .rd (Ty.enc eH) B (.slice A3 qz.length c3) qz]) qz.length ⟨0, exj rfl, rfl, hM.sub (by (repeat (first | exact Go.Proofs.E.Sub.nil | (apply Go.Proofs.E.Sub.cons; (repeat (first | exact Go.Proofs.E.Pick.here | apply Go.Proofs.E.Pick.there))))))⟩ ?_
    rintro k l w ⟨i, ⟨jj, rfl⟩, hki, hM⟩
    repeat (first | ((with_reducible apply is_ld); first | refine kld hM ?_ | refine kldw hM ?_ | refine kle hM ?_ | refine klew hM ?_) | ((with_reducible apply is_sto); first | (refine kst hM ?_; intro w hM) | (refine kstw hM ?_; intro w hM)) | ((with_reducible apply is_st); refine su ?_) | ((with_reducible apply is_gd); first | refine gt ?_ | refine gf ?_ | refine gu ?_) | ((with_reducible apply is_en); refine en ?_) | (with_reducible first | apply x_then | apply wp_seq | apply c_region | apply wp_block | apply wp_skip | apply wp_exit | apply wp_ret | apply wp_label | apply wp_scope_straight | apply x_ng | apply x_ng_ret | apply x_ng_exit | apply x_then_ret | apply x_then_exit | apply x_block | apply x_block_ret | apply x_block_exit | refine x_block_other (by decide) ?_))
    refine c_cond rfl (fun hi => ?_) (fun hi => ?_)
    · repeat (first | ((with_reducible apply is_ld); first | refine kld hM ?_ | refine kldw hM ?_ | refine kle hM ?_ | refine klew hM ?_) | ((with_reducible apply is_sto); first | (refine kst hM ?_; intro w hM) | (refine kstw hM ?_; intro w hM)) | ((with_reducible apply is_st); refine su ?_) | ((with_reducible apply is_gd); first | refine gt ?_ | refine gf ?_ | refine gu ?_) | ((with_reducible apply is_en); refine en ?_) | (with_reducible first | apply x_then | apply wp_seq | apply c_region | apply wp_block | apply wp_skip | apply wp_exit | apply wp_ret | apply wp_label | apply wp_scope_straight | apply x_ng | apply x_ng_ret | apply x_ng_exit | apply x_then_ret | apply x_then_exit | apply x_block | apply x_block_ret | apply x_block_exit | refine x_block_other (by decide) ?_))
      refine ix (hM.rdRd (by (repeat (first | exact Go.Proofs.E.Pick.here | apply Go.Proofs.E.Pick.there)))) (fun b5 o5 h hh hA => ?_)
      refine ldr hA ?_
      refine kal hM (fun w b11 hM => ?_)
      refine kstw (vs := h.1.map u8v) hM (fun w hM => ?_)
      repeat (first | ((with_reducible apply is_ld); first | refine kld hM ?_ | refine kldw hM ?_ | refine kle hM ?_ | refine klew hM ?_) | ((with_reducible apply is_sto); first | (refine kst hM ?_; intro w hM) | (refine kstw hM ?_; intro w hM)) | ((with_reducible apply is_st); refine su ?_) | ((with_reducible apply is_gd); first | refine gt ?_ | refine gf ?_ | refine gu ?_) | ((with_reducible apply is_en); refine en ?_) | (with_reducible first | apply x_then | apply wp_seq | apply c_region | apply wp_block | apply wp_skip | apply wp_exit | apply wp_ret | apply wp_label | apply wp_scope_straight | apply x_ng | apply x_ng_ret | apply x_ng_exit | apply x_then_ret | apply x_then_exit | apply x_block | apply x_block_ret | apply x_block_exit | refine x_block_other (by decide) ?_))
      
      refine c_loop (fun k l w => ∃ (j : Nat), (∃ jj : Nat → Value, l = [jj 0, jj 1, jj 2, jj 3, jj 4, jj 5, .slice A2 pz.length c2, jj 7, .slice A3 qz.length c3, jj 9, jj 10, .pointer (some ⟨b11, 0, none⟩), .int .i64 (cntH h pz j : Int), .int .i64 (cntH h qz j : Int), jj 14, jj 15, jj 16, jj 17, jj 18, jj 19, jj 20, jj 21, jj 22, jj 23, jj 24, jj 25, jj 26, jj 27, jj 28, jj 29, jj 30, jj 31, jj 32, jj 33, jj 34, jj 35, jj 36, jj 37, jj 38, jj 39, jj 40, jj 41, jj 42, jj 43, jj 44, jj 45, jj 46, jj 47, jj 48, jj 49, jj 50, jj 51, jj 52, jj 53, jj 54, jj 55, jj 56, .slice A3 qz.length c3, .int .i64 (qz.length : Int), .int .i64 (i : Int), jj 60, jj 61, jj 62, jj 63, .int .i64 (pz.length : Int), .int .i64 (j : Int), jj 66, jj 67, jj 68, jj 69, jj 70, jj 71, jj 72, jj 73, jj 74, jj 75, jj 76, jj 77, jj 78, jj 79, jj 80, jj 81, jj 82, jj 83, jj 84, jj 85, jj 86, jj 87, jj 88, jj 89]) ∧ k + j = pz.length ∧ Mem [] w0 w [.cell b11 (h.1.map u8v) 29, .row eH 29 (.slice A2 pz.length c2) pz, .rd (Ty.enc eH) B (.slice A3 qz.length c3) qz]) pz.length ⟨0, exj rfl, rfl, hM.sub (by (repeat (first | exact Go.Proofs.E.Sub.nil | (apply Go.Proofs.E.Sub.cons; (repeat (first | exact Go.Proofs.E.Pick.here | apply Go.Proofs.E.Pick.there))))))⟩ ?_
      clear hM
      rintro k2 l w ⟨j, ⟨jj, rfl⟩, hkj, hM⟩
      repeat (first | ((with_reducible apply is_ld); first | refine kld hM ?_ | refine kldw hM ?_ | refine kle hM ?_ | refine klew hM ?_) | ((with_reducible apply is_sto); first | (refine kst hM ?_; intro w hM) | (refine kstw hM ?_; intro w hM)) | ((with_reducible apply is_st); refine su ?_) | ((with_reducible apply is_gd); first | refine gt ?_ | refine gf ?_ | refine gu ?_) | ((with_reducible apply is_en); refine en ?_) | (with_reducible first | apply x_then | apply wp_seq | apply c_region | apply wp_block | apply wp_skip | apply wp_exit | apply wp_ret | apply wp_label | apply wp_scope_straight | apply x_ng | apply x_ng_ret | apply x_ng_exit | apply x_then_ret | apply x_then_exit | apply x_block | apply x_block_ret | apply x_block_exit | refine x_block_other (by decide) ?_))
      refine c_cond rfl (fun hj => ?_) (fun hj => ?_)
      · have n1 := cntH_le h pz j
        have n2 := cntH_le h qz j
        obtain ⟨x, hx⟩ : ∃ x, pz[j]? = some x := ⟨_, List.getElem?_eq_getElem (by omega)⟩
        obtain ⟨y, hy⟩ : ∃ y, qz[j]? = some y := ⟨_, List.getElem?_eq_getElem (by omega)⟩
        have e1 := cntH_succ (h := h) hx
        have e2 := cntH_succ (h := h) hy
        repeat (first | ((with_reducible apply is_ld); first | refine kld hM ?_ | refine kldw hM ?_ | refine kle hM ?_ | refine klew hM ?_) | ((with_reducible apply is_sto); first | (refine kst hM ?_; intro w hM) | (refine kstw hM ?_; intro w hM)) | ((with_reducible apply is_st); refine su ?_) | ((with_reducible apply is_gd); first | refine gt ?_ | refine gf ?_ | refine gu ?_) | ((with_reducible apply is_en); refine en ?_) | (with_reducible first | apply x_then | apply wp_seq | apply c_region | apply wp_block | apply wp_skip | apply wp_exit | apply wp_ret | apply wp_label | apply wp_scope_straight | apply x_ng | apply x_ng_ret | apply x_ng_exit | apply x_then_ret | apply x_then_exit | apply x_block | apply x_block_ret | apply x_block_exit | refine x_block_other (by decide) ?_))
        refine kdr hM (by kernel_rfl) (by kernel_rfl) (fun w hM => ?_)
        repeat (first | ((with_reducible apply is_ldg); first | refine kldg hM ?_ | refine kldwg hM ?_) | ((with_reducible apply is_sg); refine sgu ?_) | ((with_reducible apply is_gg); first | refine gtg ?_ | refine gfg ?_ | refine gug ?_) | ((with_reducible apply is_eg); refine eg ?_))
        refine ixg (hM.rowRd (v := .slice A2 pz.length c2) (by (repeat (first | exact Go.Proofs.E.Pick.here | apply Go.Proofs.E.Pick.there))) (by omega)) (fun b6 o6 x' hx' hA' => ?_)
        rw [Int.toNat_natCast, hx] at hx'
        obtain rfl := Option.some.inj hx'
        refine ldrg hA' ?_
        repeat (first | ((with_reducible apply is_ldg); first | refine kldg hM ?_ | refine kldwg hM ?_) | ((with_reducible apply is_sg); refine sgu ?_) | ((with_reducible apply is_gg); first | refine gtg ?_ | refine gfg ?_ | refine gug ?_) | ((with_reducible apply is_eg); refine eg ?_))
        (try ((with_reducible apply is_gg); first | refine gtg ?_ | refine gfg ?_ | refine gug ?_)); refine wg_val (fun _ _ => r_eql8 (a := x.1) (b := h.1) Tryd.eqGuardType29 rfl rfl x.2 h.2) ?_
        repeat (first | ((with_reducible apply is_ldg); first | refine kldg hM ?_ | refine kldwg hM ?_) | ((with_reducible apply is_sg); refine sgu ?_) | ((with_reducible apply is_gg); first | refine gtg ?_ | refine gfg ?_ | refine gug ?_) | ((with_reducible apply is_eg); refine eg ?_))
        (intro w hc; have hM := hM.call hc)
        by_cases q1 : x.1 = h.1
        all_goals
          first | rw [decide_eq_true q1] | rw [decide_eq_false q1]
          first | rw [if_pos q1] at e1 | rw [if_neg q1] at e1
          repeat (first | ((with_reducible apply is_ld); first | refine kld hM ?_ | refine kldw hM ?_ | refine kle hM ?_ | refine klew hM ?_) | ((with_reducible apply is_sto); first | (refine kst hM ?_; intro w hM) | (refine kstw hM ?_; intro w hM)) | ((with_reducible apply is_co); first | (refine c_condb rfl (fun _ => ?_) ?hf; (case hf => intro h; cases h; done)) | (refine c_condb rfl ?ht (fun _ => ?_); (case ht => intro h; cases h; done)) | (refine c_cond rfl (fun _ => ?_) ?hf; (case hf => intro h; exfalso; apply h; omega)) | (refine c_cond rfl ?ht (fun _ => ?_); (case ht => intro h; exfalso; omega))) | ((with_reducible apply is_st); refine su ?_) | ((with_reducible apply is_gd); first | refine gt ?_ | refine gf ?_ | refine gu ?_) | ((with_reducible apply is_en); refine en ?_) | (with_reducible first | apply x_then | apply wp_seq | apply c_region | apply wp_block | apply wp_skip | apply wp_exit | apply wp_ret | apply wp_label | apply wp_scope_straight | apply x_ng | apply x_ng_ret | apply x_ng_exit | apply x_then_ret | apply x_then_exit | apply x_block | apply x_block_ret | apply x_block_exit | refine x_block_other (by decide) ?_))
          refine kdr hM (by kernel_rfl) (by kernel_rfl) (fun w hM => ?_)
          repeat (first | ((with_reducible apply is_ldg); first | refine kldg hM ?_ | refine kldwg hM ?_) | ((with_reducible apply is_sg); refine sgu ?_) | ((with_reducible apply is_gg); first | refine gtg ?_ | refine gfg ?_ | refine gug ?_) | ((with_reducible apply is_eg); refine eg ?_))
          refine ixg (hM.rdRd (v := .slice A3 qz.length c3) (by (repeat (first | exact Go.Proofs.E.Pick.here | apply Go.Proofs.E.Pick.there)))) (fun b7 o7 y' hy' hB' => ?_)
          rw [Int.toNat_natCast, hy] at hy'
          obtain rfl := Option.some.inj hy'
          refine ldrg hB' ?_
          repeat (first | ((with_reducible apply is_ldg); first | refine kldg hM ?_ | refine kldwg hM ?_) | ((with_reducible apply is_sg); refine sgu ?_) | ((with_reducible apply is_gg); first | refine gtg ?_ | refine gfg ?_ | refine gug ?_) | ((with_reducible apply is_eg); refine eg ?_))
          (try ((with_reducible apply is_gg); first | refine gtg ?_ | refine gfg ?_ | refine gug ?_)); refine wg_val (fun _ _ => r_eql8 (a := y.1) (b := h.1) Tryd.eqGuardType29 rfl rfl y.2 h.2) ?_
          repeat (first | ((with_reducible apply is_ldg); first | refine kldg hM ?_ | refine kldwg hM ?_) | ((with_reducible apply is_sg); refine sgu ?_) | ((with_reducible apply is_gg); first | refine gtg ?_ | refine gfg ?_ | refine gug ?_) | ((with_reducible apply is_eg); refine eg ?_))
          (intro w hc; have hM := hM.call hc)
          by_cases q2 : y.1 = h.1
          all_goals
            first | rw [decide_eq_true q2] | rw [decide_eq_false q2]
            first | rw [if_pos q2] at e2 | rw [if_neg q2] at e2
            repeat (first | ((with_reducible apply is_ld); first | refine kld hM ?_ | refine kldw hM ?_ | refine kle hM ?_ | refine klew hM ?_) | ((with_reducible apply is_sto); first | (refine kst hM ?_; intro w hM) | (refine kstw hM ?_; intro w hM)) | ((with_reducible apply is_co); first | (refine c_condb rfl (fun _ => ?_) ?hf; (case hf => intro h; cases h; done)) | (refine c_condb rfl ?ht (fun _ => ?_); (case ht => intro h; cases h; done)) | (refine c_cond rfl (fun _ => ?_) ?hf; (case hf => intro h; exfalso; apply h; omega)) | (refine c_cond rfl ?ht (fun _ => ?_); (case ht => intro h; exfalso; omega))) | ((with_reducible apply is_st); refine su ?_) | ((with_reducible apply is_gd); first | refine gt ?_ | refine gf ?_ | refine gu ?_) | ((with_reducible apply is_en); refine en ?_) | (with_reducible first | apply x_then | apply wp_seq | apply c_region | apply wp_block | apply wp_skip | apply wp_exit | apply wp_ret | apply wp_label | apply wp_scope_straight | apply x_ng | apply x_ng_ret | apply x_ng_exit | apply x_then_ret | apply x_then_exit | apply x_block | apply x_block_ret | apply x_block_exit | refine x_block_other (by decide) ?_))
            refine x_goes (k2 - 1) rfl (by omega) ⟨j + 1, ?_, by omega, hM⟩
            rw [e1, e2]
            exact exj rfl
      · have hce : cntH h pz j = cntH h qz j := by
          have := cntH_perm (h := h) hperm
          rwa [show pz.length = j by omega] at this
        repeat (first | ((with_reducible apply is_ld); first | refine kld hM ?_ | refine kldw hM ?_ | refine kle hM ?_ | refine klew hM ?_) | ((with_reducible apply is_sto); first | (refine kst hM ?_; intro w hM) | (refine kstw hM ?_; intro w hM)) | ((with_reducible apply is_co); first | (refine c_condb rfl (fun _ => ?_) ?hf; (case hf => intro h; cases h; done)) | (refine c_condb rfl ?ht (fun _ => ?_); (case ht => intro h; cases h; done)) | (refine c_cond rfl (fun _ => ?_) ?hf; (case hf => intro h; exfalso; apply h; omega)) | (refine c_cond rfl ?ht (fun _ => ?_); (case ht => intro h; exfalso; omega))) | ((with_reducible apply is_st); refine su ?_) | ((with_reducible apply is_gd); first | refine gt ?_ | refine gf ?_ | refine gu ?_) | ((with_reducible apply is_en); refine en ?_) | (with_reducible first | apply x_then | apply wp_seq | apply c_region | apply wp_block | apply wp_skip | apply wp_exit | apply wp_ret | apply wp_label | apply wp_scope_straight | apply x_ng | apply x_ng_ret | apply x_ng_exit | apply x_then_ret | apply x_then_exit | apply x_block | apply x_block_ret | apply x_block_exit | refine x_block_other (by decide) ?_))
        rw [hce]
        repeat (first | ((with_reducible apply is_ld); first | refine kld hM ?_ | refine kldw hM ?_ | refine kle hM ?_ | refine klew hM ?_) | ((with_reducible apply is_sto); first | (refine kst hM ?_; intro w hM) | (refine kstw hM ?_; intro w hM)) | ((with_reducible apply is_co); first | (refine c_condb rfl (fun _ => ?_) ?hf; (case hf => intro h; cases h; done)) | (refine c_condb rfl ?ht (fun _ => ?_); (case ht => intro h; cases h; done)) | (refine c_cond rfl (fun _ => ?_) ?hf; (case hf => intro h; exfalso; apply h; omega)) | (refine c_cond rfl ?ht (fun _ => ?_); (case ht => intro h; exfalso; omega))) | ((with_reducible apply is_st); refine su ?_) | ((with_reducible apply is_gd); first | refine gt ?_ | refine gf ?_ | refine gu ?_) | ((with_reducible apply is_en); refine en ?_) | (with_reducible first | apply x_then | apply wp_seq | apply c_region | apply wp_block | apply wp_skip | apply wp_exit | apply wp_ret | apply wp_label | apply wp_scope_straight | apply x_ng | apply x_ng_ret | apply x_ng_exit | apply x_then_ret | apply x_then_exit | apply x_block | apply x_block_ret | apply x_block_exit | refine x_block_other (by decide) ?_))
        exact x_goes (k - 1) rfl (by omega) ⟨i + 1, exj rfl, by omega, hM.sub (by (repeat (first | exact Go.Proofs.E.Sub.nil | (apply Go.Proofs.E.Sub.cons; (repeat (first | exact Go.Proofs.E.Pick.here | apply Go.Proofs.E.Pick.there))))))⟩
    · repeat (first | ((with_reducible apply is_ld); first | refine kld hM ?_ | refine kldw hM ?_ | refine kle hM ?_ | refine klew hM ?_) | ((with_reducible apply is_sto); first | (refine kst hM ?_; intro w hM) | (refine kstw hM ?_; intro w hM)) | ((with_reducible apply is_st); refine su ?_) | ((with_reducible apply is_gd); first | refine gt ?_ | refine gf ?_ | refine gu ?_) | ((with_reducible apply is_en); refine en ?_) | (with_reducible first | apply x_then | apply wp_seq | apply c_region | apply wp_block | apply wp_skip | apply wp_exit | apply wp_ret | apply wp_label | apply wp_scope_straight | apply x_ng | apply x_ng_ret | apply x_ng_exit | apply x_then_ret | apply x_then_exit | apply x_block | apply x_block_ret | apply x_block_exit | refine x_block_other (by decide) ?_))
      refine kca hM (lives28_any _) (fun w hM => ?_)
      repeat (first | ((with_reducible apply is_ld); first | refine kld hM ?_ | refine kldw hM ?_ | refine kle hM ?_ | refine klew hM ?_) | ((with_reducible apply is_sto); first | (refine kst hM ?_; intro w hM) | (refine kstw hM ?_; intro w hM)) | ((with_reducible apply is_st); refine su ?_) | ((with_reducible apply is_gd); first | refine gt ?_ | refine gf ?_ | refine gu ?_) | ((with_reducible apply is_en); refine en ?_) | (with_reducible first | apply x_then | apply wp_seq | apply c_region | apply wp_block | apply wp_skip | apply wp_exit | apply wp_ret | apply wp_label | apply wp_scope_straight | apply x_ng | apply x_ng_ret | apply x_ng_exit | apply x_then_ret | apply x_then_exit | apply x_block | apply x_block_ret | apply x_block_exit | refine x_block_other (by decide) ?_))
      exact out1 rfl ⟨rfl, hM.ch⟩
  · have g' : lv.length = 0 ∨ (lv.length ≠ 0 ∧ 60 < lv.length) := by omega
    rcases g' with g' | ⟨g1, g'⟩
    all_goals
      repeat (first | ((with_reducible apply is_ld); first | refine kld hM ?_ | refine kldw hM ?_ | refine kle hM ?_ | refine klew hM ?_) | ((with_reducible apply is_sto); first | (refine kst hM ?_; intro w hM) | (refine kstw hM ?_; intro w hM)) | ((with_reducible apply is_co); first | (refine c_condb rfl (fun _ => ?_) ?hf; (case hf => intro h; cases h; done)) | (refine c_condb rfl ?ht (fun _ => ?_); (case ht => intro h; cases h; done)) | (refine c_cond rfl (fun _ => ?_) ?hf; (case hf => intro h; exfalso; apply h; omega)) | (refine c_cond rfl ?ht (fun _ => ?_); (case ht => intro h; exfalso; omega))) | ((with_reducible apply is_st); refine su ?_) | ((with_reducible apply is_gd); first | refine gt ?_ | refine gf ?_ | refine gu ?_) | ((with_reducible apply is_en); refine en ?_) | (with_reducible first | apply x_then | apply wp_seq | apply c_region | apply wp_block | apply wp_skip | apply wp_exit | apply wp_ret | apply wp_label | apply wp_scope_straight | apply x_ng | apply x_ng_ret | apply x_ng_exit | apply x_then_ret | apply x_then_exit | apply x_block | apply x_block_ret | apply x_block_exit | refine x_block_other (by decide) ?_))
      refine kca hM (lives28_any _) (fun w hM => ?_)
      repeat (first | ((with_reducible apply is_ld); first | refine kld hM ?_ | refine kldw hM ?_ | refine kle hM ?_ | refine klew hM ?_) | ((with_reducible apply is_sto); first | (refine kst hM ?_; intro w hM) | (refine kstw hM ?_; intro w hM)) | ((with_reducible apply is_st); refine su ?_) | ((with_reducible apply is_gd); first | refine gt ?_ | refine gf ?_ | refine gu ?_) | ((with_reducible apply is_en); refine en ?_) | (with_reducible first | apply x_then | apply wp_seq | apply c_region | apply wp_block | apply wp_skip | apply wp_exit | apply wp_ret | apply wp_label | apply wp_scope_straight | apply x_ng | apply x_ng_ret | apply x_ng_exit | apply x_then_ret | apply x_then_exit | apply x_block | apply x_block_ret | apply x_block_exit | refine x_block_other (by decide) ?_))
      exact out1 rfl ⟨rfl, hM.ch⟩
end Go.Proofs.YtfldckjkipmibaaDoor

/- Walk: whether each one's hash stands in the next. -/
import Derived.Test.YtkdbinchlpdkmaaDoorQClashTops29
import Derived.Test.YtkdbinchlpdkmaaDoorQClashTops25
set_option linter.unusedVariables false
set_option linter.unusedSimpArgs false
set_option maxRecDepth 4000
namespace Go.Proofs.YtkdbinchlpdkmaaDoor
open Go Go.RowKit Go.Proofs.E
attribute [local irreducible] Go.wpList Go.Code.wp Go.Proofs.E.exec Go.Proofs.E.wpLexG
set_option maxHeartbeats 16000000 in
theorem chained_any (v : Value) (xss : List (List UInt8)) (w0 : World) (hR : (Ty.sl tU8).Rd [] w0 v xss) (hl : xss.length ≤ 1000) (hb : ∀ x ∈ xss, x.length ≤ 1000000) (hC : ChainX xss) :
    Calls Tryd.prog 17 #[v] w0 (Ret fun u w' => u = .bool true ∧ Ch [] w0 w') := by
  obtain ⟨ps, rfl, hP, hp⟩ := hR.raw
  have hM := Mem.start w0
  obtain ⟨A, c, rfl⟩ := hP.form
  have e0 : (ps.map (fun p : SlV × List UInt8 => p.1)).length = ps.length := List.length_map _
  have hpl : 0 < ps.length := List.length_pos_iff.2 (fun h => hC.1 (by rw [h]; rfl))
  rw [List.length_map] at hl
  rw [e0] at hP ⊢
  refine enter [.slice A ps.length c, undef, undef, undef, undef, undef, undef, undef, undef, undef, undef, undef, undef, undef, undef, undef, undef, undef, undef, undef, undef, undef, undef, undef, undef, undef, undef, undef, undef, undef, undef, undef, undef, undef, undef, undef, undef, undef, undef, undef, undef, undef, undef, undef, undef, undef, undef, undef, undef] Tryd.func17 rfl rfl ?_
  repeat (first | refine gw ?_ | (refine ks ?_; intro w hM))
  rw [decide_eq_false (by omega : ¬ (ps.length : Int) = 0)]
  refine c_condb rfl (fun h => by cases h) (fun _ => ?_)
  repeat (first | refine gw ?_ | (refine ks ?_; intro w hM))
  
  refine c_loop (fun n l w => ∃ (i : Nat), (∃ jj : Nat → Value, l = [.slice A ps.length c, jj 1, jj 2, .int .i64 (i : Int), jj 4, jj 5, jj 6, jj 7, jj 8, jj 9, jj 10, jj 11, jj 12, jj 13, jj 14, jj 15, jj 16, jj 17, jj 18, jj 19, jj 20, jj 21, jj 22, jj 23, jj 24, jj 25, jj 26, jj 27, jj 28, jj 29, jj 30, jj 31, jj 32, jj 33, jj 34, jj 35, jj 36, jj 37, jj 38, jj 39, jj 40, jj 41, jj 42, jj 43, jj 44, jj 45, jj 46, jj 47, jj 48]) ∧ n + i = ps.length ∧ 1 ≤ i ∧ Mem [] w0 w []) (ps.length - 1)
    ⟨1, exj rfl, by omega, Nat.le_refl _, hM⟩ ?_
  clear hM
  rintro n l w ⟨i, ⟨jj, rfl⟩, hni, hi1, hM⟩
  repeat (first | refine gw ?_ | (refine ks ?_; intro w hM))
  refine c_cond rfl (fun hj => ?_) (fun hj => ?_)
  rotate_left
  · repeat (first | refine gw ?_ | (refine ks ?_; intro w hM))
    exact out1 rfl ⟨rfl, hM.ch⟩
  have hil : i < ps.length := by omega
  obtain ⟨pa, hpa⟩ : ∃ p, ps[i - 1]? = some p := ⟨_, List.getElem?_eq_getElem (by omega)⟩
  obtain ⟨pb, hpb⟩ : ∃ p, ps[i]? = some p := ⟨_, List.getElem?_eq_getElem hil⟩
  have hpam := List.mem_of_getElem? hpa
  have hpbm := List.mem_of_getElem? hpb
  obtain ⟨⟨Ab, nb, cb⟩, ybs⟩ := pb
  obtain rfl : nb = ybs.length := by
    obtain ⟨A', c', h⟩ := (hp _ hpbm).form
    unfold slv at h
    injection h
  have hRb := hp _ hpbm
  simp only at hRb
  have hba := hb pa.2 (List.mem_map_of_mem hpam)
  have hbb := hb ybs (List.mem_map_of_mem hpbm)
  have hin : InX (shaOf pa.2) ybs := hC.2 (i - 1) pa.2 ybs (by rw [List.getElem?_map, hpa]; rfl) (by rw [show i - 1 + 1 = i by omega, List.getElem?_map, hpb]; rfl)
  repeat (first | refine gw ?_ | (refine ks ?_; intro w hM))
  refine kix hP (fun b o x hx hA => ?_) (h1 := by simp; omega)
  rw [show ((i : Int) - 1).toNat = i - 1 by omega, List.getElem?_map, hpa] at hx
  obtain rfl := Option.some.inj hx
  refine kat hM hA ?_
  repeat (first | refine gw ?_ | (refine ks ?_; intro w hM))
  obtain ⟨hs, hhs⟩ : ∃ q, q = shaH pa.2 := ⟨_, rfl⟩
  refine kca (X := hv hs.1) hM (by rw [hhs]; exact rsum_any (slv pa.1) pa.2 _ ((hp pa hpam).ch hM.ch) (by omega)) (fun w hM => ?_)
  repeat (first | refine gw ?_ | (refine ks ?_; intro w hM))
  refine kal hM (fun w b4 hM => ?_)
  refine kstw (b := b4) (vs := hs.1.map u8v) hM (fun w hM => ?_)
  repeat (first | refine gw ?_ | (refine ks ?_; intro w hM))
  have hin : InX hs.1 ybs := by rw [hhs]; exact hin
  clear hhs
  
  refine c_loop (fun n l w => ∃ (k : Nat) (f : Bool), (∃ jj : Nat → Value, l = [.slice A ps.length c, jj 1, jj 2, .int .i64 (i : Int), .pointer (some ⟨b4, 0, none⟩), .bool f, .int .i64 (k : Int), jj 7, jj 8, jj 9, jj 10, jj 11, jj 12, jj 13, jj 14, jj 15, jj 16, jj 17, jj 18, jj 19, jj 20, jj 21, jj 22, jj 23, jj 24, jj 25, jj 26, jj 27, jj 28, jj 29, jj 30, jj 31, jj 32, jj 33, jj 34, jj 35, jj 36, jj 37, jj 38, jj 39, jj 40, jj 41, jj 42, jj 43, jj 44, jj 45, jj 46, jj 47, jj 48]) ∧ n + k = ybs.length + 1 ∧ 1 ≤ k ∧ Mem [] w0 w [.cell b4 (hs.1.map u8v) 29] ∧ (f = false → ∀ q, 1 ≤ q → q < k → (ybs.drop q).take 32 ≠ hs.1)) ybs.length
    ⟨1, false, exj rfl, rfl, Nat.le_refl _, hM.sub (by (repeat constructor)), fun _ q h1 h2 => by omega⟩ ?_
  clear hM
  rintro n2 l w ⟨k, f, ⟨jj, rfl⟩, hnk, hk1, hM, hf⟩
  repeat (first | refine gw ?_ | (refine ks ?_; intro w hM))
  refine kix hP (fun b3 o3 x hx hA3 => ?_) (h1 := by simp; omega)
  rw [Int.toNat_natCast, List.getElem?_map, hpb] at hx
  obtain rfl := Option.some.inj hx
  refine kat hM hA3 ?_
  repeat (first | refine gw ?_ | (refine ks ?_; intro w hM))
  refine c_cond rfl (fun hj2 => ?_) (fun hj2 => ?_)
  rotate_left
  · repeat (first | refine gw ?_ | (refine ks ?_; intro w hM))
    cases hff : f with
    | false =>
      exfalso
      obtain ⟨q, h1, h2, h3⟩ := hin
      exact hf hff q h1 (by omega) h3
    | true =>
      repeat (first | refine gw ?_ | (refine ks ?_; intro w hM))
      refine c_condb rfl (fun h => by cases h) (fun _ => ?_)
      repeat (first | refine gw ?_ | (refine ks ?_; intro w hM))
      exact x_goes (n - 1) rfl (by omega) ⟨i + 1, exj rfl, by omega, by omega, hM.sub (by (repeat constructor))⟩
  cases hff : f with
  | true =>
    repeat (first | refine gwb ?_ | (refine ks ?_; intro w hM))
    refine kdr hM (by kernel_rfl) (by kernel_rfl) (fun w hM => ?_)
    (try refine gwg ?_)
    (intro w hc; have hM := hM.call hc)
    repeat (first | refine gw ?_ | (refine ks ?_; intro w hM))
    exact x_goes (n2 - 1) rfl (by omega) ⟨k + 1, true, exj rfl, by omega, by omega, hM.sub (by (repeat constructor)), fun h => by cases h⟩
  | false =>
    repeat (first | refine gwb ?_ | (refine ks ?_; intro w hM))
    refine kdr hM (by kernel_rfl) (by kernel_rfl) (fun w hM => ?_)
    (try refine gwg ?_)
    (try ((with_reducible apply is_gg); first | refine gtg ?_ | refine gfg ?_ | refine gug ?_)); refine kixg hP (fun b5 o5 x hx hA5 => ?_) (h1 := by simp; omega)
    rw [Int.toNat_natCast, List.getElem?_map, hpb] at hx
    obtain rfl := Option.some.inj hx
    (try refine gwg ?_)
    (try ((with_reducible apply is_gg); first | refine gtg ?_ | refine gfg ?_ | refine gug ?_)); refine katg hM hA5 ?_
    (try refine gwg ?_)
    (try ((with_reducible apply is_gg); first | refine gtg ?_ | refine gfg ?_ | refine gug ?_)); refine kcutg hRb (fun v41 hV => ?_) (i := (k : Int)) (j := (k : Int) + 32)
    rw [Int.toNat_natCast, show ((k : Int) + 32).toNat = k + 32 by omega] at hV
    (try ((with_reducible apply is_gg); first | refine gtg ?_ | refine gfg ?_ | refine gug ?_)); refine wg_val (fun w1 hG => r_b2s ((hV.ch hM.ch).ch hG)) ?_
    (try refine gwg ?_)
    (try ((with_reducible apply is_gg); first | refine gtg ?_ | refine gfg ?_ | refine gug ?_)); refine wg_val (fun _ _ => r_cut_arr0 rfl) ?_
    have hR4 := hM.cell8 (b := b4) (o := 0) (n := 32) (bs := hs.1) (by (repeat constructor)) (by simp) hs.2
    (try ((with_reducible apply is_gg); first | refine gtg ?_ | refine gfg ?_ | refine gug ?_)); refine wg_val (fun w1 hG => r_b2s (hR4.ch hG)) ?_
    (try ((with_reducible apply is_gg); first | refine gtg ?_ | refine gfg ?_ | refine gug ?_)); refine wg_val (fun _ _ => r_eqst (a := (ybs.take (k + 32)).drop k) (b := hs.1)) ?_
    (try refine gwg ?_)
    (intro w hc; have hM := hM.call hc)
    have ecut : (ybs.drop k).take 32 = (ybs.take (k + 32)).drop k := by rw [List.drop_take]; congr 1; omega
    repeat (first | refine gw ?_ | (refine ks ?_; intro w hM))
    refine x_goes (n2 - 1) rfl (by omega) ⟨k + 1, _, exj rfl, by omega, by omega, hM.sub (by (repeat constructor)), fun h q h1 h2 => ?_⟩
    by_cases e : q = k
    · rw [e, ecut]
      exact of_decide_eq_false h
    · exact hf hff q h1 (by omega)
end Go.Proofs.YtkdbinchlpdkmaaDoor

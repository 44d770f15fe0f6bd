/- Walks: where a path leads to, the program's.
   Walks: where a path leads to, the reference's; whether that is a root, both. -/
import Derived.Test.YtoimhmphhffelaaGreatDoorQReceiptBytes22
import Derived.Test.YtoimhmphhffelaaGreatDoorQReceiptBytes24
set_option linter.unusedVariables false
set_option linter.unusedSimpArgs false
namespace Go.Proofs.YtoimhmphhffelaaGreatDoor
open Go Go.RowKit Go.Proofs.E
attribute [local irreducible] Go.wpList Go.Code.wp Go.Proofs.E.exec Go.Proofs.E.wpLexG
def zeroH : Hs := ⟨List.replicate 32 0, by simp⟩
def inC (n i : Int) : Bool := decide (1 ≤ n) && decide (n ≤ 1099511627776) && decide (0 ≤ i) && decide (i < n)
theorem inC_t {n i : Nat} (h1 : n ≤ 1099511627776) (h2 : i < n) : inC (n : Int) (i : Int) = true := by
  unfold inC
  rw [decide_eq_true (by omega : (1 : Int) ≤ (n : Int)), decide_eq_true (by omega : (n : Int) ≤ 1099511627776), decide_eq_true (by omega : (0 : Int) ≤ (i : Int)), decide_eq_true (by omega : (i : Int) < (n : Int))]
  rfl
theorem inC_f {n i : Int} (h : n < 1 ∨ 1099511627776 < n ∨ i < 0 ∨ n ≤ i) : inC n i = false := by
  cases hc : inC n i with
  | false => rfl
  | true =>
    unfold inC at hc
    simp only [Bool.and_eq_true, decide_eq_true_eq] at hc
    omega
/-- One step up. -/
def stepC (path : List Hs) (h : Hs) (x : Nat × (Nat × Bool)) : Hs := if x.2.2 = true then nodeH (path.getD x.1 zeroH) h else nodeH h (path.getD x.1 zeroH)
def climbZ (n i : Int) (leaf : Hs) (path : List Hs) : Hs × Bool :=
  if inC n i = true ∧ (turnsN n.toNat i.toNat).length = path.length then ((upl (turnsN n.toNat i.toNat)).foldl (stepC path) leaf, true) else (zeroH, false)
theorem climbZ_f {n i : Int} {leaf : Hs} {path : List Hs} (h : inC n i = false) : climbZ n i leaf path = (zeroH, false) := by unfold climbZ; rw [if_neg (by rw [h]; simp)]
theorem up_any (v : Value) (w : World) (A : Option Addr) (n c : Nat) (hv : v = .slice A n c) : Calls Tryz.prog 187 #[v] w (Ret fun u w' => ∃ bx, u = .func (.func 215) #[] #[.pointer (some ⟨bx, 0, none⟩)] ∧ New w w' bx [v] 203) := by
  subst hv
  refine enter [.slice A n c, undef, undef, undef] Tryz.func187 rfl rfl ?_
  (try refine wk ?_)
  refine wl_box rfl (fun w1 b hb => ?_)
  (try refine wk ?_)
  (try ((with_reducible apply is_gd); first | refine gt ?_ | refine gf ?_ | refine gu ?_)); refine wl_val (r_makeFunc (cs := [.tmp 1])) ?_
  (try refine wk ?_)
  exact out1 rfl ⟨b, rfl, hb⟩
set_option maxHeartbeats 16000000 in
theorem climb_any (n i : Int) (leaf : Hs) (v : Value) (path : List Hs) (w : World) (hK : Laid w) (hR : (Ty.enc eH).Rd [] w v path) :
    Calls Tryz.prog 147 #[.int .i64 n, .int .i64 i, hv leaf.1, v] w (Ret fun u w' => u = .tuple #[hv (climbZ n i leaf path).1.1, .bool (climbZ n i leaf path).2] ∧ Ch [] w w') := by
  refine enterM [.int .i64 n, .int .i64 i, hv leaf.1, v, undef, undef, undef, undef, undef, undef, undef, undef, undef, undef, undef, undef, undef, undef, undef, undef, undef, undef, undef, undef, undef, undef, undef, undef, undef, undef, undef, undef, undef, undef, undef, undef, undef, undef, undef, undef, undef, undef, undef, undef, undef, undef, undef, undef, undef, undef, undef, undef, undef, undef, undef, undef, undef, undef, undef] Tryz.func147 rfl rfl ?_
  have hple := hR.le
  have hKl := hK.1
  obtain ⟨A, cap, rfl⟩ := hR.form
  (try refine wk ?_)
  refine wl_box rfl (fun w1 b6 hb6 => ?_)
  refine wl_box rfl (fun w2 b7 hb7 => ?_)
  refine wl_alloc (fun w3 b8 hb8 => ?_)
  have hB8 : Blk w3 b8 ((List.replicate 32 (0 : UInt8)).map u8v) 28 := hb8.blk
  have hB7 : Blk w3 b7 [.slice A path.length cap] 26 := Blk.ch (show Blk w2 b7 [.slice A path.length cap] 26 from hb7.blk) hb8.ch (by simp)
  have hB6 : Blk w3 b6 (leaf.1.map u8v) 28 := (Blk.ch (show Blk w1 b6 (leaf.1.map u8v) 28 from hb6.blk) hb7.ch (by simp)).ch hb8.ch (by simp)
  have e6 := hb6.at_
  have e7 := hb7.at_
  have e8 := hb8.at_
  have s6 := hb6.size
  have s7 := hb7.size
  have s8 := hb8.size
  have hc3 : Ch [] w w3 := (hb6.ch.then hb7.ch).then hb8.ch
  by_cases h1 : n < 1
  · (try refine wk ?_)
    refine c_condb rfl (fun _ => ?_) (fun h => by cases h)
    (try refine wk ?_)
    (try ((with_reducible apply is_gd); first | refine gt ?_ | refine gf ?_ | refine gu ?_)); refine wl_val (r_build_arr0 (e := 5)) ?_
    refine stbw (n := 32) (vs := zeroH.1.map u8v) hB8 rfl rfl (by simp [zeroH.2]) (by simp) one_u8 (fun wf hBf hchf hsf => ?_)
    (try refine wk ?_)
    refine post0 (outc2 rfl rfl (hBf.row (n := 32) (o := 0) (ds := zeroH.1.map u8v) (by simp [List.take_of_length_le, zeroH.2])) (by simp [zeroH.2]) ?_)
    rw [climbZ_f (inC_f (by omega))]
    exact ⟨rfl, hc3.own hchf (by omega)⟩
  · by_cases h2 : 1099511627776 < n
    · (try refine wk ?_)
      refine c_condb rfl (fun _ => ?_) (fun h => by cases h)
      (try refine wk ?_)
      (try ((with_reducible apply is_gd); first | refine gt ?_ | refine gf ?_ | refine gu ?_)); refine wl_val (r_build_arr0 (e := 5)) ?_
      refine stbw (n := 32) (vs := zeroH.1.map u8v) hB8 rfl rfl (by simp [zeroH.2]) (by simp) one_u8 (fun wf hBf hchf hsf => ?_)
      (try refine wk ?_)
      refine post0 (outc2 rfl rfl (hBf.row (n := 32) (o := 0) (ds := zeroH.1.map u8v) (by simp [List.take_of_length_le, zeroH.2])) (by simp [zeroH.2]) ?_)
      rw [climbZ_f (inC_f (by omega))]
      exact ⟨rfl, hc3.own hchf (by omega)⟩
    · by_cases h3 : i < 0
      · (try refine wk ?_)
        refine c_condb rfl (fun _ => ?_) (fun h => by cases h)
        (try refine wk ?_)
        (try ((with_reducible apply is_gd); first | refine gt ?_ | refine gf ?_ | refine gu ?_)); refine wl_val (r_build_arr0 (e := 5)) ?_
        refine stbw (n := 32) (vs := zeroH.1.map u8v) hB8 rfl rfl (by simp [zeroH.2]) (by simp) one_u8 (fun wf hBf hchf hsf => ?_)
        (try refine wk ?_)
        refine post0 (outc2 rfl rfl (hBf.row (n := 32) (o := 0) (ds := zeroH.1.map u8v) (by simp [List.take_of_length_le, zeroH.2])) (by simp [zeroH.2]) ?_)
        rw [climbZ_f (inC_f (by omega))]
        exact ⟨rfl, hc3.own hchf (by omega)⟩
      · by_cases h4 : n ≤ i
        · (try refine wk ?_)
          refine c_cond rfl (fun _ => ?_) (fun h => absurd h4 h)
          (try refine wk ?_)
          (try ((with_reducible apply is_gd); first | refine gt ?_ | refine gf ?_ | refine gu ?_)); refine wl_val (r_build_arr0 (e := 5)) ?_
          refine stbw (n := 32) (vs := zeroH.1.map u8v) hB8 rfl rfl (by simp [zeroH.2]) (by simp) one_u8 (fun wf hBf hchf hsf => ?_)
          (try refine wk ?_)
          refine post0 (outc2 rfl rfl (hBf.row (n := 32) (o := 0) (ds := zeroH.1.map u8v) (by simp [List.take_of_length_le, zeroH.2])) (by simp [zeroH.2]) ?_)
          rw [climbZ_f (inC_f (by omega))]
          exact ⟨rfl, hc3.own hchf (by omega)⟩
        · obtain ⟨N, rfl⟩ := Int.eq_ofNat_of_zero_le (by omega : 0 ≤ n)
          obtain ⟨I, rfl⟩ := Int.eq_ofNat_of_zero_le (by omega : 0 ≤ i)
          have hin := inC_t (n := N) (i := I) (by omega) (by omega)
          (try refine wk ?_)
          refine c_cond rfl (fun h => absurd h h4) (fun _ => ?_)
          (try refine wk ?_)
          (try ((with_reducible apply is_gd); first | refine gt ?_ | refine gf ?_ | refine gu ?_)); refine ca (turns_any N I (by omega) (by omega) w3) ?_
          rintro tv w4 ⟨hc4, hT⟩
          have htl := turns_len N I
          have hTr := hT.rd (S := []) (by simp) (by omega)
          obtain ⟨At, ct, rfl⟩ := hTr.form
          have hB6 := hB6.ch hc4 (by simp)
          have hB7 := hB7.ch hc4 (by simp)
          have hB8 := hB8.ch hc4 (by simp)
          have z4 := hc4.size
          have hc4 : Ch [] w w4 := hc3.then hc4
          (try refine wk ?_)
          refine ldb hB7 rfl rfl ?_
          by_cases h5 : (turnsN N I).length = path.length
          · have hz : climbZ (N : Int) (I : Int) leaf path = ((upl (turnsN N I)).foldl (stepC path) leaf, true) := by unfold climbZ; rw [if_pos ⟨hin, h5⟩]; rfl
            rw [hz]
            (try refine wk ?_)
            refine c_cond rfl (fun h => absurd h (by omega)) (fun _ => ?_)
            (try refine wk ?_)
            refine ldbr (n := 32) hB6 rfl (ds := leaf.1.map u8v) (by simp [List.take_of_length_le, leaf.2]) (by simp [leaf.2]) ?_
            refine wl_alloc (fun w5 b11 hb11 => ?_)
            have e11 := hb11.at_
            have s11 := hb11.size
            refine stbw (n := 32) (cs := (List.replicate 32 (0 : UInt8)).map u8v) hb11.blk rfl rfl (hv_len leaf.2) (by simp) one_u8 (fun w6 hB11 hch6 hs6 => ?_)
            have hc46 : Ch [] w4 w6 := hb11.ch.own hch6 (by omega)
            have hB7 := hB7.ch hc46 (by simp)
            have hB8 := hB8.ch hc46 (by simp)
            have hTr6 := hTr.ch hc46
            (try refine wk ?_)
            (try ((with_reducible apply is_gd); first | refine gt ?_ | refine gf ?_ | refine gu ?_)); refine ca (up_any _ w6 _ _ _ rfl) ?_
            rintro _ w7 ⟨bx, rfl, hbx⟩
            have ex := hbx.at_
            have sx := hbx.size
            have hB7 := hB7.ch hbx.ch (by simp)
            have hB8 := hB8.ch hbx.ch (by simp)
            have hB11 := hB11.ch hbx.ch (by simp)
            have hTr7 := hTr6.ch hbx.ch
            have hc7 : Ch [] w w7 := (hc4.then hc46).then hbx.ch
            have hP7 : (Ty.enc eH).Rd [b11] w7 (.slice A path.length cap) path := hR.mv hc7.some (fun k hk hm => by simp at hm; omega)
            have hT7 : (Ty.enc eT).Rd [b11] w7 (.slice At (turnsN N I).length ct) (turnsN N I) := hTr.mv (S' := [b11]) ((hc46.then hbx.ch).some) (fun k hk hm => by simp at hm; omega)
            have hK7 := hK.ch hc7 (by simp)
            (try refine wk ?_)
            refine c_up 12 13 (S := [b11]) hbx.blk (by simp; omega) (by simp; omega) hT7 (by omega) rfl
              (fun pre W => Blk W b7 [.slice A path.length cap] 26 ∧ Blk W b8 ((List.replicate 32 (0 : UInt8)).map u8v) 28 ∧ Blk W b11 ((pre.foldl (stepC path) leaf).1.map u8v) 28)
              (fun pre W W' h hsame => ⟨(hsame _ (by omega)).trans h.1, (hsame _ (by omega)).trans h.2.1, (hsame _ (by omega)).trans h.2.2⟩) ⟨hB7, hB8, hB11⟩ ?_ ?_ ?_
            · intro r x W K hKK
              refine wpIn_seq ?_
              refine ci_region (noOut_then noOut_f) rfl ?_
              refine st ?_
              refine en ?_
              refine x_then ?_
              refine ci_region (noOut_then noOut_f) rfl ?_
              refine wl_alloc (fun W1 b13 hb13 => ?_)
              refine stbw (n := 2) (vs := eT.f x.2) hb13.blk rfl rfl rfl rfl (eT.h1 x.2) (fun W2 hB13 hch2 hs2 => ?_)
              have e13 := hb13.at_
              refine wl_nil ?_
              exact hKK b13 W2 (by omega) (hb13.ch.own hch2 (by omega)) hB13
            · rintro r pre x b W hxl hcW ⟨hW7, hW8, hW11⟩ hb hBx
              generalize hfd : pre.foldl (stepC path) leaf = hcur at hW11
              have hfd2 : (pre ++ [x]).foldl (stepC path) leaf = stepC path hcur x := by rw [List.foldl_append, hfd]; rfl
              have hxp : x.1 < path.length := by omega
              have hgd : path[x.1]? = some (path.getD x.1 zeroH) := by rw [List.getD_eq_getElem?_getD, List.getElem?_eq_getElem hxp]; rfl
              have hKW := hK7.ch hcW (by simp; omega)
              have hPW := hP7.ch hcW
              obtain ⟨j, nn, right⟩ := x
              refine wpIn_block ?_
              refine wpIn_seq ?_
              refine ci_region (noOut_then (noOut_block noOut_up)) rfl ?_
              refine su ?_
              refine ldb (v := .bool right) hBx rfl rfl ?_
              refine en ?_
              refine x_then ?_
              cases right with
              | true =>
                refine ci_condb rfl (fun _ => ?_) (fun h => by cases h)
                refine ci_drawl 6 [] (noOut_block noOut_up) rfl (by kernel_rfl) (by kernel_rfl) (by kernel_rfl) (fun W8 hc8 hs8 => ?_)
                refine ldbg (hW7.ch hc8 (by simp)) (by simp) rfl rfl ?_
                (try refine wkg ?_)
                (try ((with_reducible apply is_gg); first | refine gtg ?_ | refine gfg ?_ | refine gug ?_)); refine ixg ((hPW.mv (Ch.refl [] W) (fun k _ h => by simp at h)).ch hc8) (fun b1 o1 x1 hx1 hA1 => ?_)
                rw [Int.toNat_natCast, hgd] at hx1
                obtain rfl := Option.some.inj hx1
                (try ((with_reducible apply is_gg); first | refine gtg ?_ | refine gfg ?_ | refine gug ?_)); refine ldrg hA1 ?_
                refine ldbrg (n := 32) (hW11.ch hc8 (by simp)) (by simp) rfl (ds := hcur.1.map u8v) (by simp [List.take_of_length_le, hcur.2]) (by simp [hcur.2]) ?_
                (try ((with_reducible apply is_gg); first | refine gtg ?_ | refine gfg ?_ | refine gug ?_)); refine cag (fun W9 hc9 => node_any (path.getD j zeroH).1 hcur.1 (path.getD j zeroH).2 hcur.2 W9 ((hKW.ch hc8 (by simp)).ch hc9 (by simp))) ?_
                refine lastg rfl (by kernel_rfl) (fun W9 hc9 => ?_)
                refine stbw (n := 32) ((hW11.ch hc8 (by simp)).ch hc9 (by simp)) rfl rfl (hv_len (nodeOf_len _ _)) (by simp [hcur.2]) one_u8 (fun W10 hB10 hch10 hs10 => ?_)
                refine x_last rfl rfl (fun W11 hc11 => ?_)
                have hce : Ch [b11] W W11 := (((Ch.some hc8).add hc9).then hch10).add hc11
                refine ⟨rfl, hce, hW7.ch hce (by simp; omega), hW8.ch hce (by simp; omega), ?_⟩
                rw [hfd2]
                exact hB10.ch hc11 (by simp)
              | false =>
                refine ci_condb rfl (fun h => by cases h) (fun _ => ?_)
                refine ci_drawl 6 [] (noOut_block noOut_up) rfl (by kernel_rfl) (by kernel_rfl) (by kernel_rfl) (fun W8 hc8 hs8 => ?_)
                refine ldbrg (n := 32) (hW11.ch hc8 (by simp)) (by simp) rfl (ds := hcur.1.map u8v) (by simp [List.take_of_length_le, hcur.2]) (by simp [hcur.2]) ?_
                refine ldbg (hW7.ch hc8 (by simp)) (by simp) rfl rfl ?_
                (try refine wkg ?_)
                (try ((with_reducible apply is_gg); first | refine gtg ?_ | refine gfg ?_ | refine gug ?_)); refine ixg ((hPW.mv (Ch.refl [] W) (fun k _ h => by simp at h)).ch hc8) (fun b1 o1 x1 hx1 hA1 => ?_)
                rw [Int.toNat_natCast, hgd] at hx1
                obtain rfl := Option.some.inj hx1
                (try ((with_reducible apply is_gg); first | refine gtg ?_ | refine gfg ?_ | refine gug ?_)); refine ldrg hA1 ?_
                (try ((with_reducible apply is_gg); first | refine gtg ?_ | refine gfg ?_ | refine gug ?_)); refine cag (fun W9 hc9 => node_any hcur.1 (path.getD j zeroH).1 hcur.2 (path.getD j zeroH).2 W9 ((hKW.ch hc8 (by simp)).ch hc9 (by simp))) ?_
                refine lastg rfl (by kernel_rfl) (fun W9 hc9 => ?_)
                refine stbw (n := 32) ((hW11.ch hc8 (by simp)).ch hc9 (by simp)) rfl rfl (hv_len (nodeOf_len _ _)) (by simp [hcur.2]) one_u8 (fun W10 hB10 hch10 hs10 => ?_)
                refine x_last rfl rfl (fun W11 hc11 => ?_)
                have hce : Ch [b11] W W11 := (((Ch.some hc8).add hc9).then hch10).add hc11
                refine ⟨rfl, hce, hW7.ch hce (by simp; omega), hW8.ch hce (by simp; omega), ?_⟩
                rw [hfd2]
                exact hB10.ch hc11 (by simp)
            · rintro D W hD hcW ⟨hW7, hW8, hW11⟩ hKD
              generalize hfd : (upl (turnsN N I)).foldl (stepC path) leaf = hcur at hW11 ⊢
              refine x_block ?_
              refine x_then ?_
              refine wp_seq ?_
              refine wp_region_lit ?_
              refine list_defers _ (fr _) _ (by kernel_rfl) (noOut_then noOut_M) ?_
              refine ldbr (n := 32) hW11 rfl (ds := hcur.1.map u8v) (by simp [List.take_of_length_le, hcur.2]) (by simp [hcur.2]) ?_
              refine stbw (n := 32) hW8 rfl rfl (hv_len hcur.2) (by simp) one_u8 (fun W2 hB82 hch2 hs2 => ?_)
              refine st ?_
              refine en ?_
              show Exit.then _ _ .normal (frd _ _) _
              refine x_then ?_
              refine wp_ret ?_
              have hDlt := (Array.getElem?_eq_some_iff.1 hKD).1
              refine post1 ((hch2.block D hDlt (by simp; omega)).trans hKD) ?_
              have hz2 := hch2.size
              have hcf : Ch [] w W2 := (hc7.own hcW (by omega)).own hch2 (by omega)
              exact outc2 rfl rfl ((hB82.put (by omega) _).row (n := 32) (o := 0) (ds := hcur.1.map u8v) (by simp [List.take_of_length_le, hcur.2])) (by simp [hcur.2]) ⟨rfl, hcf.own (Ch.put W2 D _) (by omega)⟩
          · have hz : climbZ (N : Int) (I : Int) leaf path = (zeroH, false) := by unfold climbZ; rw [if_neg (fun h => h5 h.2)]
            (try refine wk ?_)
            refine c_cond rfl (fun _ => ?_) (fun h => absurd (by omega) h)
            (try refine wk ?_)
            (try ((with_reducible apply is_gd); first | refine gt ?_ | refine gf ?_ | refine gu ?_)); refine wl_val (r_build_arr0 (e := 5)) ?_
            refine stbw (n := 32) (vs := zeroH.1.map u8v) hB8 rfl rfl (by simp [zeroH.2]) (by simp) one_u8 (fun wf hBf hchf hsf => ?_)
            (try refine wk ?_)
            refine post0 (outc2 rfl rfl (hBf.row (n := 32) (o := 0) (ds := zeroH.1.map u8v) (by simp [List.take_of_length_le, zeroH.2])) (by simp [zeroH.2]) ?_)
            rw [hz]
            exact ⟨rfl, hc4.own hchf (by omega)⟩
end Go.Proofs.YtoimhmphhffelaaGreatDoor
set_option linter.unusedVariables false
set_option linter.unusedSimpArgs false
namespace Go.Proofs.YtoimhmphhffelaaGreatDoor
open Go Go.RowKit Go.Proofs.E
attribute [local irreducible] Go.wpList Go.Code.wp Go.Proofs.E.exec Go.Proofs.E.wpLexG
def checkZ (root : Hs) (n i : Int) (leaf : Hs) (path : List Hs) : Bool := (climbZ n i leaf path).2 && decide ((climbZ n i leaf path).1 = root)
set_option maxHeartbeats 8000000 in
theorem check_any (root : Hs) (n i : Int) (leaf : Hs) (v : Value) (path : List Hs) (w : World) (hK : Laid w) (hR : (Ty.enc eH).Rd [] w v path) :
    Calls Tryz.prog 103 #[hv root.1, .int .i64 n, .int .i64 i, hv leaf.1, v] w (Ret fun u w' => u = .bool (checkZ root n i leaf path) ∧ Ch [] w w') := by
  refine enter [hv root.1, .int .i64 n, .int .i64 i, hv leaf.1, v, undef, undef, undef, undef, undef, undef, undef, undef, undef, undef, undef, undef, undef, undef, undef, undef, undef, undef, undef, undef, undef, undef] Tryz.func103 rfl rfl ?_
  (try refine wk ?_)
  refine wl_box rfl (fun w1 b5 hb5 => ?_)
  refine wl_box rfl (fun w3 b8 hb8 => ?_)
  have hB8 : Blk w3 b8 (leaf.1.map u8v) 28 := hb8.blk
  have hB5 : Blk w3 b5 (root.1.map u8v) 28 := Blk.ch (show Blk w1 b5 (root.1.map u8v) 28 from hb5.blk) hb8.ch (by simp)
  have hc3 : Ch [] w w3 := hb5.ch.then hb8.ch
  (try refine wk ?_)
  refine ldbr (n := 32) hB8 rfl (ds := leaf.1.map u8v) (by simp [List.take_of_length_le, leaf.2]) (by simp [leaf.2]) ?_
  (try refine wk ?_)
  (try ((with_reducible apply is_gd); first | refine gt ?_ | refine gf ?_ | refine gu ?_)); refine ca (climb_any n i leaf v path w3 (hK.ch hc3 (by simp)) (hR.ch hc3)) ?_
  rintro _ w4 ⟨rfl, hc4⟩
  have hB5 := hB5.ch hc4 (by simp)
  have hc4 : Ch [] w w4 := hc3.then hc4
  have z4 := hc4.size
  unfold checkZ
  generalize climbZ n i leaf path = cz
  obtain ⟨hh, ok⟩ := cz
  (try refine wk ?_)
  refine wl_alloc (fun w5 b11 hb11 => ?_)
  have e11 := hb11.at_
  refine stbw (n := 32) (cs := (List.replicate 32 (0 : UInt8)).map u8v) hb11.blk rfl rfl (hv_len hh.2) (by simp) one_u8 (fun w6 hB11 hch6 hs6 => ?_)
  have hc46 : Ch [] w4 w6 := hb11.ch.own hch6 (by omega)
  have hB5 := hB5.ch hc46 (by simp)
  have hc6 : Ch [] w w6 := hc4.then hc46
  cases ok with
  | false =>
    (try refine wk ?_)
    exact out1 rfl ⟨rfl, hc6⟩
  | true =>
    (try refine wk ?_)
    (try ((with_reducible apply is_gd); refine gt ?_))
    refine ldbr (n := 32) hB11 rfl (ds := hh.1.map u8v) (by simp [List.take_of_length_le, hh.2]) (by simp [hh.2]) ?_
    (try ((with_reducible apply is_gd); refine gt ?_))
    refine ldbr (n := 32) hB5 rfl (ds := root.1.map u8v) (by simp [List.take_of_length_le, root.2]) (by simp [root.2]) ?_
    (try ((with_reducible apply is_gd); refine gt ?_))
    refine wl_val (r_eql8 (n := 32) (a := hh.1) (b := root.1) Tryz.eqGuardType28 rfl rfl hh.2 root.2) ?_
    (try refine wk ?_)
    refine out1 rfl ⟨?_, hc6⟩
    show Value.bool _ = Value.bool _
    congr 1
    rw [Bool.true_and, decide_eq_decide]
    exact ⟨fun h => Subtype.ext h, fun h => congrArg Subtype.val h⟩
end Go.Proofs.YtoimhmphhffelaaGreatDoor

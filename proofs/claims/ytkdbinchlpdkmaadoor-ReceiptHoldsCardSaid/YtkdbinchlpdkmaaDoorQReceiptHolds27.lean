/- Walks: where a path leads to, the program's.
   Walks: where a path leads to, the reference's; whether that is a root, both. -/
import Derived.Test.YtkdbinchlpdkmaaDoorQReceiptHolds24
import Derived.Test.YtkdbinchlpdkmaaDoorQReceiptHolds26
set_option linter.unusedVariables false
set_option linter.unusedSimpArgs false
namespace Go.Proofs.YtkdbinchlpdkmaaDoor
open Go Go.RowKit Go.Proofs.E
attribute [local irreducible] Go.wpList Go.Code.wp Go.Proofs.E.exec Go.Proofs.E.wpLexG
def zeroH : Hs := ⟨List.replicate 32 0, by simp⟩
def inC (n i : Int) : Bool := decide (1 ≤ n) && decide (n ≤ 1099511627776) && decide (0 ≤ i) && decide (i < n)
theorem inC_t {n i : Nat} (h1 : n ≤ 1099511627776) (h2 : i < n) : inC (n : Int) (i : Int) = true := by
  unfold inC
  rw [decide_eq_true (by omega : (1 : Int) ≤ (n : Int)), decide_eq_true (by omega : (n : Int) ≤ 1099511627776), decide_eq_true (by omega : (0 : Int) ≤ (i : Int)), decide_eq_true (by omega : (i : Int) < (n : Int))]
  rfl
theorem inC_f {n i : Int} (h : n < 1 ∨ 1099511627776 < n ∨ i < 0 ∨ n ≤ i) : inC n i = false := by
  cases hc : inC n i with
  | false => rfl
  | true =>
    unfold inC at hc
    simp only [Bool.and_eq_true, decide_eq_true_eq] at hc
    omega
/-- One step up. -/
def stepC (path : List Hs) (h : Hs) (x : Nat × (Nat × Bool)) : Hs := if x.2.2 = true then nodeH (path.getD x.1 zeroH) h else nodeH h (path.getD x.1 zeroH)
def climbZ (n i : Int) (leaf : Hs) (path : List Hs) : Hs × Bool :=
  if inC n i = true ∧ (turnsN n.toNat i.toNat).length = path.length then ((upl (turnsN n.toNat i.toNat)).foldl (stepC path) leaf, true) else (zeroH, false)
theorem climbZ_f {n i : Int} {leaf : Hs} {path : List Hs} (h : inC n i = false) : climbZ n i leaf path = (zeroH, false) := by unfold climbZ; rw [if_neg (by rw [h]; simp)]
theorem up_any (v : Value) (w : World) (A : Option Addr) (n c : Nat) (hv : v = .slice A n c) : Calls Tryd.prog 104 #[v] w (Ret fun u w' => ∃ bx, u = .func (.func 141) #[] #[.pointer (some ⟨bx, 0, none⟩)] ∧ New w w' bx [v] 177) := by
  subst hv
  refine enter [.slice A n c, undef, undef, undef] Tryd.func104 rfl rfl ?_
  (try refine wk ?_)
  refine wl_box rfl (fun w1 b hb => ?_)
  (try refine wk ?_)
  (try ((with_reducible apply is_gd); first | refine gt ?_ | refine gf ?_ | refine gu ?_)); refine wl_val (r_makeFunc (cs := [.tmp 1])) ?_
  (try refine wk ?_)
  exact out1 rfl ⟨b, rfl, hb⟩
set_option maxHeartbeats 16000000 in
theorem climb_any (n i : Int) (leaf : Hs) (v : Value) (path : List Hs) (w : World) (hK : Laid w) (hR : (Ty.enc eH).Rd [] w v path) :
    Calls Tryd.prog 53 #[.int .i64 n, .int .i64 i, hv leaf.1, v] w (Ret fun u w' => u = .tuple #[hv (climbZ n i leaf path).1.1, .bool (climbZ n i leaf path).2] ∧ Ch [] w w') := by
  refine enterM [.int .i64 n, .int .i64 i, hv leaf.1, v, undef, undef, undef, undef, undef, undef, undef, undef, undef, undef, undef, undef, undef, undef, undef, undef, undef, undef, undef, undef, undef, undef, undef, undef, undef, undef, undef, undef, undef, undef, undef, undef, undef, undef, undef, undef, undef, undef, undef, undef, undef, undef, undef, undef, undef, undef, undef, undef, undef, undef, undef, undef, undef, undef, undef] Tryd.func53 rfl rfl ?_
  have hple := hR.le
  obtain ⟨A, cap, rfl⟩ := hR.form
  (try refine wk ?_)
  refine wl_box rfl (fun w1 b6 hb6 => ?_)
  refine wl_box rfl (fun w2 b7 hb7 => ?_)
  refine wl_alloc (fun w3 b8 hb8 => ?_)
  have hB8 : Blk w3 b8 ((List.replicate 32 (0 : UInt8)).map u8v) 30 := hb8.blk
  have hB7 : Blk w3 b7 [.slice A path.length cap] 27 := Blk.ch (show Blk w2 b7 [.slice A path.length cap] 27 from hb7.blk) hb8.ch (by simp)
  have hB6 : Blk w3 b6 (leaf.1.map u8v) 30 := (Blk.ch (show Blk w1 b6 (leaf.1.map u8v) 30 from hb6.blk) hb7.ch (by simp)).ch hb8.ch (by simp)
  have e6 := hb6.at_
  have e7 := hb7.at_
  have e8 := hb8.at_
  have s6 := hb6.size
  have s7 := hb7.size
  have s8 := hb8.size
  have hc3 : Ch [] w w3 := (hb6.ch.then hb7.ch).then hb8.ch
  by_cases h1 : n < 1
  · (try refine wk ?_)
    refine c_condb rfl (fun _ => ?_) (fun h => by cases h)
    (try refine wk ?_)
    (try ((with_reducible apply is_gd); first | refine gt ?_ | refine gf ?_ | refine gu ?_)); refine wl_val (r_build_arr0 (e := 5)) ?_
    refine stbw (n := 32) (vs := zeroH.1.map u8v) hB8 rfl rfl (by simp [zeroH.2]) (by simp) one_u8 (fun wf hBf hchf hsf => ?_)
    (try refine wk ?_)
    refine post0 (outc2 rfl rfl (hBf.row (n := 32) (o := 0) (ds := zeroH.1.map u8v) (by simp [List.take_of_length_le, zeroH.2])) (by simp [zeroH.2]) ?_)
    rw [climbZ_f (inC_f (by omega))]
    exact ⟨rfl, hc3.own hchf (by omega)⟩
  · by_cases h2 : 1099511627776 < n
    · (try refine wk ?_)
      refine c_condb rfl (fun _ => ?_) (fun h => by cases h)
      (try refine wk ?_)
      (try ((with_reducible apply is_gd); first | refine gt ?_ | refine gf ?_ | refine gu ?_)); refine wl_val (r_build_arr0 (e := 5)) ?_
      refine stbw (n := 32) (vs := zeroH.1.map u8v) hB8 rfl rfl (by simp [zeroH.2]) (by simp) one_u8 (fun wf hBf hchf hsf => ?_)
      (try refine wk ?_)
      refine post0 (outc2 rfl rfl (hBf.row (n := 32) (o := 0) (ds := zeroH.1.map u8v) (by simp [List.take_of_length_le, zeroH.2])) (by simp [zeroH.2]) ?_)
      rw [climbZ_f (inC_f (by omega))]
      exact ⟨rfl, hc3.own hchf (by omega)⟩
    · by_cases h3 : i < 0
      · (try refine wk ?_)
        refine c_condb rfl (fun _ => ?_) (fun h => by cases h)
        (try refine wk ?_)
        (try ((with_reducible apply is_gd); first | refine gt ?_ | refine gf ?_ | refine gu ?_)); refine wl_val (r_build_arr0 (e := 5)) ?_
        refine stbw (n := 32) (vs := zeroH.1.map u8v) hB8 rfl rfl (by simp [zeroH.2]) (by simp) one_u8 (fun wf hBf hchf hsf => ?_)
        (try refine wk ?_)
        refine post0 (outc2 rfl rfl (hBf.row (n := 32) (o := 0) (ds := zeroH.1.map u8v) (by simp [List.take_of_length_le, zeroH.2])) (by simp [zeroH.2]) ?_)
        rw [climbZ_f (inC_f (by omega))]
        exact ⟨rfl, hc3.own hchf (by omega)⟩
      · by_cases h4 : n ≤ i
        · (try refine wk ?_)
          refine c_cond rfl (fun _ => ?_) (fun h => absurd h4 h)
          (try refine wk ?_)
          (try ((with_reducible apply is_gd); first | refine gt ?_ | refine gf ?_ | refine gu ?_)); refine wl_val (r_build_arr0 (e := 5)) ?_
          refine stbw (n := 32) (vs := zeroH.1.map u8v) hB8 rfl rfl (by simp [zeroH.2]) (by simp) one_u8 (fun wf hBf hchf hsf => ?_)
          (try refine wk ?_)
          refine post0 (outc2 rfl rfl (hBf.row (n := 32) (o := 0) (ds := zeroH.1.map u8v) (by simp [List.take_of_length_le, zeroH.2])) (by simp [zeroH.2]) ?_)
          rw [climbZ_f (inC_f (by omega))]
          exact ⟨rfl, hc3.own hchf (by omega)⟩
        · obtain ⟨N, rfl⟩ := Int.eq_ofNat_of_zero_le (by omega : 0 ≤ n)
          obtain ⟨I, rfl⟩ := Int.eq_ofNat_of_zero_le (by omega : 0 ≤ i)
          have hin := inC_t (n := N) (i := I) (by omega) (by omega)
          (try refine wk ?_)
          refine c_cond rfl (fun h => absurd h h4) (fun _ => ?_)
          (try refine wk ?_)
          (try ((with_reducible apply is_gd); first | refine gt ?_ | refine gf ?_ | refine gu ?_)); refine ca (turns_any N I (by omega) (by omega) w3) ?_
          rintro tv w4 ⟨hc4, hT⟩
          have htl := turns_len N I
          have hTr := hT.rd (S := []) (by simp) (by omega)
          obtain ⟨At, ct, rfl⟩ := hTr.form
          have hB6 := hB6.ch hc4 (by simp)
          have hB7 := hB7.ch hc4 (by simp)
          have hB8 := hB8.ch hc4 (by simp)
          have z4 := hc4.size
          have hc4 : Ch [] w w4 := hc3.then hc4
          (try refine wk ?_)
          refine ldb hB7 rfl rfl ?_
          by_cases h5 : (turnsN N I).length = path.length
          · have hz : climbZ (N : Int) (I : Int) leaf path = ((upl (turnsN N I)).foldl (stepC path) leaf, true) := by unfold climbZ; rw [if_pos ⟨hin, h5⟩]; rfl
            rw [hz]
            (try refine wk ?_)
            refine c_cond rfl (fun h => absurd h (by omega)) (fun _ => ?_)
            (try refine wk ?_)
            refine ldbr (n := 32) hB6 rfl (ds := leaf.1.map u8v) (by simp [List.take_of_length_le, leaf.2]) (by simp [leaf.2]) ?_
            refine wl_alloc (fun w5 b11 hb11 => ?_)
            have e11 := hb11.at_
            have s11 := hb11.size
            refine stbw (n := 32) (cs := (List.replicate 32 (0 : UInt8)).map u8v) hb11.blk rfl rfl (hv_len leaf.2) (by simp) one_u8 (fun w6 hB11 hch6 hs6 => ?_)
            have hc46 : Ch [] w4 w6 := hb11.ch.own hch6 (by omega)
            have hB7 := hB7.ch hc46 (by simp)
            have hB8 := hB8.ch hc46 (by simp)
            have hTr6 := hTr.ch hc46
            (try refine wk ?_)
            (try ((with_reducible apply is_gd); first | refine gt ?_ | refine gf ?_ | refine gu ?_)); refine ca (up_any _ w6 _ _ _ rfl) ?_
            rintro _ w7 ⟨bx, rfl, hbx⟩
            have ex := hbx.at_
            have sx := hbx.size
            have hB7 := hB7.ch hbx.ch (by simp)
            have hB8 := hB8.ch hbx.ch (by simp)
            have hB11 := hB11.ch hbx.ch (by simp)
            have hTr7 := hTr6.ch hbx.ch
            have hc7 : Ch [] w w7 := (hc4.then hc46).then hbx.ch
            have hP7 : (Ty.enc eH).Rd [b11] w7 (.slice A path.length cap) path := hR.mv hc7.some (fun k hk hm => by simp at hm; omega)
            have hT7 : (Ty.enc eT).Rd [b11] w7 (.slice At (turnsN N I).length ct) (turnsN N I) := hTr.mv (S' := [b11]) ((hc46.then hbx.ch).some) (fun k hk hm => by simp at hm; omega)
            have hK7 := hK.ch hc7 (by simp)
            (try refine wk ?_)
            refine c_up 12 13 (S := [b11]) hbx.blk (by simp; omega) (by simp; omega) hT7 (by omega) rfl
              (fun pre W => Blk W b7 [.slice A path.length cap] 27 ∧ Blk W b8 ((List.replicate 32 (0 : UInt8)).map u8v) 30 ∧ Blk W b11 ((pre.foldl (stepC path) leaf).1.map u8v) 30)
              (fun pre W W' h hsame => ⟨(hsame _ (by omega)).trans h.1, (hsame _ (by omega)).trans h.2.1, (hsame _ (by omega)).trans h.2.2⟩) ⟨hB7, hB8, hB11⟩ ?_ ?_ ?_
            · intro r x W K hKK
              refine wpIn_seq ?_
              refine ci_region (noOut_then noOut_f) rfl ?_
              refine st ?_
              refine en ?_
              refine x_then ?_
              refine ci_region (noOut_then noOut_f) rfl ?_
              refine wl_alloc (fun W1 b13 hb13 => ?_)
              refine stbw (n := 2) (vs := eT.f x.2) hb13.blk rfl rfl rfl rfl (eT.h1 x.2) (fun W2 hB13 hch2 hs2 => ?_)
              have e13 := hb13.at_
              refine wl_nil ?_
              exact hKK b13 W2 (by omega) (hb13.ch.own hch2 (by omega)) hB13
            · rintro r pre x b W hxl hcW ⟨hW7, hW8, hW11⟩ hb hBx
              generalize hfd : pre.foldl (stepC path) leaf = hcur at hW11
              have hfd2 : (pre ++ [x]).foldl (stepC path) leaf = stepC path hcur x := by rw [List.foldl_append, hfd]; rfl
              have hxp : x.1 < path.length := by omega
              have hgd : path[x.1]? = some (path.getD x.1 zeroH) := by rw [List.getD_eq_getElem?_getD, List.getElem?_eq_getElem hxp]; rfl
              have hKW := hK7.ch hcW (by simp; omega)
              have hPW := hP7.ch hcW
              obtain ⟨j, nn, right⟩ := x
              refine wpIn_block ?_
              refine wpIn_seq ?_
              refine ci_region (noOut_then (noOut_block noOut_up)) rfl ?_
              refine su ?_
              refine ldb (v := .bool right) hBx rfl rfl ?_
              refine en ?_
              refine x_then ?_
              cases right with
              | true =>
                refine ci_condb rfl (fun _ => ?_) (fun h => by cases h)
                refine ci_drawl 6 [] (noOut_block noOut_up) rfl (by kernel_rfl) (by kernel_rfl) (by kernel_rfl) (fun W8 hc8 hs8 => ?_)
                refine ldbg (hW7.ch hc8 (by simp)) (by simp) rfl rfl ?_
                (try refine wkg ?_)
                (try ((with_reducible apply is_gg); first | refine gtg ?_ | refine gfg ?_ | refine gug ?_)); refine ixg ((hPW.mv (Ch.refl [] W) (fun k _ h => by simp at h)).ch hc8) (fun b1 o1 x1 hx1 hA1 => ?_)
                rw [Int.toNat_natCast, hgd] at hx1
                obtain rfl := Option.some.inj hx1
                (try ((with_reducible apply is_gg); first | refine gtg ?_ | refine gfg ?_ | refine gug ?_)); refine ldrg hA1 ?_
                refine ldbrg (n := 32) (hW11.ch hc8 (by simp)) (by simp) rfl (ds := hcur.1.map u8v) (by simp [List.take_of_length_le, hcur.2]) (by simp [hcur.2]) ?_
                (try ((with_reducible apply is_gg); first | refine gtg ?_ | refine gfg ?_ | refine gug ?_)); refine cag (fun W9 hc9 => node_any (path.getD j zeroH).1 hcur.1 (path.getD j zeroH).2 hcur.2 W9 ((hKW.ch hc8 (by simp)).ch hc9 (by simp))) ?_
                refine lastg rfl (by kernel_rfl) (fun W9 hc9 => ?_)
                refine stbw (n := 32) ((hW11.ch hc8 (by simp)).ch hc9 (by simp)) rfl rfl (hv_len (nodeOf_len _ _)) (by simp [hcur.2]) one_u8 (fun W10 hB10 hch10 hs10 => ?_)
                refine x_last rfl rfl (fun W11 hc11 => ?_)
                have hce : Ch [b11] W W11 := (((Ch.some hc8).add hc9).then hch10).add hc11
                refine ⟨rfl, hce, hW7.ch hce (by simp; omega), hW8.ch hce (by simp; omega), ?_⟩
                rw [hfd2]
                exact hB10.ch hc11 (by simp)
              | false =>
                refine ci_condb rfl (fun h => by cases h) (fun _ => ?_)
                refine ci_drawl 6 [] (noOut_block noOut_up) rfl (by kernel_rfl) (by kernel_rfl) (by kernel_rfl) (fun W8 hc8 hs8 => ?_)
                refine ldbrg (n := 32) (hW11.ch hc8 (by simp)) (by simp) rfl (ds := hcur.1.map u8v) (by simp [List.take_of_length_le, hcur.2]) (by simp [hcur.2]) ?_
                refine ldbg (hW7.ch hc8 (by simp)) (by simp) rfl rfl ?_
                (try refine wkg ?_)
                (try ((with_reducible apply is_gg); first | refine gtg ?_ | refine gfg ?_ | refine gug ?_)); refine ixg ((hPW.mv (Ch.refl [] W) (fun k _ h => by simp at h)).ch hc8) (fun b1 o1 x1 hx1 hA1 => ?_)
                rw [Int.toNat_natCast, hgd] at hx1
                obtain rfl := Option.some.inj hx1
                (try ((with_reducible apply is_gg); first | refine gtg ?_ | refine gfg ?_ | refine gug ?_)); refine ldrg hA1 ?_
                (try ((with_reducible apply is_gg); first | refine gtg ?_ | refine gfg ?_ | refine gug ?_)); refine cag (fun W9 hc9 => node_any hcur.1 (path.getD j zeroH).1 hcur.2 (path.getD j zeroH).2 W9 ((hKW.ch hc8 (by simp)).ch hc9 (by simp))) ?_
                refine lastg rfl (by kernel_rfl) (fun W9 hc9 => ?_)
                refine stbw (n := 32) ((hW11.ch hc8 (by simp)).ch hc9 (by simp)) rfl rfl (hv_len (nodeOf_len _ _)) (by simp [hcur.2]) one_u8 (fun W10 hB10 hch10 hs10 => ?_)
                refine x_last rfl rfl (fun W11 hc11 => ?_)
                have hce : Ch [b11] W W11 := (((Ch.some hc8).add hc9).then hch10).add hc11
                refine ⟨rfl, hce, hW7.ch hce (by simp; omega), hW8.ch hce (by simp; omega), ?_⟩
                rw [hfd2]
                exact hB10.ch hc11 (by simp)
            · rintro D W hD hcW ⟨hW7, hW8, hW11⟩ hKD
              generalize hfd : (upl (turnsN N I)).foldl (stepC path) leaf = hcur at hW11 ⊢
              refine x_block ?_
              refine x_then ?_
              refine wp_seq ?_
              refine wp_region_lit ?_
              refine list_defers _ (fr _) _ (by kernel_rfl) (noOut_then noOut_M) ?_
              refine ldbr (n := 32) hW11 rfl (ds := hcur.1.map u8v) (by simp [List.take_of_length_le, hcur.2]) (by simp [hcur.2]) ?_
              refine stbw (n := 32) hW8 rfl rfl (hv_len hcur.2) (by simp) one_u8 (fun W2 hB82 hch2 hs2 => ?_)
              refine st ?_
              refine en ?_
              show Exit.then _ _ .normal (frd _ _) _
              refine x_then ?_
              refine wp_ret ?_
              have hDlt := (Array.getElem?_eq_some_iff.1 hKD).1
              refine post1 ((hch2.block D hDlt (by simp; omega)).trans hKD) ?_
              have hz2 := hch2.size
              have hcf : Ch [] w W2 := (hc7.own hcW (by omega)).own hch2 (by omega)
              exact outc2 rfl rfl ((hB82.put (by omega) _).row (n := 32) (o := 0) (ds := hcur.1.map u8v) (by simp [List.take_of_length_le, hcur.2])) (by simp [hcur.2]) ⟨rfl, hcf.own (Ch.put W2 D _) (by omega)⟩
          · have hz : climbZ (N : Int) (I : Int) leaf path = (zeroH, false) := by unfold climbZ; rw [if_neg (fun h => h5 h.2)]
            (try refine wk ?_)
            refine c_cond rfl (fun _ => ?_) (fun h => absurd (by omega) h)
            (try refine wk ?_)
            (try ((with_reducible apply is_gd); first | refine gt ?_ | refine gf ?_ | refine gu ?_)); refine wl_val (r_build_arr0 (e := 5)) ?_
            refine stbw (n := 32) (vs := zeroH.1.map u8v) hB8 rfl rfl (by simp [zeroH.2]) (by simp) one_u8 (fun wf hBf hchf hsf => ?_)
            (try refine wk ?_)
            refine post0 (outc2 rfl rfl (hBf.row (n := 32) (o := 0) (ds := zeroH.1.map u8v) (by simp [List.take_of_length_le, zeroH.2])) (by simp [zeroH.2]) ?_)
            rw [hz]
            exact ⟨rfl, hc4.own hchf (by omega)⟩
end Go.Proofs.YtkdbinchlpdkmaaDoor
set_option linter.unusedVariables false
set_option linter.unusedSimpArgs false
namespace Go.Proofs.YtkdbinchlpdkmaaDoor
open Go Go.RowKit Go.Proofs.E
attribute [local irreducible] Go.wpList Go.Code.wp Go.Proofs.E.exec Go.Proofs.E.wpLexG
theorem upl_cons (t : Nat × Bool) (ts : List (Nat × Bool)) : upl (t :: ts) = upl ts ++ [(ts.length, t)] := by
  unfold upl
  rw [List.reverse_cons, List.zipIdx_append, List.map_append]
  simp
theorem upl_mem {ts : List (Nat × Bool)} {x : Nat × (Nat × Bool)} (h : x ∈ upl ts) : x.1 < ts.length := by
  unfold upl at h
  obtain ⟨p, hp, rfl⟩ := List.mem_map.1 h
  have := List.snd_lt_of_mem_zipIdx hp
  simpa using this
theorem fold_take {path : List Hs} {k : Nat} : ∀ (xs : List (Nat × (Nat × Bool))) (h : Hs), (∀ x ∈ xs, x.1 < k) → xs.foldl (stepC (path.take k)) h = xs.foldl (stepC path) h
  | [], h, _ => rfl
  | x :: xs, h, hk => by
    have e : stepC (path.take k) h x = stepC path h x := by
      unfold stepC
      have := hk x (by simp)
      rw [List.getD_eq_getElem?_getD, List.getD_eq_getElem?_getD, List.getElem?_take, if_pos this]
    rw [List.foldl_cons, List.foldl_cons, e, fold_take xs _ (fun y hy => hk y (by simp [hy]))]
def foldC (path : List Hs) (leaf : Hs) (n i : Nat) : Hs := (upl (turnsN n i)).foldl (stepC path) leaf
theorem fold_left {path : List Hs} {leaf last : Hs} {n i : Nat} (h2 : 2 ≤ n) (hb : n ≤ 9223372036854775807) (hi : i < splitN n) (hp : path ≠ []) (hl : path[path.length - 1]? = some last) :
    ((turnsN n i).length = path.length ↔ (turnsN (splitN n) i).length = (path.take (path.length - 1)).length) ∧ ((turnsN n i).length = path.length → foldC path leaf n i = nodeH (foldC (path.take (path.length - 1)) leaf (splitN n) i) last) := by
  have h0 : 0 < path.length := List.length_pos_iff.2 hp
  unfold foldC
  rw [turns_left h2 hb hi, List.length_cons, List.length_take, upl_cons, List.foldl_append]
  refine ⟨by omega, fun h => ?_⟩
  rw [fold_take _ _ (fun x hx => by have := upl_mem hx; omega)]
  rw [List.foldl_cons, List.foldl_nil]
  unfold stepC
  rw [if_neg (by simp)]
  congr 1
  rw [List.getD_eq_getElem?_getD, show (turnsN (splitN n) i).length = path.length - 1 by omega, hl]
  rfl
theorem fold_right {path : List Hs} {leaf last : Hs} {n i : Nat} (h2 : 2 ≤ n) (hb : n ≤ 9223372036854775807) (hi : ¬ i < splitN n) (hp : path ≠ []) (hl : path[path.length - 1]? = some last) :
    ((turnsN n i).length = path.length ↔ (turnsN (n - splitN n) (i - splitN n)).length = (path.take (path.length - 1)).length) ∧ ((turnsN n i).length = path.length → foldC path leaf n i = nodeH last (foldC (path.take (path.length - 1)) leaf (n - splitN n) (i - splitN n))) := by
  have h0 : 0 < path.length := List.length_pos_iff.2 hp
  unfold foldC
  rw [turns_right h2 hb hi, List.length_cons, List.length_take, upl_cons, List.foldl_append]
  refine ⟨by omega, fun h => ?_⟩
  rw [fold_take _ _ (fun x hx => by have := upl_mem hx; omega)]
  rw [List.foldl_cons, List.foldl_nil]
  unfold stepC
  rw [if_pos rfl]
  congr 1
  rw [List.getD_eq_getElem?_getD, show (turnsN (n - splitN n) (i - splitN n)).length = path.length - 1 by omega, hl]
  rfl
set_option maxHeartbeats 16000000 in
theorem rclimbs_any (n : Nat) : ∀ (i : Nat) (leaf : Hs) (v : Value) (path : List Hs) (w : World), (Ty.enc eH).Rd [] w v path → n ≤ 1099511627776 → i < n →
    Calls Tryd.prog 81 #[.int .i64 (n : Int), .int .i64 (i : Int), hv leaf.1, v] w (Ret fun u w' => ∃ hh : Hs, u = .tuple #[hv hh.1, .bool (decide ((turnsN n i).length = path.length))] ∧ ((turnsN n i).length = path.length → hh = foldC path leaf n i) ∧ Ch [] w w') := by
  induction n using Nat.strongRecOn with
  | _ n ih =>
  intro i leaf v path w hR hn hin
  refine enter [.int .i64 (n : Int), .int .i64 (i : Int), hv leaf.1, v, undef, undef, undef, undef, undef, undef, undef, undef, undef, undef, undef, undef, undef, undef, undef, undef, undef, undef, undef, undef, undef, undef, undef, undef, undef, undef, undef, undef, undef, undef, undef, undef, undef, undef, undef, undef, undef, undef, undef, undef, undef, undef, undef, undef, undef, undef, undef, undef, undef, undef, undef, undef, undef, undef, undef, undef, undef, undef, undef, undef, undef, undef, undef, undef, undef, undef, undef, undef, undef] Tryd.func81 rfl rfl ?_
  have hple := hR.le
  obtain ⟨A, cap, rfl⟩ := hR.form
  (try refine wk ?_)
  refine wl_box rfl (fun w1 b6 hb6 => ?_)
  refine wl_alloc (fun w3 b8 hb8 => ?_)
  have hB8 : Blk w3 b8 ((List.replicate 32 (0 : UInt8)).map u8v) 30 := hb8.blk
  have hB6 : Blk w3 b6 (leaf.1.map u8v) 30 := Blk.ch (show Blk w1 b6 (leaf.1.map u8v) 30 from hb6.blk) hb8.ch (by simp)
  have e6 := hb6.at_
  have e8 := hb8.at_
  have s6 := hb6.size
  have s8 := hb8.size
  have hc3 : Ch [] w w3 := hb6.ch.then hb8.ch
  (try refine wk ?_)
  refine c_cond rfl (fun h1 => ?_) (fun h1 => ?_)
  · have ht : turnsN n i = [] := turns_one (by omega)
    (try refine wk ?_)
    refine ldbr (n := 32) hB6 rfl (ds := leaf.1.map u8v) (by simp [List.take_of_length_le, leaf.2]) (by simp [leaf.2]) ?_
    (try refine wk ?_)
    refine stbw (n := 32) hB8 rfl rfl (hv_len leaf.2) (by simp) one_u8 (fun w4 hB4 hch4 hs4 => ?_)
    (try refine wk ?_)
    refine outc2 rfl rfl (hB4.row (n := 32) (o := 0) (ds := leaf.1.map u8v) (by simp [List.take_of_length_le, leaf.2])) (by simp [leaf.2]) ⟨leaf, ?_, fun _ => by unfold foldC; rw [ht]; rfl, hc3.own hch4 (by omega)⟩
    rw [ht, decide_eq_decide.2 (show ([] : List (Nat × Bool)).length = path.length ↔ ((path.length : Int) = 0) by rw [List.length_nil]; omega)]
    rfl
  · (try refine wk ?_)
    refine c_cond rfl (fun h2 => ?_) (fun h2 => ?_)
    · (try refine wk ?_)
      (try ((with_reducible apply is_gd); first | refine gt ?_ | refine gf ?_ | refine gu ?_)); refine wl_val (r_build_arr0 (e := 5)) ?_
      refine stbw (n := 32) (vs := zeroH.1.map u8v) hB8 rfl rfl (by simp [zeroH.2]) (by simp) one_u8 (fun wf hBf hchf hsf => ?_)
      (try refine wk ?_)
      have hne : ¬ (turnsN n i).length = path.length := fun h => by
        rcases Nat.lt_or_ge i (splitN n) with hs | hs
        · rw [turns_left (by omega) (by omega) hs, List.length_cons] at h
          omega
        · rw [turns_right (by omega) (by omega) (by omega), List.length_cons] at h
          omega
      refine outc2 rfl rfl (hBf.row (n := 32) (o := 0) (ds := zeroH.1.map u8v) (by simp [List.take_of_length_le, zeroH.2])) (by simp [zeroH.2]) ⟨zeroH, ?_, fun h => absurd h hne, hc3.own hchf (by omega)⟩
      rw [decide_eq_false hne]
      rfl
    · obtain ⟨hk0, hk1⟩ := splitN_lt (n := n) (by omega) (by omega)
      have hne : path ≠ [] := fun e => h2 (by rw [e]; rfl)
      have hp0 : 0 < path.length := List.length_pos_iff.2 hne
      (try refine wk ?_)
      (try ((with_reducible apply is_gd); first | refine gt ?_ | refine gf ?_ | refine gu ?_)); refine ca (rsplit_any (n : Int) (by omega) w3) ?_
      rintro _ w4 ⟨rfl, hw4⟩
      subst hw4
      rw [splitZ_nat]
      (try refine wk ?_)
      (try ((with_reducible apply is_gd); first | refine gt ?_ | refine gf ?_ | refine gu ?_)); refine ix (hR.ch hc3) (fun b5 o5 last hlast hA5 => ?_)
      rw [show ((path.length : Int) - 1).toNat = path.length - 1 by omega] at hlast
      (try ((with_reducible apply is_gd); first | refine gt ?_ | refine gf ?_ | refine gu ?_)); refine ldr hA5 ?_
      refine wl_alloc (fun w5 b11 hb11 => ?_)
      have e11 := hb11.at_
      refine stbw (n := 32) (cs := (List.replicate 32 (0 : UInt8)).map u8v) hb11.blk rfl rfl (hv_len last.2) (by simp) one_u8 (fun wx hB110 hch6 hs6 => ?_)
      have hc46 : Ch [] w4 wx := hb11.ch.own hch6 (by omega)
      have hB6 := hB6.ch hc46 (by simp)
      have hB80 := hB8.ch hc46 (by simp)
      have hcx : Ch [] w wx := hc3.then hc46
      have zx := hcx.size
      have hRx := hR.ch hcx
      by_cases hi : i < splitN n
      · (try refine wk ?_)
        refine c_cond rfl (fun _ => ?_) (fun h => absurd (by omega : (i : Int) < splitN n) h)
        (try refine wk ?_)
        
        refine Code.wp_mono (Q := fun e a w' => e = .normal ∧ ∃ (l : List Value) (bq : Nat) (hh : Hs), a = fr l ∧ (∃ jj : Nat → Value, l = [jj 0, jj 1, jj 2, .slice A path.length cap, jj 4, jj 5, jj 6, jj 7, .pointer (some ⟨b8, 0, none⟩), jj 9, jj 10, .pointer (some ⟨b11, 0, none⟩), .pointer (some ⟨bq, 0, none⟩), .bool (decide ((turnsN (splitN n) i).length = (path.take (path.length - 1)).length)), jj 14, jj 15, jj 16, jj 17, jj 18, jj 19, jj 20, jj 21, jj 22, jj 23, jj 24, jj 25, jj 26, jj 27, jj 28, jj 29, jj 30, jj 31, jj 32, jj 33, jj 34, jj 35, jj 36, jj 37, jj 38, jj 39, jj 40, jj 41, jj 42, jj 43, jj 44, jj 45, jj 46, jj 47, jj 48, jj 49, jj 50, jj 51, jj 52, jj 53, jj 54, jj 55, jj 56, jj 57, jj 58, jj 59, jj 60, jj 61, jj 62, jj 63, jj 64, jj 65, jj 66, jj 67, jj 68, jj 69, jj 70, jj 71, jj 72]) ∧ Ch [] wx w' ∧ Blk w' bq (hh.1.map u8v) 30 ∧ (((turnsN (splitN n) i).length = (path.take (path.length - 1)).length) → hh = foldC (path.take (path.length - 1)) leaf (splitN n) i)) ?_ ?_
        rotate_left
        · refine c_ordZ ([13], [11]) [] Tru (by kernel_rfl) (by kernel_rfl) (by kernel_rfl) (fun w5 hc5 hs5 => ?_)
          have hB6 := hB6.ch hc5 (by simp)
          have hRx := hRx.ch hc5
          (first | refine zn 0 rfl ?_ | refine znt 0 rfl ?_ | refine znff 0 rfl ?_); (first | refine zn 1 rfl ?_ | refine znt 1 rfl ?_ | refine znff 1 rfl ?_)
          refine znlr 2 rfl (n := 32) hB6 (by simp) rfl (ds := leaf.1.map u8v) (by simp [List.take_of_length_le, leaf.2]) (by simp [leaf.2]) ?_
          (first | refine zn 3 rfl ?_ | refine znt 3 rfl ?_ | refine znff 3 rfl ?_); (first | refine zn 4 rfl ?_ | refine znt 4 rfl ?_ | refine znff 4 rfl ?_); (first | refine zn 5 rfl ?_ | refine znt 5 rfl ?_ | refine znff 5 rfl ?_); (first | refine zn 6 rfl ?_ | refine znt 6 rfl ?_ | refine znff 6 rfl ?_)
          refine zn_cut_hi 7 rfl hRx rfl rfl rfl (by omega) (by omega) (fun v4 hV4 => ?_)
          rw [show ((path.length : Int) - 1).toNat = path.length - 1 by omega] at hV4
          refine zn2 8 12 (by kernel_rfl) rfl rfl (fun w6 hG6 => ?_) (fun w6 hG6 => ?_)
          · (try ((with_reducible apply is_gd); first | refine gt ?_ | refine gf ?_ | refine gu ?_)); refine ca (ih (splitN n) (by omega) i leaf v4 (path.take (path.length - 1)) w6 (hV4.ch hG6.ch) (by omega) (by omega)) ?_
            rintro _ w7 ⟨hh, rfl, hhf, hc7⟩
            refine x_wz (.inl (Gr.new stab_tru hc7)) rfl ?_
            (first | refine zn 9 rfl ?_ | refine znt 9 rfl ?_ | refine znff 9 rfl ?_); (first | refine zn 10 rfl ?_ | refine znt 10 rfl ?_ | refine znff 10 rfl ?_); (first | refine zn 11 rfl ?_ | refine znt 11 rfl ?_ | refine znff 11 rfl ?_)
            refine zn1 12 (by kernel_rfl) rfl (fun w8 hG8 => ?_)
            refine wl_alloc (fun w9 bq hbq => ?_)
            refine x_wz (.inl (Gr.new stab_tru hbq.ch)) rfl ?_
            have hc9 : Ch [] wx w9 := (((hc5.then hG6.ch).then hc7).then hG8.ch).then hbq.ch
            have hle : wx.heap.size ≤ bq := by rw [hbq.at_]; exact (((hc5.then hG6.ch).then hc7).then hG8.ch).size
            have hBq : Blk w9 bq ((List.replicate 32 (0 : UInt8)).map u8v) 30 := hbq.blk
            refine zn1 13 (by kernel_rfl) rfl (fun w10 hG10 => ?_)
            refine stbw (n := 32) (hBq.ch hG10.ch (by simp)) rfl rfl (hv_len hh.2) (by simp) one_u8 (fun w11 hB11 hch11 hs11 => ?_)
            refine x_wz (.inr (by decide)) rfl ?_
            (first | refine zn 14 rfl ?_ | refine znt 14 rfl ?_ | refine znff 14 rfl ?_)
            exact wz_done (by kernel_rfl) (fun w12 hG12 => ⟨rfl, _, bq, hh, rfl, exj rfl, ((hc9.then hG10.ch).own hch11 (by omega)).then hG12.ch, hB11.ch hG12.ch (by simp), hhf⟩)
          · refine wl_alloc (fun w7 bq hbq => ?_)
            refine x_wz (.inl (Gr.new stab_tru hbq.ch)) rfl ?_
            refine zn1 8 (by kernel_rfl) rfl (fun w8 hG8 => ?_)
            have hBq0 : Blk w7 bq ((List.replicate 32 (0 : UInt8)).map u8v) 30 := hbq.blk
            (try ((with_reducible apply is_gd); first | refine gt ?_ | refine gf ?_ | refine gu ?_)); refine ca (ih (splitN n) (by omega) i leaf v4 (path.take (path.length - 1)) w8 (((hV4.ch hG6.ch).ch hbq.ch).ch hG8.ch) (by omega) (by omega)) ?_
            rintro _ w9 ⟨hh, rfl, hhf, hc9'⟩
            refine x_wz (.inl (Gr.new stab_tru hc9')) rfl ?_
            (first | refine zn 9 rfl ?_ | refine znt 9 rfl ?_ | refine znff 9 rfl ?_); (first | refine zn 10 rfl ?_ | refine znt 10 rfl ?_ | refine znff 10 rfl ?_); (first | refine zn 11 rfl ?_ | refine znt 11 rfl ?_ | refine znff 11 rfl ?_)
            have hc9 : Ch [] wx w9 := (((hc5.then hG6.ch).then hbq.ch).then hG8.ch).then hc9'
            have hle : wx.heap.size ≤ bq := by rw [hbq.at_]; exact (hc5.then hG6.ch).size
            have hBq : Blk w9 bq ((List.replicate 32 (0 : UInt8)).map u8v) 30 := (hBq0.ch hG8.ch (by simp)).ch hc9' (by simp)
            refine zn1 13 (by kernel_rfl) rfl (fun w10 hG10 => ?_)
            refine stbw (n := 32) (hBq.ch hG10.ch (by simp)) rfl rfl (hv_len hh.2) (by simp) one_u8 (fun w11 hB11 hch11 hs11 => ?_)
            refine x_wz (.inr (by decide)) rfl ?_
            (first | refine zn 14 rfl ?_ | refine znt 14 rfl ?_ | refine znff 14 rfl ?_)
            exact wz_done (by kernel_rfl) (fun w12 hG12 => ⟨rfl, _, bq, hh, rfl, exj rfl, ((hc9.then hG10.ch).own hch11 (by omega)).then hG12.ch, hB11.ch hG12.ch (by simp), hhf⟩)
        · rintro e a w5 ⟨rfl, l, bq, hh, rfl, ⟨jj, rfl⟩, hc5, hBq, hhf⟩
          have hB8 := hB80.ch hc5 (by simp)
          have hB11 := hB110.ch hc5 (by simp)
          have hfold := fold_left (leaf := leaf) (by omega) (by omega) hi hne hlast
          (try refine wk ?_)
          refine ldbr (n := 32) hBq rfl (ds := hh.1.map u8v) (by simp [List.take_of_length_le, hh.2]) (by simp [hh.2]) ?_
          refine ldbr (n := 32) hB11 rfl (ds := last.1.map u8v) (by simp [List.take_of_length_le, last.2]) (by simp [last.2]) ?_
          (try ((with_reducible apply is_gd); first | refine gt ?_ | refine gf ?_ | refine gu ?_)); refine ca (rnode_any hh.1 last.1 hh.2 last.2 w5) ?_
          rintro _ w6 ⟨rfl, hc6⟩
          (try refine wk ?_)
          refine stbw (n := 32) (hB8.ch hc6 (by simp)) rfl rfl (hv_len (nodeOf_len _ _)) (by simp) one_u8 (fun w7 hB7 hch7 hs7 => ?_)
          (try refine wk ?_)
          refine outc2 rfl rfl (hB7.row (n := 32) (o := 0) (ds := (nodeH hh last).1.map u8v) (by simp [List.take_of_length_le, (nodeH hh last).2]; rfl)) (by simp [(nodeH hh last).2]) ⟨nodeH hh last, ?_, fun h => ?_, ((hcx.then hc5).then hc6).own hch7 (by omega)⟩
          · rw [decide_eq_decide.2 hfold.1]
            rfl
          · rw [hfold.2 h, hhf (hfold.1.1 h)]
      · (try refine wk ?_)
        refine c_cond rfl (fun h => absurd h (by omega)) (fun _ => ?_)
        (try refine wk ?_)
        
        refine Code.wp_mono (Q := fun e a w' => e = .normal ∧ ∃ (l : List Value) (bq : Nat) (hh : Hs), a = fr l ∧ (∃ jj : Nat → Value, l = [jj 0, jj 1, jj 2, .slice A path.length cap, jj 4, jj 5, jj 6, jj 7, .pointer (some ⟨b8, 0, none⟩), jj 9, jj 10, .pointer (some ⟨b11, 0, none⟩), jj 12, jj 13, .pointer (some ⟨bq, 0, none⟩), .bool (decide ((turnsN (n - splitN n) (i - splitN n)).length = (path.take (path.length - 1)).length)), jj 16, jj 17, jj 18, jj 19, jj 20, jj 21, jj 22, jj 23, jj 24, jj 25, jj 26, jj 27, jj 28, jj 29, jj 30, jj 31, jj 32, jj 33, jj 34, jj 35, jj 36, jj 37, jj 38, jj 39, jj 40, jj 41, jj 42, jj 43, jj 44, jj 45, jj 46, jj 47, jj 48, jj 49, jj 50, jj 51, jj 52, jj 53, jj 54, jj 55, jj 56, jj 57, jj 58, jj 59, jj 60, jj 61, jj 62, jj 63, jj 64, jj 65, jj 66, jj 67, jj 68, jj 69, jj 70, jj 71, jj 72]) ∧ Ch [] wx w' ∧ Blk w' bq (hh.1.map u8v) 30 ∧ (((turnsN (n - splitN n) (i - splitN n)).length = (path.take (path.length - 1)).length) → hh = foldC (path.take (path.length - 1)) leaf (n - splitN n) (i - splitN n))) ?_ ?_
        rotate_left
        · refine c_ordZ ([17], [15]) [] Tru (by kernel_rfl) (by kernel_rfl) (by kernel_rfl) (fun w5 hc5 hs5 => ?_)
          have hB6 := hB6.ch hc5 (by simp)
          have hRx := hRx.ch hc5
          (first | refine zn 0 rfl ?_ | refine znt 0 rfl ?_ | refine znff 0 rfl ?_); (first | refine zn 1 rfl ?_ | refine znt 1 rfl ?_ | refine znff 1 rfl ?_); (first | refine zn 2 rfl ?_ | refine znt 2 rfl ?_ | refine znff 2 rfl ?_); (first | refine zn 3 rfl ?_ | refine znt 3 rfl ?_ | refine znff 3 rfl ?_); (first | refine zn 4 rfl ?_ | refine znt 4 rfl ?_ | refine znff 4 rfl ?_); (first | refine zn 5 rfl ?_ | refine znt 5 rfl ?_ | refine znff 5 rfl ?_)
          refine znlr 6 rfl (n := 32) hB6 (by simp) rfl (ds := leaf.1.map u8v) (by simp [List.take_of_length_le, leaf.2]) (by simp [leaf.2]) ?_
          (first | refine zn 7 rfl ?_ | refine znt 7 rfl ?_ | refine znff 7 rfl ?_); (first | refine zn 8 rfl ?_ | refine znt 8 rfl ?_ | refine znff 8 rfl ?_); (first | refine zn 9 rfl ?_ | refine znt 9 rfl ?_ | refine znff 9 rfl ?_); (first | refine zn 10 rfl ?_ | refine znt 10 rfl ?_ | refine znff 10 rfl ?_)
          refine zn_cut_hi 11 rfl hRx rfl rfl rfl (by omega) (by omega) (fun v4 hV4 => ?_)
          rw [show ((n : Int) - (splitN n : Int)) = ((n - splitN n : Nat) : Int) by omega, show ((i : Int) - (splitN n : Int)) = ((i - splitN n : Nat) : Int) by omega]
          rw [show ((path.length : Int) - 1).toNat = path.length - 1 by omega] at hV4
          refine zn2 12 16 (by kernel_rfl) rfl rfl (fun w6 hG6 => ?_) (fun w6 hG6 => ?_)
          · (try ((with_reducible apply is_gd); first | refine gt ?_ | refine gf ?_ | refine gu ?_)); refine ca (ih (n - splitN n) (by omega) (i - splitN n) leaf v4 (path.take (path.length - 1)) w6 (hV4.ch hG6.ch) (by omega) (by omega)) ?_
            rintro _ w7 ⟨hh, rfl, hhf, hc7⟩
            refine x_wz (.inl (Gr.new stab_tru hc7)) rfl ?_
            (first | refine zn 13 rfl ?_ | refine znt 13 rfl ?_ | refine znff 13 rfl ?_); (first | refine zn 14 rfl ?_ | refine znt 14 rfl ?_ | refine znff 14 rfl ?_); (first | refine zn 15 rfl ?_ | refine znt 15 rfl ?_ | refine znff 15 rfl ?_)
            refine zn1 16 (by kernel_rfl) rfl (fun w8 hG8 => ?_)
            refine wl_alloc (fun w9 bq hbq => ?_)
            refine x_wz (.inl (Gr.new stab_tru hbq.ch)) rfl ?_
            have hc9 : Ch [] wx w9 := (((hc5.then hG6.ch).then hc7).then hG8.ch).then hbq.ch
            have hle : wx.heap.size ≤ bq := by rw [hbq.at_]; exact (((hc5.then hG6.ch).then hc7).then hG8.ch).size
            have hBq : Blk w9 bq ((List.replicate 32 (0 : UInt8)).map u8v) 30 := hbq.blk
            refine zn1 17 (by kernel_rfl) rfl (fun w10 hG10 => ?_)
            refine stbw (n := 32) (hBq.ch hG10.ch (by simp)) rfl rfl (hv_len hh.2) (by simp) one_u8 (fun w11 hB11 hch11 hs11 => ?_)
            refine x_wz (.inr (by decide)) rfl ?_
            (first | refine zn 18 rfl ?_ | refine znt 18 rfl ?_ | refine znff 18 rfl ?_)
            exact wz_done (by kernel_rfl) (fun w12 hG12 => ⟨rfl, _, bq, hh, rfl, exj rfl, ((hc9.then hG10.ch).own hch11 (by omega)).then hG12.ch, hB11.ch hG12.ch (by simp), hhf⟩)
          · refine wl_alloc (fun w7 bq hbq => ?_)
            refine x_wz (.inl (Gr.new stab_tru hbq.ch)) rfl ?_
            refine zn1 12 (by kernel_rfl) rfl (fun w8 hG8 => ?_)
            have hBq0 : Blk w7 bq ((List.replicate 32 (0 : UInt8)).map u8v) 30 := hbq.blk
            (try ((with_reducible apply is_gd); first | refine gt ?_ | refine gf ?_ | refine gu ?_)); refine ca (ih (n - splitN n) (by omega) (i - splitN n) leaf v4 (path.take (path.length - 1)) w8 (((hV4.ch hG6.ch).ch hbq.ch).ch hG8.ch) (by omega) (by omega)) ?_
            rintro _ w9 ⟨hh, rfl, hhf, hc9'⟩
            refine x_wz (.inl (Gr.new stab_tru hc9')) rfl ?_
            (first | refine zn 13 rfl ?_ | refine znt 13 rfl ?_ | refine znff 13 rfl ?_); (first | refine zn 14 rfl ?_ | refine znt 14 rfl ?_ | refine znff 14 rfl ?_); (first | refine zn 15 rfl ?_ | refine znt 15 rfl ?_ | refine znff 15 rfl ?_)
            have hc9 : Ch [] wx w9 := (((hc5.then hG6.ch).then hbq.ch).then hG8.ch).then hc9'
            have hle : wx.heap.size ≤ bq := by rw [hbq.at_]; exact (hc5.then hG6.ch).size
            have hBq : Blk w9 bq ((List.replicate 32 (0 : UInt8)).map u8v) 30 := (hBq0.ch hG8.ch (by simp)).ch hc9' (by simp)
            refine zn1 17 (by kernel_rfl) rfl (fun w10 hG10 => ?_)
            refine stbw (n := 32) (hBq.ch hG10.ch (by simp)) rfl rfl (hv_len hh.2) (by simp) one_u8 (fun w11 hB11 hch11 hs11 => ?_)
            refine x_wz (.inr (by decide)) rfl ?_
            (first | refine zn 18 rfl ?_ | refine znt 18 rfl ?_ | refine znff 18 rfl ?_)
            exact wz_done (by kernel_rfl) (fun w12 hG12 => ⟨rfl, _, bq, hh, rfl, exj rfl, ((hc9.then hG10.ch).own hch11 (by omega)).then hG12.ch, hB11.ch hG12.ch (by simp), hhf⟩)
        · rintro e a w5 ⟨rfl, l, bq, hh, rfl, ⟨jj, rfl⟩, hc5, hBq, hhf⟩
          have hB8 := hB80.ch hc5 (by simp)
          have hB11 := hB110.ch hc5 (by simp)
          have hfold := fold_right (leaf := leaf) (by omega) (by omega) hi hne hlast
          (try refine wk ?_)
          refine ldbr (n := 32) hB11 rfl (ds := last.1.map u8v) (by simp [List.take_of_length_le, last.2]) (by simp [last.2]) ?_
          refine ldbr (n := 32) hBq rfl (ds := hh.1.map u8v) (by simp [List.take_of_length_le, hh.2]) (by simp [hh.2]) ?_
          (try ((with_reducible apply is_gd); first | refine gt ?_ | refine gf ?_ | refine gu ?_)); refine ca (rnode_any last.1 hh.1 last.2 hh.2 w5) ?_
          rintro _ w6 ⟨rfl, hc6⟩
          (try refine wk ?_)
          refine stbw (n := 32) (hB8.ch hc6 (by simp)) rfl rfl (hv_len (nodeOf_len _ _)) (by simp) one_u8 (fun w7 hB7 hch7 hs7 => ?_)
          (try refine wk ?_)
          refine outc2 rfl rfl (hB7.row (n := 32) (o := 0) (ds := (nodeH last hh).1.map u8v) (by simp [List.take_of_length_le, (nodeH last hh).2]; rfl)) (by simp [(nodeH last hh).2]) ⟨nodeH last hh, ?_, fun h => ?_, ((hcx.then hc5).then hc6).own hch7 (by omega)⟩
          · rw [decide_eq_decide.2 hfold.1]
            rfl
          · rw [hfold.2 h, hhf (hfold.1.1 h)]
set_option maxHeartbeats 8000000 in
theorem rclimb_any (n i : Int) (leaf : Hs) (v : Value) (path : List Hs) (w : World) (hR : (Ty.enc eH).Rd [] w v path) :
    Calls Tryd.prog 37 #[.int .i64 n, .int .i64 i, hv leaf.1, v] w (Ret fun u w' => u = .tuple #[hv (climbZ n i leaf path).1.1, .bool (climbZ n i leaf path).2] ∧ Ch [] w w') := by
  refine enter [.int .i64 n, .int .i64 i, hv leaf.1, v, undef, undef, undef, undef, undef, undef, undef, undef, undef, undef, undef, undef, undef, undef, undef, undef, undef, undef, undef, undef, undef, undef, undef, undef, undef, undef, undef, undef, undef, undef, undef, undef, undef, undef, undef, undef] Tryd.func37 rfl rfl ?_
  have hple := hR.le
  obtain ⟨A, cap, rfl⟩ := hR.form
  (try refine wk ?_)
  refine wl_box rfl (fun w1 b6 hb6 => ?_)
  refine wl_alloc (fun w3 b8 hb8 => ?_)
  have hB8 : Blk w3 b8 ((List.replicate 32 (0 : UInt8)).map u8v) 30 := hb8.blk
  have hB6 : Blk w3 b6 (leaf.1.map u8v) 30 := Blk.ch (show Blk w1 b6 (leaf.1.map u8v) 30 from hb6.blk) hb8.ch (by simp)
  have e6 := hb6.at_
  have e8 := hb8.at_
  have s6 := hb6.size
  have s8 := hb8.size
  have hc3 : Ch [] w w3 := hb6.ch.then hb8.ch
  by_cases h1 : n < 1
  · (try refine wk ?_)
    refine c_condb rfl (fun _ => ?_) (fun h => by cases h)
    (try refine wk ?_)
    (try ((with_reducible apply is_gd); first | refine gt ?_ | refine gf ?_ | refine gu ?_)); refine wl_val (r_build_arr0 (e := 5)) ?_
    refine stbw (n := 32) (vs := zeroH.1.map u8v) hB8 rfl rfl (by simp [zeroH.2]) (by simp) one_u8 (fun wf hBf hchf hsf => ?_)
    (try refine wk ?_)
    refine (outc2 rfl rfl (hBf.row (n := 32) (o := 0) (ds := zeroH.1.map u8v) (by simp [List.take_of_length_le, zeroH.2])) (by simp [zeroH.2]) ?_)
    rw [climbZ_f (inC_f (by omega))]
    exact ⟨rfl, hc3.own hchf (by omega)⟩
  · by_cases h2 : 1099511627776 < n
    · (try refine wk ?_)
      refine c_condb rfl (fun _ => ?_) (fun h => by cases h)
      (try refine wk ?_)
      (try ((with_reducible apply is_gd); first | refine gt ?_ | refine gf ?_ | refine gu ?_)); refine wl_val (r_build_arr0 (e := 5)) ?_
      refine stbw (n := 32) (vs := zeroH.1.map u8v) hB8 rfl rfl (by simp [zeroH.2]) (by simp) one_u8 (fun wf hBf hchf hsf => ?_)
      (try refine wk ?_)
      refine (outc2 rfl rfl (hBf.row (n := 32) (o := 0) (ds := zeroH.1.map u8v) (by simp [List.take_of_length_le, zeroH.2])) (by simp [zeroH.2]) ?_)
      rw [climbZ_f (inC_f (by omega))]
      exact ⟨rfl, hc3.own hchf (by omega)⟩
    · by_cases h3 : i < 0
      · (try refine wk ?_)
        refine c_condb rfl (fun _ => ?_) (fun h => by cases h)
        (try refine wk ?_)
        (try ((with_reducible apply is_gd); first | refine gt ?_ | refine gf ?_ | refine gu ?_)); refine wl_val (r_build_arr0 (e := 5)) ?_
        refine stbw (n := 32) (vs := zeroH.1.map u8v) hB8 rfl rfl (by simp [zeroH.2]) (by simp) one_u8 (fun wf hBf hchf hsf => ?_)
        (try refine wk ?_)
        refine (outc2 rfl rfl (hBf.row (n := 32) (o := 0) (ds := zeroH.1.map u8v) (by simp [List.take_of_length_le, zeroH.2])) (by simp [zeroH.2]) ?_)
        rw [climbZ_f (inC_f (by omega))]
        exact ⟨rfl, hc3.own hchf (by omega)⟩
      · by_cases h4 : n ≤ i
        · (try refine wk ?_)
          refine c_cond rfl (fun _ => ?_) (fun h => absurd h4 h)
          (try refine wk ?_)
          (try ((with_reducible apply is_gd); first | refine gt ?_ | refine gf ?_ | refine gu ?_)); refine wl_val (r_build_arr0 (e := 5)) ?_
          refine stbw (n := 32) (vs := zeroH.1.map u8v) hB8 rfl rfl (by simp [zeroH.2]) (by simp) one_u8 (fun wf hBf hchf hsf => ?_)
          (try refine wk ?_)
          refine (outc2 rfl rfl (hBf.row (n := 32) (o := 0) (ds := zeroH.1.map u8v) (by simp [List.take_of_length_le, zeroH.2])) (by simp [zeroH.2]) ?_)
          rw [climbZ_f (inC_f (by omega))]
          exact ⟨rfl, hc3.own hchf (by omega)⟩
        · obtain ⟨N, rfl⟩ := Int.eq_ofNat_of_zero_le (by omega : 0 ≤ n)
          obtain ⟨I, rfl⟩ := Int.eq_ofNat_of_zero_le (by omega : 0 ≤ i)
          have hin := inC_t (n := N) (i := I) (by omega) (by omega)
          (try refine wk ?_)
          refine c_cond rfl (fun h => absurd h h4) (fun _ => ?_)
          (try refine wk ?_)
          refine ldbr (n := 32) hB6 rfl (ds := leaf.1.map u8v) (by simp [List.take_of_length_le, leaf.2]) (by simp [leaf.2]) ?_
          (try refine wk ?_)
          (try ((with_reducible apply is_gd); first | refine gt ?_ | refine gf ?_ | refine gu ?_)); refine ca (rclimbs_any N I leaf (.slice A path.length cap) path w3 (hR.ch hc3) (by omega) (by omega)) ?_
          rintro _ w4 ⟨hh, rfl, hhf, hc4⟩
          have hB8 := hB8.ch hc4 (by simp)
          have z4 := hc4.size
          have hc4 : Ch [] w w4 := hc3.then hc4
          (try refine wk ?_)
          refine wl_alloc (fun w5 b10 hb10 => ?_)
          have e10 := hb10.at_
          refine stbw (n := 32) (cs := (List.replicate 32 (0 : UInt8)).map u8v) hb10.blk rfl rfl (hv_len hh.2) (by simp) one_u8 (fun w6 hB10 hch6 hs6 => ?_)
          have hc46 : Ch [] w4 w6 := hb10.ch.own hch6 (by omega)
          have hB8 := hB8.ch hc46 (by simp)
          have hc6 : Ch [] w w6 := hc4.then hc46
          by_cases h5 : (turnsN N I).length = path.length
          · have hz : climbZ (N : Int) (I : Int) leaf path = (foldC path leaf N I, true) := by unfold climbZ; rw [if_pos ⟨hin, h5⟩]; rfl
            rw [hz, ← hhf h5]
            rw [decide_eq_true h5]
            (try refine wk ?_)
            refine c_condb rfl (fun h => by cases h) (fun _ => ?_)
            (try refine wk ?_)
            refine ldbr (n := 32) hB10 rfl (ds := hh.1.map u8v) (by simp [List.take_of_length_le, hh.2]) (by simp [hh.2]) ?_
            refine stbw (n := 32) hB8 rfl rfl (hv_len hh.2) (by simp) one_u8 (fun w7 hB7 hch7 hs7 => ?_)
            (try refine wk ?_)
            exact outc2 rfl rfl (hB7.row (n := 32) (o := 0) (ds := hh.1.map u8v) (by simp [List.take_of_length_le, hh.2])) (by simp [hh.2]) ⟨rfl, hc6.own hch7 (by omega)⟩
          · have hz : climbZ (N : Int) (I : Int) leaf path = (zeroH, false) := by unfold climbZ; rw [if_neg (fun h => h5 h.2)]
            rw [decide_eq_false h5]
            (try refine wk ?_)
            refine c_condb rfl (fun _ => ?_) (fun h => by cases h)
            (try refine wk ?_)
            (try ((with_reducible apply is_gd); first | refine gt ?_ | refine gf ?_ | refine gu ?_)); refine wl_val (r_build_arr0 (e := 5)) ?_
            refine stbw (n := 32) (vs := zeroH.1.map u8v) hB8 rfl rfl (by simp [zeroH.2]) (by simp) one_u8 (fun wf hBf hchf hsf => ?_)
            (try refine wk ?_)
            refine (outc2 rfl rfl (hBf.row (n := 32) (o := 0) (ds := zeroH.1.map u8v) (by simp [List.take_of_length_le, zeroH.2])) (by simp [zeroH.2]) ?_)
            rw [hz]
            exact ⟨rfl, hc6.own hchf (by omega)⟩
def checkZ (root : Hs) (n i : Int) (leaf : Hs) (path : List Hs) : Bool := (climbZ n i leaf path).2 && decide ((climbZ n i leaf path).1 = root)
set_option maxHeartbeats 8000000 in
theorem check_any (root : Hs) (n i : Int) (leaf : Hs) (v : Value) (path : List Hs) (w : World) (hK : Laid w) (hR : (Ty.enc eH).Rd [] w v path) :
    Calls Tryd.prog 87 #[hv root.1, .int .i64 n, .int .i64 i, hv leaf.1, v] w (Ret fun u w' => u = .bool (checkZ root n i leaf path) ∧ Ch [] w w') := by
  refine enter [hv root.1, .int .i64 n, .int .i64 i, hv leaf.1, v, undef, undef, undef, undef, undef, undef, undef, undef, undef, undef, undef, undef, undef, undef, undef, undef, undef, undef, undef, undef, undef, undef] Tryd.func87 rfl rfl ?_
  (try refine wk ?_)
  refine wl_box rfl (fun w1 b5 hb5 => ?_)
  refine wl_box rfl (fun w3 b8 hb8 => ?_)
  have hB8 : Blk w3 b8 (leaf.1.map u8v) 30 := hb8.blk
  have hB5 : Blk w3 b5 (root.1.map u8v) 30 := Blk.ch (show Blk w1 b5 (root.1.map u8v) 30 from hb5.blk) hb8.ch (by simp)
  have hc3 : Ch [] w w3 := hb5.ch.then hb8.ch
  (try refine wk ?_)
  refine ldbr (n := 32) hB8 rfl (ds := leaf.1.map u8v) (by simp [List.take_of_length_le, leaf.2]) (by simp [leaf.2]) ?_
  (try refine wk ?_)
  (try ((with_reducible apply is_gd); first | refine gt ?_ | refine gf ?_ | refine gu ?_)); refine ca (climb_any n i leaf v path w3 (hK.ch hc3 (by simp)) (hR.ch hc3)) ?_
  rintro _ w4 ⟨rfl, hc4⟩
  have hB5 := hB5.ch hc4 (by simp)
  have hc4 : Ch [] w w4 := hc3.then hc4
  have z4 := hc4.size
  unfold checkZ
  generalize climbZ n i leaf path = cz
  obtain ⟨hh, ok⟩ := cz
  (try refine wk ?_)
  refine wl_alloc (fun w5 b11 hb11 => ?_)
  have e11 := hb11.at_
  refine stbw (n := 32) (cs := (List.replicate 32 (0 : UInt8)).map u8v) hb11.blk rfl rfl (hv_len hh.2) (by simp) one_u8 (fun w6 hB11 hch6 hs6 => ?_)
  have hc46 : Ch [] w4 w6 := hb11.ch.own hch6 (by omega)
  have hB5 := hB5.ch hc46 (by simp)
  have hc6 : Ch [] w w6 := hc4.then hc46
  cases ok with
  | false =>
    (try refine wk ?_)
    exact out1 rfl ⟨rfl, hc6⟩
  | true =>
    (try refine wk ?_)
    (try ((with_reducible apply is_gd); refine gt ?_))
    refine ldbr (n := 32) hB11 rfl (ds := hh.1.map u8v) (by simp [List.take_of_length_le, hh.2]) (by simp [hh.2]) ?_
    (try ((with_reducible apply is_gd); refine gt ?_))
    refine ldbr (n := 32) hB5 rfl (ds := root.1.map u8v) (by simp [List.take_of_length_le, root.2]) (by simp [root.2]) ?_
    (try ((with_reducible apply is_gd); refine gt ?_))
    refine wl_val (r_eql8 (n := 32) (a := hh.1) (b := root.1) Tryd.eqGuardType30 rfl rfl hh.2 root.2) ?_
    (try refine wk ?_)
    refine out1 rfl ⟨?_, hc6⟩
    show Value.bool _ = Value.bool _
    congr 1
    rw [Bool.true_and, decide_eq_decide]
    exact ⟨fun h => Subtype.ext h, fun h => congrArg Subtype.val h⟩
end Go.Proofs.YtkdbinchlpdkmaaDoor

/- Walks: what a path of growth leads to, the reference's.
   Walks: the reference's Checks.
   Plain: the way of growth, and what a path leads to along it.
   Walks: is it shown that one root has grown of another one, the program's.
   The plain law of growth, first part: the facts of a path and of growth, told along the way and from above.
   The plain law of growth, second part: of facts two inputs of one hash: the first two in order, however they are looked for. -/
import Derived.Test.YtkdbinchlpdkmaaDoorQGrowthFinds19
import Derived.Test.YtkdbinchlpdkmaaDoorQGrowthFinds11
set_option linter.unusedVariables false
set_option linter.unusedSimpArgs false
namespace Go.Proofs.YtkdbinchlpdkmaaDoor
open Go Go.RowKit Go.Proofs.E
attribute [local irreducible] Go.wpList Go.Code.wp Go.Proofs.E.exec Go.Proofs.E.wpLexG
def twoZ (a : Hs) (m n : Nat) (path : List Hs) (whole : Bool) : Hs × Hs × Bool :=
  if m = n then (if whole = true then (a, a, decide (path.length = 0)) else if path.length = 1 then (path.getD 0 zeroH, path.getD 0 zeroH, true) else (zeroH, zeroH, false))
  else if path.length = 0 then (zeroH, zeroH, false)
  else if m ≤ splitN n then
    ((twoZ a m (splitN n) (path.take (path.length - 1)) whole).1, nodeH (twoZ a m (splitN n) (path.take (path.length - 1)) whole).2.1 (path.getD (path.length - 1) zeroH), (twoZ a m (splitN n) (path.take (path.length - 1)) whole).2.2)
  else (nodeH (path.getD (path.length - 1) zeroH) (twoZ a (m - splitN n) (n - splitN n) (path.take (path.length - 1)) false).1, nodeH (path.getD (path.length - 1) zeroH) (twoZ a (m - splitN n) (n - splitN n) (path.take (path.length - 1)) false).2.1,
    (twoZ a (m - splitN n) (n - splitN n) (path.take (path.length - 1)) false).2.2)
termination_by path.length
decreasing_by all_goals (rw [List.length_take]; omega)
theorem twoZ_whole {a : Hs} {m n : Nat} {path : List Hs} (h : m = n) : twoZ a m n path true = (a, a, decide (path.length = 0)) := by
  rw [twoZ, if_pos h, if_pos rfl]
theorem twoZ_one {a : Hs} {m n : Nat} {path : List Hs} (h : m = n) (h1 : path.length = 1) : twoZ a m n path false = (path.getD 0 zeroH, path.getD 0 zeroH, true) := by
  rw [twoZ, if_pos h, if_neg (by simp), if_pos h1]
theorem twoZ_not {a : Hs} {m n : Nat} {path : List Hs} (h : m = n) (h1 : path.length ≠ 1) : twoZ a m n path false = (zeroH, zeroH, false) := by
  rw [twoZ, if_pos h, if_neg (by simp), if_neg h1]
theorem twoZ_nil {a : Hs} {m n : Nat} {path : List Hs} {whole : Bool} (h : m ≠ n) (h1 : path.length = 0) : twoZ a m n path whole = (zeroH, zeroH, false) := by
  rw [twoZ, if_neg h, if_pos h1]
theorem twoZ_left {a : Hs} {m n : Nat} {path : List Hs} {whole : Bool} (h : m ≠ n) (h1 : path.length ≠ 0) (h2 : m ≤ splitN n) {X Y : Hs} {ok : Bool} (e : twoZ a m (splitN n) (path.take (path.length - 1)) whole = (X, Y, ok)) :
    twoZ a m n path whole = (X, nodeH Y (path.getD (path.length - 1) zeroH), ok) := by
  rw [twoZ, if_neg h, if_neg h1, if_pos h2, e]
theorem twoZ_right {a : Hs} {m n : Nat} {path : List Hs} {whole : Bool} (h : m ≠ n) (h1 : path.length ≠ 0) (h2 : ¬ m ≤ splitN n) {X Y : Hs} {ok : Bool} (e : twoZ a (m - splitN n) (n - splitN n) (path.take (path.length - 1)) false = (X, Y, ok)) :
    twoZ a m n path whole = (nodeH (path.getD (path.length - 1) zeroH) X, nodeH (path.getD (path.length - 1) zeroH) Y, ok) := by
  rw [twoZ, if_neg h, if_neg h1, if_neg h2, e]
set_option maxHeartbeats 16000000 in
theorem rtwo_any (L : Nat) : ∀ (a : Hs) (m n : Nat) (v : Value) (path : List Hs) (whole : Bool) (w : World), (Ty.enc eH).Rd [] w v path → path.length = L → n ≤ 1099511627776 → 1 ≤ m → m ≤ n →
    Calls Tryd.prog 82 #[hv a.1, .int .i64 (m : Int), .int .i64 (n : Int), v, .bool whole] w (Ret fun u w' => u = .tuple #[hv (twoZ a m n path whole).1.1, hv (twoZ a m n path whole).2.1.1, .bool (twoZ a m n path whole).2.2] ∧ Ch [] w w') := by
  induction L using Nat.strongRecOn with
  | _ L ih =>
  intro a m n v path whole w hR hL hn hm1 hmn
  refine enter [hv a.1, .int .i64 (m : Int), .int .i64 (n : Int), v, .bool whole, undef, undef, undef, undef, undef, undef, undef, undef, undef, undef, undef, undef, undef, undef, undef, undef, undef, undef, undef, undef, undef, undef, undef, undef, undef, undef, undef, undef, undef, undef, undef, undef, undef, undef, undef, undef, undef, undef, undef, undef, undef, undef, undef, undef, undef, undef, undef, undef, undef, undef, undef, undef, undef, undef, undef, undef, undef, undef, undef, undef, undef, undef, undef, undef, undef, undef, undef, undef, undef, undef, undef, undef, undef, undef, undef, undef, undef, undef, undef, undef, undef, undef, undef, undef, undef, undef, undef, undef, undef, undef, undef, undef, undef, undef, undef] Tryd.func82 rfl rfl ?_
  have hple := hR.le
  obtain ⟨A, cap, rfl⟩ := hR.form
  (try refine wk ?_)
  refine wl_box rfl (fun w1 b5 hb5 => ?_)
  refine wl_alloc (fun w2 b10 hb10 => ?_)
  refine wl_alloc (fun w3 b11 hb11 => ?_)
  have hB11 : Blk w3 b11 ((List.replicate 32 (0 : UInt8)).map u8v) 30 := hb11.blk
  have hB10 : Blk w3 b10 ((List.replicate 32 (0 : UInt8)).map u8v) 30 := Blk.ch (show Blk w2 b10 ((List.replicate 32 (0 : UInt8)).map u8v) 30 from hb10.blk) hb11.ch (by simp)
  have hB5 : Blk w3 b5 (a.1.map u8v) 30 := (Blk.ch (show Blk w1 b5 (a.1.map u8v) 30 from hb5.blk) hb10.ch (by simp)).ch hb11.ch (by simp)
  have e5 := hb5.at_
  have e10 := hb10.at_
  have e11 := hb11.at_
  have s5 := hb5.size
  have s10 := hb10.size
  have s11 := hb11.size
  have hc3 : Ch [] w w3 := (hb5.ch.then hb10.ch).then hb11.ch
  have hR3 : (Ty.enc eH).Rd [b10, b11] w3 (.slice A path.length cap) path := hR.mv (S' := [b10, b11]) hc3.some (fun k hk hm => by simp at hm; omega)
  have hA32 : ((a.1.map u8v).drop 0).take 32 = a.1.map u8v := by simp [List.take_of_length_le, a.2]
  (try refine wk ?_)
  refine c_cond rfl (fun h1 => ?_) (fun h1 => ?_)
  · have h1 : m = n := by omega
    cases whole with
    | true =>
      rw [twoZ_whole h1]
      (try refine wk ?_)
      refine c_condb rfl (fun _ => ?_) (fun h => by cases h)
      (try refine wk ?_)
      refine c_ordY ([], []) [b10, b11] (by kernel_rfl) (by kernel_rfl) (by kernel_rfl) (fun w4 hc4 hs4 => ?_)
      have hB5 := hB5.ch hc4 (by simp)
      refine ynlr 0 rfl (n := 32) hB5 (by omega) (by simp; omega) rfl hA32 (by simp [a.2]) ?_
      refine ynlr 1 rfl (n := 32) hB5 (by omega) (by simp; omega) rfl hA32 (by simp [a.2]) ?_
      (first | refine yn 2 rfl ?_ | refine ynt 2 rfl ?_ | refine ynff 2 rfl ?_); (first | refine yn 3 rfl ?_ | refine ynt 3 rfl ?_ | refine ynff 3 rfl ?_); (first | refine yn 4 rfl ?_ | refine ynt 4 rfl ?_ | refine ynff 4 rfl ?_)
      refine yst (n := 32) 5 (by kernel_rfl) rfl (hB10.ch hc4 (by simp)) (.inr (by simp)) rfl rfl (hv_len a.2) (by simp) one_u8 (fun w5 hB10 hc5 => ?_)
      refine yst (n := 32) 6 (by kernel_rfl) rfl ((hB11.ch hc4 (by simp)).ch hc5 (by simp; omega)) (.inr (by simp)) rfl rfl (hv_len a.2) (by simp) one_u8 (fun w6 hB11 hc6 => ?_)
      (first | refine yn 7 rfl ?_ | refine ynt 7 rfl ?_ | refine ynff 7 rfl ?_)
      refine wy_done (by kernel_rfl) (fun w7 hc7 => ?_)
      (try refine wk ?_)
      refine outc3 rfl rfl rfl (((hB10.ch hc6 (by simp; omega)).ch hc7 (by simp)).row (n := 32) (o := 0) (ds := a.1.map u8v) (by simp [List.take_of_length_le, a.2])) ((hB11.ch hc7 (by simp)).row (n := 32) (o := 0) (ds := a.1.map u8v) (by simp [List.take_of_length_le, a.2])) (by simp [a.2]) (by simp [a.2]) ⟨?_, ?_⟩
      · rw [decide_eq_decide.2 (show path.length = 0 ↔ ((path.length : Int) = 0) by omega)]
        rfl
      · exact (((hc3.then hc4).own hc5 (by omega)).own hc6 (by omega)).then hc7
    | false =>
      (try refine wk ?_)
      refine c_condb rfl (fun h => by cases h) (fun _ => ?_)
      (try refine wk ?_)
      refine c_cond rfl (fun h2 => ?_) (fun h2 => ?_)
      · rw [twoZ_not h1 (by omega)]
        (try refine wk ?_)
        (try ((with_reducible apply is_gd); first | refine gt ?_ | refine gf ?_ | refine gu ?_)); refine wl_val (r_build_arr0 (e := 5)) ?_
        (try ((with_reducible apply is_gd); first | refine gt ?_ | refine gf ?_ | refine gu ?_)); refine wl_val (r_build_arr0 (e := 5)) ?_
        refine stbw (n := 32) (vs := zeroH.1.map u8v) hB10 rfl rfl (by simp [zeroH.2]) (by simp) one_u8 (fun w5 hB10 hc5 hs5 => ?_)
        refine stbw (n := 32) (vs := zeroH.1.map u8v) (hB11.ch hc5 (by simp; omega)) rfl rfl (by simp [zeroH.2]) (by simp) one_u8 (fun w6 hB11 hc6 hs6 => ?_)
        (try refine wk ?_)
        refine outc3 rfl rfl rfl ((hB10.ch hc6 (by simp; omega)).row (n := 32) (o := 0) (ds := zeroH.1.map u8v) (by simp [List.take_of_length_le, zeroH.2])) (hB11.row (n := 32) (o := 0) (ds := zeroH.1.map u8v) (by simp [List.take_of_length_le, zeroH.2])) (by simp [zeroH.2]) (by simp [zeroH.2]) ⟨rfl, ?_⟩
        exact (hc3.own hc5 (by omega)).own hc6 (by omega)
      · rw [twoZ_one h1 (by omega)]
        generalize hg : path.getD 0 zeroH = g
        have h0 : path[0]? = some g := by
          rw [← hg, List.getD_eq_getElem?_getD, List.getElem?_eq_getElem (by omega : 0 < path.length)]
          rfl
        (try refine wk ?_)
        refine c_ordY ([], []) [b10, b11] (by kernel_rfl) (by kernel_rfl) (by kernel_rfl) (fun w4 hc4 hs4 => ?_)
        have hR4 := hR3.ch hc4.some
        (first | refine yn 0 rfl ?_ | refine ynt 0 rfl ?_ | refine ynff 0 rfl ?_)
        refine ynx 1 rfl hR4 rfl rfl rfl (by omega) (by simp; omega) (fun b o x hx hA => ?_)
        obtain rfl := Option.some.inj (h0.symm.trans hx)
        have hAb := hA.1
        refine ynxl 2 rfl hA (by omega) rfl rfl ?_
        (first | refine yn 3 rfl ?_ | refine ynt 3 rfl ?_ | refine ynff 3 rfl ?_)
        refine ynx 4 rfl hR4 rfl rfl rfl (by omega) (by simp; omega) (fun b' o' x' hx' hA' => ?_)
        obtain rfl := Option.some.inj (h0.symm.trans hx')
        have hAb' := hA'.1
        refine ynxl 5 rfl hA' (by omega) rfl rfl ?_
        refine yst (n := 32) 6 (by kernel_rfl) rfl (hB10.ch hc4 (by simp)) (.inr (by simp)) rfl rfl (hv_len g.2) (by simp) one_u8 (fun w5 hB10 hc5 => ?_)
        refine yst (n := 32) 7 (by kernel_rfl) rfl ((hB11.ch hc4 (by simp)).ch hc5 (by simp; omega)) (.inr (by simp)) rfl rfl (hv_len g.2) (by simp) one_u8 (fun w6 hB11 hc6 => ?_)
        (first | refine yn 8 rfl ?_ | refine ynt 8 rfl ?_ | refine ynff 8 rfl ?_)
        refine wy_done (by kernel_rfl) (fun w7 hc7 => ?_)
        (try refine wk ?_)
        refine outc3 rfl rfl rfl (((hB10.ch hc6 (by simp; omega)).ch hc7 (by simp)).row (n := 32) (o := 0) (ds := g.1.map u8v) (by simp [List.take_of_length_le, g.2])) ((hB11.ch hc7 (by simp)).row (n := 32) (o := 0) (ds := g.1.map u8v) (by simp [List.take_of_length_le, g.2])) (by simp [g.2]) (by simp [g.2]) ⟨rfl, ?_⟩
        exact (((hc3.then hc4).own hc5 (by omega)).own hc6 (by omega)).then hc7
  · (try refine wk ?_)
    refine c_cond rfl (fun h2 => ?_) (fun h2 => ?_)
    · rw [twoZ_nil (by omega) (by omega)]
      (try refine wk ?_)
      (try ((with_reducible apply is_gd); first | refine gt ?_ | refine gf ?_ | refine gu ?_)); refine wl_val (r_build_arr0 (e := 5)) ?_
      (try ((with_reducible apply is_gd); first | refine gt ?_ | refine gf ?_ | refine gu ?_)); refine wl_val (r_build_arr0 (e := 5)) ?_
      refine stbw (n := 32) (vs := zeroH.1.map u8v) hB10 rfl rfl (by simp [zeroH.2]) (by simp) one_u8 (fun w5 hB10 hc5 hs5 => ?_)
      refine stbw (n := 32) (vs := zeroH.1.map u8v) (hB11.ch hc5 (by simp; omega)) rfl rfl (by simp [zeroH.2]) (by simp) one_u8 (fun w6 hB11 hc6 hs6 => ?_)
      (try refine wk ?_)
      refine outc3 rfl rfl rfl ((hB10.ch hc6 (by simp; omega)).row (n := 32) (o := 0) (ds := zeroH.1.map u8v) (by simp [List.take_of_length_le, zeroH.2])) (hB11.row (n := 32) (o := 0) (ds := zeroH.1.map u8v) (by simp [List.take_of_length_le, zeroH.2])) (by simp [zeroH.2]) (by simp [zeroH.2]) ⟨rfl, ?_⟩
      exact (hc3.own hc5 (by omega)).own hc6 (by omega)
    · obtain ⟨hk0, hk1⟩ := splitN_lt (n := n) (by omega) (by omega)
      have hp0 : 0 < path.length := by omega
      have hne : path ≠ [] := List.length_pos_iff.1 hp0
      generalize hg : path.getD (path.length - 1) zeroH = last
      (try refine wk ?_)
      (try ((with_reducible apply is_gd); first | refine gt ?_ | refine gf ?_ | refine gu ?_)); refine ca (rsplit_any (n : Int) (by omega) w3) ?_
      rintro _ w4 ⟨rfl, hw4⟩
      subst hw4
      rw [splitZ_nat]
      (try refine wk ?_)
      (try ((with_reducible apply is_gd); first | refine gt ?_ | refine gf ?_ | refine gu ?_)); refine ix (hR.ch hc3) (fun b5 o5 x hx hA5 => ?_)
      rw [show ((path.length : Int) - 1).toNat = path.length - 1 by omega] at hx
      have hlast : path[path.length - 1]? = some last := by
        rw [← hg, List.getD_eq_getElem?_getD, List.getElem?_eq_getElem (by omega : path.length - 1 < path.length)]
        rfl
      obtain rfl := Option.some.inj (hlast.symm.trans hx)
      (try ((with_reducible apply is_gd); first | refine gt ?_ | refine gf ?_ | refine gu ?_)); refine ldr hA5 ?_
      refine wl_alloc (fun w5 b14 hb14 => ?_)
      have e14 := hb14.at_
      refine stbw (n := 32) (cs := (List.replicate 32 (0 : UInt8)).map u8v) hb14.blk rfl rfl (hv_len last.2) (by simp) one_u8 (fun wx hB14 hchx hsx => ?_)
      have hc45 : Ch [] w4 wx := hb14.ch.own hchx (by omega)
      have s14 := hb14.size
      have hB5 := hB5.ch hc45 (by simp)
      have hB10 := hB10.ch hc45 (by simp)
      have hB11 := hB11.ch hc45 (by simp)
      have hcx : Ch [] w wx := hc3.then hc45
      have zx := hcx.size
      have hRx := hR.ch hcx
      by_cases hi : m ≤ splitN n
      · (try refine wk ?_)
        refine c_cond rfl (fun _ => ?_) (fun h => absurd (by omega : (m : Int) ≤ splitN n) h)
        (try refine wk ?_)
        refine c_ordY ([], []) [] (by kernel_rfl) (by kernel_rfl) (by kernel_rfl) (fun w4 hc4 hs4 => ?_)
        have hB5 := hB5.ch hc4 (by simp)
        refine ynlr 0 rfl (n := 32) hB5 (by omega) (by simp) rfl hA32 (by simp [a.2]) ?_
        (first | refine yn 1 rfl ?_ | refine ynt 1 rfl ?_ | refine ynff 1 rfl ?_); (first | refine yn 2 rfl ?_ | refine ynt 2 rfl ?_ | refine ynff 2 rfl ?_); (first | refine yn 3 rfl ?_ | refine ynt 3 rfl ?_ | refine ynff 3 rfl ?_); (first | refine yn 4 rfl ?_ | refine ynt 4 rfl ?_ | refine ynff 4 rfl ?_); (first | refine yn 5 rfl ?_ | refine ynt 5 rfl ?_ | refine ynff 5 rfl ?_); (first | refine yn 6 rfl ?_ | refine ynt 6 rfl ?_ | refine ynff 6 rfl ?_)
        refine yn_cut_hi 7 rfl (hRx.ch hc4) rfl rfl rfl (by omega) (by omega) (fun v4 hV4 => ?_)
        rw [show ((path.length : Int) - 1).toNat = path.length - 1 by omega] at hV4
        (first | refine yn 8 rfl ?_ | refine ynt 8 rfl ?_ | refine ynff 8 rfl ?_)
        have hih := ih (path.length - 1) (by omega) a m (splitN n) v4 (path.take (path.length - 1)) whole
        rcases hz : twoZ a m (splitN n) (path.take (path.length - 1)) whole with ⟨X, Y, ok⟩
        rw [hz] at hih
        rw [twoZ_left (by omega) (by omega) hi hz, hg]
        refine ync 9 rfl (by kernel_rfl) (by kernel_rfl) rfl (fun w5 hb5 => hih w5 (hV4.ch (hb5.ch' hs4)) (by rw [List.length_take]; omega) (by omega) hm1 hi) rfl ?_
        (first | refine yn 10 rfl ?_ | refine ynt 10 rfl ?_ | refine ynff 10 rfl ?_); (first | refine yn 11 rfl ?_ | refine ynt 11 rfl ?_ | refine ynff 11 rfl ?_); (first | refine yn 12 rfl ?_ | refine ynt 12 rfl ?_ | refine ynff 12 rfl ?_); (first | refine yn 13 rfl ?_ | refine ynt 13 rfl ?_ | refine ynff 13 rfl ?_)
        refine yal2 14 15 (by kernel_rfl) rfl rfl (by decide) (by decide) (by kernel_rfl) (by kernel_rfl) (fun w5 bx by_ hc5 hBx hBy hxy hxl hyl => ?_)
        have hx0 : Blk w5 bx ((List.replicate 32 (0 : UInt8)).map u8v) 30 := hBx
        have hy0 : Blk w5 by_ ((List.replicate 32 (0 : UInt8)).map u8v) 30 := hBy
        refine yst (n := 32) 16 (by kernel_rfl) rfl hx0 (.inl (by omega)) rfl rfl (hv_len X.2) (by simp) one_u8 (fun w6 hBx hc6 => ?_)
        refine yst (n := 32) 17 (by kernel_rfl) rfl (hy0.ch hc6 (by simp; omega)) (.inl (by omega)) rfl rfl (hv_len Y.2) (by simp) one_u8 (fun w7 hBy hc7 => ?_)
        (first | refine yn 18 rfl ?_ | refine ynt 18 rfl ?_ | refine ynff 18 rfl ?_)
        refine wy_done (by kernel_rfl) (fun w8 hc8 => ?_)
        have z4 := hc4.size
        have z5 := hc5.size
        have hch8 : Ch [] wx w8 := (((hc4.then hc5).own hc6 (by omega)).own hc7 (by omega)).then hc8
        have hBx := (hBx.ch hc7 (by simp; omega)).ch hc8 (by simp)
        have hBy := hBy.ch hc8 (by simp)
        have hB14 := hB14.ch hch8 (by simp)
        have hB10 := hB10.ch hch8 (by simp)
        have hB11 := hB11.ch hch8 (by simp)
        have hxs := hBx.lt
        have hys := hBy.lt
        have h14s := hB14.lt
        have hX32 : ((X.1.map u8v).drop 0).take 32 = X.1.map u8v := by simp [List.take_of_length_le, X.2]
        have hY32 : ((Y.1.map u8v).drop 0).take 32 = Y.1.map u8v := by simp [List.take_of_length_le, Y.2]
        have hL32 : ((last.1.map u8v).drop 0).take 32 = last.1.map u8v := by simp [List.take_of_length_le, last.2]
        (try refine wk ?_)
        refine c_ordY ([], []) [b10, b11] (by kernel_rfl) (by kernel_rfl) (by kernel_rfl) (fun w9 hc9 hs9 => ?_)
        refine ynlr 0 rfl (n := 32) (hBx.ch hc9 (by simp)) (by omega) (by simp; omega) rfl hX32 (by simp [X.2]) ?_
        refine ynlr 1 rfl (n := 32) (hBy.ch hc9 (by simp)) (by omega) (by simp; omega) rfl hY32 (by simp [Y.2]) ?_
        refine ynlr 2 rfl (n := 32) (hB14.ch hc9 (by simp)) (by omega) (by simp; omega) rfl hL32 (by simp [last.2]) ?_
        refine ync 3 rfl (by kernel_rfl) (by kernel_rfl) rfl (fun w5 hb5 => rnode_any Y.1 last.1 Y.2 last.2 w5) rfl ?_
        (first | refine yn 4 rfl ?_ | refine ynt 4 rfl ?_ | refine ynff 4 rfl ?_)
        refine yst (n := 32) 5 (by kernel_rfl) rfl (hB10.ch hc9 (by simp)) (.inr (by simp)) rfl rfl (hv_len X.2) (by simp) one_u8 (fun w10 hB10 hc10 => ?_)
        refine yst (n := 32) 6 (by kernel_rfl) rfl ((hB11.ch hc9 (by simp)).ch hc10 (by simp; omega)) (.inr (by simp)) rfl rfl (hv_len (nodeOf_len _ _)) (by simp) one_u8 (fun w11 hB11 hc11 => ?_)
        (first | refine yn 7 rfl ?_ | refine ynt 7 rfl ?_ | refine ynff 7 rfl ?_)
        refine wy_done (by kernel_rfl) (fun w12 hc12 => ?_)
        (try refine wk ?_)
        refine outc3 rfl rfl rfl (((hB10.ch hc11 (by simp; omega)).ch hc12 (by simp)).row (n := 32) (o := 0) (ds := X.1.map u8v) (by simp [List.take_of_length_le, X.2]; try rfl)) ((hB11.ch hc12 (by simp)).row (n := 32) (o := 0) (ds := (nodeH Y last).1.map u8v) (by simp [List.take_of_length_le, (nodeH Y last).2]; try rfl)) (by simp [X.2]) (by simp [(nodeH Y last).2]) ⟨rfl, ?_⟩
        exact ((((hcx.then hch8).then hc9).own hc10 (by omega)).own hc11 (by omega)).then hc12
      · (try refine wk ?_)
        refine c_cond rfl (fun h => absurd h (by omega)) (fun _ => ?_)
        (try refine wk ?_)
        refine c_ordY ([], []) [] (by kernel_rfl) (by kernel_rfl) (by kernel_rfl) (fun w4 hc4 hs4 => ?_)
        have hB5 := hB5.ch hc4 (by simp)
        refine ynlr 0 rfl (n := 32) hB5 (by omega) (by simp) rfl hA32 (by simp [a.2]) ?_
        (first | refine yn 1 rfl ?_ | refine ynt 1 rfl ?_ | refine ynff 1 rfl ?_); (first | refine yn 2 rfl ?_ | refine ynt 2 rfl ?_ | refine ynff 2 rfl ?_); (first | refine yn 3 rfl ?_ | refine ynt 3 rfl ?_ | refine ynff 3 rfl ?_); (first | refine yn 4 rfl ?_ | refine ynt 4 rfl ?_ | refine ynff 4 rfl ?_); (first | refine yn 5 rfl ?_ | refine ynt 5 rfl ?_ | refine ynff 5 rfl ?_); (first | refine yn 6 rfl ?_ | refine ynt 6 rfl ?_ | refine ynff 6 rfl ?_); (first | refine yn 7 rfl ?_ | refine ynt 7 rfl ?_ | refine ynff 7 rfl ?_); (first | refine yn 8 rfl ?_ | refine ynt 8 rfl ?_ | refine ynff 8 rfl ?_); (first | refine yn 9 rfl ?_ | refine ynt 9 rfl ?_ | refine ynff 9 rfl ?_); (first | refine yn 10 rfl ?_ | refine ynt 10 rfl ?_ | refine ynff 10 rfl ?_)
        refine yn_cut_hi 11 rfl (hRx.ch hc4) rfl rfl rfl (by omega) (by omega) (fun v4 hV4 => ?_)
        rw [show ((path.length : Int) - 1).toNat = path.length - 1 by omega] at hV4
        rw [show ((n : Int) - (splitN n : Int)) = ((n - splitN n : Nat) : Int) by omega, show ((m : Int) - (splitN n : Int)) = ((m - splitN n : Nat) : Int) by omega]
        have hih := ih (path.length - 1) (by omega) a (m - splitN n) (n - splitN n) v4 (path.take (path.length - 1)) false
        rcases hz : twoZ a (m - splitN n) (n - splitN n) (path.take (path.length - 1)) false with ⟨X, Y, ok⟩
        rw [hz] at hih
        rw [twoZ_right (by omega) (by omega) hi hz, hg]
        refine ync 12 rfl (by kernel_rfl) (by kernel_rfl) rfl (fun w5 hb5 => hih w5 (hV4.ch (hb5.ch' hs4)) (by rw [List.length_take]; omega) (by omega) (by omega) (by omega)) rfl ?_
        (first | refine yn 13 rfl ?_ | refine ynt 13 rfl ?_ | refine ynff 13 rfl ?_); (first | refine yn 14 rfl ?_ | refine ynt 14 rfl ?_ | refine ynff 14 rfl ?_); (first | refine yn 15 rfl ?_ | refine ynt 15 rfl ?_ | refine ynff 15 rfl ?_); (first | refine yn 16 rfl ?_ | refine ynt 16 rfl ?_ | refine ynff 16 rfl ?_)
        refine yal2 17 18 (by kernel_rfl) rfl rfl (by decide) (by decide) (by kernel_rfl) (by kernel_rfl) (fun w5 bx by_ hc5 hBx hBy hxy hxl hyl => ?_)
        have hx0 : Blk w5 bx ((List.replicate 32 (0 : UInt8)).map u8v) 30 := hBx
        have hy0 : Blk w5 by_ ((List.replicate 32 (0 : UInt8)).map u8v) 30 := hBy
        refine yst (n := 32) 19 (by kernel_rfl) rfl hx0 (.inl (by omega)) rfl rfl (hv_len X.2) (by simp) one_u8 (fun w6 hBx hc6 => ?_)
        refine yst (n := 32) 20 (by kernel_rfl) rfl (hy0.ch hc6 (by simp; omega)) (.inl (by omega)) rfl rfl (hv_len Y.2) (by simp) one_u8 (fun w7 hBy hc7 => ?_)
        (first | refine yn 21 rfl ?_ | refine ynt 21 rfl ?_ | refine ynff 21 rfl ?_)
        refine wy_done (by kernel_rfl) (fun w8 hc8 => ?_)
        have z4 := hc4.size
        have z5 := hc5.size
        have hch8 : Ch [] wx w8 := (((hc4.then hc5).own hc6 (by omega)).own hc7 (by omega)).then hc8
        have hBx := (hBx.ch hc7 (by simp; omega)).ch hc8 (by simp)
        have hBy := hBy.ch hc8 (by simp)
        have hB14 := hB14.ch hch8 (by simp)
        have hB10 := hB10.ch hch8 (by simp)
        have hB11 := hB11.ch hch8 (by simp)
        have hxs := hBx.lt
        have hys := hBy.lt
        have h14s := hB14.lt
        have hX32 : ((X.1.map u8v).drop 0).take 32 = X.1.map u8v := by simp [List.take_of_length_le, X.2]
        have hY32 : ((Y.1.map u8v).drop 0).take 32 = Y.1.map u8v := by simp [List.take_of_length_le, Y.2]
        have hL32 : ((last.1.map u8v).drop 0).take 32 = last.1.map u8v := by simp [List.take_of_length_le, last.2]
        (try refine wk ?_)
        refine c_ordY ([], []) [b10, b11] (by kernel_rfl) (by kernel_rfl) (by kernel_rfl) (fun w9 hc9 hs9 => ?_)
        refine ynlr 0 rfl (n := 32) (hB14.ch hc9 (by simp)) (by omega) (by simp; omega) rfl hL32 (by simp [last.2]) ?_
        refine ynlr 1 rfl (n := 32) (hBx.ch hc9 (by simp)) (by omega) (by simp; omega) rfl hX32 (by simp [X.2]) ?_
        refine ync 2 rfl (by kernel_rfl) (by kernel_rfl) rfl (fun w5 hb5 => rnode_any last.1 X.1 last.2 X.2 w5) rfl ?_
        refine ynlr 3 rfl (n := 32) (hB14.ch hc9 (by simp)) (by omega) (by simp; omega) rfl hL32 (by simp [last.2]) ?_
        refine ynlr 4 rfl (n := 32) (hBy.ch hc9 (by simp)) (by omega) (by simp; omega) rfl hY32 (by simp [Y.2]) ?_
        refine ync 5 rfl (by kernel_rfl) (by kernel_rfl) rfl (fun w5 hb5 => rnode_any last.1 Y.1 last.2 Y.2 w5) rfl ?_
        (first | refine yn 6 rfl ?_ | refine ynt 6 rfl ?_ | refine ynff 6 rfl ?_)
        refine yst (n := 32) 7 (by kernel_rfl) rfl (hB10.ch hc9 (by simp)) (.inr (by simp)) rfl rfl (hv_len (nodeOf_len _ _)) (by simp) one_u8 (fun w10 hB10 hc10 => ?_)
        refine yst (n := 32) 8 (by kernel_rfl) rfl ((hB11.ch hc9 (by simp)).ch hc10 (by simp; omega)) (.inr (by simp)) rfl rfl (hv_len (nodeOf_len _ _)) (by simp) one_u8 (fun w11 hB11 hc11 => ?_)
        (first | refine yn 9 rfl ?_ | refine ynt 9 rfl ?_ | refine ynff 9 rfl ?_)
        refine wy_done (by kernel_rfl) (fun w12 hc12 => ?_)
        (try refine wk ?_)
        refine outc3 rfl rfl rfl (((hB10.ch hc11 (by simp; omega)).ch hc12 (by simp)).row (n := 32) (o := 0) (ds := (nodeH last X).1.map u8v) (by simp [List.take_of_length_le, (nodeH last X).2]; try rfl)) ((hB11.ch hc12 (by simp)).row (n := 32) (o := 0) (ds := (nodeH last Y).1.map u8v) (by simp [List.take_of_length_le, (nodeH last Y).2]; try rfl)) (by simp [(nodeH last X).2]) (by simp [(nodeH last Y).2]) ⟨rfl, ?_⟩
        exact ((((hcx.then hch8).then hc9).own hc10 (by omega)).own hc11 (by omega)).then hc12
end Go.Proofs.YtkdbinchlpdkmaaDoor
set_option linter.unusedVariables false
set_option linter.unusedSimpArgs false
namespace Go.Proofs.YtkdbinchlpdkmaaDoor
open Go Go.RowKit Go.Proofs.E
attribute [local irreducible] Go.wpList Go.Code.wp Go.Proofs.E.exec Go.Proofs.E.wpLexG
def inK (m n : Int) : Bool := decide (1 ≤ m) && decide (m ≤ n) && decide (n ≤ 1099511627776)
theorem inK_t {m n : Int} (h1 : 1 ≤ m) (h2 : m ≤ n) (h3 : n ≤ 1099511627776) : inK m n = true := by
  unfold inK
  rw [decide_eq_true h1, decide_eq_true h2, decide_eq_true h3]
  rfl
theorem inK_f {m n : Int} (h : m < 1 ∨ n < m ∨ 1099511627776 < n) : inK m n = false := by
  cases hc : inK m n with
  | false => rfl
  | true =>
    unfold inK at hc
    simp only [Bool.and_eq_true, decide_eq_true_eq] at hc
    omega
def twoOk (a b : Hs) (r : Hs × Hs × Bool) : Bool := r.2.2 && decide (r.1 = a) && decide (r.2.1 = b)
def checksZ (a b : Hs) (m n : Int) (path : List Hs) : Bool := inK m n && twoOk a b (twoZ a m.toNat n.toNat path true)
theorem checksZ_f {a b : Hs} {m n : Int} {path : List Hs} (h : inK m n = false) : checksZ a b m n path = false := by unfold checksZ; rw [h]; rfl
theorem hs_eq {x y : Hs} : decide (x.1 = y.1) = decide (x = y) := by
  rw [decide_eq_decide]
  exact ⟨fun h => Subtype.ext h, fun h => congrArg Subtype.val h⟩
set_option maxHeartbeats 8000000 in
theorem rchecks_any (a b : Hs) (m n : Int) (v : Value) (path : List Hs) (w : World) (hR : (Ty.enc eH).Rd [] w v path) :
    Calls Tryd.prog 38 #[hv a.1, hv b.1, .int .i64 m, .int .i64 n, v] w (Ret fun u w' => u = .bool (checksZ a b m n path) ∧ Ch [] w w') := by
  refine enter [hv a.1, hv b.1, .int .i64 m, .int .i64 n, v, undef, undef, undef, undef, undef, undef, undef, undef, undef, undef, undef, undef, undef, undef, undef, undef, undef, undef, undef, undef, undef, undef, undef, undef, undef, undef, undef, undef, undef, undef, undef, undef, undef, undef, undef, undef, undef, undef, undef, undef] Tryd.func38 rfl rfl ?_
  have hple := hR.le
  obtain ⟨A, cap, rfl⟩ := hR.form
  (try refine wk ?_)
  refine wl_box rfl (fun w1 b5 hb5 => ?_)
  refine wl_box rfl (fun w3 b6 hb6 => ?_)
  have hB6 : Blk w3 b6 (b.1.map u8v) 30 := hb6.blk
  have hB5 : Blk w3 b5 (a.1.map u8v) 30 := Blk.ch (show Blk w1 b5 (a.1.map u8v) 30 from hb5.blk) hb6.ch (by simp)
  have hc3 : Ch [] w w3 := hb5.ch.then hb6.ch
  by_cases h1 : m < 1
  · (try refine wk ?_)
    refine c_condb rfl (fun _ => ?_) (fun h => by cases h)
    (try refine wk ?_)
    exact out1 rfl ⟨by rw [checksZ_f (inK_f (by omega))]; rfl, hc3⟩
  · by_cases h2 : n < m
    · (try refine wk ?_)
      refine c_condb rfl (fun _ => ?_) (fun h => by cases h)
      (try refine wk ?_)
      exact out1 rfl ⟨by rw [checksZ_f (inK_f (by omega))]; rfl, hc3⟩
    · by_cases h3 : 1099511627776 < n
      · (try refine wk ?_)
        refine c_cond rfl (fun _ => ?_) (fun h => absurd h3 h)
        (try refine wk ?_)
        exact out1 rfl ⟨by rw [checksZ_f (inK_f (by omega))]; rfl, hc3⟩
      · obtain ⟨N, rfl⟩ := Int.eq_ofNat_of_zero_le (by omega : 0 ≤ n)
        obtain ⟨M, rfl⟩ := Int.eq_ofNat_of_zero_le (by omega : 0 ≤ m)
        have hin := inK_t (m := M) (n := N) (by omega) (by omega) (by omega)
        (try refine wk ?_)
        refine c_cond rfl (fun h => absurd h h3) (fun _ => ?_)
        (try refine wk ?_)
        refine ldbr (n := 32) hB5 rfl (ds := a.1.map u8v) (by simp [List.take_of_length_le, a.2]) (by simp [a.2]) ?_
        (try refine wk ?_)
        (try ((with_reducible apply is_gd); first | refine gt ?_ | refine gf ?_ | refine gu ?_)); refine ca (rtwo_any path.length a M N (.slice A path.length cap) path true w3 (hR.ch hc3) rfl (by omega) (by omega) (by omega)) ?_
        rintro _ w4 ⟨rfl, hc4⟩
        have hz : checksZ a b (M : Int) (N : Int) path = twoOk a b (twoZ a M N path true) := by unfold checksZ; rw [hin]; rfl
        rw [hz]
        have hB5 := hB5.ch hc4 (by simp)
        have hB6 := hB6.ch hc4 (by simp)
        have hc4 : Ch [] w w4 := hc3.then hc4
        have z4 := hc4.size
        generalize twoZ a M N path true = cz
        obtain ⟨X, Y, ok⟩ := cz
        (try refine wk ?_)
        refine wl_alloc (fun w5 b11 hb11 => ?_)
        refine wl_alloc (fun w6 b12 hb12 => ?_)
        have e11 := hb11.at_
        have e12 := hb12.at_
        have s11 := hb11.size
        have hB12 : Blk w6 b12 ((List.replicate 32 (0 : UInt8)).map u8v) 30 := hb12.blk
        have hB11 : Blk w6 b11 ((List.replicate 32 (0 : UInt8)).map u8v) 30 := Blk.ch (show Blk w5 b11 ((List.replicate 32 (0 : UInt8)).map u8v) 30 from hb11.blk) hb12.ch (by simp)
        refine stbw (n := 32) hB11 rfl rfl (hv_len X.2) (by simp) one_u8 (fun w7 hB11 hc7 hs7 => ?_)
        refine stbw (n := 32) (hB12.ch hc7 (by simp; omega)) rfl rfl (hv_len Y.2) (by simp) one_u8 (fun w8 hB12 hc8 hs8 => ?_)
        have hc48 : Ch [] w4 w8 := ((hb11.ch.then hb12.ch).own hc7 (by omega)).own hc8 (by omega)
        have hB11 := hB11.ch hc8 (by simp; omega)
        have hB5 := hB5.ch hc48 (by simp)
        have hB6 := hB6.ch hc48 (by simp)
        have hc8 : Ch [] w w8 := hc4.then hc48
        unfold twoOk
        cases ok with
        | false =>
          (try refine wk ?_)
          exact out1 rfl ⟨rfl, hc8⟩
        | true =>
          (try refine wk ?_)
          (try ((with_reducible apply is_gd); refine gt ?_))
          refine ldbr (n := 32) hB11 rfl (ds := X.1.map u8v) (by simp [List.take_of_length_le, X.2]) (by simp [X.2]) ?_
          (try ((with_reducible apply is_gd); refine gt ?_))
          refine ldbr (n := 32) hB5 rfl (ds := a.1.map u8v) (by simp [List.take_of_length_le, a.2]) (by simp [a.2]) ?_
          (try ((with_reducible apply is_gd); refine gt ?_))
          refine wl_val (r_eql8 (n := 32) (a := X.1) (b := a.1) Tryd.eqGuardType30 rfl rfl X.2 a.2) ?_
          rw [hs_eq]
          by_cases hx : X = a
          · rw [decide_eq_true hx]
            (try refine wk ?_)
            (try ((with_reducible apply is_gd); refine gt ?_))
            refine ldbr (n := 32) hB12 rfl (ds := Y.1.map u8v) (by simp [List.take_of_length_le, Y.2]) (by simp [Y.2]) ?_
            (try ((with_reducible apply is_gd); refine gt ?_))
            refine ldbr (n := 32) hB6 rfl (ds := b.1.map u8v) (by simp [List.take_of_length_le, b.2]) (by simp [b.2]) ?_
            (try ((with_reducible apply is_gd); refine gt ?_))
            refine wl_val (r_eql8 (n := 32) (a := Y.1) (b := b.1) Tryd.eqGuardType30 rfl rfl Y.2 b.2) ?_
            rw [hs_eq]
            (try refine wk ?_)
            exact out1 rfl ⟨rfl, hc8⟩
          · rw [decide_eq_false hx]
            (try refine wk ?_)
            exact out1 rfl ⟨rfl, hc8⟩
end Go.Proofs.YtkdbinchlpdkmaaDoor
set_option linter.unusedVariables false
set_option linter.unusedSimpArgs false
namespace Go.Proofs.YtkdbinchlpdkmaaDoor
open Go Go.RowKit Go.Proofs.E
def qOf (W : Bool) (path : List Hs) : List Hs := if W = true then path else path.drop 1
def sOf (W : Bool) (a : Hs) (path : List Hs) : Hs := if W = true then a else path.getD 0 zeroH
def one (W : Bool) : Nat := if W = true then 0 else 1
theorem parts_of {W : Bool} {a : Hs} {path : List Hs} {k : Nat} (h : path.length = k + 1 + one W) :
    qOf W (path.take (path.length - 1)) = (qOf W path).take k ∧ sOf W a (path.take (path.length - 1)) = sOf W a path ∧ (qOf W path).getD k zeroH = path.getD (path.length - 1) zeroH := by
  cases W with
  | true =>
    have h : path.length = k + 1 := h
    refine ⟨?_, rfl, ?_⟩
    · show path.take _ = path.take _
      rw [show path.length - 1 = k by omega]
    · show path.getD k zeroH = _
      rw [show path.length - 1 = k by omega]
  | false =>
    have h : path.length = k + 2 := h
    refine ⟨?_, ?_, ?_⟩
    · show (path.take _).drop 1 = (path.drop 1).take k
      rw [List.drop_take, show path.length - 1 - 1 = k by omega]
    · show (path.take _).getD 0 zeroH = path.getD 0 zeroH
      rw [List.getD_eq_getElem?_getD, List.getD_eq_getElem?_getD, List.getElem?_take, if_pos (by omega)]
    · show (path.drop 1).getD k zeroH = _
      rw [List.getD_eq_getElem?_getD, List.getD_eq_getElem?_getD, List.getElem?_drop, show path.length - 1 = 1 + k by omega]
end Go.Proofs.YtkdbinchlpdkmaaDoor
set_option linter.unusedVariables false
set_option linter.unusedSimpArgs false
namespace Go.Proofs.YtkdbinchlpdkmaaDoor
open Go Go.RowKit Go.Proofs.E
attribute [local irreducible] Go.wpList Go.Code.wp Go.Proofs.E.exec Go.Proofs.E.wpLexG
end Go.Proofs.YtkdbinchlpdkmaaDoor
set_option linter.unusedVariables false
set_option linter.unusedSimpArgs false
namespace Go.Proofs.YtkdbinchlpdkmaaDoor
open Go Go.RowKit Go.Proofs.E
abbrev Ft := Int × Int × Hs × List UInt8
def inH (bs : List UInt8) : Hs := ⟨shaOf bs, shaOf_len bs⟩
def factL (lo hi : Nat) (leaf : List UInt8) : Ft := ((lo : Int), (hi : Int), inH (0 :: leaf), 0 :: leaf)
def factN (lo hi : Nat) (a b : Hs) : Ft := ((lo : Int), (hi : Int), nodeH a b, 1 :: (a.1 ++ b.1))
def factS (lo hi : Nat) (h : Hs) : Ft := ((lo : Int), (hi : Int), h, [])
def topF (l : List Ft) : Hs := ((l.getLast?).map (fun f => f.2.2.1)).getD zeroH
theorem topF_snoc (l : List Ft) (f : Ft) : topF (l ++ [f]) = f.2.2.1 := by simp [topF]
theorem topF_snoc2 (l : List Ft) (e f : Ft) : topF (l ++ [e, f]) = f.2.2.1 := by
  rw [show l ++ [e, f] = (l ++ [e]) ++ [f] by simp, topF_snoc]
/-- A part on a way down: where it begins, where it is cut, where it ends; whether the way goes to the right. -/
abbrev Wy := Nat × Nat × Nat × Bool
def uplW (ts : List Wy) : List (Nat × Wy) := ts.reverse.zipIdx.map fun p => (p.2, p.1)
theorem uplW_cons (t : Wy) (ts : List Wy) : uplW (t :: ts) = uplW ts ++ [(ts.length, t)] := by
  unfold uplW
  rw [List.reverse_cons, List.zipIdx_append, List.map_append]
  simp
theorem uplW_mem {ts : List Wy} {x : Nat × Wy} (h : x ∈ uplW ts) : x.1 < ts.length := by
  unfold uplW at h
  obtain ⟨p, hp, rfl⟩ := List.mem_map.1 h
  have := List.snd_lt_of_mem_zipIdx hp
  simpa using this
theorem uplW_len (ts : List Wy) : (uplW ts).length = ts.length := by simp [uplW]
theorem uplW_get {ts : List Wy} {i : Nat} {t : Wy} (h : ts[ts.length - 1 - i]? = some t) (hi : i < ts.length) : (uplW ts)[i]? = some (i, t) := by
  unfold uplW
  rw [List.getElem?_map, List.getElem?_zipIdx, List.getElem?_reverse hi, h]
  simp
def waysF : Nat → Nat → Nat → Nat → List Wy
  | 0, _, _, _ => []
  | f + 1, lo, n, i => if n ≤ 1 then [] else if i < splitN n then (lo, lo + splitN n, lo + n, false) :: waysF f lo (splitN n) i else (lo, lo + splitN n, lo + n, true) :: waysF f (lo + splitN n) (n - splitN n) (i - splitN n)
theorem ways_turns : ∀ f lo n i, (waysF f lo n i).length = (turnsF f n i).length
  | 0, _, _, _ => rfl
  | f + 1, lo, n, i => by
    rw [waysF, turnsF]
    split
    · rfl
    · split
      · rw [List.length_cons, List.length_cons, ways_turns]
      · rw [List.length_cons, List.length_cons, ways_turns]
def stepP (path : List Hs) (out : List Ft) (x : Nat × Wy) : List Ft :=
  if x.2.2.2.2 = true then out ++ [factS x.2.1 x.2.2.1 (path.getD x.1 zeroH), factN x.2.1 x.2.2.2.1 (path.getD x.1 zeroH) (topF out)]
  else out ++ [factS x.2.2.1 x.2.2.2.1 (path.getD x.1 zeroH), factN x.2.1 x.2.2.2.1 (topF out) (path.getD x.1 zeroH)]
theorem stepP_take {path : List Hs} {k : Nat} : ∀ (xs : List (Nat × Wy)) (o : List Ft), (∀ x ∈ xs, x.1 < k) → xs.foldl (stepP (path.take k)) o = xs.foldl (stepP path) o
  | [], o, _ => rfl
  | x :: xs, o, hk => by
    have e : stepP (path.take k) o x = stepP path o x := by
      unfold stepP
      have := hk x (by simp)
      rw [List.getD_eq_getElem?_getD, List.getD_eq_getElem?_getD, List.getElem?_take, if_pos this]
    rw [List.foldl_cons, List.foldl_cons, e, stepP_take xs _ (fun y hy => hk y (by simp [hy]))]
def pathF : Nat → Nat → Nat → Nat → List UInt8 → List Hs → List Ft
  | 0, lo, n, _, leaf, _ => [factL lo (lo + n) leaf]
  | f + 1, lo, n, i, leaf, p =>
    if n ≤ 1 then [factL lo (lo + n) leaf]
    else if i < splitN n then pathF f lo (splitN n) i leaf (p.take (p.length - 1)) ++ [factS (lo + splitN n) (lo + n) (p.getD (p.length - 1) zeroH), factN lo (lo + n) (topF (pathF f lo (splitN n) i leaf (p.take (p.length - 1)))) (p.getD (p.length - 1) zeroH)]
    else pathF f (lo + splitN n) (n - splitN n) (i - splitN n) leaf (p.take (p.length - 1)) ++ [factS lo (lo + splitN n) (p.getD (p.length - 1) zeroH), factN lo (lo + n) (p.getD (p.length - 1) zeroH) (topF (pathF f (lo + splitN n) (n - splitN n) (i - splitN n) leaf (p.take (p.length - 1))))]
theorem pathF_any : ∀ (f g lo n i : Nat) (leaf : List UInt8) (p : List Hs), n ≤ f → n ≤ g → n ≤ 9223372036854775807 → pathF f lo n i leaf p = pathF g lo n i leaf p
  | 0, 0, lo, n, i, leaf, p, _, _, _ => rfl
  | 0, g + 1, lo, n, i, leaf, p, h, _, _ => by rw [pathF, pathF, if_pos (by omega)]
  | f + 1, 0, lo, n, i, leaf, p, _, h, _ => by rw [pathF, pathF, if_pos (by omega)]
  | f + 1, g + 1, lo, n, i, leaf, p, hf, hg, hb => by
    rw [pathF, pathF]
    by_cases h : n ≤ 1
    · rw [if_pos h, if_pos h]
    · rw [if_neg h, if_neg h]
      have := splitN_lt (n := n) (by omega) hb
      rw [pathF_any f g lo (splitN n) i leaf _ (by omega) (by omega) (by omega), pathF_any f g (lo + splitN n) (n - splitN n) (i - splitN n) leaf _ (by omega) (by omega) (by omega)]
def pathN (lo n i : Nat) (leaf : List UInt8) (p : List Hs) : List Ft := pathF n lo n i leaf p
theorem path_one {lo n i : Nat} {leaf : List UInt8} {p : List Hs} (h : n ≤ 1) : pathN lo n i leaf p = [factL lo (lo + n) leaf] := by
  unfold pathN
  cases n with
  | zero => rfl
  | succ n => rw [pathF, if_pos h]
theorem path_left {lo n i : Nat} {leaf : List UInt8} {p : List Hs} (h2 : 2 ≤ n) (hb : n ≤ 9223372036854775807) (hi : i < splitN n) :
    pathN lo n i leaf p = pathN lo (splitN n) i leaf (p.take (p.length - 1)) ++ [factS (lo + splitN n) (lo + n) (p.getD (p.length - 1) zeroH), factN lo (lo + n) (topF (pathN lo (splitN n) i leaf (p.take (p.length - 1)))) (p.getD (p.length - 1) zeroH)] := by
  have := splitN_lt h2 hb
  unfold pathN
  obtain ⟨f, rfl⟩ : ∃ f, n = f + 1 := ⟨n - 1, by omega⟩
  conv => lhs; rw [pathF]
  rw [if_neg (by omega), if_pos hi, pathF_any f (splitN (f + 1)) lo _ i leaf _ (by omega) (Nat.le_refl _) (by omega)]
theorem path_right {lo n i : Nat} {leaf : List UInt8} {p : List Hs} (h2 : 2 ≤ n) (hb : n ≤ 9223372036854775807) (hi : ¬ i < splitN n) :
    pathN lo n i leaf p = pathN (lo + splitN n) (n - splitN n) (i - splitN n) leaf (p.take (p.length - 1)) ++ [factS lo (lo + splitN n) (p.getD (p.length - 1) zeroH), factN lo (lo + n) (p.getD (p.length - 1) zeroH) (topF (pathN (lo + splitN n) (n - splitN n) (i - splitN n) leaf (p.take (p.length - 1))))] := by
  have := splitN_lt h2 hb
  unfold pathN
  obtain ⟨f, rfl⟩ : ∃ f, n = f + 1 := ⟨n - 1, by omega⟩
  conv => lhs; rw [pathF]
  rw [if_neg (by omega), if_neg hi, pathF_any f (f + 1 - splitN (f + 1)) (lo + splitN (f + 1)) _ _ leaf _ (by omega) (Nat.le_refl _) (by omega)]
/-- Up the ways, the same. -/
theorem path_ways : ∀ (f lo n i : Nat) (leaf : List UInt8) (path : List Hs), n ≤ f → n ≤ 9223372036854775807 → i < n → path.length = (waysF f lo n i).length →
    (uplW (waysF f lo n i)).foldl (stepP path) [factL (lo + i) (lo + i + 1) leaf] = pathF f lo n i leaf path
  | 0, lo, n, i, leaf, path, h, _, hi, _ => by omega
  | f + 1, lo, n, i, leaf, path, hf, hb, hi, hl => by
    rw [waysF] at hl ⊢
    rw [pathF]
    by_cases h : n ≤ 1
    · rw [if_pos h] at hl ⊢
      rw [if_pos h]
      obtain rfl : n = 1 := by omega
      obtain rfl : i = 0 := by omega
      rfl
    · rw [if_neg h] at hl ⊢
      rw [if_neg h]
      have := splitN_lt (n := n) (by omega) hb
      by_cases hs : i < splitN n
      · rw [if_pos hs] at hl ⊢
        rw [if_pos hs]
        rw [List.length_cons] at hl
        have hl' : (path.take (path.length - 1)).length = (waysF f lo (splitN n) i).length := by rw [List.length_take]; omega
        have ih := path_ways f lo (splitN n) i leaf (path.take (path.length - 1)) (by omega) (by omega) hs hl'
        rw [stepP_take _ _ (fun x hx => by have := uplW_mem hx; omega)] at ih
        rw [uplW_cons, List.foldl_append, ih, List.foldl_cons, List.foldl_nil]
        unfold stepP
        rw [if_neg (by simp), show (waysF f lo (splitN n) i).length = path.length - 1 by omega]
      · rw [if_neg hs] at hl ⊢
        rw [if_neg hs]
        rw [List.length_cons] at hl
        have hl' : (path.take (path.length - 1)).length = (waysF f (lo + splitN n) (n - splitN n) (i - splitN n)).length := by rw [List.length_take]; omega
        have ih := path_ways f (lo + splitN n) (n - splitN n) (i - splitN n) leaf (path.take (path.length - 1)) (by omega) (by omega) (by omega) hl'
        rw [stepP_take _ _ (fun x hx => by have := uplW_mem hx; omega), show lo + splitN n + (i - splitN n) = lo + i by omega] at ih
        rw [uplW_cons, List.foldl_append, ih, List.foldl_cons, List.foldl_nil]
        unfold stepP
        rw [if_pos rfl, show (waysF f (lo + splitN n) (n - splitN n) (i - splitN n)).length = path.length - 1 by omega]
/-! ### Growth -/
def wayG : Nat → Nat → Nat → Nat → List Wy
  | 0, _, _, _ => []
  | f + 1, lo, m, n => if n ≤ m then [] else if m ≤ splitN n then (lo, lo + splitN n, lo + n, false) :: wayG f lo m (splitN n) else (lo, lo + splitN n, lo + n, true) :: wayG f (lo + splitN n) (m - splitN n) (n - splitN n)
def baseG : Nat → Nat → Nat → Nat → Nat
  | 0, lo, _, _ => lo
  | f + 1, lo, m, n => if n ≤ m then lo else if m ≤ splitN n then baseG f lo m (splitN n) else baseG f (lo + splitN n) (m - splitN n) (n - splitN n)
abbrev Gs := List Ft × Hs × Hs
def stepG (M : Nat) (q : List Hs) (s : Gs) (x : Nat × Wy) : Gs :=
  if x.2.2.2.2 = true then (s.1 ++ [factS x.2.1 x.2.2.1 (q.getD x.1 zeroH), factN x.2.1 M (q.getD x.1 zeroH) s.2.1, factN x.2.1 x.2.2.2.1 (q.getD x.1 zeroH) s.2.2], nodeH (q.getD x.1 zeroH) s.2.1, nodeH (q.getD x.1 zeroH) s.2.2)
  else (s.1 ++ [factS x.2.2.1 x.2.2.2.1 (q.getD x.1 zeroH), factN x.2.1 x.2.2.2.1 s.2.2 (q.getD x.1 zeroH)], s.2.1, nodeH s.2.2 (q.getD x.1 zeroH))
theorem stepG_take {M : Nat} {q : List Hs} {k : Nat} : ∀ (xs : List (Nat × Wy)) (s : Gs), (∀ x ∈ xs, x.1 < k) → xs.foldl (stepG M (q.take k)) s = xs.foldl (stepG M q) s
  | [], s, _ => rfl
  | x :: xs, s, hk => by
    have e : stepG M (q.take k) s x = stepG M q s x := by
      unfold stepG
      have := hk x (by simp)
      rw [List.getD_eq_getElem?_getD, List.getD_eq_getElem?_getD, List.getElem?_take, if_pos this]
    rw [List.foldl_cons, List.foldl_cons, e, stepG_take xs _ (fun y hy => hk y (by simp [hy]))]
def twoF (a : Hs) (lo m n : Nat) (p : List Hs) (whole : Bool) : Option Gs :=
  if m = n then (if whole = true then (if p.length = 0 then some ([factS lo (lo + n) a], a, a) else none) else if p.length = 1 then some ([factS lo (lo + n) (p.getD 0 zeroH)], p.getD 0 zeroH, p.getD 0 zeroH) else none)
  else if p.length = 0 then none
  else if m ≤ splitN n then
    (twoF a lo m (splitN n) (p.take (p.length - 1)) whole).map fun s => (s.1 ++ [factS (lo + splitN n) (lo + n) (p.getD (p.length - 1) zeroH), factN lo (lo + n) s.2.2 (p.getD (p.length - 1) zeroH)], s.2.1, nodeH s.2.2 (p.getD (p.length - 1) zeroH))
  else (twoF a (lo + splitN n) (m - splitN n) (n - splitN n) (p.take (p.length - 1)) false).map fun s =>
    (s.1 ++ [factS lo (lo + splitN n) (p.getD (p.length - 1) zeroH), factN lo (lo + m) (p.getD (p.length - 1) zeroH) s.2.1, factN lo (lo + n) (p.getD (p.length - 1) zeroH) s.2.2], nodeH (p.getD (p.length - 1) zeroH) s.2.1, nodeH (p.getD (p.length - 1) zeroH) s.2.2)
termination_by p.length
decreasing_by all_goals (rw [List.length_take]; omega)
def anyW (ts : List Wy) : Bool := ts.any (·.2.2.2)
/-- Along the way, the same. -/
theorem two_way (a : Hs) : ∀ (f lo m n : Nat) (p : List Hs) (whole : Bool), n ≤ f → 1 ≤ m → m ≤ n → n ≤ 9223372036854775807 →
    ∃ W, W = (whole && !anyW (wayG f lo m n)) ∧ twoF a lo m n p whole = if p.length = (wayG f lo m n).length + one W then some ((uplW (wayG f lo m n)).foldl (stepG (lo + m) (qOf W p)) ([factS (baseG f lo m n) (lo + m) (sOf W a p)], sOf W a p, sOf W a p)) else none
  | 0, lo, m, n, p, whole, hf, h1, hmn, hb => by omega
  | f + 1, lo, m, n, p, whole, hf, h1, hmn, hb => by
    refine ⟨_, rfl, ?_⟩
    rw [wayG, baseG, twoF]
    by_cases h : m = n
    · rw [if_pos h, if_pos (by omega : n ≤ m), if_pos (by omega : n ≤ m)]
      subst h
      cases whole with
      | true =>
        rw [if_pos rfl]
        rfl
      | false =>
        rw [if_neg (by simp)]
        rfl
    · rw [if_neg h, if_neg (by omega : ¬ n ≤ m), if_neg (by omega : ¬ n ≤ m)]
      have hsp := splitN_lt (n := n) (by omega) hb
      by_cases h0 : p.length = 0
      · rw [if_pos h0, if_neg]
        by_cases hi : m ≤ splitN n
        · rw [if_pos hi, List.length_cons]
          omega
        · rw [if_neg hi, List.length_cons]
          omega
      · rw [if_neg h0]
        by_cases hi : m ≤ splitN n
        · rw [if_pos hi, if_pos hi, if_pos hi]
          obtain ⟨W, hW, hok⟩ := two_way a f lo m (splitN n) (p.take (p.length - 1)) whole (by omega) h1 hi (by omega)
          have hW' : (whole && !anyW ((lo, lo + splitN n, lo + n, false) :: wayG f lo m (splitN n))) = W := by rw [hW]; rfl
          rw [hW', hok, List.length_cons, List.length_take]
          by_cases hl : p.length = (wayG f lo m (splitN n)).length + 1 + one W
          · rw [if_pos hl, if_pos (by omega)]
            have hp := parts_of (W := W) (a := a) (k := (wayG f lo m (splitN n)).length) hl
            rw [hp.1, hp.2.1, stepG_take _ _ (fun x hx => uplW_mem hx), Option.map_some, uplW_cons, List.foldl_append, List.foldl_cons, List.foldl_nil]
            conv => rhs; rw [stepG]
            rw [if_neg (by simp), hp.2.2]
          · rw [if_neg hl, if_neg (by omega)]
            rfl
        · rw [if_neg hi, if_neg hi, if_neg hi]
          obtain ⟨W, hW, hok⟩ := two_way a f (lo + splitN n) (m - splitN n) (n - splitN n) (p.take (p.length - 1)) false (by omega) (by omega) (by omega) (by omega)
          have hW' : (whole && !anyW ((lo, lo + splitN n, lo + n, true) :: wayG f (lo + splitN n) (m - splitN n) (n - splitN n))) = W := by rw [hW]; simp [anyW]
          rw [hW', hok, List.length_cons, List.length_take]
          by_cases hl : p.length = (wayG f (lo + splitN n) (m - splitN n) (n - splitN n)).length + 1 + one W
          · rw [if_pos hl, if_pos (by omega)]
            have hp := parts_of (W := W) (a := a) (k := (wayG f (lo + splitN n) (m - splitN n) (n - splitN n)).length) hl
            rw [hp.1, hp.2.1, stepG_take _ _ (fun x hx => uplW_mem hx), Option.map_some, uplW_cons, List.foldl_append, List.foldl_cons, List.foldl_nil, show lo + splitN n + (m - splitN n) = lo + m by omega]
            conv => rhs; rw [stepG]
            rw [if_pos rfl, hp.2.2]
          · rw [if_neg hl, if_neg (by omega)]
            rfl
end Go.Proofs.YtkdbinchlpdkmaaDoor
set_option linter.unusedVariables false
set_option linter.unusedSimpArgs false
namespace Go.Proofs.YtkdbinchlpdkmaaDoor
open Go Go.RowKit Go.Proofs.E
abbrev AbK := Int × Int × Hs
def keyF (f : Ft) : AbK := (f.1, f.2.1, f.2.2.1)
def inF (f : Ft) : List UInt8 := f.2.2.2
/-- Two facts that name two inputs. -/
def hitF (a b : Ft) : Bool := decide (keyF a = keyF b ∧ inF a ≠ [] ∧ inF b ≠ [] ∧ inF a ≠ inF b)
theorem hitF_iff {a b : Ft} : hitF a b = true ↔ keyF a = keyF b ∧ inF a ≠ [] ∧ inF b ≠ [] ∧ inF a ≠ inF b := by unfold hitF; rw [decide_eq_true_eq]
def meetF : List Ft → Option (List UInt8 × List UInt8)
  | [] => none
  | a :: l => match l.find? (hitF a) with
    | some b => some (inF a, inF b)
    | none => meetF l
def Hit (l : List Ft) (i j : Nat) : Prop := ∃ a b, l[i]? = some a ∧ l[j]? = some b ∧ hitF a b = true
def Least (l : List Ft) (i j : Nat) : Prop := i < j ∧ Hit l i j ∧ (∀ i', i' < i → ∀ j', i' < j' → ¬ Hit l i' j') ∧ ∀ j', i < j' → j' < j → ¬ Hit l i j'
theorem hit_cons {x : Ft} {l : List Ft} {i j : Nat} : Hit (x :: l) (i + 1) (j + 1) ↔ Hit l i j := by unfold Hit; simp
theorem meet_none : ∀ {l : List Ft}, (∀ i j, i < j → ¬ Hit l i j) → meetF l = none
  | [], _ => rfl
  | a :: l, h => by
    unfold meetF
    have h1 : l.find? (hitF a) = none := by
      rw [List.find?_eq_none]
      intro b hb hh
      obtain ⟨j, hj⟩ := List.getElem?_of_mem hb
      exact h 0 (j + 1) (by omega) ⟨a, b, rfl, by simpa using hj, hh⟩
    rw [h1]
    exact meet_none (fun i j hij hh => h (i + 1) (j + 1) (by omega) (hit_cons.2 hh))
theorem find_first {α : Type} {p : α → Bool} : ∀ {l : List α} {j : Nat} {b : α}, l[j]? = some b → p b = true → (∀ j', j' < j → ∀ c, l[j']? = some c → p c = false) → l.find? p = some b
  | [], j, b, h, _, _ => by simp at h
  | x :: l, 0, b, h, hp, _ => by
    simp only [List.getElem?_cons_zero, Option.some.injEq] at h
    subst h
    rw [List.find?_cons, hp]
  | x :: l, j + 1, b, h, hp, hl => by
    have h0 := hl 0 (by omega) x rfl
    rw [List.find?_cons, h0]
    exact find_first (l := l) (j := j) (by simpa using h) hp (fun j' hj' c hc => hl (j' + 1) (by omega) c (by simpa using hc))
theorem meet_least : ∀ {l : List Ft} {i j : Nat} {a b : Ft}, Least l i j → l[i]? = some a → l[j]? = some b → meetF l = some (inF a, inF b)
  | [], i, j, a, b, _, h, _ => by simp at h
  | x :: l, 0, j, a, b, ⟨h1, h2, h3, h4⟩, ha, hb => by
    simp only [List.getElem?_cons_zero, Option.some.injEq] at ha
    subst ha
    obtain ⟨j, rfl⟩ : ∃ k, j = k + 1 := ⟨j - 1, by omega⟩
    obtain ⟨a', b', e1, e2, e3⟩ := h2
    simp only [List.getElem?_cons_zero, Option.some.injEq] at e1
    subst e1
    obtain rfl : b' = b := by rw [hb] at e2; injection e2 with e; exact e.symm
    unfold meetF
    rw [find_first (by simpa using hb) e3 (fun j' hj' c hc => by
      cases hh : hitF x c with
      | false => rfl
      | true => exact absurd ⟨x, c, rfl, by simpa using hc, hh⟩ (h4 (j' + 1) (by omega) (by omega)))]
  | x :: l, i + 1, j, a, b, ⟨h1, h2, h3, h4⟩, ha, hb => by
    obtain ⟨j, rfl⟩ : ∃ k, j = k + 1 := ⟨j - 1, by omega⟩
    unfold meetF
    have hn : l.find? (hitF x) = none := by
      rw [List.find?_eq_none]
      intro c hc hh
      obtain ⟨k, hk⟩ := List.getElem?_of_mem hc
      exact h3 0 (by omega) (k + 1) (by omega) ⟨x, c, rfl, by simpa using hk, hh⟩
    rw [hn]
    exact meet_least (l := l) (i := i) (j := j) ⟨by omega, hit_cons.1 h2, fun i' hi' j' hij hh => h3 (i' + 1) (by omega) (j' + 1) (by omega) (hit_cons.2 hh), fun j' q1 q2 hh => h4 (j' + 1) (by omega) (by omega) (hit_cons.2 hh)⟩ (by simpa using ha) (by simpa using hb)
/-! ### With a table of the first facts of a kind -/
/-- i is the first fact with an input below k that has i's kind. -/
def First (l : List Ft) (k i : Nat) : Prop := i < k ∧ ∃ f, l[i]? = some f ∧ inF f ≠ [] ∧ ∀ i', i' < i → ∀ g, l[i']? = some g → inF g ≠ [] → keyF g ≠ keyF f
/-- What the table says. -/
def Tab (l : List Ft) (k : Nat) (ks : List (AbK × Nat)) : Prop := (∀ p ∈ ks, First l k p.2 ∧ ∃ f, l[p.2]? = some f ∧ keyF f = p.1) ∧ ∀ i f, i < k → l[i]? = some f → inF f ≠ [] → ∃ p ∈ ks, p.1 = keyF f
def BestF (l : List Ft) (k best other : Nat) : Prop :=
  (best = l.length ∧ ∀ i j, i < j → j < k → ¬ Hit l i j) ∨ (best < other ∧ other < k ∧ best < l.length ∧ Hit l best other ∧ (∀ i, i < best → ∀ j, i < j → j < k → ¬ Hit l i j) ∧ ∀ j, best < j → j < other → ¬ Hit l best j)
theorem tab0 (l : List Ft) : Tab l 0 [] := ⟨fun p hp => by simp at hp, fun i f hi => by omega⟩
theorem best0 (l : List Ft) : BestF l 0 l.length 0 := .inl ⟨rfl, fun i j _ hj => by omega⟩
section
variable {l : List Ft} {k best other : Nat} {ks : List (AbK × Nat)} {f : Ft}
theorem first_mono {i : Nat} (h : First l k i) : First l (k + 1) i := ⟨by have := h.1; omega, h.2⟩
/-- A fact without an input. -/
theorem tab_skip (hT : Tab l k ks) (hf : l[k]? = some f) (h0 : inF f = []) : Tab l (k + 1) ks :=
  ⟨fun p hp => ⟨first_mono (hT.1 p hp).1, (hT.1 p hp).2⟩, fun i g hi hg hn => by
    rcases Nat.lt_or_ge i k with h | h
    · exact hT.2 i g h hg hn
    · have : i = k := by omega
      subst this
      rw [hf] at hg
      injection hg with hg
      subst hg
      exact absurd h0 hn⟩
theorem best_skip (hB : BestF l k best other) (h : ∀ i, i < k → ¬ Hit l i k) : BestF l (k + 1) best other := by
  rcases hB with ⟨h1, h2⟩ | ⟨h1, h2, h3, h4, h5, h6⟩
  · refine .inl ⟨h1, fun i j hij hj => ?_⟩
    rcases Nat.lt_or_ge j k with q | q
    · exact h2 i j hij q
    · have : j = k := by omega
      subst this
      exact h i hij
  · refine .inr ⟨h1, by omega, h3, h4, fun i hi j hij hj => ?_, h6⟩
    rcases Nat.lt_or_ge j k with q | q
    · exact h5 i hi j hij q
    · have : j = k := by omega
      subst this
      exact h i hij
theorem nohit_empty (hf : l[k]? = some f) (h0 : inF f = []) (i : Nat) : ¬ Hit l i k := fun ⟨a, b, ha, hb, hh⟩ => by
  rw [hf] at hb
  injection hb with hb
  subst hb
  exact (hitF_iff.1 hh).2.2.1 h0
/-- The first of its kind. -/
theorem tab_new (hT : Tab l k ks) (hf : l[k]? = some f) (hn : inF f ≠ []) (hx : ∀ p ∈ ks, p.1 ≠ keyF f) : Tab l (k + 1) (ks ++ [(keyF f, k)]) := by
  refine ⟨fun p hp => ?_, fun i g hi hg hgn => ?_⟩
  · rcases List.mem_append.1 hp with hp | hp
    · exact ⟨first_mono (hT.1 p hp).1, (hT.1 p hp).2⟩
    · simp only [List.mem_singleton] at hp
      subst hp
      refine ⟨⟨by simp, f, hf, hn, fun i' hi' g hg hgn he => ?_⟩, f, hf, rfl⟩
      obtain ⟨p, hp, hpk⟩ := hT.2 i' g hi' hg hgn
      exact hx p hp (hpk.trans he)
  · rcases Nat.lt_or_ge i k with h | h
    · obtain ⟨p, hp, hpk⟩ := hT.2 i g h hg hgn
      exact ⟨p, by simp [hp], hpk⟩
    · have : i = k := by omega
      subst this
      rw [hf] at hg
      injection hg with hg
      subst hg
      exact ⟨(keyF f, i), by simp, rfl⟩
theorem nohit_new (hT : Tab l k ks) (hf : l[k]? = some f) (hx : ∀ p ∈ ks, p.1 ≠ keyF f) (i : Nat) (hi : i < k) : ¬ Hit l i k := fun ⟨a, b, ha, hb, hh⟩ => by
  rw [hf] at hb
  injection hb with hb
  subst hb
  obtain ⟨h1, h2, h3, h4⟩ := hitF_iff.1 hh
  obtain ⟨p, hp, hpk⟩ := hT.2 i a hi ha h2
  exact hx p hp (hpk.trans h1)
/-- One that is there already. -/
theorem tab_old {p : AbK × Nat} (hT : Tab l k ks) (hf : l[k]? = some f) (hp : p ∈ ks) (he : p.1 = keyF f) : Tab l (k + 1) ks :=
  ⟨fun p hp => ⟨first_mono (hT.1 p hp).1, (hT.1 p hp).2⟩, fun i g hi hg hgn => by
    rcases Nat.lt_or_ge i k with h | h
    · exact hT.2 i g h hg hgn
    · have : i = k := by omega
      subst this
      rw [hf] at hg
      injection hg with hg
      subst hg
      exact ⟨p, hp, he⟩⟩
theorem first_le {p : AbK × Nat} {i : Nat} {a : Ft} (hT : Tab l k ks) (hp : p ∈ ks) (ha : l[i]? = some a) (hn : inF a ≠ []) (hk : keyF a = p.1) : p.2 ≤ i := by
  obtain ⟨⟨_, f, hf, hfn, hmin⟩, f', hf', hk'⟩ := hT.1 p hp
  obtain rfl : f' = f := by rw [hf] at hf'; injection hf' with e; exact e.symm
  exact Nat.le_of_not_lt fun hlt => hmin i hlt a ha hn (hk.trans hk'.symm)
/-- Its first has the same input, or is not below the best: all stays. -/
theorem best_same {p : AbK × Nat} {g : Ft} (hT : Tab l k ks) (hB : BestF l k best other) (hf : l[k]? = some f) (hn : inF f ≠ []) (hp : p ∈ ks) (he : p.1 = keyF f) (hg : l[p.2]? = some g) (h : best ≤ p.2 ∨ inF g = inF f) : BestF l (k + 1) best other := by
  obtain ⟨⟨hpk, g', hg', hgn, _⟩, g2, hg2, hk2⟩ := hT.1 p hp
  obtain rfl : g' = g := by rw [hg] at hg'; injection hg' with e; exact e.symm
  obtain rfl : g2 = g' := by rw [hg] at hg2; injection hg2 with e; exact e.symm
  have key : ∀ i, i < k → Hit l i k → p.2 ≤ i ∧ (inF g2 = inF f → i ≠ p.2 ∧ Hit l p.2 i) := fun i hi ⟨a, b, ha, hb, hh⟩ => by
    rw [hf] at hb
    injection hb with hb
    subst hb
    obtain ⟨h1, h2, h3, h4⟩ := hitF_iff.1 hh
    refine ⟨first_le hT hp ha h2 (h1.trans he.symm), fun e => ?_⟩
    have hne : i ≠ p.2 := fun e2 => by
      subst e2
      rw [hg] at ha
      injection ha with ha
      subst ha
      exact h4 e
    exact ⟨hne, g2, a, hg, ha, hitF_iff.2 ⟨hk2.trans (he.trans h1.symm), hgn, h2, fun e3 => h4 (by rw [← e3, e])⟩⟩
  rcases hB with ⟨h1, h2⟩ | ⟨h1, h2, h3, h4, h5, h6⟩
  · refine best_skip (.inl ⟨h1, h2⟩) fun i hi hh => ?_
    obtain ⟨q1, q2⟩ := key i hi hh
    rcases h with h | h
    · have : p.2 < l.length := (List.getElem?_eq_some_iff.1 hg).1
      omega
    · obtain ⟨q3, q4⟩ := q2 h
      exact h2 p.2 i (by omega) hi q4
  · refine .inr ⟨h1, by omega, h3, h4, fun i hi j hij hj hh => ?_, h6⟩
    rcases Nat.lt_or_ge j k with q | q
    · exact h5 i hi j hij q hh
    · have : j = k := by omega
      subst this
      obtain ⟨q1, q2⟩ := key i hij hh
      rcases h with h | h
      · omega
      · obtain ⟨q3, q4⟩ := q2 h
        exact h5 p.2 (by omega) i (by omega) hij q4
/-- A better one. -/
theorem best_new {p : AbK × Nat} {g : Ft} (hT : Tab l k ks) (hB : BestF l k best other) (hf : l[k]? = some f) (hn : inF f ≠ []) (hp : p ∈ ks) (he : p.1 = keyF f) (hg : l[p.2]? = some g) (h1 : p.2 < best) (h2 : inF g ≠ inF f) : BestF l (k + 1) p.2 k := by
  obtain ⟨⟨hpk, g', hg', hgn, _⟩, g2, hg2, hk2⟩ := hT.1 p hp
  obtain rfl : g' = g := by rw [hg] at hg'; injection hg' with e; exact e.symm
  obtain rfl : g2 = g' := by rw [hg] at hg2; injection hg2 with e; exact e.symm
  have old : ∀ i, i < best → ∀ j, i < j → j < k → ¬ Hit l i j := by
    rcases hB with ⟨_, q⟩ | ⟨_, _, _, _, q, _⟩
    · exact fun i _ j hij hj => q i j hij hj
    · exact q
  refine .inr ⟨hpk, by omega, (List.getElem?_eq_some_iff.1 hg).1, ⟨g2, f, hg, hf, hitF_iff.2 ⟨hk2.trans he, hgn, hn, h2⟩⟩, fun i hi j hij hj hh => ?_, fun j hj hjk => old p.2 h1 j hj hjk⟩
  rcases Nat.lt_or_ge j k with q | q
  · exact old i (by omega) j hij q hh
  · have : j = k := by omega
    subst this
    obtain ⟨a, b, ha, hb, hab⟩ := hh
    rw [hf] at hb
    injection hb with hb
    subst hb
    obtain ⟨e1, e2, _, _⟩ := hitF_iff.1 hab
    have := first_le hT hp ha e2 (e1.trans he.symm)
    omega
end
theorem best_none {l : List Ft} {other : Nat} (h : BestF l l.length l.length other) : meetF l = none := by
  rcases h with ⟨_, h⟩ | ⟨_, _, h, _⟩
  · refine meet_none fun i j hij hh => ?_
    obtain ⟨a, b, ha, hb, _⟩ := hh
    exact h i j hij (List.getElem?_eq_some_iff.1 hb).1 ⟨a, b, ha, hb, by assumption⟩
  · omega
theorem best_some {l : List Ft} {best other : Nat} (h : BestF l l.length best other) (hne : best ≠ l.length) : ∃ a b, l[best]? = some a ∧ l[other]? = some b ∧ meetF l = some (inF a, inF b) := by
  rcases h with ⟨h, _⟩ | ⟨h1, h2, h3, h4, h5, h6⟩
  · exact absurd h hne
  · have ha := List.getElem?_eq_getElem h3
    have hb := List.getElem?_eq_getElem h2
    exact ⟨_, _, ha, hb, meet_least ⟨h1, h4, fun i' hi' j' hij hh => h5 i' hi' j' hij (by obtain ⟨a, b, _, q, _⟩ := hh; exact (List.getElem?_eq_some_iff.1 q).1) hh, h6⟩ ha hb⟩
end Go.Proofs.YtkdbinchlpdkmaaDoor

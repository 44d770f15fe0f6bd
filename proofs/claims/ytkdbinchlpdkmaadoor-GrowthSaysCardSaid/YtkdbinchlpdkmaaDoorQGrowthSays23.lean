/- Walks of growth: what a proof of growth says, the program's.
   Walks of growth: what a path says, the document's.
   Walks of growth: what a proof of growth says, the document's. -/
import Derived.Test.YtkdbinchlpdkmaaDoorQGrowthSays22
set_option linter.unusedVariables false
set_option linter.unusedSimpArgs false
set_option maxRecDepth 4000
namespace Go.Proofs.E
open Go Go.RowKit
/-- A choice whose sides go on alike, or return. -/
def OutR (J : List Value → World → Prop) (Q : Exit → Act → World → Prop) : Exit → Act → World → Prop := fun e a w => (e = .normal ∧ ∃ l, a = fr l ∧ J l w) ∨ (e = .ret ∧ Q .ret a w)
theorem outR {J : List Value → World → Prop} {Q : Exit → Act → World → Prop} {l : List Value} {w : World} (h : J l w) : OutR J Q .normal (fr l) w := .inl ⟨rfl, l, rfl, h⟩
theorem retR {J : List Value → World → Prop} {Q : Exit → Act → World → Prop} {a : Act} {w : World} (h : Q .ret a w) : OutR J Q .ret a w := .inr ⟨rfl, h⟩
theorem c_condR {P : Program} {c : Operand} {x y : Code} {b : Bool} {K : Act → World → Prop} {Q : Exit → Act → World → Prop} {l : List Value} {w : World} (J : List Value → World → Prop) (hc : ev l c = .bool b) (ht : b = true → x.wp P (OutR J Q) (fr l) w) (hf : b = false → y.wp P (OutR J Q) (fr l) w)
    (hk : ∀ l w, J l w → K (fr l) w) : (Code.cond c x y).wp P (Exit.then K Q) (fr l) w :=
  wp_mono (c_condb hc ht hf) fun e a w h => by
    rcases h with ⟨rfl, l, rfl, hj⟩ | ⟨rfl, h⟩
    · exact hk l w hj
    · exact h
section
variable {P : Program} {ops : Array Oper} {N : Nat} {S : List Nat} {Q : Exit → Act → World → Prop} {z : List Nat × List Nat} {fuel : Nat} {listed : Array Bool} {l : List Value} {w : World} {T : TypeId} {pos : String} {after : Array Edge}
theorem yn_cut_lo2 {α : Type} {ty : Ty α} {d : Nat} {x : Operand} {t e : TypeId} {zv : Value} {m by_ : Nat} [hu : Und P t (.slice e)] [hi : Inf P e zv m by_] {v : Value} {xs : List α} {y : Operand} {k1 : IntKind} {i : Int} (k : Nat) (ho : ops[k]? = some { dst := some d, op := .slice t x (some y) none none, type := T, pos := pos, after := after, guard := none })
    {S' : List Nat} {wx : World} (hR : ty.Rd S' wx v xs) (hx : ev l x = v) (hm : ty.n = m) (hy : ev l y = .int k1 i) (h0 : 0 ≤ i) (h1 : i ≤ xs.length)
    (h : ∀ v', ty.Rd S' wx v' (xs.drop i.toNat) → WY P ops N S Q z fuel (listed.setIfInBounds k true) (fr (l.set d v')) w) (hr : (Region.ready .any ops listed).contains k = true := by kernel_rfl) (hf : Region.free .any ops listed k = true := by kernel_rfl) : WY P ops N S Q z (fuel + 1) listed (fr l) w := by
  subst hm
  obtain ⟨A, c, rfl⟩ := hR.form
  have hc : xs.length ≤ c := by obtain ⟨_, _, _, hv, h, _⟩ := hR; injection hv; omega
  have := hR.cut (L := i.toNat) (H := xs.length) (M := c) (by omega) (Nat.le_refl _) hc
  rw [List.take_of_length_le (Nat.le_refl _)] at this
  refine ynp k ho hr hf (fun w1 => ?_) rfl (h _ this)
  simp [exec, execOp, hx, hy, run_cut (hi := hi) (bnd_lo (b := true) h0 h1)]
end
end Go.Proofs.E
namespace Go.Proofs.YtkdbinchlpdkmaaDoor
open Go Go.RowKit Go.Proofs.E
attribute [local irreducible] Go.wpList Go.Code.wp Go.Proofs.E.exec Go.Proofs.E.wpLexG
def inW (m n : Int) : Bool := decide (1 ≤ m ∧ m ≤ n ∧ n ≤ 1099511627776)
/-- What a proof of growth says. -/
def grownO (a : Hs) (m n : Int) (path : List Hs) : Option (List Ft) := if inW m n = true then (twoF a 0 m.toNat n.toNat path true).map (·.1) else none
theorem anyW_snoc (ts : List Wy) (t : Wy) : anyW (ts ++ [t]) = (anyW ts || t.2.2.2) := by simp [anyW]
set_option maxHeartbeats 32000000 in
theorem ggrown_any (a : Hs) (m n : Int) (up : SlV) (path : List Hs) (w0 : World) (hK : Laid w0) (hRp : (Ty.enc eH).Rd [] w0 (slv up) path) (hpb : path.length ≤ 1000000) :
    Calls Tryd.prog 28 #[hv a.1, .int .i64 m, .int .i64 n, slv up] w0 (Ret fun u w' => ∃ v fs B, u = .tuple #[v, .bool (grownO a m n path).isSome] ∧ fs.map dF = (grownO a m n path).getD [] ∧ Mem [] w0 w' (ownF B v fs)) := by
  have hM := Mem.start w0
  obtain ⟨Ap, cp, rfl⟩ : ∃ A c, up = (A, path.length, c) := by
    obtain ⟨A, c, h⟩ := hRp.form
    obtain ⟨x, y, z⟩ := up
    have h : Value.slice x y z = .slice A path.length c := h
    injection h with h1 h2 h3
    exact ⟨A, c, by rw [h1, h2, h3]⟩
  unfold grownO
  refine enterM [hv a.1, .int .i64 m, .int .i64 n, slv (Ap, path.length, cp), undef, undef, undef, undef, undef, undef, undef, undef, undef, undef, undef, undef, undef, undef, undef, undef, undef, undef, undef, undef, undef, undef, undef, undef, undef, undef, undef, undef, undef, undef, undef, undef, undef, undef, undef, undef, undef, undef, undef, undef, undef, undef, undef, undef, undef, undef, undef, undef, undef, undef, undef, undef, undef, undef, undef, undef, undef, undef, undef, undef, undef, undef, undef, undef, undef, undef, undef, undef, undef, undef, undef, undef, undef, undef, undef, undef, undef, undef, undef, undef, undef, undef, undef, undef, undef, undef, undef, undef, undef, undef, undef, undef, undef, undef, undef, undef, undef, undef, undef, undef, undef, undef, undef, undef, undef, undef, undef, undef, undef, undef, undef, undef, undef, undef, undef, undef, undef, undef, undef, undef, undef, undef, undef, undef, undef, undef, undef, undef, undef, undef, undef, undef, undef, undef, undef, undef, undef, undef, undef, undef, undef, undef, undef, undef, undef, undef, undef] Tryd.func28 rfl rfl ?_
  repeat (first | refine gfo ?_ | (refine ks ?_; intro w hM))
  refine kbx hM (fun w b4 hM => ?_)
  refine kbx hM (fun w b5 hM => ?_)
  refine kbx (v := slv (Ap, path.length, cp)) hM (fun w b7 hM => ?_)
  have hM : Mem [] w0 w [.cell b7 [slv (Ap, path.length, cp)] 27, .cell b5 [.int .i64 m] 3, .cell b4 (a.1.map u8v) 30] := hM
  repeat (first | refine gfo ?_ | (refine ks ?_; intro w hM))
  have hno : inW m n = false → ∀ {w}, Mem [] w0 w [.cell b7 [slv (Ap, path.length, cp)] 27, .cell b5 [.int .i64 m] 3, .cell b4 (a.1.map u8v) 30] → ∃ v fs B, (Value.tuple #[.slice none 0 0, .bool false]) = .tuple #[v, .bool (if inW m n = true then (twoF a 0 m.toNat n.toNat path true).map (·.1) else none).isSome] ∧ fs.map dF = (if inW m n = true then (twoF a 0 m.toNat n.toNat path true).map (·.1) else none).getD [] ∧ Mem [] w0 w (ownF B v fs) := by
    intro h w hM
    rw [h, if_neg (by simp)]
    exact ⟨_, [], _, rfl, rfl, ((hM.nil.many0 tU8).nilRow eFv 74)⟩
  by_cases q1 : m < 1
  · rw [decide_eq_true q1]
    repeat (first | refine gfo ?_ | (refine ks ?_; intro w hM))
    refine c_condb rfl (fun _ => ?_) (fun h => by cases h)
    repeat (first | refine gfo ?_ | (refine ks ?_; intro w hM))
    exact post0 (out2 rfl (hno (decide_eq_false (by omega)) hM))
  rw [decide_eq_false q1]
  repeat (first | refine gfo ?_ | (refine ks ?_; intro w hM))
  by_cases q2 : n < m
  · rw [decide_eq_true q2]
    repeat (first | refine gfo ?_ | (refine ks ?_; intro w hM))
    refine c_condb rfl (fun _ => ?_) (fun h => by cases h)
    repeat (first | refine gfo ?_ | (refine ks ?_; intro w hM))
    exact post0 (out2 rfl (hno (decide_eq_false (by omega)) hM))
  rw [decide_eq_false q2]
  repeat (first | refine gfo ?_ | (refine ks ?_; intro w hM))
  by_cases q3 : 1099511627776 < n
  · rw [decide_eq_true q3]
    refine c_condb rfl (fun _ => ?_) (fun h => by cases h)
    repeat (first | refine gfo ?_ | (refine ks ?_; intro w hM))
    exact post0 (out2 rfl (hno (decide_eq_false (by omega)) hM))
  rw [decide_eq_false q3]
  refine c_condb rfl (fun h => by cases h) (fun _ => ?_)
  have hin : inW m n = true := decide_eq_true (by omega)
  clear hno
  rw [if_pos hin]
  obtain ⟨N, rfl⟩ := Int.eq_ofNat_of_zero_le (by omega : 0 ≤ n)
  obtain ⟨m, rfl⟩ := Int.eq_ofNat_of_zero_le (by omega : 0 ≤ m)
  rw [Int.toNat_natCast, Int.toNat_natCast]
  have h1m : 1 ≤ m := by omega
  have hmN : m ≤ N := by omega
  repeat (first | refine gfo ?_ | (refine ks ?_; intro w hM))
  have hM := hM.nilRow eWy 141
  
  
  refine c_loopJ (fun f l w => ∃ (lo k : Nat) (v10 : Value) (ts : List Wy) (wh : Bool), (∃ jj : Nat → Value, l = [jj 0, jj 1, jj 2, jj 3, .pointer (some ⟨b4, 0, none⟩), .pointer (some ⟨b5, 0, none⟩), jj 6, .pointer (some ⟨b7, 0, none⟩), jj 8, jj 9, v10, .int .i64 (lo : Int), .int .i64 ((lo + k : Nat) : Int), .bool wh, jj 14, jj 15, jj 16, jj 17, jj 18, jj 19, jj 20, jj 21, jj 22, jj 23, jj 24, jj 25, jj 26, jj 27, jj 28, jj 29, jj 30, jj 31, jj 32, jj 33, jj 34, jj 35, jj 36, jj 37, jj 38, jj 39, jj 40, jj 41, jj 42, jj 43, jj 44, jj 45, jj 46, jj 47, jj 48, jj 49, jj 50, jj 51, jj 52, jj 53, jj 54, jj 55, jj 56, jj 57, jj 58, jj 59, jj 60, jj 61, jj 62, jj 63, jj 64, jj 65, jj 66, jj 67, jj 68, jj 69, jj 70, jj 71, jj 72, jj 73, jj 74, jj 75, jj 76, jj 77, jj 78, jj 79, jj 80, jj 81, jj 82, jj 83, jj 84, jj 85, jj 86, jj 87, jj 88, jj 89, jj 90, jj 91, jj 92, jj 93, jj 94, jj 95, jj 96, jj 97, jj 98, jj 99, jj 100, jj 101, jj 102, jj 103, jj 104, jj 105, jj 106, jj 107, jj 108, jj 109, jj 110, jj 111, jj 112, jj 113, jj 114, jj 115, jj 116, jj 117, jj 118, jj 119, jj 120, jj 121, jj 122, jj 123, jj 124, jj 125, jj 126, jj 127, jj 128, jj 129, jj 130, jj 131, jj 132, jj 133, jj 134, jj 135, jj 136, jj 137, jj 138, jj 139, jj 140, jj 141, jj 142, jj 143, jj 144, jj 145, jj 146, jj 147, jj 148, jj 149, jj 150]) ∧ k ≤ f ∧ lo < m ∧ m ≤ lo + k ∧ lo + k ≤ N ∧ ts.length + k ≤ N ∧ ts ++ wayG f lo (m - lo) k = wayG N 0 m N ∧ baseG f lo (m - lo) k = baseG N 0 m N ∧ wh = !anyW ts ∧ Mem [] w0 w [.row eWy 141 v10 ts, .cell b7 [slv (Ap, path.length, cp)] 27, .cell b5 [.int .i64 (m : Int)] 3, .cell b4 (a.1.map u8v) 30])
    (fun l w => ∃ (v10 : Value), (∃ jj : Nat → Value, l = [jj 0, jj 1, jj 2, jj 3, .pointer (some ⟨b4, 0, none⟩), .pointer (some ⟨b5, 0, none⟩), jj 6, .pointer (some ⟨b7, 0, none⟩), jj 8, jj 9, v10, .int .i64 ((baseG N 0 m N : Nat) : Int), .int .i64 (m : Int), .bool (!anyW (wayG N 0 m N)), jj 14, jj 15, jj 16, jj 17, jj 18, jj 19, jj 20, jj 21, jj 22, jj 23, jj 24, jj 25, jj 26, jj 27, jj 28, jj 29, jj 30, jj 31, jj 32, jj 33, jj 34, jj 35, jj 36, jj 37, jj 38, jj 39, jj 40, jj 41, jj 42, jj 43, jj 44, jj 45, jj 46, jj 47, jj 48, jj 49, jj 50, jj 51, jj 52, jj 53, jj 54, jj 55, jj 56, jj 57, jj 58, jj 59, jj 60, jj 61, jj 62, jj 63, jj 64, jj 65, jj 66, jj 67, jj 68, jj 69, jj 70, jj 71, jj 72, jj 73, jj 74, jj 75, jj 76, jj 77, jj 78, jj 79, jj 80, jj 81, jj 82, jj 83, jj 84, jj 85, jj 86, jj 87, jj 88, jj 89, jj 90, jj 91, jj 92, jj 93, jj 94, jj 95, jj 96, jj 97, jj 98, jj 99, jj 100, jj 101, jj 102, jj 103, jj 104, jj 105, jj 106, jj 107, jj 108, jj 109, jj 110, jj 111, jj 112, jj 113, jj 114, jj 115, jj 116, jj 117, jj 118, jj 119, jj 120, jj 121, jj 122, jj 123, jj 124, jj 125, jj 126, jj 127, jj 128, jj 129, jj 130, jj 131, jj 132, jj 133, jj 134, jj 135, jj 136, jj 137, jj 138, jj 139, jj 140, jj 141, jj 142, jj 143, jj 144, jj 145, jj 146, jj 147, jj 148, jj 149, jj 150]) ∧ (wayG N 0 m N).length ≤ N ∧ Mem [] w0 w [.row eWy 141 v10 (wayG N 0 m N), .cell b7 [slv (Ap, path.length, cp)] 27, .cell b5 [.int .i64 (m : Int)] 3, .cell b4 (a.1.map u8v) 30]) N
    ⟨0, N, .slice none 0 0, [], true, exj (by rw [Nat.zero_add]; rfl), Nat.le_refl _, by omega, by omega, by omega, by simp, rfl, rfl, rfl, hM⟩ ?_ ?_
  · clear hM
    rintro f l w ⟨lo, k, v10, ts, wh, ⟨jj, rfl⟩, hkf, hlo, hmk, hlk, htl, hts, hbs, hwh, hM⟩
    repeat (first | refine gfo ?_ | (refine ks ?_; intro w hM))
    refine c_cond rfl (fun h1 => ?_) (fun h1 => ?_)
    · have h2 : 2 ≤ k := by omega
      have hsp := splitN_lt (n := k) h2 (by omega)
      obtain ⟨f, rfl⟩ : ∃ g, f = g + 1 := ⟨f - 1, by omega⟩
      rw [wayG, if_neg (by omega)] at hts
      rw [baseG, if_neg (by omega)] at hbs
      repeat (first | refine gfo ?_ | (refine ks ?_; intro w hM))
      rw [show ((lo + k : Nat) : Int) - (lo : Int) = (k : Int) by omega]
      refine kcs (split_any (k : Int) (by omega) _) ?_
      rw [splitZ_nat]
      repeat (first | refine gfo ?_ | (refine ks ?_; intro w hM))
      rw [show (lo : Int) + (splitN k : Int) = ((lo + splitN k : Nat) : Int) by omega]
      obtain ⟨A5, c5, rfl, _⟩ := Own.form (hM.row (v := v10) (xs := ts) (by (repeat constructor)))
      by_cases hs : m - lo ≤ splitN k
      · rw [if_pos hs] at hts hbs
        rw [decide_eq_false (by omega : ¬ (((lo + splitN k : Nat) : Int) < (m : Int)))]
        repeat (first | refine gfo ?_ | (refine ks ?_; intro w hM))
        (try ((with_reducible apply is_gd); first | refine gt ?_ | refine gf ?_ | refine gu ?_)); refine wl_val (r_bldS (vs := [(0, .int .i64 (lo : Int)), (1, .int .i64 ((lo + splitN k : Nat) : Int)), (2, .int .i64 ((lo + k : Nat) : Int)), (3, .bool false)]) (eWy.f (lo, lo + splitN k, lo + k, false)) (z := [.int .i64 0, .int .i64 0, .int .i64 0, .bool false]) (place := (#[(0, 1), (1, 1), (2, 1), (3, 1)][·]?)) (by intro ps; kernel_rfl) rfl (.cons rfl rfl (by simp) (.cons rfl rfl (by simp [spl, Value.cells]) (.cons rfl rfl (by simp [spl, Value.cells]) (.cons rfl rfl (by simp [spl, Value.cells]) (.nil rfl)))))) ?_
        refine kpu (en := eWy) (lo, lo + splitN k, lo + k, false) hM (fun _ v29 w hM => ?_)
        repeat (first | refine gfo ?_ | (refine ks ?_; intro w hM))
        refine c_condb rfl (fun h => by cases h) (fun _ => ?_)
        repeat (first | refine gfo ?_ | (refine ks ?_; intro w hM))
        exact x_goes f rfl (by omega) ⟨lo, splitN k, v29, ts ++ [(lo, lo + splitN k, lo + k, false)], wh, exj rfl, by omega, hlo, by omega, by omega, by simp; omega, by rw [List.append_assoc]; exact hts, hbs, by rw [anyW_snoc, hwh]; simp, hM⟩
      · rw [if_neg hs] at hts hbs
        rw [decide_eq_true (by omega : (((lo + splitN k : Nat) : Int) < (m : Int)))]
        repeat (first | refine gfo ?_ | (refine ks ?_; intro w hM))
        (try ((with_reducible apply is_gd); first | refine gt ?_ | refine gf ?_ | refine gu ?_)); refine wl_val (r_bldS (vs := [(0, .int .i64 (lo : Int)), (1, .int .i64 ((lo + splitN k : Nat) : Int)), (2, .int .i64 ((lo + k : Nat) : Int)), (3, .bool true)]) (eWy.f (lo, lo + splitN k, lo + k, true)) (z := [.int .i64 0, .int .i64 0, .int .i64 0, .bool false]) (place := (#[(0, 1), (1, 1), (2, 1), (3, 1)][·]?)) (by intro ps; kernel_rfl) rfl (.cons rfl rfl (by simp) (.cons rfl rfl (by simp [spl, Value.cells]) (.cons rfl rfl (by simp [spl, Value.cells]) (.cons rfl rfl (by simp [spl, Value.cells]) (.nil rfl)))))) ?_
        refine kpu (en := eWy) (lo, lo + splitN k, lo + k, true) hM (fun _ v29 w hM => ?_)
        repeat (first | refine gfo ?_ | (refine ks ?_; intro w hM))
        refine c_condb rfl (fun _ => ?_) (fun h => by cases h)
        repeat (first | refine gfo ?_ | (refine ks ?_; intro w hM))
        refine x_goes f rfl (by omega) ⟨lo + splitN k, k - splitN k, v29, ts ++ [(lo, lo + splitN k, lo + k, true)], false, exj (by rw [show lo + splitN k + (k - splitN k) = lo + k by omega]; rfl), by omega, by omega, by omega, by omega, by simp; omega, ?_, ?_, by rw [anyW_snoc]; simp, hM⟩
        · rw [List.append_assoc, show m - (lo + splitN k) = m - lo - splitN k by omega]
          exact hts
        · rw [show m - (lo + splitN k) = m - lo - splitN k by omega]
          exact hbs
    · have hk : lo + k = m := by omega
      have he : wayG f lo (m - lo) k = [] := by
        cases f with
        | zero => rfl
        | succ f => rw [wayG, if_pos (by omega)]
      have hb : baseG f lo (m - lo) k = lo := by
        cases f with
        | zero => rfl
        | succ f => rw [baseG, if_pos (by omega)]
      rw [he, List.append_nil] at hts
      rw [hb] at hbs
      subst hts
      repeat (first | refine gfo ?_ | (refine ks ?_; intro w hM))
      refine outJ ⟨v10, exj ?_, by omega, hM⟩
      rw [← hbs, ← hwh, hk]
      rfl
  clear hM
  rintro l w ⟨v10, ⟨jj, rfl⟩, hwl, hM⟩
  obtain ⟨W, hW, htw⟩ := two_way a N 0 m N path true (Nat.le_refl _) h1m hmN (by omega)
  rw [Bool.true_and] at hW
  rw [htw, Nat.zero_add, ← hW]
  generalize wayG N 0 m N = ts at hM hwl ⊢
  generalize baseG N 0 m N = base at hM ⊢
  clear htw hW
  obtain ⟨A3, c3, rfl, _⟩ := (hM.row0 (v := v10) (xs := ts) (by (repeat constructor))).form
  repeat (first | refine gfo ?_ | (refine ks ?_; intro w hM))
  refine kal hM (fun w b16 hM => ?_)
  refine kstw (vs := a.1.map u8v) hM (fun w hM => ?_)
  have hM : Mem [] w0 w [.cell b16 (a.1.map u8v) 30, .row eWy 141 (.slice A3 ts.length c3) ts, .cell b7 [slv (Ap, path.length, cp)] 27, .cell b5 [.int .i64 (m : Int)] 3] := hM.sub (by (repeat constructor))
  repeat (first | refine gfo ?_ | (refine ks ?_; intro w hM))
  have hnil : ∀ {w}, ¬ path.length = ts.length + one W → Mem [] w0 w [] → ∃ v fs B, (Value.tuple #[.slice none 0 0, .bool false]) = .tuple #[v, .bool (Option.map (fun x : Gs => x.1) (if path.length = ts.length + one W then some ((uplW ts).foldl (stepG m (qOf W path)) ([factS base m (sOf W a path)], sOf W a path, sOf W a path)) else none)).isSome] ∧ fs.map dF = (Option.map (fun x : Gs => x.1) (if path.length = ts.length + one W then some ((uplW ts).foldl (stepG m (qOf W path)) ([factS base m (sOf W a path)], sOf W a path, sOf W a path)) else none)).getD [] ∧ Mem [] w0 w (ownF B v fs) := by
    intro w h hM
    rw [if_neg h]
    exact ⟨_, [], _, rfl, rfl, ((hM.many0 tU8).nilRow eFv 74)⟩
  
  refine c_condR (fun l w => ∃ (Aq : Option Addr) (cq : Nat), (∃ jj : Nat → Value, l = [jj 0, jj 1, jj 2, jj 3, jj 4, .pointer (some ⟨b5, 0, none⟩), jj 6, .pointer (some ⟨b7, 0, none⟩), jj 8, jj 9, .slice A3 ts.length c3, .int .i64 (base : Int), .int .i64 (m : Int), jj 13, jj 14, jj 15, .pointer (some ⟨b16, 0, none⟩), jj 17, jj 18, jj 19, jj 20, jj 21, jj 22, jj 23, jj 24, jj 25, jj 26, jj 27, jj 28, jj 29, jj 30, jj 31, jj 32, jj 33, jj 34, jj 35, jj 36, jj 37, jj 38, jj 39, jj 40, jj 41, jj 42, jj 43, jj 44, jj 45, jj 46, jj 47, jj 48, jj 49, jj 50, jj 51, jj 52, jj 53, jj 54, jj 55, jj 56, jj 57, jj 58, jj 59, jj 60, jj 61, jj 62, jj 63, jj 64, jj 65, jj 66, jj 67, jj 68, jj 69, jj 70, jj 71, jj 72, jj 73, jj 74, jj 75, jj 76, jj 77, jj 78, jj 79, jj 80, jj 81, jj 82, jj 83, jj 84, jj 85, jj 86, jj 87, jj 88, jj 89, jj 90, jj 91, jj 92, jj 93, jj 94, jj 95, jj 96, jj 97, jj 98, jj 99, jj 100, jj 101, jj 102, jj 103, jj 104, jj 105, jj 106, jj 107, jj 108, jj 109, jj 110, jj 111, jj 112, jj 113, jj 114, jj 115, jj 116, jj 117, jj 118, jj 119, jj 120, jj 121, jj 122, jj 123, jj 124, jj 125, jj 126, jj 127, jj 128, jj 129, jj 130, jj 131, jj 132, jj 133, jj 134, jj 135, jj 136, jj 137, jj 138, jj 139, jj 140, jj 141, jj 142, jj 143, jj 144, jj 145, jj 146, jj 147, jj 148, jj 149, jj 150]) ∧ (Ty.enc eH).Rd [] w0 (slv (Aq, (qOf W path).length, cq)) (qOf W path) ∧ path.length = (qOf W path).length + one W ∧ Mem [] w0 w [.cell b16 ((sOf W a path).1.map u8v) 30, .row eWy 141 (.slice A3 ts.length c3) ts, .cell b7 [slv (Aq, (qOf W path).length, cq)] 27, .cell b5 [.int .i64 (m : Int)] 3]) rfl (fun hb => ?_) (fun hb => ?_) ?_
  · have hb : W = false := by simpa using hb
    subst hb
    repeat (first | refine gfo ?_ | (refine ks ?_; intro w hM))
    by_cases hp0 : path.length = 0
    · rw [decide_eq_true (by omega : (path.length : Int) = 0)]
      refine c_condb rfl (fun _ => ?_) (fun h => by cases h)
      repeat (first | refine gfo ?_ | (refine ks ?_; intro w hM))
      exact retR (post0 (out2 rfl (hnil (by simp [one]; omega) hM.nil)))
    rw [decide_eq_false (by omega : ¬ (path.length : Int) = 0)]
    refine c_condb rfl (fun h => by cases h) (fun _ => ?_)
    have hp1 : path[0]? = some (path.getD 0 zeroH) := by rw [List.getD_eq_getElem?_getD, List.getElem?_eq_getElem (by omega : 0 < path.length)]; rfl
    repeat (first | refine gfob ?_ | (refine ks ?_; intro w hM))
    refine c_ordY ([6], []) [b16] (by kernel_rfl) (by kernel_rfl) (by kernel_rfl) (fun w hc hs => ?_)
    have hM := hM.call hc
    have hl7 := Blk.lt (hM.blk (b := b7) (by (repeat constructor)))
    have hn7 : b7 ∉ [b16] := hM.nin (b := b16) (c := b7) (by (repeat constructor)) (by (repeat constructor))
    refine ynl 0 rfl (hM.blk (b := b7) (by (repeat constructor))) (by omega) hn7 rfl rfl ?_
    refine kynx 1 rfl hRp rfl rfl rfl (by omega) (by simp; omega) (fun bp op p hp' hAp => ?_)
    obtain rfl : p = path.getD 0 zeroH := by
      have hp'' : path[0]? = some p := hp'
      rw [hp1] at hp''
      exact (Option.some.inj hp'').symm
    refine ynar (en := eH) 2 rfl (hAp.mv (hM.ch.some (S := [b16])) (fun k hk hm => by
      simp only [List.mem_singleton] at hm
      have := hM.ge (b := b16) (by (repeat constructor))
      omega)) (by have := hAp.1; have := hM.ch.size; omega) rfl rfl ?_
    refine ynl 3 rfl (hM.blk (b := b7) (by (repeat constructor))) (by omega) hn7 rfl rfl ?_
    refine yn_cut_lo2 4 rfl hRp rfl rfl rfl (by omega) (by omega) (fun v69 hV => ?_)
    obtain ⟨A69, c69, rfl⟩ := hV.form
    refine yk1 5 hM (by kernel_rfl) rfl (fun w h0 hM => ?_)
    refine kstwF (vs := (path.getD 0 zeroH).1.map u8v) hM (fun w hc hM => ?_)
    refine x_wy (.inl (hc.bwn h0 (.inr (by simp)))) rfl ?_
    refine yk1 6 hM (by kernel_rfl) rfl (fun w h0 hM => ?_)
    refine kstC hM (fun w hc hM => ?_)
    refine x_wy (.inr ⟨by decide, Nat.le_trans h0 hc.size⟩) rfl ?_
    refine wy_done (by kernel_rfl) (fun w hc => ?_)
    have hM := hM.call hc
    exact outR ⟨A69, c69, exj rfl, hV, by simp [qOf, one]; omega, hM.sub (by (repeat constructor))⟩
  · have hb : W = true := by simpa using hb
    subst hb
    repeat (first | refine gfo ?_ | (refine ks ?_; intro w hM))
    exact outR ⟨Ap, cp, exj rfl, hRp, rfl, hM⟩
  clear hM
  rintro l w ⟨Aq, cq, ⟨jj, rfl⟩, hRq, hlq, hM⟩
  generalize qOf W path = q at hRq hlq hM hnil ⊢
  generalize sOf W a path = s at hM hnil ⊢
  repeat (first | refine gfo ?_ | (refine ks ?_; intro w hM))
  by_cases hql : ¬ (q.length = ts.length)
  · rw [decide_eq_true (by omega : (q.length : Int) ≠ (ts.length : Int))]
    refine c_condb rfl (fun _ => ?_) (fun h => by cases h)
    repeat (first | refine gfo ?_ | (refine ks ?_; intro w hM))
    exact post0 (out2 rfl (hnil (by omega) hM.nil))
  rw [decide_eq_false (by omega : ¬ (q.length : Int) ≠ (ts.length : Int))]
  refine c_condb rfl (fun h => by cases h) (fun _ => ?_)
  have hqt : q.length = ts.length := Classical.byContradiction hql
  rw [if_pos (by omega)]
  clear hnil hql
  repeat (first | refine gfo ?_ | (refine ks ?_; intro w hM))
  refine kal hM (fun w b17 hM => ?_)
  refine kstw (vs := s.1.map u8v) hM (fun w hM => ?_)
  repeat (first | refine gfo ?_ | (refine ks ?_; intro w hM))
  (try ((with_reducible apply is_gd); first | refine gt ?_ | refine gf ?_ | refine gu ?_)); refine wl_val (r_bldS (vs := [(0, .int .i64 (base : Int)), (1, .int .i64 (m : Int)), (2, hv s.1)]) (eFv.f ((base : Int), (m : Int), s, (none, 0, 0))) (z := fC 0 0 zeroH (.slice none 0 0)) (place := plF) (by intro ps; kernel_rfl) rfl (fl3 _ _ _)) ?_
  obtain ⟨f0, hf0⟩ : ∃ f : Fv × List UInt8, f = (((base : Int), (m : Int), s, (none, 0, 0)), []) := ⟨_, rfl⟩
  have hdf : dF f0 = factS base m s := by rw [hf0]; rfl
  rw [show ((base : Int), (m : Int), s, ((none, 0, 0) : SlV)) = f0.1 by rw [hf0]]
  refine kbs (en := eFv) (vs := [.agg (eFv.f f0.1).toArray]) [f0.1] hM (fun w b80 hM => ?_) (hxs := by simp [Value.cells]) (hm := by intro v hv; simp only [List.mem_singleton] at hv; subst hv; exact hf_clen _ _ _ _)
  refine kal hM (fun w b18 hM => ?_)
  repeat (first | refine gfo ?_ | (refine ks ?_; intro w hM))
  have hM := hM.frd0 tU8 none 0
  have hM := ((hM.many0 tU8)).manyPut (u := (none, 0, 0))
  obtain ⟨B1, hM⟩ : ∃ B1, Mem [] w0 w [.many tU8 B1 ([f0].map inpF), .cell b18 [.slice (some ⟨b80, 0, none⟩) 1 1] 60, .row eFv 74 (.slice (some ⟨b80, 0, none⟩) 1 1) ([f0].map (·.1)), .cell b17 (s.1.map u8v) 30, .cell b16 (s.1.map u8v) 30, .row eWy 141 (.slice A3 ts.length c3) ts, .cell b7 [slv (Aq, q.length, cq)] 27, .cell b5 [.int .i64 (m : Int)] 3] := ⟨_, by rw [show [f0].map inpF = [((none, 0, 0), [])] by rw [hf0]; rfl]; exact hM.sub (by (repeat constructor))⟩
  repeat (first | refine gfo ?_ | (refine ks ?_; intro w hM))
  refine ca (gup_any (A3, ts.length, c3) w) ?_
  rintro _ w ⟨b1, rfl, hN⟩
  have hM := hM.join hN (by simp [As.plain])
  simp only [List.cons_append, List.nil_append] at hM
  repeat (first | refine gfo ?_ | (refine ks ?_; intro w hM))
  obtain ⟨B0, hM⟩ : ∃ B0, Mem [] w0 w ([.cell b16 (s.1.map u8v) 30, .cell b17 (s.1.map u8v) 30, .cell b18 [.slice (some ⟨b80, 0, none⟩) 1 1] 60, .row eFv 74 (.slice (some ⟨b80, 0, none⟩) 1 1) ([f0].map (·.1)), .many tU8 B0 ([f0].map inpF), .cell b7 [slv (Aq, q.length, cq)] 27, .cell b5 [.int .i64 (m : Int)] 3] ++ [.cell b1 [slv (A3, ts.length, c3)] 138, .row eWy 141 (slv (A3, ts.length, c3)) ts]) := ⟨_, hM.sub (by (repeat constructor))⟩
  
  refine c_rangeM2 (e1 := fun x : Nat × Wy => .int .i64 (x.1 : Int)) (e2 := fun x : Nat × Wy => .agg (eWy.f x.2).toArray) hM rfl (enters_of Tryd.func116 (by kernel_rfl) rfl) (gup_seq (ts := ts) b1 (by omega))
    (fun pre La => ∃ (fs : List (Fv × List UInt8)) (old now : Hs) (v18 : Value) (B : Nat → Prop), La = [.cell b16 (old.1.map u8v) 30, .cell b17 (now.1.map u8v) 30, .cell b18 [v18] 60, .row eFv 74 v18 (fs.map (·.1)), .many tU8 B (fs.map inpF), .cell b7 [slv (Aq, q.length, cq)] 27, .cell b5 [.int .i64 (m : Int)] 3] ∧ (fs.map dF, old, now) = pre.foldl (stepG m q) ([factS base m s], s, s) ∧ fs.length ≤ 3 * pre.length + 1)
    ⟨[f0], s, s, _, B0, rfl, by simp [hdf], by simp⟩
    (fun cd pre La => False)
    (fun pre x l La => ∃ (fs : List (Fv × List UInt8)) (old now : Hs) (v18 : Value) (B : Nat → Prop) (b20 : Nat), (∃ jj : Nat → Value, l = [jj 0, jj 1, jj 2, jj 3, jj 4, .pointer (some ⟨b5, 0, none⟩), jj 6, .pointer (some ⟨b7, 0, none⟩), jj 8, jj 9, jj 10, jj 11, jj 12, jj 13, jj 14, jj 15, .pointer (some ⟨b16, 0, none⟩), .pointer (some ⟨b17, 0, none⟩), .pointer (some ⟨b18, 0, none⟩), .int .i64 (x.1 : Int), .pointer (some ⟨b20, 0, none⟩), jj 21, jj 22, jj 23, jj 24, jj 25, jj 26, jj 27, jj 28, jj 29, jj 30, jj 31, jj 32, jj 33, jj 34, jj 35, jj 36, jj 37, jj 38, jj 39, jj 40, jj 41, jj 42, jj 43, jj 44, jj 45, jj 46, jj 47, jj 48, jj 49, jj 50, jj 51, jj 52, jj 53, jj 54, jj 55, jj 56, jj 57, jj 58, jj 59, jj 60, jj 61, jj 62, jj 63, jj 64, jj 65, jj 66, jj 67, jj 68, jj 69, jj 70, jj 71, jj 72, jj 73, jj 74, jj 75, jj 76, jj 77, jj 78, jj 79, jj 80, jj 81, jj 82, jj 83, jj 84, jj 85, jj 86, jj 87, jj 88, jj 89, jj 90, jj 91, jj 92, jj 93, jj 94, jj 95, jj 96, jj 97, jj 98, jj 99, jj 100, jj 101, jj 102, jj 103, jj 104, jj 105, jj 106, jj 107, jj 108, jj 109, jj 110, jj 111, jj 112, jj 113, jj 114, jj 115, jj 116, jj 117, jj 118, jj 119, jj 120, jj 121, jj 122, jj 123, jj 124, jj 125, jj 126, jj 127, jj 128, jj 129, jj 130, jj 131, jj 132, jj 133, jj 134, jj 135, jj 136, jj 137, jj 138, jj 139, jj 140, jj 141, jj 142, jj 143, jj 144, jj 145, jj 146, jj 147, jj 148, jj 149, jj 150]) ∧ La = .cell b20 (eWy.f x.2) 141 :: [.cell b16 (old.1.map u8v) 30, .cell b17 (now.1.map u8v) 30, .cell b18 [v18] 60, .row eFv 74 v18 (fs.map (·.1)), .many tU8 B (fs.map inpF), .cell b7 [slv (Aq, q.length, cq)] 27, .cell b5 [.int .i64 (m : Int)] 3] ∧ (fs.map dF, old, now) = pre.foldl (stepG m q) ([factS base m s], s, s) ∧ fs.length ≤ 3 * pre.length + 1)
    ?_ ?_ ?_ ?_
  · rintro r pre x w La X K hp ⟨fs, old, now, v18, B, rfl, h2, h3⟩ hM hK
    simp only [List.cons_append, List.nil_append] at hM
    refine wpIn_seq ?_
    refine ci_region (by (repeat (first | exact noOut_round | exact noOut_fls | exact noOut_M | apply noOut_then | apply noOut_block))) rfl ?_
    repeat (first | refine gfo ?_ | (refine ks ?_; intro w hM))
    refine ci_region (by (repeat (first | exact noOut_round | exact noOut_fls | exact noOut_M | apply noOut_then | apply noOut_block))) rfl ?_
    repeat (first | refine gfo ?_ | (refine ks ?_; intro w hM))
    refine kal hM (fun w b20 hM => ?_)
    refine kstw (vs := eWy.f x.2) hM (fun w hM => ?_) (h1 := eWy.h1 x.2)
    repeat (first | refine gfo ?_ | (refine ks ?_; intro w hM))
    exact hK _ w _ ⟨fs, old, now, v18, B, b20, exj rfl, rfl, h2, h3⟩ hM
  · rintro r pre x l w La X hp ⟨fs, old, now, v18, B, b20, ⟨jj, rfl⟩, rfl, h2, h3⟩ hM
    have hprl : pre.length < ts.length := by
      have := hp.length_le
      rw [uplW_len] at this
      simp at this
      omega
    have hxi := uplW_at (pre_at hp)
    have hpj : q[x.1]? = some (q.getD x.1 zeroH) := by rw [List.getD_eq_getElem?_getD, List.getElem?_eq_getElem (by omega : x.1 < q.length)]; rfl
    obtain ⟨xj, lo, mid, hi, rt⟩ := x
    have hxi : xj = pre.length := hxi
    subst hxi
    have hpq : q[pre.length]? = some (q.getD pre.length zeroH) := hpj
    clear hpj
    have hst : stepG m q (fs.map dF, old, now) (pre.length, (lo, mid, hi, rt)) = (pre ++ [(pre.length, (lo, mid, hi, rt))]).foldl (stepG m q) ([factS base m s], s, s) := by rw [List.foldl_append, ← h2]; rfl
    rw [stepG] at hst
    simp only at hst
    generalize q.getD pre.length zeroH = pj at hpq hst
    simp only [List.cons_append, List.nil_append] at hM
    have hlen100 : fs.length ≤ 4398046511104 := by omega
    obtain ⟨u18, rfl⟩ : ∃ u : SlV, v18 = slv u := by obtain ⟨A, c, rfl, _⟩ := (hM.row0 (v := v18) (by (repeat constructor))).form; exact ⟨(A, _, c), rfl⟩
    refine wpIn_block ?_
    repeat (first | ((with_reducible apply is_ld); first | refine kld hM ?_ | refine kldw hM ?_ | refine kldf hM ?_ | refine kldw hM ?_ (hn := hf_clen _ _ _ _) | refine kle hM ?_ | refine klew hM ?_ | refine kld hM ?_ (hv := by exact hf_get _ _ _ _)) | ((with_reducible apply is_sto); first | (refine kst hM ?_; intro w hM) | (refine kstw hM ?_; intro w hM)) | ((with_reducible apply is_st); refine su ?_) | ((with_reducible apply is_gd); first | refine gt ?_ | refine gf ?_ | refine gu ?_) | ((with_reducible apply is_en); refine en ?_) | (with_reducible apply c_region) | refine ws ?_ | refine x_block_other (by decide) ?_ | (refine ci_region (by (repeat (first | exact noOut_round | exact noOut_fls | exact noOut_M | apply noOut_then | apply noOut_block))) rfl ?_) )
    cases rt with
    | false =>
      refine ci_condb rfl (fun _ => ?_) (fun h => by cases h)
      rw [if_neg (by simp)] at hst
      repeat (first | ((with_reducible apply is_ld); first | refine kld hM ?_ | refine kldw hM ?_ | refine kldf hM ?_ | refine kldw hM ?_ (hn := hf_clen _ _ _ _) | refine kle hM ?_ | refine klew hM ?_ | refine kld hM ?_ (hv := by exact hf_get _ _ _ _)) | ((with_reducible apply is_sto); first | (refine kst hM ?_; intro w hM) | (refine kstw hM ?_; intro w hM)) | ((with_reducible apply is_st); refine su ?_) | ((with_reducible apply is_gd); first | refine gt ?_ | refine gf ?_ | refine gu ?_) | ((with_reducible apply is_en); refine en ?_) | (with_reducible apply c_region) | refine ws ?_ | refine x_block_other (by decide) ?_ | (refine ci_region (by (repeat (first | exact noOut_round | exact noOut_fls | exact noOut_M | apply noOut_then | apply noOut_block))) rfl ?_) )
      refine ci_ordY ([], []) [] (by (repeat (first | exact noOut_round | exact noOut_fls | exact noOut_M | apply noOut_then | apply noOut_block))) rfl (by kernel_rfl) (by kernel_rfl) (by kernel_rfl) (fun w hc hs => ?_)
      have hM := hM.call hc
      have hl20 := Blk.lt (hM.blk (b := b20) (by (repeat constructor)))
      have hl17 := Blk.lt (hM.blk (b := b17) (by (repeat constructor)))
      have hl7 := Blk.lt (hM.blk (b := b7) (by (repeat constructor)))
      (first | refine yn 0 rfl ?_ | refine ynt 0 rfl ?_ | refine ynff 0 rfl ?_)
      refine ynl 1 rfl (hM.blk (b := b20) (by (repeat constructor))) (by omega) (by simp) rfl rfl ?_
      (first | refine yn 2 rfl ?_ | refine ynt 2 rfl ?_ | refine ynff 2 rfl ?_)
      refine ynl 3 rfl (hM.blk (b := b20) (by (repeat constructor))) (by omega) (by simp) rfl rfl ?_
      refine ynlr 4 rfl (hM.blk (b := b17) (by (repeat constructor))) (by omega) (by simp) rfl (ds := now.1.map u8v) (by rw [List.drop_zero]; exact List.take_of_length_le (by rw [hf_len]; omega)) (hf_len now) ?_
      refine ynl 5 rfl (hM.blk (b := b7) (by (repeat constructor))) (by omega) (by simp) rfl rfl ?_
      (first | refine yn 6 rfl ?_ | refine ynt 6 rfl ?_ | refine ynff 6 rfl ?_)
      refine kynx 7 rfl hRq rfl rfl rfl (by omega) (by omega) (fun bp1 op1 p1 hp1 hA1 => ?_)
      rw [Int.toNat_natCast, hpq] at hp1
      obtain rfl := Option.some.inj hp1
      refine ynar (en := eH) 8 rfl (hA1.mv hM.ch (by simp)) (by have := hA1.1; have := hM.ch.size; omega) rfl rfl ?_
      refine wy_cont (X := SlV × (Nat → Prop) × Nat) (fun x N w => N ≤ x.2.2 ∧ Mem [] w0 w (.cell x.2.2 (fC 0 0 zeroH (.slice none 0 0)) 74 :: .frd tU8 x.2.1 (slv x.1) (1 :: (now.1 ++ pj.1)) :: .cell b20 (eWy.f (lo, mid, hi, false)) 141 :: .cell b16 (old.1.map u8v) 30 :: .cell b17 (now.1.map u8v) 30 :: .cell b18 [slv u18] 60 :: .row eFv 74 (slv u18) (fs.map (·.1)) :: .many tU8 B (fs.map inpF) :: .cell b7 [slv (Aq, q.length, cq)] 27 :: .cell b5 [.int .i64 (m : Int)] 3 :: X))
        (fun x l => (l.set 97 (.agg (eFv.f ((lo : Int), (hi : Int), nodeH now pj, x.1)).toArray)).set 21 (.pointer (some ⟨x.2.2, 0, none⟩))) #[true, true, true, true, true, true, true, true, true, true, true, false] (fuel := 1) (fun hkk => ?_) ?_
      · skip
        refine yk2 9 10 hM (by kernel_rfl) rfl rfl (fun w h0 hM => ?_) (fun w h0 hM => ?_)
        · skip
          refine ca (fnode_any lo hi now pj _ (hK.ch hM.ch (by simp))) ?_
          rintro _ w2 ⟨s1, B1, rfl, hc, hN⟩
          have hM := hM.join hN (by simp [As.plain])
          simp only [List.cons_append, List.nil_append] at hM
          refine x_wy (.inl (hc.gy h0)) rfl ?_
          refine yk1 10 hM (by kernel_rfl) rfl (fun w h0 hM => ?_)
          refine kalN hM (fun w b21 hb21 hc hM => ?_)
          have hb21 := Nat.le_trans h0 hb21
          refine x_wy (.inl (hc.gy h0)) rfl ?_
          exact hkk (s1, B1, b21) _ _ _ (by kernel_rfl) rfl ⟨hb21, hM.sub (by (repeat (first | exact Go.Proofs.E.Sub.refl _ | exact Go.Proofs.E.Sub.nil | (apply Go.Proofs.E.Sub.cons; (repeat (first | exact Go.Proofs.E.Pick.here | apply Go.Proofs.E.Pick.there))) | apply Go.Proofs.E.Sub.tail)))⟩
        · skip
          refine kalN hM (fun w b21 hb21 hc hM => ?_)
          have hb21 := Nat.le_trans h0 hb21
          refine x_wy (.inl (hc.gy h0)) rfl ?_
          refine yk1 9 hM (by kernel_rfl) rfl (fun w h0 hM => ?_)
          refine ca (fnode_any lo hi now pj _ (hK.ch hM.ch (by simp))) ?_
          rintro _ w2 ⟨s1, B1, rfl, hc, hN⟩
          have hM := hM.join hN (by simp [As.plain])
          simp only [List.cons_append, List.nil_append] at hM
          refine x_wy (.inl (hc.gy h0)) rfl ?_
          exact hkk (s1, B1, b21) _ _ _ (by kernel_rfl) rfl ⟨hb21, hM.sub (by (repeat (first | exact Go.Proofs.E.Sub.refl _ | exact Go.Proofs.E.Sub.nil | (apply Go.Proofs.E.Sub.cons; (repeat (first | exact Go.Proofs.E.Pick.here | apply Go.Proofs.E.Pick.there))) | apply Go.Proofs.E.Sub.tail)))⟩
      clear hM
      rintro ⟨s1, B1, b21⟩ w ⟨hb21, hM⟩
      simp only at hb21 hM
      refine wy_nf ?_
      refine yk1 11 hM (by kernel_rfl) rfl (fun w h0 hM => ?_)
      refine kstwF (vs := eFv.f ((lo : Int), (hi : Int), nodeH now pj, s1)) hM (fun w hc hM => ?_)
      refine x_wy (.inl (hc.bwn h0 (.inl hb21))) rfl ?_
      refine wy_done (by kernel_rfl) (fun w hc => ?_)
      have hM := hM.call hc
      obtain ⟨gs, hgs⟩ : ∃ g : Fv × List UInt8, g = (((mid : Int), (hi : Int), pj, (none, 0, 0)), []) := ⟨_, rfl⟩
      obtain ⟨gt, hgt⟩ : ∃ g : Fv × List UInt8, g = (((lo : Int), (hi : Int), nodeH now pj, s1), 1 :: (now.1 ++ pj.1)) := ⟨_, rfl⟩
      have hM : Mem [] w0 w (.cell b21 (eFv.f gt.1) 74 :: .frd tU8 B1 (slv s1) gt.2 :: .cell b20 (eWy.f (lo, mid, hi, false)) 141 :: .cell b16 (old.1.map u8v) 30 :: .cell b17 (now.1.map u8v) 30 :: .cell b18 [slv u18] 60 :: .row eFv 74 (slv u18) (fs.map (·.1)) :: .many tU8 B (fs.map inpF) :: .cell b7 [slv (Aq, q.length, cq)] 27 :: .cell b5 [.int .i64 (m : Int)] 3 :: X) := by rw [hgt]; exact hM.sub (by (repeat (first | exact Go.Proofs.E.Sub.refl _ | exact Go.Proofs.E.Sub.nil | (apply Go.Proofs.E.Sub.cons; (repeat (first | exact Go.Proofs.E.Pick.here | apply Go.Proofs.E.Pick.there))) | apply Go.Proofs.E.Sub.tail)))
      repeat (first | ((with_reducible apply is_ld); first | refine kld hM ?_ | refine kldw hM ?_ | refine kldf hM ?_ | refine kldw hM ?_ (hn := hf_clen _ _ _ _) | refine kle hM ?_ | refine klew hM ?_ | refine kld hM ?_ (hv := by exact hf_get _ _ _ _)) | ((with_reducible apply is_sto); first | (refine kst hM ?_; intro w hM) | (refine kstw hM ?_; intro w hM)) | ((with_reducible apply is_st); refine su ?_) | ((with_reducible apply is_gd); first | refine gt ?_ | refine gf ?_ | refine gu ?_) | ((with_reducible apply is_en); refine en ?_) | (with_reducible apply c_region) | refine ws ?_ | refine x_block_other (by decide) ?_ | (refine ci_region (by (repeat (first | exact noOut_round | exact noOut_fls | exact noOut_M | apply noOut_then | apply noOut_block))) rfl ?_) )
      refine ci_ordY ([12, 13], []) [] (by (repeat (first | exact noOut_round | exact noOut_fls | exact noOut_M | apply noOut_then | apply noOut_block))) rfl (by kernel_rfl) (by kernel_rfl) (by kernel_rfl) (fun w hc hs => ?_)
      have hM := hM.call hc
      have hl18 := Blk.lt (hM.blk (b := b18) (by (repeat constructor)))
      have hl20 := Blk.lt (hM.blk (b := b20) (by (repeat constructor)))
      have hl7 := Blk.lt (hM.blk (b := b7) (by (repeat constructor)))
      have hl21 := Blk.lt (hM.blk (b := b21) (by (repeat constructor)))
      refine ynl 0 rfl (hM.blk (b := b18) (by (repeat constructor))) (by omega) (by simp) rfl rfl ?_
      (first | refine yn 1 rfl ?_ | refine ynt 1 rfl ?_ | refine ynff 1 rfl ?_)
      refine ynl 2 rfl (hM.blk (b := b20) (by (repeat constructor))) (by omega) (by simp) rfl rfl ?_
      (first | refine yn 3 rfl ?_ | refine ynt 3 rfl ?_ | refine ynff 3 rfl ?_)
      refine ynl 4 rfl (hM.blk (b := b20) (by (repeat constructor))) (by omega) (by simp) rfl rfl ?_
      refine ynl 5 rfl (hM.blk (b := b7) (by (repeat constructor))) (by omega) (by simp) rfl rfl ?_
      (first | refine yn 6 rfl ?_ | refine ynt 6 rfl ?_ | refine ynff 6 rfl ?_)
      refine kynx 7 rfl hRq rfl rfl rfl (by omega) (by omega) (fun bp2 op2 p2 hp2 hA2 => ?_)
      rw [Int.toNat_natCast, hpq] at hp2
      obtain rfl := Option.some.inj hp2
      refine ynar (en := eH) 8 rfl (hA2.mv hM.ch (by simp)) (by have := hA2.1; have := hM.ch.size; omega) rfl rfl ?_
      refine ynp (v := .agg (eFv.f gs.1).toArray) 9 rfl (by kernel_rfl) (by kernel_rfl) (fun _ => by rw [hgs]; exact r_bldS (vs := [(0, .int .i64 (mid : Int)), (1, .int .i64 (hi : Int)), (2, hv pj.1)]) (eFv.f ((mid : Int), (hi : Int), pj, (none, 0, 0))) (z := (fC 0 0 zeroH (.slice none 0 0))) (place := plF) (by intro ps; kernel_rfl) rfl (fl3 _ _ _)) rfl ?_
      refine ynlr 10 rfl (hM.blk (b := b21) (by (repeat constructor))) (by omega) (by simp) rfl (ds := eFv.f gt.1) (by rw [List.drop_zero]; exact List.take_of_length_le (by rw [eFv.hl]; omega)) (eFv.hl _) ?_
      refine yk1 11 hM (by kernel_rfl) rfl (fun w h0 hM => ?_)
      refine kbsC (en := eFv) (vs := [.agg (eFv.f gs.1).toArray, .agg (eFv.f gt.1).toArray]) [gs.1, gt.1] hM (fun w b79 hc hM => ?_) (hxs := by simp [Value.cells]) (hm := by
        intro v hv
        simp only [List.mem_cons, List.not_mem_nil, or_false] at hv
        rcases hv with rfl | rfl <;> exact hf_clen _ _ _ _)
      refine x_wy (.inl (hc.gy h0)) rfl ?_
      refine yk1 12 hM (by kernel_rfl) rfl (fun w h0 hM => ?_)
      refine kapC (en := eFv) (v := slv u18) (xs := fs.map (·.1)) (ys := [gs.1, gt.1]) hM (hM.rowRdO (en := eFv) (v := .slice (some ⟨b79, 0, none⟩) 2 2) (xs := [gs.1, gt.1]) (by (repeat constructor))) (fun v80 w hs hM => ?_) (hb := by simp; omega) (h63 := by simp; omega)
      refine x_wy (.inr ⟨by decide, Nat.le_trans h0 hs⟩) rfl ?_
      obtain ⟨u80, rfl⟩ : ∃ u : SlV, v80 = slv u := by obtain ⟨A, c, rfl, _⟩ := (hM.row0 (v := v80) (by (repeat constructor))).form; exact ⟨(A, _, c), rfl⟩
      refine yk1 13 hM (by kernel_rfl) rfl (fun w h0 hM => ?_)
      refine kstC hM (fun w hc hM => ?_)
      refine x_wy (.inr ⟨by decide, Nat.le_trans h0 hc.size⟩) rfl ?_
      refine wy_done (by kernel_rfl) (fun w hc => ?_)
      have hM := hM.call hc
      have hM : Mem [] w0 w (.cell b21 (fC (lo : Int) (hi : Int) (nodeH now pj) (slv s1)) 74 :: .frd tU8 B1 (slv s1) gt.2 :: .cell b16 (old.1.map u8v) 30 :: .cell b17 (now.1.map u8v) 30 :: .cell b18 [slv u80] 60 :: .row eFv 74 (slv u80) (fs.map (·.1) ++ [gs.1, gt.1]) :: .many tU8 B (fs.map inpF) :: .cell b7 [slv (Aq, q.length, cq)] 27 :: .cell b5 [.int .i64 (m : Int)] 3 :: X) := by
        rw [show fC (lo : Int) (hi : Int) (nodeH now pj) (slv s1) = eFv.f gt.1 by rw [hgt]]
        exact hM.sub (by (repeat (first | exact Go.Proofs.E.Sub.refl _ | exact Go.Proofs.E.Sub.nil | (apply Go.Proofs.E.Sub.cons; (repeat (first | exact Go.Proofs.E.Pick.here | apply Go.Proofs.E.Pick.there))) | apply Go.Proofs.E.Sub.tail)))
      repeat (first | ((with_reducible apply is_ld); first | refine kld hM ?_ | refine kldw hM ?_ | refine kldf hM ?_ | refine kldw hM ?_ (hn := hf_clen _ _ _ _) | refine kle hM ?_ | refine klew hM ?_ | refine kld hM ?_ (hv := by exact hf_get _ _ _ _)) | ((with_reducible apply is_sto); first | (refine kst hM ?_; intro w hM) | (refine kstw hM ?_; intro w hM)) | ((with_reducible apply is_st); refine su ?_) | ((with_reducible apply is_gd); first | refine gt ?_ | refine gf ?_ | refine gu ?_) | ((with_reducible apply is_en); refine en ?_) | (with_reducible apply c_region) | refine ws ?_ | refine x_block_other (by decide) ?_ | (refine ci_region (by (repeat (first | exact noOut_round | exact noOut_fls | exact noOut_M | apply noOut_then | apply noOut_block))) rfl ?_) )
      have hM := hM.frd0 tU8 none 0
      have hM := (hM.pick (a := .many tU8 B (fs.map inpF)) (by (repeat constructor))).manyPut (u := (none, 0, 0))
      have hM := ((hM.pick (a := .frd tU8 B1 (slv s1) gt.2) (by (repeat constructor))).pick (a := .many tU8 _ _) (.there .here)).manyPut
      have e1 : fs.map inpF ++ [((none, 0, 0), [])] ++ [(s1, gt.2)] = (fs ++ [gs, gt]).map inpF := by rw [hgs, hgt, List.map_append]; simp [inpF]
      have e2 : fs.map (·.1) ++ [gs.1, gt.1] = (fs ++ [gs, gt]).map (·.1) := by rw [List.map_append]; rfl
      rw [e1] at hM
      rw [e2] at hM
      refine ⟨[.cell b16 (old.1.map u8v) 30, .cell b17 ((nodeH now pj).1.map u8v) 30, .cell b18 [slv u80] 60, .row eFv 74 (slv u80) ((fs ++ [gs, gt]).map (·.1)), .many tU8 _ ((fs ++ [gs, gt]).map inpF), .cell b7 [slv (Aq, q.length, cq)] 27, .cell b5 [.int .i64 (m : Int)] 3], ⟨fs ++ [gs, gt], old, nodeH now pj, slv u80, _, rfl, ?_, by simp; omega⟩, hM.sub (by (repeat (first | exact Go.Proofs.E.Sub.refl _ | exact Go.Proofs.E.Sub.nil | (apply Go.Proofs.E.Sub.cons; (repeat (first | exact Go.Proofs.E.Pick.here | apply Go.Proofs.E.Pick.there))) | apply Go.Proofs.E.Sub.tail)))⟩
      rw [← hst, List.map_append, hgs, hgt]
      rfl
    | true =>
      refine ci_condb rfl (fun h => by cases h) (fun _ => ?_)
      rw [if_pos rfl] at hst
      repeat (first | ((with_reducible apply is_ld); first | refine kld hM ?_ | refine kldw hM ?_ | refine kldf hM ?_ | refine kldw hM ?_ (hn := hf_clen _ _ _ _) | refine kle hM ?_ | refine klew hM ?_ | refine kld hM ?_ (hv := by exact hf_get _ _ _ _)) | ((with_reducible apply is_sto); first | (refine kst hM ?_; intro w hM) | (refine kstw hM ?_; intro w hM)) | ((with_reducible apply is_st); refine su ?_) | ((with_reducible apply is_gd); first | refine gt ?_ | refine gf ?_ | refine gu ?_) | ((with_reducible apply is_en); refine en ?_) | (with_reducible apply c_region) | refine ws ?_ | refine x_block_other (by decide) ?_ | (refine ci_region (by (repeat (first | exact noOut_round | exact noOut_fls | exact noOut_M | apply noOut_then | apply noOut_block))) rfl ?_) )
      refine ci_ordY ([], []) [] (by (repeat (first | exact noOut_round | exact noOut_fls | exact noOut_M | apply noOut_then | apply noOut_block))) rfl (by kernel_rfl) (by kernel_rfl) (by kernel_rfl) (fun w hc hs => ?_)
      have hM := hM.call hc
      have hl20 := Blk.lt (hM.blk (b := b20) (by (repeat constructor)))
      have hl17 := Blk.lt (hM.blk (b := b17) (by (repeat constructor)))
      have hl16 := Blk.lt (hM.blk (b := b16) (by (repeat constructor)))
      have hl7 := Blk.lt (hM.blk (b := b7) (by (repeat constructor)))
      have hl5 := Blk.lt (hM.blk (b := b5) (by (repeat constructor)))
      (first | refine yn 0 rfl ?_ | refine ynt 0 rfl ?_ | refine ynff 0 rfl ?_)
      refine ynl 1 rfl (hM.blk (b := b20) (by (repeat constructor))) (by omega) (by simp) rfl rfl ?_
      refine ynl 2 rfl (hM.blk (b := b5) (by (repeat constructor))) (by omega) (by simp) rfl rfl ?_
      refine ynl 3 rfl (hM.blk (b := b7) (by (repeat constructor))) (by omega) (by simp) rfl rfl ?_
      (first | refine yn 4 rfl ?_ | refine ynt 4 rfl ?_ | refine ynff 4 rfl ?_)
      refine kynx 5 rfl hRq rfl rfl rfl (by omega) (by omega) (fun bp1 op1 p1 hp1 hA1 => ?_)
      rw [Int.toNat_natCast, hpq] at hp1
      obtain rfl := Option.some.inj hp1
      refine ynar (en := eH) 6 rfl (hA1.mv hM.ch (by simp)) (by have := hA1.1; have := hM.ch.size; omega) rfl rfl ?_
      refine ynlr 7 rfl (hM.blk (b := b16) (by (repeat constructor))) (by omega) (by simp) rfl (ds := old.1.map u8v) (by rw [List.drop_zero]; exact List.take_of_length_le (by rw [hf_len]; omega)) (hf_len old) ?_
      (first | refine yn 9 rfl ?_ | refine ynt 9 rfl ?_ | refine ynff 9 rfl ?_)
      refine ynl 10 rfl (hM.blk (b := b20) (by (repeat constructor))) (by omega) (by simp) rfl rfl ?_
      (first | refine yn 11 rfl ?_ | refine ynt 11 rfl ?_ | refine ynff 11 rfl ?_)
      refine ynl 12 rfl (hM.blk (b := b20) (by (repeat constructor))) (by omega) (by simp) rfl rfl ?_
      refine ynl 13 rfl (hM.blk (b := b7) (by (repeat constructor))) (by omega) (by simp) rfl rfl ?_
      (first | refine yn 14 rfl ?_ | refine ynt 14 rfl ?_ | refine ynff 14 rfl ?_)
      refine kynx 15 rfl hRq rfl rfl rfl (by omega) (by omega) (fun bp2 op2 p2 hp2 hA2 => ?_)
      rw [Int.toNat_natCast, hpq] at hp2
      obtain rfl := Option.some.inj hp2
      refine ynar (en := eH) 16 rfl (hA2.mv hM.ch (by simp)) (by have := hA2.1; have := hM.ch.size; omega) rfl rfl ?_
      refine ynlr 17 rfl (hM.blk (b := b17) (by (repeat constructor))) (by omega) (by simp) rfl (ds := now.1.map u8v) (by rw [List.drop_zero]; exact List.take_of_length_le (by rw [hf_len]; omega)) (hf_len now) ?_
      refine wy_cont (X := (SlV × (Nat → Prop)) × (SlV × (Nat → Prop)) × Nat × Nat) (fun x N w => (N ≤ x.2.2.1 ∧ N ≤ x.2.2.2) ∧ Mem [] w0 w (.cell x.2.2.1 (fC 0 0 zeroH (.slice none 0 0)) 74 :: .cell x.2.2.2 (fC 0 0 zeroH (.slice none 0 0)) 74 :: .frd tU8 x.1.2 (slv x.1.1) (1 :: (pj.1 ++ old.1)) :: .frd tU8 x.2.1.2 (slv x.2.1.1) (1 :: (pj.1 ++ now.1)) :: .cell b20 (eWy.f (lo, mid, hi, true)) 141 :: .cell b16 (old.1.map u8v) 30 :: .cell b17 (now.1.map u8v) 30 :: .cell b18 [slv u18] 60 :: .row eFv 74 (slv u18) (fs.map (·.1)) :: .many tU8 B (fs.map inpF) :: .cell b7 [slv (Aq, q.length, cq)] 27 :: .cell b5 [.int .i64 (m : Int)] 3 :: X))
        (fun x l => (((l.set 121 (.agg (eFv.f ((lo : Int), (m : Int), nodeH pj old, x.1.1)).toArray)).set 131 (.agg (eFv.f ((lo : Int), (hi : Int), nodeH pj now, x.2.1.1)).toArray)).set 22 (.pointer (some ⟨x.2.2.1, 0, none⟩))).set 23 (.pointer (some ⟨x.2.2.2, 0, none⟩))) #[true, true, true, true, true, true, true, true, true, true, true, true, true, true, true, true, true, true, true, true, true, false, false] (fuel := 2) (fun hkk => ?_) ?_
      · skip
        refine yk3 8 19 20 hM (by kernel_rfl) rfl rfl rfl (fun w h0 hM => ?_) (fun w h0 hM => ?_) (fun w h0 hM => ?_)
        · skip
          refine ca (fnode_any lo m pj old _ (hK.ch hM.ch (by simp))) ?_
          rintro _ w2 ⟨s1, B1, rfl, hc, hN⟩
          have hM := hM.join hN (by simp [As.plain])
          simp only [List.cons_append, List.nil_append] at hM
          refine x_wy (.inl (hc.gy h0)) rfl ?_
          refine yk3 18 19 20 hM (by kernel_rfl) rfl rfl rfl (fun w h0 hM => ?_) (fun w h0 hM => ?_) (fun w h0 hM => ?_)
          · skip
            refine ca (fnode_any lo hi pj now _ (hK.ch hM.ch (by simp))) ?_
            rintro _ w2 ⟨s2, B2, rfl, hc, hN⟩
            have hM := hM.join hN (by simp [As.plain])
            simp only [List.cons_append, List.nil_append] at hM
            refine x_wy (.inl (hc.gy h0)) rfl ?_
            refine yk2 19 20 hM (by kernel_rfl) rfl rfl (fun w h0 hM => ?_) (fun w h0 hM => ?_)
            · skip
              refine kalN hM (fun w b22 hb22 hc hM => ?_)
              have hb22 := Nat.le_trans h0 hb22
              refine x_wy (.inl (hc.gy h0)) rfl ?_
              refine yk1 20 hM (by kernel_rfl) rfl (fun w h0 hM => ?_)
              refine kalN hM (fun w b23 hb23 hc hM => ?_)
              have hb23 := Nat.le_trans h0 hb23
              refine x_wy (.inl (hc.gy h0)) rfl ?_
              exact hkk ((s1, B1), (s2, B2), b22, b23) _ _ _ (by kernel_rfl) rfl ⟨⟨hb22, hb23⟩, hM.sub (by (repeat (first | exact Go.Proofs.E.Sub.refl _ | exact Go.Proofs.E.Sub.nil | (apply Go.Proofs.E.Sub.cons; (repeat (first | exact Go.Proofs.E.Pick.here | apply Go.Proofs.E.Pick.there))) | apply Go.Proofs.E.Sub.tail)))⟩
            · skip
              refine kalN hM (fun w b23 hb23 hc hM => ?_)
              have hb23 := Nat.le_trans h0 hb23
              refine x_wy (.inl (hc.gy h0)) rfl ?_
              refine yk1 19 hM (by kernel_rfl) rfl (fun w h0 hM => ?_)
              refine kalN hM (fun w b22 hb22 hc hM => ?_)
              have hb22 := Nat.le_trans h0 hb22
              refine x_wy (.inl (hc.gy h0)) rfl ?_
              exact hkk ((s1, B1), (s2, B2), b22, b23) _ _ _ (by kernel_rfl) rfl ⟨⟨hb22, hb23⟩, hM.sub (by (repeat (first | exact Go.Proofs.E.Sub.refl _ | exact Go.Proofs.E.Sub.nil | (apply Go.Proofs.E.Sub.cons; (repeat (first | exact Go.Proofs.E.Pick.here | apply Go.Proofs.E.Pick.there))) | apply Go.Proofs.E.Sub.tail)))⟩
          · skip
            refine kalN hM (fun w b22 hb22 hc hM => ?_)
            have hb22 := Nat.le_trans h0 hb22
            refine x_wy (.inl (hc.gy h0)) rfl ?_
            refine yk2 18 20 hM (by kernel_rfl) rfl rfl (fun w h0 hM => ?_) (fun w h0 hM => ?_)
            · skip
              refine ca (fnode_any lo hi pj now _ (hK.ch hM.ch (by simp))) ?_
              rintro _ w2 ⟨s2, B2, rfl, hc, hN⟩
              have hM := hM.join hN (by simp [As.plain])
              simp only [List.cons_append, List.nil_append] at hM
              refine x_wy (.inl (hc.gy h0)) rfl ?_
              refine yk1 20 hM (by kernel_rfl) rfl (fun w h0 hM => ?_)
              refine kalN hM (fun w b23 hb23 hc hM => ?_)
              have hb23 := Nat.le_trans h0 hb23
              refine x_wy (.inl (hc.gy h0)) rfl ?_
              exact hkk ((s1, B1), (s2, B2), b22, b23) _ _ _ (by kernel_rfl) rfl ⟨⟨hb22, hb23⟩, hM.sub (by (repeat (first | exact Go.Proofs.E.Sub.refl _ | exact Go.Proofs.E.Sub.nil | (apply Go.Proofs.E.Sub.cons; (repeat (first | exact Go.Proofs.E.Pick.here | apply Go.Proofs.E.Pick.there))) | apply Go.Proofs.E.Sub.tail)))⟩
            · skip
              refine kalN hM (fun w b23 hb23 hc hM => ?_)
              have hb23 := Nat.le_trans h0 hb23
              refine x_wy (.inl (hc.gy h0)) rfl ?_
              refine yk1 18 hM (by kernel_rfl) rfl (fun w h0 hM => ?_)
              refine ca (fnode_any lo hi pj now _ (hK.ch hM.ch (by simp))) ?_
              rintro _ w2 ⟨s2, B2, rfl, hc, hN⟩
              have hM := hM.join hN (by simp [As.plain])
              simp only [List.cons_append, List.nil_append] at hM
              refine x_wy (.inl (hc.gy h0)) rfl ?_
              exact hkk ((s1, B1), (s2, B2), b22, b23) _ _ _ (by kernel_rfl) rfl ⟨⟨hb22, hb23⟩, hM.sub (by (repeat (first | exact Go.Proofs.E.Sub.refl _ | exact Go.Proofs.E.Sub.nil | (apply Go.Proofs.E.Sub.cons; (repeat (first | exact Go.Proofs.E.Pick.here | apply Go.Proofs.E.Pick.there))) | apply Go.Proofs.E.Sub.tail)))⟩
          · skip
            refine kalN hM (fun w b23 hb23 hc hM => ?_)
            have hb23 := Nat.le_trans h0 hb23
            refine x_wy (.inl (hc.gy h0)) rfl ?_
            refine yk2 18 19 hM (by kernel_rfl) rfl rfl (fun w h0 hM => ?_) (fun w h0 hM => ?_)
            · skip
              refine ca (fnode_any lo hi pj now _ (hK.ch hM.ch (by simp))) ?_
              rintro _ w2 ⟨s2, B2, rfl, hc, hN⟩
              have hM := hM.join hN (by simp [As.plain])
              simp only [List.cons_append, List.nil_append] at hM
              refine x_wy (.inl (hc.gy h0)) rfl ?_
              refine yk1 19 hM (by kernel_rfl) rfl (fun w h0 hM => ?_)
              refine kalN hM (fun w b22 hb22 hc hM => ?_)
              have hb22 := Nat.le_trans h0 hb22
              refine x_wy (.inl (hc.gy h0)) rfl ?_
              exact hkk ((s1, B1), (s2, B2), b22, b23) _ _ _ (by kernel_rfl) rfl ⟨⟨hb22, hb23⟩, hM.sub (by (repeat (first | exact Go.Proofs.E.Sub.refl _ | exact Go.Proofs.E.Sub.nil | (apply Go.Proofs.E.Sub.cons; (repeat (first | exact Go.Proofs.E.Pick.here | apply Go.Proofs.E.Pick.there))) | apply Go.Proofs.E.Sub.tail)))⟩
            · skip
              refine kalN hM (fun w b22 hb22 hc hM => ?_)
              have hb22 := Nat.le_trans h0 hb22
              refine x_wy (.inl (hc.gy h0)) rfl ?_
              refine yk1 18 hM (by kernel_rfl) rfl (fun w h0 hM => ?_)
              refine ca (fnode_any lo hi pj now _ (hK.ch hM.ch (by simp))) ?_
              rintro _ w2 ⟨s2, B2, rfl, hc, hN⟩
              have hM := hM.join hN (by simp [As.plain])
              simp only [List.cons_append, List.nil_append] at hM
              refine x_wy (.inl (hc.gy h0)) rfl ?_
              exact hkk ((s1, B1), (s2, B2), b22, b23) _ _ _ (by kernel_rfl) rfl ⟨⟨hb22, hb23⟩, hM.sub (by (repeat (first | exact Go.Proofs.E.Sub.refl _ | exact Go.Proofs.E.Sub.nil | (apply Go.Proofs.E.Sub.cons; (repeat (first | exact Go.Proofs.E.Pick.here | apply Go.Proofs.E.Pick.there))) | apply Go.Proofs.E.Sub.tail)))⟩
        · skip
          refine kalN hM (fun w b22 hb22 hc hM => ?_)
          have hb22 := Nat.le_trans h0 hb22
          refine x_wy (.inl (hc.gy h0)) rfl ?_
          refine yk2 8 20 hM (by kernel_rfl) rfl rfl (fun w h0 hM => ?_) (fun w h0 hM => ?_)
          · skip
            refine ca (fnode_any lo m pj old _ (hK.ch hM.ch (by simp))) ?_
            rintro _ w2 ⟨s1, B1, rfl, hc, hN⟩
            have hM := hM.join hN (by simp [As.plain])
            simp only [List.cons_append, List.nil_append] at hM
            refine x_wy (.inl (hc.gy h0)) rfl ?_
            refine yk2 18 20 hM (by kernel_rfl) rfl rfl (fun w h0 hM => ?_) (fun w h0 hM => ?_)
            · skip
              refine ca (fnode_any lo hi pj now _ (hK.ch hM.ch (by simp))) ?_
              rintro _ w2 ⟨s2, B2, rfl, hc, hN⟩
              have hM := hM.join hN (by simp [As.plain])
              simp only [List.cons_append, List.nil_append] at hM
              refine x_wy (.inl (hc.gy h0)) rfl ?_
              refine yk1 20 hM (by kernel_rfl) rfl (fun w h0 hM => ?_)
              refine kalN hM (fun w b23 hb23 hc hM => ?_)
              have hb23 := Nat.le_trans h0 hb23
              refine x_wy (.inl (hc.gy h0)) rfl ?_
              exact hkk ((s1, B1), (s2, B2), b22, b23) _ _ _ (by kernel_rfl) rfl ⟨⟨hb22, hb23⟩, hM.sub (by (repeat (first | exact Go.Proofs.E.Sub.refl _ | exact Go.Proofs.E.Sub.nil | (apply Go.Proofs.E.Sub.cons; (repeat (first | exact Go.Proofs.E.Pick.here | apply Go.Proofs.E.Pick.there))) | apply Go.Proofs.E.Sub.tail)))⟩
            · skip
              refine kalN hM (fun w b23 hb23 hc hM => ?_)
              have hb23 := Nat.le_trans h0 hb23
              refine x_wy (.inl (hc.gy h0)) rfl ?_
              refine yk1 18 hM (by kernel_rfl) rfl (fun w h0 hM => ?_)
              refine ca (fnode_any lo hi pj now _ (hK.ch hM.ch (by simp))) ?_
              rintro _ w2 ⟨s2, B2, rfl, hc, hN⟩
              have hM := hM.join hN (by simp [As.plain])
              simp only [List.cons_append, List.nil_append] at hM
              refine x_wy (.inl (hc.gy h0)) rfl ?_
              exact hkk ((s1, B1), (s2, B2), b22, b23) _ _ _ (by kernel_rfl) rfl ⟨⟨hb22, hb23⟩, hM.sub (by (repeat (first | exact Go.Proofs.E.Sub.refl _ | exact Go.Proofs.E.Sub.nil | (apply Go.Proofs.E.Sub.cons; (repeat (first | exact Go.Proofs.E.Pick.here | apply Go.Proofs.E.Pick.there))) | apply Go.Proofs.E.Sub.tail)))⟩
          · skip
            refine kalN hM (fun w b23 hb23 hc hM => ?_)
            have hb23 := Nat.le_trans h0 hb23
            refine x_wy (.inl (hc.gy h0)) rfl ?_
            refine yk1 8 hM (by kernel_rfl) rfl (fun w h0 hM => ?_)
            refine ca (fnode_any lo m pj old _ (hK.ch hM.ch (by simp))) ?_
            rintro _ w2 ⟨s1, B1, rfl, hc, hN⟩
            have hM := hM.join hN (by simp [As.plain])
            simp only [List.cons_append, List.nil_append] at hM
            refine x_wy (.inl (hc.gy h0)) rfl ?_
            refine yk1 18 hM (by kernel_rfl) rfl (fun w h0 hM => ?_)
            refine ca (fnode_any lo hi pj now _ (hK.ch hM.ch (by simp))) ?_
            rintro _ w2 ⟨s2, B2, rfl, hc, hN⟩
            have hM := hM.join hN (by simp [As.plain])
            simp only [List.cons_append, List.nil_append] at hM
            refine x_wy (.inl (hc.gy h0)) rfl ?_
            exact hkk ((s1, B1), (s2, B2), b22, b23) _ _ _ (by kernel_rfl) rfl ⟨⟨hb22, hb23⟩, hM.sub (by (repeat (first | exact Go.Proofs.E.Sub.refl _ | exact Go.Proofs.E.Sub.nil | (apply Go.Proofs.E.Sub.cons; (repeat (first | exact Go.Proofs.E.Pick.here | apply Go.Proofs.E.Pick.there))) | apply Go.Proofs.E.Sub.tail)))⟩
        · skip
          refine kalN hM (fun w b23 hb23 hc hM => ?_)
          have hb23 := Nat.le_trans h0 hb23
          refine x_wy (.inl (hc.gy h0)) rfl ?_
          refine yk2 8 19 hM (by kernel_rfl) rfl rfl (fun w h0 hM => ?_) (fun w h0 hM => ?_)
          · skip
            refine ca (fnode_any lo m pj old _ (hK.ch hM.ch (by simp))) ?_
            rintro _ w2 ⟨s1, B1, rfl, hc, hN⟩
            have hM := hM.join hN (by simp [As.plain])
            simp only [List.cons_append, List.nil_append] at hM
            refine x_wy (.inl (hc.gy h0)) rfl ?_
            refine yk2 18 19 hM (by kernel_rfl) rfl rfl (fun w h0 hM => ?_) (fun w h0 hM => ?_)
            · skip
              refine ca (fnode_any lo hi pj now _ (hK.ch hM.ch (by simp))) ?_
              rintro _ w2 ⟨s2, B2, rfl, hc, hN⟩
              have hM := hM.join hN (by simp [As.plain])
              simp only [List.cons_append, List.nil_append] at hM
              refine x_wy (.inl (hc.gy h0)) rfl ?_
              refine yk1 19 hM (by kernel_rfl) rfl (fun w h0 hM => ?_)
              refine kalN hM (fun w b22 hb22 hc hM => ?_)
              have hb22 := Nat.le_trans h0 hb22
              refine x_wy (.inl (hc.gy h0)) rfl ?_
              exact hkk ((s1, B1), (s2, B2), b22, b23) _ _ _ (by kernel_rfl) rfl ⟨⟨hb22, hb23⟩, hM.sub (by (repeat (first | exact Go.Proofs.E.Sub.refl _ | exact Go.Proofs.E.Sub.nil | (apply Go.Proofs.E.Sub.cons; (repeat (first | exact Go.Proofs.E.Pick.here | apply Go.Proofs.E.Pick.there))) | apply Go.Proofs.E.Sub.tail)))⟩
            · skip
              refine kalN hM (fun w b22 hb22 hc hM => ?_)
              have hb22 := Nat.le_trans h0 hb22
              refine x_wy (.inl (hc.gy h0)) rfl ?_
              refine yk1 18 hM (by kernel_rfl) rfl (fun w h0 hM => ?_)
              refine ca (fnode_any lo hi pj now _ (hK.ch hM.ch (by simp))) ?_
              rintro _ w2 ⟨s2, B2, rfl, hc, hN⟩
              have hM := hM.join hN (by simp [As.plain])
              simp only [List.cons_append, List.nil_append] at hM
              refine x_wy (.inl (hc.gy h0)) rfl ?_
              exact hkk ((s1, B1), (s2, B2), b22, b23) _ _ _ (by kernel_rfl) rfl ⟨⟨hb22, hb23⟩, hM.sub (by (repeat (first | exact Go.Proofs.E.Sub.refl _ | exact Go.Proofs.E.Sub.nil | (apply Go.Proofs.E.Sub.cons; (repeat (first | exact Go.Proofs.E.Pick.here | apply Go.Proofs.E.Pick.there))) | apply Go.Proofs.E.Sub.tail)))⟩
          · skip
            refine kalN hM (fun w b22 hb22 hc hM => ?_)
            have hb22 := Nat.le_trans h0 hb22
            refine x_wy (.inl (hc.gy h0)) rfl ?_
            refine yk1 8 hM (by kernel_rfl) rfl (fun w h0 hM => ?_)
            refine ca (fnode_any lo m pj old _ (hK.ch hM.ch (by simp))) ?_
            rintro _ w2 ⟨s1, B1, rfl, hc, hN⟩
            have hM := hM.join hN (by simp [As.plain])
            simp only [List.cons_append, List.nil_append] at hM
            refine x_wy (.inl (hc.gy h0)) rfl ?_
            refine yk1 18 hM (by kernel_rfl) rfl (fun w h0 hM => ?_)
            refine ca (fnode_any lo hi pj now _ (hK.ch hM.ch (by simp))) ?_
            rintro _ w2 ⟨s2, B2, rfl, hc, hN⟩
            have hM := hM.join hN (by simp [As.plain])
            simp only [List.cons_append, List.nil_append] at hM
            refine x_wy (.inl (hc.gy h0)) rfl ?_
            exact hkk ((s1, B1), (s2, B2), b22, b23) _ _ _ (by kernel_rfl) rfl ⟨⟨hb22, hb23⟩, hM.sub (by (repeat (first | exact Go.Proofs.E.Sub.refl _ | exact Go.Proofs.E.Sub.nil | (apply Go.Proofs.E.Sub.cons; (repeat (first | exact Go.Proofs.E.Pick.here | apply Go.Proofs.E.Pick.there))) | apply Go.Proofs.E.Sub.tail)))⟩
      clear hM
      rintro ⟨⟨s1, B1⟩, ⟨s2, B2⟩, b22, b23⟩ w ⟨⟨hb22, hb23⟩, hM⟩
      simp only at hb22 hb23 hM
      refine wy_nf ?_
      refine yk1 21 hM (by kernel_rfl) rfl (fun w h0 hM => ?_)
      refine kstwF (vs := eFv.f ((lo : Int), (m : Int), nodeH pj old, s1)) hM (fun w hc hM => ?_)
      refine x_wy (.inl (hc.bwn h0 (.inl hb22))) rfl ?_
      refine yk1 22 hM (by kernel_rfl) rfl (fun w h0 hM => ?_)
      refine kstwF (vs := eFv.f ((lo : Int), (hi : Int), nodeH pj now, s2)) hM (fun w hc hM => ?_)
      refine x_wy (.inl (hc.bwn h0 (.inl hb23))) rfl ?_
      refine wy_done (by kernel_rfl) (fun w hc => ?_)
      have hM := hM.call hc
      obtain ⟨gs, hgs⟩ : ∃ g : Fv × List UInt8, g = (((lo : Int), (mid : Int), pj, (none, 0, 0)), []) := ⟨_, rfl⟩
      obtain ⟨gf, hgf⟩ : ∃ g : Fv × List UInt8, g = (((lo : Int), (m : Int), nodeH pj old, s1), 1 :: (pj.1 ++ old.1)) := ⟨_, rfl⟩
      obtain ⟨gt, hgt⟩ : ∃ g : Fv × List UInt8, g = (((lo : Int), (hi : Int), nodeH pj now, s2), 1 :: (pj.1 ++ now.1)) := ⟨_, rfl⟩
      have hM : Mem [] w0 w (.cell b22 (eFv.f gf.1) 74 :: .cell b23 (eFv.f gt.1) 74 :: .frd tU8 B1 (slv s1) gf.2 :: .frd tU8 B2 (slv s2) gt.2 :: .cell b20 (eWy.f (lo, mid, hi, true)) 141 :: .cell b16 (old.1.map u8v) 30 :: .cell b17 (now.1.map u8v) 30 :: .cell b18 [slv u18] 60 :: .row eFv 74 (slv u18) (fs.map (·.1)) :: .many tU8 B (fs.map inpF) :: .cell b7 [slv (Aq, q.length, cq)] 27 :: .cell b5 [.int .i64 (m : Int)] 3 :: X) := by rw [hgf, hgt]; exact hM.sub (by (repeat (first | exact Go.Proofs.E.Sub.refl _ | exact Go.Proofs.E.Sub.nil | (apply Go.Proofs.E.Sub.cons; (repeat (first | exact Go.Proofs.E.Pick.here | apply Go.Proofs.E.Pick.there))) | apply Go.Proofs.E.Sub.tail)))
      repeat (first | ((with_reducible apply is_ld); first | refine kld hM ?_ | refine kldw hM ?_ | refine kldf hM ?_ | refine kldw hM ?_ (hn := hf_clen _ _ _ _) | refine kle hM ?_ | refine klew hM ?_ | refine kld hM ?_ (hv := by exact hf_get _ _ _ _)) | ((with_reducible apply is_sto); first | (refine kst hM ?_; intro w hM) | (refine kstw hM ?_; intro w hM)) | ((with_reducible apply is_st); refine su ?_) | ((with_reducible apply is_gd); first | refine gt ?_ | refine gf ?_ | refine gu ?_) | ((with_reducible apply is_en); refine en ?_) | (with_reducible apply c_region) | refine ws ?_ | refine x_block_other (by decide) ?_ | (refine ci_region (by (repeat (first | exact noOut_round | exact noOut_fls | exact noOut_M | apply noOut_then | apply noOut_block))) rfl ?_) )
      refine ci_ordY ([13, 14], []) [] (by (repeat (first | exact noOut_round | exact noOut_fls | exact noOut_M | apply noOut_then | apply noOut_block))) rfl (by kernel_rfl) (by kernel_rfl) (by kernel_rfl) (fun w hc hs => ?_)
      have hM := hM.call hc
      have hl18 := Blk.lt (hM.blk (b := b18) (by (repeat constructor)))
      have hl20 := Blk.lt (hM.blk (b := b20) (by (repeat constructor)))
      have hl7 := Blk.lt (hM.blk (b := b7) (by (repeat constructor)))
      have hl22 := Blk.lt (hM.blk (b := b22) (by (repeat constructor)))
      have hl23 := Blk.lt (hM.blk (b := b23) (by (repeat constructor)))
      refine ynl 0 rfl (hM.blk (b := b18) (by (repeat constructor))) (by omega) (by simp) rfl rfl ?_
      (first | refine yn 1 rfl ?_ | refine ynt 1 rfl ?_ | refine ynff 1 rfl ?_)
      refine ynl 2 rfl (hM.blk (b := b20) (by (repeat constructor))) (by omega) (by simp) rfl rfl ?_
      (first | refine yn 3 rfl ?_ | refine ynt 3 rfl ?_ | refine ynff 3 rfl ?_)
      refine ynl 4 rfl (hM.blk (b := b20) (by (repeat constructor))) (by omega) (by simp) rfl rfl ?_
      refine ynl 5 rfl (hM.blk (b := b7) (by (repeat constructor))) (by omega) (by simp) rfl rfl ?_
      (first | refine yn 6 rfl ?_ | refine ynt 6 rfl ?_ | refine ynff 6 rfl ?_)
      refine kynx 7 rfl hRq rfl rfl rfl (by omega) (by omega) (fun bp3 op3 p3 hp3 hA3 => ?_)
      rw [Int.toNat_natCast, hpq] at hp3
      obtain rfl := Option.some.inj hp3
      refine ynar (en := eH) 8 rfl (hA3.mv hM.ch (by simp)) (by have := hA3.1; have := hM.ch.size; omega) rfl rfl ?_
      refine ynp (v := .agg (eFv.f gs.1).toArray) 9 rfl (by kernel_rfl) (by kernel_rfl) (fun _ => by rw [hgs]; exact r_bldS (vs := [(0, .int .i64 (lo : Int)), (1, .int .i64 (mid : Int)), (2, hv pj.1)]) (eFv.f ((lo : Int), (mid : Int), pj, (none, 0, 0))) (z := (fC 0 0 zeroH (.slice none 0 0))) (place := plF) (by intro ps; kernel_rfl) rfl (fl3 _ _ _)) rfl ?_
      refine ynlr 10 rfl (hM.blk (b := b22) (by (repeat constructor))) (by omega) (by simp) rfl (ds := eFv.f gf.1) (by rw [List.drop_zero]; exact List.take_of_length_le (by rw [eFv.hl]; omega)) (eFv.hl _) ?_
      refine ynlr 11 rfl (hM.blk (b := b23) (by (repeat constructor))) (by omega) (by simp) rfl (ds := eFv.f gt.1) (by rw [List.drop_zero]; exact List.take_of_length_le (by rw [eFv.hl]; omega)) (eFv.hl _) ?_
      refine yk1 12 hM (by kernel_rfl) rfl (fun w h0 hM => ?_)
      refine kbsC (en := eFv) (vs := [.agg (eFv.f gs.1).toArray, .agg (eFv.f gf.1).toArray, .agg (eFv.f gt.1).toArray]) [gs.1, gf.1, gt.1] hM (fun w b79 hc hM => ?_) (hxs := by simp [Value.cells]) (hm := by
        intro v hv
        simp only [List.mem_cons, List.not_mem_nil, or_false] at hv
        rcases hv with rfl | rfl | rfl <;> exact hf_clen _ _ _ _)
      refine x_wy (.inl (hc.gy h0)) rfl ?_
      refine yk1 13 hM (by kernel_rfl) rfl (fun w h0 hM => ?_)
      refine kapC (en := eFv) (v := slv u18) (xs := fs.map (·.1)) (ys := [gs.1, gf.1, gt.1]) hM (hM.rowRdO (en := eFv) (v := .slice (some ⟨b79, 0, none⟩) 3 3) (xs := [gs.1, gf.1, gt.1]) (by (repeat constructor))) (fun v80 w hs hM => ?_) (hb := by simp; omega) (h63 := by simp; omega)
      refine x_wy (.inr ⟨by decide, Nat.le_trans h0 hs⟩) rfl ?_
      obtain ⟨u80, rfl⟩ : ∃ u : SlV, v80 = slv u := by obtain ⟨A, c, rfl, _⟩ := (hM.row0 (v := v80) (by (repeat constructor))).form; exact ⟨(A, _, c), rfl⟩
      refine yk1 14 hM (by kernel_rfl) rfl (fun w h0 hM => ?_)
      refine kstC hM (fun w hc hM => ?_)
      refine x_wy (.inr ⟨by decide, Nat.le_trans h0 hc.size⟩) rfl ?_
      refine wy_done (by kernel_rfl) (fun w hc => ?_)
      have hM := hM.call hc
      have hM : Mem [] w0 w (.cell b22 (fC (lo : Int) (m : Int) (nodeH pj old) (slv s1)) 74 :: .cell b23 (fC (lo : Int) (hi : Int) (nodeH pj now) (slv s2)) 74 :: .frd tU8 B1 (slv s1) gf.2 :: .frd tU8 B2 (slv s2) gt.2 :: .cell b16 (old.1.map u8v) 30 :: .cell b17 (now.1.map u8v) 30 :: .cell b18 [slv u80] 60 :: .row eFv 74 (slv u80) (fs.map (·.1) ++ [gs.1, gf.1, gt.1]) :: .many tU8 B (fs.map inpF) :: .cell b7 [slv (Aq, q.length, cq)] 27 :: .cell b5 [.int .i64 (m : Int)] 3 :: X) := by
        rw [show fC (lo : Int) (m : Int) (nodeH pj old) (slv s1) = eFv.f gf.1 by rw [hgf], show fC (lo : Int) (hi : Int) (nodeH pj now) (slv s2) = eFv.f gt.1 by rw [hgt]]
        exact hM.sub (by (repeat (first | exact Go.Proofs.E.Sub.refl _ | exact Go.Proofs.E.Sub.nil | (apply Go.Proofs.E.Sub.cons; (repeat (first | exact Go.Proofs.E.Pick.here | apply Go.Proofs.E.Pick.there))) | apply Go.Proofs.E.Sub.tail)))
      repeat (first | ((with_reducible apply is_ld); first | refine kld hM ?_ | refine kldw hM ?_ | refine kldf hM ?_ | refine kldw hM ?_ (hn := hf_clen _ _ _ _) | refine kle hM ?_ | refine klew hM ?_ | refine kld hM ?_ (hv := by exact hf_get _ _ _ _)) | ((with_reducible apply is_sto); first | (refine kst hM ?_; intro w hM) | (refine kstw hM ?_; intro w hM)) | ((with_reducible apply is_st); refine su ?_) | ((with_reducible apply is_gd); first | refine gt ?_ | refine gf ?_ | refine gu ?_) | ((with_reducible apply is_en); refine en ?_) | (with_reducible apply c_region) | refine ws ?_ | refine x_block_other (by decide) ?_ | (refine ci_region (by (repeat (first | exact noOut_round | exact noOut_fls | exact noOut_M | apply noOut_then | apply noOut_block))) rfl ?_) )
      refine ci_ordY ([], []) [b16, b17] (by (repeat (first | exact noOut_round | exact noOut_fls | exact noOut_M | apply noOut_then | apply noOut_block))) rfl (by kernel_rfl) (by kernel_rfl) (by kernel_rfl) (fun w hc hs => ?_)
      have hM := hM.call hc
      have hl22 := Blk.lt (hM.blk (b := b22) (by (repeat constructor)))
      have hl23 := Blk.lt (hM.blk (b := b23) (by (repeat constructor)))
      have hn1 := hM.nin (b := b16) (c := b22) (by (repeat constructor)) (by (repeat constructor))
      have hn2 := hM.nin (b := b17) (c := b22) (by (repeat constructor)) (by (repeat constructor))
      have hn3 := hM.nin (b := b16) (c := b23) (by (repeat constructor)) (by (repeat constructor))
      have hn4 := hM.nin (b := b17) (c := b23) (by (repeat constructor)) (by (repeat constructor))
      simp only [List.mem_singleton] at hn1 hn2 hn3 hn4
      (first | refine yn 0 rfl ?_ | refine ynt 0 rfl ?_ | refine ynff 0 rfl ?_)
      refine ynlr 1 rfl (hM.blk (b := b22) (by (repeat constructor))) (by omega) (by simp; omega) rfl (ds := (nodeH pj old).1.map u8v) (hf_take _ _ _ _) (hf_len _) ?_
      (first | refine yn 2 rfl ?_ | refine ynt 2 rfl ?_ | refine ynff 2 rfl ?_)
      refine ynlr 3 rfl (hM.blk (b := b23) (by (repeat constructor))) (by omega) (by simp; omega) rfl (ds := (nodeH pj now).1.map u8v) (hf_take _ _ _ _) (hf_len _) ?_
      refine yk1 4 hM (by kernel_rfl) rfl (fun w h0 hM => ?_)
      refine kstwF (b := b16) (vs := (nodeH pj old).1.map u8v) hM (fun w hc hM => ?_)
      refine x_wy (.inl (hc.bwn h0 (.inr (by simp)))) rfl ?_
      refine yk1 5 hM (by kernel_rfl) rfl (fun w h0 hM => ?_)
      refine kstwF (b := b17) (vs := (nodeH pj now).1.map u8v) hM (fun w hc hM => ?_)
      refine x_wy (.inl (hc.bwn h0 (.inr (by simp)))) rfl ?_
      refine wy_done (by kernel_rfl) (fun w hc => ?_)
      have hM := hM.call hc
      have hM := hM.frd0 tU8 none 0
      have hM := (hM.pick (a := .many tU8 B (fs.map inpF)) (by (repeat constructor))).manyPut (u := (none, 0, 0))
      have hM := ((hM.pick (a := .frd tU8 B1 (slv s1) gf.2) (by (repeat constructor))).pick (a := .many tU8 _ _) (.there .here)).manyPut
      have hM := ((hM.pick (a := .frd tU8 B2 (slv s2) gt.2) (by (repeat constructor))).pick (a := .many tU8 _ _) (.there .here)).manyPut
      have e1 : fs.map inpF ++ [((none, 0, 0), [])] ++ [(s1, gf.2)] ++ [(s2, gt.2)] = (fs ++ [gs, gf, gt]).map inpF := by rw [hgs, hgf, hgt, List.map_append]; simp [inpF]
      have e2 : fs.map (·.1) ++ [gs.1, gf.1, gt.1] = (fs ++ [gs, gf, gt]).map (·.1) := by rw [List.map_append]; rfl
      rw [e1] at hM
      rw [e2] at hM
      repeat (first | ((with_reducible apply is_ld); first | refine kld hM ?_ | refine kldw hM ?_ | refine kldf hM ?_ | refine kldw hM ?_ (hn := hf_clen _ _ _ _) | refine kle hM ?_ | refine klew hM ?_ | refine kld hM ?_ (hv := by exact hf_get _ _ _ _)) | ((with_reducible apply is_sto); first | (refine kst hM ?_; intro w hM) | (refine kstw hM ?_; intro w hM)) | ((with_reducible apply is_st); refine su ?_) | ((with_reducible apply is_gd); first | refine gt ?_ | refine gf ?_ | refine gu ?_) | ((with_reducible apply is_en); refine en ?_) | (with_reducible apply c_region) | refine ws ?_ | refine x_block_other (by decide) ?_ | (refine ci_region (by (repeat (first | exact noOut_round | exact noOut_fls | exact noOut_M | apply noOut_then | apply noOut_block))) rfl ?_) )
      refine ⟨[.cell b16 ((nodeH pj old).1.map u8v) 30, .cell b17 ((nodeH pj now).1.map u8v) 30, .cell b18 [slv u80] 60, .row eFv 74 (slv u80) ((fs ++ [gs, gf, gt]).map (·.1)), .many tU8 _ ((fs ++ [gs, gf, gt]).map inpF), .cell b7 [slv (Aq, q.length, cq)] 27, .cell b5 [.int .i64 (m : Int)] 3], ⟨fs ++ [gs, gf, gt], nodeH pj old, nodeH pj now, slv u80, _, rfl, ?_, by simp; omega⟩, hM.sub (by (repeat (first | exact Go.Proofs.E.Sub.refl _ | exact Go.Proofs.E.Sub.nil | (apply Go.Proofs.E.Sub.cons; (repeat (first | exact Go.Proofs.E.Pick.here | apply Go.Proofs.E.Pick.there))) | apply Go.Proofs.E.Sub.tail)))⟩
      rw [← hst, List.map_append, hgs, hgf, hgt]
      rfl
  · rintro D w La ⟨fs, old, now, v18, B, rfl, h2, h3⟩ hM
    simp only [List.cons_append, List.nil_append] at hM
    have hD := hM.head
    change Code.wp _ _ _ _ _
    refine wp_seq ?_
    refine c_regd rfl (noOut_then noOut_M) ?_
    repeat (first | refine gfo ?_ | (refine ks ?_; intro w hM))
    change Code.wp _ _ _ (frd _ _) w
    refine wp_ret ?_
    refine post1 (hM.pick (a := .obj D _) (by (repeat constructor))).head ?_
    have hM := ((hM.pick (a := .obj D _) (by (repeat constructor))).putObj (o' := .deferred none)).sub (M := ownF B v18 fs) (by (repeat constructor))
    exact out2 rfl ⟨v18, fs, B, rfl, by rw [← h2]; rfl, hM⟩
  · rintro D cd pre w La h hM
    exact h.elim
end Go.Proofs.YtkdbinchlpdkmaaDoor
set_option linter.unusedVariables false
set_option linter.unusedSimpArgs false
set_option maxRecDepth 4000
namespace Go.Proofs.E
open Go Go.RowKit
section
variable {P : Program} {ops : Array Oper} {N : Nat} {S : List Nat} {Q : Exit → Act → World → Prop} {z : List Nat × List Nat} {fuel : Nat} {listed : Array Bool} {l : List Value} {w : World} {T : TypeId} {pos : String} {after : Array Edge}
end
end Go.Proofs.E
namespace Go.Proofs.YtkdbinchlpdkmaaDoor
open Go Go.RowKit Go.Proofs.E
attribute [local irreducible] Go.wpList Go.Code.wp Go.Proofs.E.exec Go.Proofs.E.wpLexG
theorem atHash {S : List Nat} {w : World} {b o : Nat} {x : Fv} (h : (Ty.enc eFv).At S w b o x) : (Ty.enc eH).At S w b (o + 2) x.2.2.1 := by
  obtain ⟨hb, hn, cs, hR, hr⟩ := h
  have hR : cs = eFv.f x := hR
  subst hR
  refine ⟨hb, hn, _, rfl, fun j v hv => ?_⟩
  have hlt : j < 32 := by
    have := (List.getElem?_eq_some_iff.1 hv).1
    rw [eH.hl] at this
    exact this
  have e : (eFv.f x)[2 + j]? = some v := by
    have h2 := hf_take x.1 x.2.1 x.2.2.1 (slv x.2.2.2)
    have h3 : (((eFv.f x).drop 2).take 32)[j]? = some v := by rw [h2]; exact hv
    rw [List.getElem?_take, if_pos hlt, List.getElem?_drop] at h3
    exact h3
  have := hr (2 + j) v e
  rwa [show o + (2 + j) = o + 2 + j by omega] at this
theorem last_at {α : Type} {l : List α} (h : l ≠ []) : ∃ x, l.getLast? = some x ∧ l[l.length - 1]? = some x := by
  refine ⟨l.getLast h, List.getLast?_eq_some_getLast h, ?_⟩
  have hl : 0 < l.length := List.length_pos_iff.2 h
  rw [List.getElem?_eq_getElem (by omega), List.getLast_eq_getElem]
end Go.Proofs.YtkdbinchlpdkmaaDoor
set_option linter.unusedVariables false
set_option linter.unusedSimpArgs false
set_option maxRecDepth 8000
namespace Go.Proofs.E
open Go Go.RowKit
section
variable {P : Program} {ops : Array Oper} {Q : Exit → Act → World → Prop} {rest : List Oper} {l : List Value} {O : List Nat} {w0 w : World} {L L' : List As} {T : TypeId} {pos : String} {after : Array Edge}
end
end Go.Proofs.E
namespace Go.Proofs.YtkdbinchlpdkmaaDoor
open Go Go.RowKit Go.Proofs.E
attribute [local irreducible] Go.wpList Go.Code.wp Go.Proofs.E.exec Go.Proofs.E.wpLexG
end Go.Proofs.YtkdbinchlpdkmaaDoor

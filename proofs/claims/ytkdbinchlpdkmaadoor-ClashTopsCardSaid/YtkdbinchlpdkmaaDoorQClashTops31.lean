/- Walks: the document's map.
   Walk: what the document proves of a key. -/
import Derived.Test.YtkdbinchlpdkmaaDoorQClashTops23
import Derived.Test.YtkdbinchlpdkmaaDoorQClashTops00
set_option linter.unusedVariables false
set_option linter.unusedSimpArgs false
set_option maxRecDepth 4000
namespace Go.Proofs.E
open Go Go.RowKit
section
variable {P : Program} {ops : Array Oper} {Q : Exit → Act → World → Prop} {rest : List Oper} {l l' : List Value} {O : List Nat} {w0 w : World} {L L' : List As} {k zz : Nat} {listed : Array Bool} {T : TypeId} {pos : String} {after : Array Edge}
/-- Cuts in a region that draws its order. -/
theorem kcutlg {α : Type} {ty : Ty α} {S : List Nat} {wx : World} {d : Nat} {x : Operand} {t e : TypeId} {z : Value} {m by_ : Nat} [hu : Und P t (.slice e)] [hi : Inf P e z m by_] {v : Value} {xs : List α} {y : Operand} {k1 : IntKind} {i : Int} (hR : ty.Rd S wx v xs)
    (h : ∀ v', ty.Rd S wx v' (xs.drop i.toNat) → wpLexG P ops (Ch []) Q zz rest (k + 1) (listed.setIfInBounds k true) (fr (l.set d v')) w)
    (hx : ev l x = v := by exact rfl) (hm : ty.n = m := by exact rfl) (hy : ev l y = .int k1 i := by exact rfl) (h0 : 0 ≤ i := by omega) (h1 : i ≤ xs.length := by omega) :
    wpLexG P ops (Ch []) Q zz ({ dst := some d, op := .slice t x (some y) none none, type := T, pos := pos, after := after, guard := none } :: rest) k listed (fr l) w := by
  subst hm
  obtain ⟨A, c, rfl⟩ := hR.form
  have hc : xs.length ≤ c := by obtain ⟨_, _, _, hv, h, _⟩ := hR; injection hv; omega
  have := hR.cut (L := i.toNat) (H := xs.length) (M := c) (by omega) (Nat.le_refl _) hc
  rw [List.take_of_length_le (Nat.le_refl _)] at this
  refine wg_val (fun w1 _ => ?_) (h _ this)
  simp [exec, execOp, hx, hy, run_cut (hi := hi) (bnd_lo (b := true) h0 h1)]
theorem kcuthg {α : Type} {ty : Ty α} {S : List Nat} {wx : World} {d : Nat} {x : Operand} {t e : TypeId} {z : Value} {m by_ : Nat} [hu : Und P t (.slice e)] [hi : Inf P e z m by_] {v : Value} {xs : List α} {q : Operand} {k1 : IntKind} {j : Int} (hR : ty.Rd S wx v xs)
    (h : ∀ v', ty.Rd S wx v' (xs.take j.toNat) → wpLexG P ops (Ch []) Q zz rest (k + 1) (listed.setIfInBounds k true) (fr (l.set d v')) w)
    (hx : ev l x = v := by exact rfl) (hm : ty.n = m := by exact rfl) (hq : ev l q = .int k1 j := by exact rfl) (h0 : 0 ≤ j := by omega) (h1 : j ≤ xs.length := by omega) :
    wpLexG P ops (Ch []) Q zz ({ dst := some d, op := .slice t x none (some q) none, type := T, pos := pos, after := after, guard := none } :: rest) k listed (fr l) w := by
  subst hm
  obtain ⟨A, c, rfl⟩ := hR.form
  have hc : xs.length ≤ c := by obtain ⟨_, _, _, hv, h, _⟩ := hR; injection hv; omega
  have := hR.cut (L := 0) (H := j.toNat) (M := c) (by omega) (by omega) (by omega)
  rw [List.drop_zero] at this
  refine wg_val (fun w1 _ => ?_) (h _ this)
  simp [exec, execOp, hx, hq, run_cut (hi := hi) (bnd_hi (b := true) (n := xs.length) h0 (show j ≤ c by omega))]
end
end Go.Proofs.E
namespace Go.Proofs.YtkdbinchlpdkmaaDoor
open Go Go.RowKit Go.Proofs.E
attribute [local irreducible] Go.wpList Go.Code.wp Go.Proofs.E.exec Go.Proofs.E.wpLexG
set_option maxHeartbeats 8000000 in
theorem apart_any (a b : Hs) (w0 : World) :
    Calls Tryd.prog 110 #[hv a.1, hv b.1] w0 (Ret fun u w' => u = .int .i64 (apartN a b : Int) ∧ Ch [] w0 w') := by
  have hM := Mem.start w0
  refine enter [hv a.1, hv b.1, undef, undef, undef, undef, undef, undef, undef, undef, undef, undef, undef, undef, undef, undef, undef, undef] Tryd.func110 rfl rfl ?_
  repeat (first | refine gw ?_ | (refine ks ?_; intro w hM))
  refine kbx (v := hv a.1) hM (fun w b2 hM => ?_)
  refine kbx (v := hv b.1) hM (fun w b3 hM => ?_)
  have hM : Mem [] w0 w [.cell b3 (b.1.map u8v) 30, .cell b2 (a.1.map u8v) 30] := hM
  repeat (first | refine gw ?_ | (refine ks ?_; intro w hM))
  
  refine c_loop (fun n l w => ∃ (j : Nat), (∃ jj : Nat → Value, l = [jj 0, jj 1, .pointer (some ⟨b2, 0, none⟩), .pointer (some ⟨b3, 0, none⟩), jj 4, .int .i64 (j : Int), jj 6, jj 7, jj 8, jj 9, jj 10, jj 11, jj 12, jj 13, jj 14, jj 15, jj 16, jj 17]) ∧ n + j = 256 ∧ Mem [] w0 w [.cell b3 (b.1.map u8v) 30, .cell b2 (a.1.map u8v) 30] ∧ ∀ i, i < j → bitN a i = bitN b i) 256
    ⟨0, exj rfl, rfl, hM, fun i hi => by omega⟩ ?_
  clear hM
  rintro n l w ⟨j, ⟨jj, rfl⟩, hnj, hM, hsh⟩
  repeat (first | refine gw ?_ | (refine ks ?_; intro w hM))
  refine c_cond rfl (fun hj => ?_) (fun hj => ?_)
  rotate_left
  · have e : apartN a b = 256 := by
      rcases apart_spec a b with ⟨h1, _⟩ | ⟨h1, h2, _⟩
      · exact h1
      · exact absurd (hsh _ (by omega)) h2
    repeat (first | refine gw ?_ | (refine ks ?_; intro w hM))
    exact out1 rfl ⟨by rw [e]; rfl, hM.ch⟩
  have hj6 : j < 256 := by omega
  repeat (first | refine gwb ?_ | (refine ks ?_; intro w hM))
  refine kdr hM (by kernel_rfl) (by kernel_rfl) (fun w hM => ?_)
  (try refine gwg ?_)
  refine kcag (v := .int .i64 (bitN a j : Int)) hM (fun w1 hM1 => by rw [← bitZ_nat hj6]; exact rbit_any a (j : Int) w1) ?_
  (try refine gwg ?_)
  refine kcag (v := .int .i64 (bitN b j : Int)) hM (fun w1 hM1 => by rw [← bitZ_nat hj6]; exact rbit_any b (j : Int) w1) ?_
  (try refine gwg ?_)
  (intro w hc; have hM := hM.call hc)
  by_cases hb : bitN a j = bitN b j
  · refine c_cond rfl (fun h => absurd (by omega) h) (fun _ => ?_)
    repeat (first | refine gw ?_ | (refine ks ?_; intro w hM))
    refine x_goes (n - 1) rfl (by omega) ⟨j + 1, exj rfl, by omega, hM, fun i hi => ?_⟩
    by_cases e : i = j
    · rw [e]; exact hb
    · exact hsh i (by omega)
  · refine c_cond rfl (fun _ => ?_) (fun h => absurd (fun q => hb (by omega)) h)
    have e : apartN a b = j := by
      rcases apart_spec a b with ⟨_, h1⟩ | ⟨h1, h2, h3⟩
      · rw [h1] at hb; exact absurd rfl hb
      · rcases Nat.lt_trichotomy (apartN a b) j with h4 | h4 | h4
        · exact absurd (hsh _ h4) h2
        · exact h4
        · exact absurd (h3 j h4) hb
    repeat (first | refine gw ?_ | (refine ks ?_; intro w hM))
    exact out1 rfl ⟨by rw [e]; rfl, hM.ch⟩
set_option maxHeartbeats 8000000 in
theorem less_any (a b : Hs) (w0 : World) : Calls Tryd.prog 61 #[hv a.1, hv b.1] w0 (Ret fun u w' => u = .bool (lessB a b) ∧ Ch [] w0 w') := by
  have hM := Mem.start w0
  refine enter [hv a.1, hv b.1, undef, undef, undef, undef, undef, undef, undef, undef, undef, undef, undef, undef, undef, undef, undef] Tryd.func61 rfl rfl ?_
  repeat (first | refine gw ?_ | (refine ks ?_; intro w hM))
  refine kbx (v := hv a.1) hM (fun w b2 hM => ?_)
  refine kbx (v := hv b.1) hM (fun w b3 hM => ?_)
  have hM : Mem [] w0 w [.cell b3 (b.1.map u8v) 30, .cell b2 (a.1.map u8v) 30] := hM
  repeat (first | refine gw ?_ | (refine ks ?_; intro w hM))
  obtain ⟨i, hi⟩ : ∃ i, i = apartN a b := ⟨_, rfl⟩
  refine kca (X := .int .i64 (i : Int)) hM (by rw [hi]; exact apart_any a b _) (fun w hM => ?_)
  repeat (first | refine gw ?_ | (refine ks ?_; intro w hM))
  unfold lessB
  rw [← hi]
  clear hi
  by_cases q : i < 256
  · rw [decide_eq_true (by omega : (i : Int) < 256)]
    repeat (first | refine gw ?_ | (refine ks ?_; intro w hM))
    (try ((with_reducible apply is_gd); first | refine gt ?_ | refine gf ?_ | refine gu ?_)); refine kca (X := .int .i64 (bitN a i : Int)) hM (by rw [← bitZ_nat q]; exact rbit_any a _ _) (fun w hM => ?_)
    repeat (first | refine gw ?_ | (refine ks ?_; intro w hM))
    refine out1 rfl ⟨?_, hM.ch⟩
    rw [decide_eq_true q, Bool.true_and]
    exact congrArg Value.bool (decide_eq_decide.2 (by omega))
  · rw [decide_eq_false (by omega : ¬ (i : Int) < 256)]
    repeat (first | refine gw ?_ | (refine ks ?_; intro w hM))
    refine out1 rfl ⟨?_, hM.ch⟩
    rw [decide_eq_false q, Bool.false_and]
    rfl
abbrev eKv : En KV := { f := fun p => p.1.1.map u8v ++ p.2.1.map u8v, n := 64, hl := fun p => by simp [p.1.2, p.2.2], h1 := fun p u hu => (List.mem_append.1 hu).elim (one_u8 u) (one_u8 u) }
theorem kv_len (k v : Hs) : (k.1.map u8v ++ v.1.map u8v).length = 64 := eKv.hl (k, v)
theorem zero64 : (Value.agg (List.replicate 64 (Value.int IntKind.u8 0)).toArray).cells.toList = zeroH.1.map u8v ++ zeroH.1.map u8v := by kernel_rfl
def plK : Nat → Option (Nat × Nat) := (#[(0, 32), (32, 32)][·]?)
theorem kv_cells (h : Hs) : (hv h.1).cells.toList = h.1.map u8v := by simp [hv, Value.cells]
theorem kv_size (h : Hs) : (hv h.1).cells.size = 32 := by rw [← Array.length_toList, kv_cells, List.length_map, h.2]
theorem kv_s0 (a b h : Hs) : spl (a.1.map u8v ++ b.1.map u8v) 0 (hv h.1).cells.toList = h.1.map u8v ++ b.1.map u8v := by rw [kv_cells]; simp [spl]
theorem kv_s1 (a b h : Hs) : spl (a.1.map u8v ++ b.1.map u8v) 32 (hv h.1).cells.toList = a.1.map u8v ++ h.1.map u8v := by rw [kv_cells]; simp [spl]
theorem flK (k v : Hs) : Fl plK (zeroH.1.map u8v ++ zeroH.1.map u8v) [(0, hv k.1), (1, hv v.1)] (k.1.map u8v ++ v.1.map u8v) :=
  .cons rfl (kv_size k) (by rw [kv_len]; omega) (.cons rfl (kv_size v) (by rw [kv_s0, kv_len]; omega) (.nil (by rw [kv_s0, kv_s1])))
set_option maxHeartbeats 16000000 in
theorem put_any (vm : Value) (m : List KV) (k v : Hs) (w0 : World) (hR : (Ty.enc eKv).Rd [] w0 vm m) (hb : m.length ≤ 1000) :
    Calls Tryd.prog 20 #[vm, hv k.1, hv v.1] w0 (Ret fun u w' => Mem [] w0 w' [.row eKv 123 u (putM m k v)]) := by
  have hM := Mem.start w0
  obtain ⟨A, c, rfl⟩ := hR.form
  refine enter [.slice A m.length c, hv k.1, hv v.1, undef, undef, undef, undef, undef, undef, undef, undef, undef, undef, undef, undef, undef, undef, undef, undef, undef, undef, undef, undef, undef, undef, undef, undef, undef, undef, undef, undef, undef, undef, undef, undef, undef, undef, undef, undef, undef, undef, undef, undef, undef, undef, undef, undef, undef, undef, undef] Tryd.func20 rfl rfl ?_
  repeat (first | refine gw ?_ | (refine ks ?_; intro w hM))
  refine kbx (v := hv k.1) hM (fun w b4 hM => ?_)
  refine kbx (v := hv v.1) hM (fun w b5 hM => ?_)
  have hM : Mem [] w0 w [.cell b5 (v.1.map u8v) 30, .cell b4 (k.1.map u8v) 30] := hM
  have hM := hM.nilRow eKv 123
  repeat (first | refine gw ?_ | (refine ks ?_; intro w hM))
  
  refine c_loop (fun n l w => ∃ (j : Nat) (v7 : Value) (o : List KV) (d : Bool), (∃ jj : Nat → Value, l = [jj 0, jj 1, jj 2, jj 3, .pointer (some ⟨b4, 0, none⟩), .pointer (some ⟨b5, 0, none⟩), jj 6, v7, .bool d, jj 9, jj 10, .slice A m.length c, .int .i64 (m.length : Int), .int .i64 (j : Int), jj 14, jj 15, jj 16, jj 17, jj 18, jj 19, jj 20, jj 21, jj 22, jj 23, jj 24, jj 25, jj 26, jj 27, jj 28, jj 29, jj 30, jj 31, jj 32, jj 33, jj 34, jj 35, jj 36, jj 37, jj 38, jj 39, jj 40, jj 41, jj 42, jj 43, jj 44, jj 45, jj 46, jj 47, jj 48, jj 49]) ∧ n + j = m.length ∧ Mem [] w0 w [.row eKv 123 v7 o, .cell b5 (v.1.map u8v) 30, .cell b4 (k.1.map u8v) 30] ∧ (m.take j).foldl (putS k v) ([], false) = (o, d) ∧ o.length ≤ 2 * j) m.length
    ⟨0, .slice none 0 0, [], false, exj rfl, rfl, hM, rfl, Nat.le_refl _⟩ ?_
  clear hM
  rintro n l w ⟨j, v7, o, d, ⟨jj, rfl⟩, hnj, hM, hfo, hol⟩
  repeat (first | refine gw ?_ | (refine ks ?_; intro w hM))
  refine c_cond rfl (fun hj => ?_) (fun hj => ?_)
  · repeat (first | refine gw ?_ | (refine ks ?_; intro w hM))
    refine kix hR (fun bk ok x hx hA => ?_)
    rw [Int.toNat_natCast] at hx
    refine katr hM hA ?_
    have hst : (m.take (j + 1)).foldl (putS k v) ([], false) = putS k v (o, d) x := by
      rw [List.take_add_one, hx, List.foldl_append, hfo]
      rfl
    refine kal hM (fun w b10 hM => ?_)
    rw [zero64] at hM
    refine kstw (b := b10) (vs := eKv.f x) hM (fun w hM => ?_) (hln := kv_len _ _) (hf := kv_len _ _) (h1 := eKv.h1 x)
    have hM : Mem [] w0 w [.cell b10 (x.1.1.map u8v ++ x.2.1.map u8v) 123, .row eKv 123 v7 o, .cell b5 (v.1.map u8v) 30, .cell b4 (k.1.map u8v) 30] := hM
    clear hA
    cases hd : d with
    | true =>
      rw [hd] at hst
      repeat (first | refine gh ?_ | (refine ks ?_; intro w hM))
      refine c_condb rfl (fun h => by cases h) (fun _ => ?_)
      repeat (first | refine gh ?_ | (refine ks ?_; intro w hM))
      (try ((with_reducible apply is_gd); first | refine gt ?_ | refine gf ?_ | refine gu ?_)); refine wl_val (r_neq8 (n := 32) (a := x.1.1) (b := k.1) (by kernel_rfl) rfl rfl x.1.2 k.2) ?_
      by_cases hk : x.1.1 = k.1
      · have hkk : x.1 = k := Subtype.ext hk
        rw [decide_eq_true hk]
        repeat (first | refine gh ?_ | (refine ks ?_; intro w hM))
        refine c_condb rfl (fun h => by cases h) (fun _ => ?_)
        repeat (first | refine gh ?_ | (refine ks ?_; intro w hM))
        exact x_goes (n - 1) rfl (by omega) ⟨j + 1, _, o, true, exj rfl, by omega, hM.sub (by (repeat constructor)), by rw [hst]; simp [putS, true_or, hkk], by first | omega | (simp; omega)⟩
      · have hkk : x.1 ≠ k := fun e => hk (congrArg Subtype.val e)
        rw [decide_eq_false hk]
        repeat (first | refine gh ?_ | (refine ks ?_; intro w hM))
        refine c_condb rfl (fun _ => ?_) (fun h => by cases h)
        repeat (first | refine gh ?_ | (refine ks ?_; intro w hM))
        refine kpu (xs := o) x hM (fun _ v9 w hM => ?_) (hb := by first | omega | (simp; omega)) (h63 := by first | omega | (simp; omega))
        repeat (first | refine gh ?_ | (refine ks ?_; intro w hM))
        exact x_goes (n - 1) rfl (by omega) ⟨j + 1, v9, o ++ [x], true, exj rfl, by omega, hM.sub (by (repeat constructor)), by rw [hst]; simp [putS, true_or, hkk], by first | omega | (simp; omega)⟩
    | false =>
      rw [hd] at hst
      repeat (first | refine gh ?_ | (refine ks ?_; intro w hM))
      obtain ⟨lb, hlb⟩ : ∃ q, q = lessB x.1 k := ⟨_, rfl⟩
      (try ((with_reducible apply is_gd); first | refine gt ?_ | refine gf ?_ | refine gu ?_)); refine kca (X := .bool lb) hM (by rw [hlb]; exact less_any x.1 k _) (fun w hM => ?_)
      cases hll : lb with
      | true =>
        have hlt : lessB x.1 k = true := hlb.symm.trans hll
        repeat (first | refine gh ?_ | (refine ks ?_; intro w hM))
        refine c_condb rfl (fun h => by cases h) (fun _ => ?_)
        repeat (first | refine gh ?_ | (refine ks ?_; intro w hM))
        (try ((with_reducible apply is_gd); first | refine gt ?_ | refine gf ?_ | refine gu ?_)); refine wl_val (r_neq8 (n := 32) (a := x.1.1) (b := k.1) (by kernel_rfl) rfl rfl x.1.2 k.2) ?_
        by_cases hk : x.1.1 = k.1
        · have hkk : x.1 = k := Subtype.ext hk
          rw [decide_eq_true hk]
          repeat (first | refine gh ?_ | (refine ks ?_; intro w hM))
          refine c_condb rfl (fun h => by cases h) (fun _ => ?_)
          repeat (first | refine gh ?_ | (refine ks ?_; intro w hM))
          exact x_goes (n - 1) rfl (by omega) ⟨j + 1, _, o, false, exj rfl, by omega, hM.sub (by (repeat constructor)), by rw [hst]; simp [putS, hlt, hkk, (by rw [hkk] at hlt; exact hlt : lessB k k = true)], by first | omega | (simp; omega)⟩
        · have hkk : x.1 ≠ k := fun e => hk (congrArg Subtype.val e)
          rw [decide_eq_false hk]
          repeat (first | refine gh ?_ | (refine ks ?_; intro w hM))
          refine c_condb rfl (fun _ => ?_) (fun h => by cases h)
          repeat (first | refine gh ?_ | (refine ks ?_; intro w hM))
          refine kpu (xs := o) x hM (fun _ v9 w hM => ?_) (hb := by first | omega | (simp; omega)) (h63 := by first | omega | (simp; omega))
          repeat (first | refine gh ?_ | (refine ks ?_; intro w hM))
          exact x_goes (n - 1) rfl (by omega) ⟨j + 1, v9, o ++ [x], false, exj rfl, by omega, hM.sub (by (repeat constructor)), by rw [hst]; simp [putS, hlt, hkk], by first | omega | (simp; omega)⟩
      | false =>
        have hlt : lessB x.1 k = false := hlb.symm.trans hll
        repeat (first | refine gh ?_ | (refine ks ?_; intro w hM))
        refine c_condb rfl (fun _ => ?_) (fun h => by cases h)
        repeat (first | refine gh ?_ | (refine ks ?_; intro w hM))
        (try ((with_reducible apply is_gd); first | refine gt ?_ | refine gf ?_ | refine gu ?_)); refine wl_val (r_bldS (vs := [(0, hv k.1), (1, hv v.1)]) (k.1.map u8v ++ v.1.map u8v) (z := zeroH.1.map u8v ++ zeroH.1.map u8v) (place := plK) (by intro ps; kernel_rfl) rfl (flK k v)) ?_
        refine kpu (xs := o) (k, v) hM (fun _ v8 w hM => ?_) (hb := by first | omega | (simp; omega)) (h63 := by first | omega | (simp; omega))
        repeat (first | refine gh ?_ | (refine ks ?_; intro w hM))
        (try ((with_reducible apply is_gd); first | refine gt ?_ | refine gf ?_ | refine gu ?_)); refine wl_val (r_neq8 (n := 32) (a := x.1.1) (b := k.1) (by kernel_rfl) rfl rfl x.1.2 k.2) ?_
        by_cases hk : x.1.1 = k.1
        · have hkk : x.1 = k := Subtype.ext hk
          rw [decide_eq_true hk]
          repeat (first | refine gh ?_ | (refine ks ?_; intro w hM))
          refine c_condb rfl (fun h => by cases h) (fun _ => ?_)
          repeat (first | refine gh ?_ | (refine ks ?_; intro w hM))
          exact x_goes (n - 1) rfl (by omega) ⟨j + 1, _, (o ++ [(k, v)]), true, exj rfl, by omega, hM.sub (by (repeat constructor)), by rw [hst]; simp [putS, hlt, hkk, (by rw [hkk] at hlt; exact hlt : lessB k k = false)], by first | omega | (simp; omega)⟩
        · have hkk : x.1 ≠ k := fun e => hk (congrArg Subtype.val e)
          rw [decide_eq_false hk]
          repeat (first | refine gh ?_ | (refine ks ?_; intro w hM))
          refine c_condb rfl (fun _ => ?_) (fun h => by cases h)
          repeat (first | refine gh ?_ | (refine ks ?_; intro w hM))
          refine kpu (xs := (o ++ [(k, v)])) x hM (fun _ v9 w hM => ?_) (hb := by first | omega | (simp; omega)) (h63 := by first | omega | (simp; omega))
          repeat (first | refine gh ?_ | (refine ks ?_; intro w hM))
          exact x_goes (n - 1) rfl (by omega) ⟨j + 1, v9, (o ++ [(k, v)]) ++ [x], true, exj rfl, by omega, hM.sub (by (repeat constructor)), by rw [hst]; simp [putS, hlt, hkk], by first | omega | (simp; omega)⟩
  · repeat (first | refine gh ?_ | (refine ks ?_; intro w hM))
    rw [List.take_of_length_le (by omega)] at hfo
    have hpm : putM m k v = if d = true then o else o ++ [(k, v)] := by unfold putM; rw [hfo]
    rw [hpm]
    cases hd : d with
    | true =>
      rw [if_pos rfl]
      repeat (first | refine gh ?_ | (refine ks ?_; intro w hM))
      refine c_condb rfl (fun h => by cases h) (fun _ => ?_)
      repeat (first | refine gh ?_ | (refine ks ?_; intro w hM))
      exact out1 (R := fun u w' => Mem [] w0 w' [.row eKv 123 u o]) rfl (hM.sub (by (repeat constructor)))
    | false =>
      rw [if_neg (by simp)]
      repeat (first | refine gh ?_ | (refine ks ?_; intro w hM))
      refine c_condb rfl (fun _ => ?_) (fun h => by cases h)
      repeat (first | refine gh ?_ | (refine ks ?_; intro w hM))
      (try ((with_reducible apply is_gd); first | refine gt ?_ | refine gf ?_ | refine gu ?_)); refine wl_val (r_bldS (vs := [(0, hv k.1), (1, hv v.1)]) (k.1.map u8v ++ v.1.map u8v) (z := zeroH.1.map u8v ++ zeroH.1.map u8v) (place := plK) (by intro ps; kernel_rfl) rfl (flK k v)) ?_
      refine kpu (xs := o) (k, v) hM (fun _ v8 w hM => ?_) (hb := by first | omega | (simp; omega)) (h63 := by first | omega | (simp; omega))
      repeat (first | refine gh ?_ | (refine ks ?_; intro w hM))
      exact out1 (R := fun u w' => Mem [] w0 w' [.row eKv 123 u (o ++ [(k, v)])]) rfl (hM.sub (by (repeat constructor)))
theorem atPart {S : List Nat} {w : World} {b o : Nat} {x : KV} (q : Nat) (h : Hs) (hd : ((eKv.f x).drop q).take 32 = h.1.map u8v) (hA : (Ty.enc eKv).At S w b o x) : (Ty.enc eH).At S w b (o + q) h := by
  obtain ⟨hb, hn, cs, hR, hr⟩ := hA
  have hR : cs = eKv.f x := hR
  subst hR
  refine ⟨hb, hn, _, rfl, fun j v hv => ?_⟩
  have hlt : j < 32 := by
    have := (List.getElem?_eq_some_iff.1 hv).1
    rw [eH.hl] at this
    exact this
  have e : (eKv.f x)[q + j]? = some v := by
    have h3 : (((eKv.f x).drop q).take 32)[j]? = some v := by rw [hd]; exact hv
    rw [List.getElem?_take, if_pos hlt, List.getElem?_drop] at h3
    exact h3
  have := hr (q + j) v e
  rwa [show o + (q + j) = o + q + j by omega] at this
theorem atK {S : List Nat} {w : World} {b o : Nat} {x : KV} (h : (Ty.enc eKv).At S w b o x) : (Ty.enc eH).At S w b (o + 0) x.1 := atPart 0 x.1 (by rw [List.drop_zero]; exact List.take_left' (by rw [List.length_map, x.1.2])) h
theorem atV {S : List Nat} {w : World} {b o : Nat} {x : KV} (h : (Ty.enc eKv).At S w b o x) : (Ty.enc eH).At S w b (o + 32) x.2 := atPart 32 x.2 (by
  show ((x.1.1.map u8v ++ x.2.1.map u8v).drop 32).take 32 = _
  rw [List.drop_left' (by rw [List.length_map, x.1.2])]
  exact List.take_of_length_le (by rw [List.length_map, x.2.2]; omega)) h
theorem key_of {m : List KV} {i : Nat} {x : KV} (h : m[i]? = some x) : keyAt m i = x.1 := by
  unfold keyAt
  rw [List.getD_eq_getElem?_getD, h]
  rfl
set_option maxHeartbeats 16000000 in
theorem cut_any (vm : Value) (m : List KV) (w0 : World) (hR : (Ty.enc eKv).Rd [] w0 vm m) (h1 : 1 ≤ m.length) (hb : m.length ≤ 1000) (hc6 : cutI m < 256) :
    Calls Tryd.prog 62 #[vm] w0 (Ret fun u w' => u = .tuple #[.int .i64 (cutI m : Int), .int .i64 (cutC m (cutI m) : Int)] ∧ Ch [] w0 w') := by
  have hM := Mem.start w0
  obtain ⟨A, c, rfl⟩ := hR.form
  refine enter [.slice A m.length c, undef, undef, undef, undef, undef, undef, undef, undef, undef, undef, undef, undef, undef, undef, undef, undef, undef, undef, undef, undef, undef, undef, undef, undef, undef, undef, undef, undef, undef, undef, undef, undef, undef, undef, undef] Tryd.func62 rfl rfl ?_
  repeat (first | refine gw ?_ | (refine ks ?_; intro w hM))
  refine kdr hM (by kernel_rfl) (by kernel_rfl) (fun w hM => ?_)
  (try refine gwg ?_)
  refine kixg hR (fun b1 o1 x hx hA => ?_)
  (try refine gwg ?_)
  refine katrg hM (atK hA) ?_
  (try refine gwg ?_)
  refine kixg hR (fun b2 o2 y hy hA2 => ?_)
  (try refine gwg ?_)
  refine katrg hM (atK hA2) ?_
  (try refine gwg ?_)
  have hx : m[0]? = some x := hx
  rw [show ((m.length : Int) - 1).toNat = m.length - 1 by omega] at hy
  obtain ⟨ci, hci⟩ : ∃ i, i = cutI m := ⟨_, rfl⟩
  have hap : apartN x.1 y.1 = ci := by rw [hci]; unfold cutI; rw [key_of hx, key_of hy]
  rw [← hci] at hc6 ⊢
  refine kcag (v := .int .i64 (ci : Int)) hM (fun w1 hM1 => by rw [← hap]; exact apart_any x.1 y.1 w1) ?_
  (try refine gwg ?_)
  (intro w hc; have hM := hM.call hc)
  repeat (first | refine gw ?_ | (refine ks ?_; intro w hM))
  
  refine c_loop (fun n l w => ∃ (j q : Nat), (∃ jj : Nat → Value, l = [jj 0, jj 1, jj 2, jj 3, .int .i64 (ci : Int), .int .i64 (q : Int), jj 6, jj 7, jj 8, jj 9, jj 10, jj 11, jj 12, jj 13, jj 14, jj 15, jj 16, jj 17, jj 18, jj 19, .slice A m.length c, .int .i64 (m.length : Int), .int .i64 (j : Int), jj 23, jj 24, jj 25, jj 26, jj 27, jj 28, jj 29, jj 30, jj 31, jj 32, jj 33, jj 34, jj 35]) ∧ n + j = m.length ∧ Mem [] w0 w [] ∧ q ≤ j ∧ q = (m.take j).countP (fun x => decide (bitN x.1 ci = 0))) m.length
    ⟨0, 0, exj rfl, rfl, hM, Nat.le_refl _, rfl⟩ ?_
  clear hM
  rintro n l w ⟨j, q, ⟨jj, rfl⟩, hnj, hM, hqj, hq⟩
  repeat (first | refine gw ?_ | (refine ks ?_; intro w hM))
  refine c_cond rfl (fun hj => ?_) (fun hj => ?_)
  rotate_left
  · rw [List.take_of_length_le (by omega)] at hq
    repeat (first | refine gw ?_ | (refine ks ?_; intro w hM))
    exact out2 rfl ⟨by rw [hq]; rfl, hM.ch⟩
  repeat (first | refine gw ?_ | (refine ks ?_; intro w hM))
  refine kix hR (fun b3 o3 z hz hA3 => ?_)
  rw [Int.toNat_natCast] at hz
  refine katr hM hA3 ?_
  have hst : (m.take (j + 1)).countP (fun x => decide (bitN x.1 ci = 0)) = q + if bitN z.1 ci = 0 then 1 else 0 := by
    rw [List.take_add_one, hz, List.countP_append, ← hq]
    simp [List.countP_cons]
  refine kal hM (fun w b7 hM => ?_)
  rw [zero64] at hM
  refine kstw (b := b7) (vs := eKv.f z) hM (fun w hM => ?_) (hln := kv_len _ _) (hf := kv_len _ _) (h1 := eKv.h1 z)
  have hM : Mem [] w0 w [.cell b7 (z.1.1.map u8v ++ z.2.1.map u8v) 123] := hM
  repeat (first | refine gh ?_ | (refine ks ?_; intro w hM))
  refine kca (X := .int .i64 (bitN z.1 ci : Int)) hM (by rw [← bitZ_nat hc6]; exact rbit_any z.1 _ _) (fun w hM => ?_)
  repeat (first | refine gh ?_ | (refine ks ?_; intro w hM))
  by_cases hz0 : bitN z.1 ci = 0
  · refine c_cond rfl (fun _ => ?_) (fun h => absurd (by omega) h)
    rw [if_pos hz0] at hst
    repeat (first | refine gh ?_ | (refine ks ?_; intro w hM))
    exact x_goes (n - 1) rfl (by omega) ⟨j + 1, q + 1, exj rfl, by omega, hM.sub (by (repeat constructor)), by omega, hst.symm⟩
  · refine c_cond rfl (fun h => absurd (by omega) hz0) (fun _ => ?_)
    rw [if_neg hz0] at hst
    repeat (first | refine gh ?_ | (refine ks ?_; intro w hM))
    exact x_goes (n - 1) rfl (by omega) ⟨j + 1, q, exj rfl, by omega, hM.sub (by (repeat constructor)), by omega, hst.symm⟩
set_option maxHeartbeats 16000000 in
theorem mroot_any (N : Nat) : ∀ (vm : Value) (m : List KV) (w0 : World), m.length = N → SortK m → m.length ≤ 1000 → (Ty.enc eKv).Rd [] w0 vm m →
    Calls Tryd.prog 23 #[vm] w0 (Ret fun u w' => u = hv (rootM m).1 ∧ Ch [] w0 w') := by
  induction N using Nat.strongRecOn with
  | _ N ih =>
    intro vm m w0 hN hs hb hR
    have hM := Mem.start w0
    obtain ⟨A, c, rfl⟩ := hR.form
    refine enter [.slice A m.length c, undef, undef, undef, undef, undef, undef, undef, undef, undef, undef, undef, undef, undef, undef, undef, undef, undef, undef, undef, undef, undef, undef, undef, undef, undef, undef, undef, undef, undef, undef, undef, undef, undef, undef, undef] Tryd.func23 rfl rfl ?_
    repeat (first | refine gw ?_ | (refine ks ?_; intro w hM))
    refine kal hM (fun w b2 hM => ?_)
    have hM : Mem [] w0 w [.cell b2 (zeroH.1.map u8v) 30] := hM
    repeat (first | refine gw ?_ | (refine ks ?_; intro w hM))
    by_cases z0 : (m.length : Int) = 0
    · rw [decide_eq_true z0]
      refine c_condb rfl (fun _ => ?_) (fun h => by cases h)
      have hm : m = [] := List.eq_nil_of_length_eq_zero (by omega)
      subst hm
      repeat (first | refine gw ?_ | (refine ks ?_; intro w hM))
      refine kca hM (rnothing_any _ trivial) (fun w hM => ?_)
      rw [rootM_nil]
      generalize shaH [5] = h5
      refine kstw (b := b2) (vs := h5.1.map u8v) hM (fun w hM => ?_) (hf := by rw [List.length_map, zeroH.2])
      repeat (first | refine gw ?_ | (refine ks ?_; intro w hM))
      exact koc hM rfl ⟨rfl, hM.ch⟩
    rw [decide_eq_false z0]
    refine c_condb rfl (fun h => by cases h) (fun _ => ?_)
    repeat (first | refine gw ?_ | (refine ks ?_; intro w hM))
    by_cases z1 : (m.length : Int) = 1
    · rw [decide_eq_true z1]
      refine c_condb rfl (fun _ => ?_) (fun h => by cases h)
      obtain ⟨x, hm⟩ : ∃ x, m = [x] := by
        match m, z1 with
        | [x], _ => exact ⟨x, rfl⟩
        | [], h => simp at h
        | x :: y :: r, h => simp at h; omega
      subst hm
      rw [rootM_one]
      obtain ⟨hi, hhi⟩ : ∃ q, q = itemH x.1 x.2 := ⟨_, rfl⟩
      rw [← hhi]
      repeat (first | refine gwb ?_ | (refine ks ?_; intro w hM))
      refine kdrl 9 hM (by kernel_rfl) (by kernel_rfl) (by kernel_rfl) (fun w hM => ?_)
      (try refine gwg ?_)
      refine kixg hR (fun b1 o1 y hy hA => ?_)
      obtain rfl : x = y := by simpa using hy
      (try refine gwg ?_)
      refine katrg hM (atK hA) ?_
      (try refine gwg ?_)
      refine kixg hR (fun b3 o3 y hy hA3 => ?_)
      obtain rfl : x = y := by simpa using hy
      (try refine gwg ?_)
      refine katrg hM (atV hA3) ?_
      (try refine gwg ?_)
      refine kcag (v := hv hi.1) hM (fun w1 hM1 => by rw [hhi]; exact ritem_any x.1 x.2 w1 trivial) ?_
      refine lastg rfl (by kernel_rfl) (fun w hc => ?_)
      have hM := hM.call hc
      refine kstw (b := b2) (vs := hi.1.map u8v) hM (fun w hM => ?_) (hf := by rw [List.length_map, zeroH.2])
      refine x_late rfl rfl ?_
      (try refine wkg ?_)
      (intro w hc; have hM := hM.call hc)
      repeat (first | refine gw ?_ | (refine ks ?_; intro w hM))
      exact koc hM rfl ⟨rfl, hM.ch⟩
    rw [decide_eq_false z1]
    refine c_condb rfl (fun h => by cases h) (fun _ => ?_)
    repeat (first | refine gw ?_ | (refine ks ?_; intro w hM))
    have h2 : 2 ≤ m.length := by omega
    obtain ⟨c1, c2, _, _⟩ := cut_parts hs h2
    have hc6 := (cut_spec hs h2).1
    rw [rootM_two hs h2]
    refine kca (X := .tuple #[.int .i64 (cutI m : Int), .int .i64 (cutC m (cutI m) : Int)]) hM (cut_any _ m _ (hR.ch hM.ch) (by omega) hb hc6) (fun w hM => ?_)
    generalize cutC m (cutI m) = n at c1 c2 hM ⊢
    generalize cutI m = ci at hc6 hM ⊢
    obtain ⟨ra, hra⟩ : ∃ q, q = rootM (m.take n) := ⟨_, rfl⟩
    obtain ⟨rb, hrb⟩ : ∃ q, q = rootM (m.drop n) := ⟨_, rfl⟩
    rw [← hra, ← hrb]
    obtain ⟨rf, hrf⟩ : ∃ q, q = forkH (ci : Int) ra rb := ⟨_, rfl⟩
    rw [← hrf]
    repeat (first | refine gw ?_ | (refine ks ?_; intro w hM))
    refine kdrl 10 hM (by kernel_rfl) (by kernel_rfl) (by kernel_rfl) (fun w hM => ?_)
    (try refine gwg ?_)
    refine kcuthg hR (fun v29 hV => ?_)
    rw [Int.toNat_natCast] at hV
    (try refine gwg ?_)
    refine kcag (v := hv ra.1) hM (fun w1 hM1 => by rw [hra]; exact ih n (by omega) v29 (m.take n) w1 (by rw [List.length_take]; omega) (hs.take n) (by rw [List.length_take]; omega) (hV.ch hM1.ch)) ?_
    (try refine gwg ?_)
    refine kcutlg hR (fun v33 hV2 => ?_)
    rw [Int.toNat_natCast] at hV2
    (try refine gwg ?_)
    refine kcag (v := hv rb.1) hM (fun w1 hM1 => by rw [hrb]; exact ih (m.length - n) (by omega) v33 (m.drop n) w1 (by rw [List.length_drop]) (hs.drop n) (by rw [List.length_drop]; omega) (hV2.ch hM1.ch)) ?_
    (try refine gwg ?_)
    refine kcag (v := hv rf.1) hM (fun w1 hM1 => by rw [hrf]; exact rfork_any (ci : Int) (by omega) (by omega) ra rb w1 trivial) ?_
    refine lastg rfl (by kernel_rfl) (fun w hc => ?_)
    have hM := hM.call hc
    refine kstw (b := b2) (vs := rf.1.map u8v) hM (fun w hM => ?_) (hf := by rw [List.length_map, zeroH.2])
    refine x_late rfl rfl ?_
    (try refine wkg ?_)
    (intro w hc; have hM := hM.call hc)
    repeat (first | refine gw ?_ | (refine ks ?_; intro w hM))
    exact koc hM rfl ⟨rfl, hM.ch⟩
end Go.Proofs.YtkdbinchlpdkmaaDoor
set_option linter.unusedVariables false
set_option linter.unusedSimpArgs false
set_option maxRecDepth 4000
namespace Go.Proofs.E
open Go Go.RowKit
/-- A store of some cells inside a block, with what turned. -/
theorem kstpQ {P : Program} {ops : Array Oper} {Q : Exit → Act → World → Prop} {rest : List Oper} {l : List Value} {O : List Nat} {w0 w : World} {L L' : List As} {T : TypeId} {pos : String} {after : Array Edge} {x y : Operand} {E t : TypeId} {b o n by_ : Nat} {cs cs' vs : List Value} {z : Value} [hi : Inf P t z n by_] (hM : Mem O w0 w L) (h : ∀ w', Ch [b] w w' → Mem O w0 w' (.cell b cs' E :: L') → wpList P ops Q rest (fr l) w')
    (hs : spl cs o vs = cs') (hln : vs.length = n) (hf : o + n ≤ cs.length) (h1 : ∀ u ∈ vs, u.oneCell' = true)
    (hx : ev l x = .pointer (some ⟨b, o, none⟩) := by exact rfl) (hp : Pick L (.cell b cs E) L' := by (repeat (first | exact Go.Proofs.E.Pick.here | apply Go.Proofs.E.Pick.there))) (hy : ev l y = .agg vs.toArray := by exact rfl) :
    wpList P ops Q ({ dst := none, op := .store t x y, type := T, pos := pos, after := after, guard := none } :: rest) (fr l) w := by
  subst hs
  have e : (Value.agg vs.toArray).cells.toList = vs := by simp [Value.cells]
  refine wl_store hx hy (hM.blk hp) hf (by simp [Value.cells, hln]) (by rw [e]; exact h1) fun w' hB hc _ => h w' hc ?_
  rw [e] at hB
  exact (hM.pick hp).set hB hc
end Go.Proofs.E
namespace Go.Proofs.YtkdbinchlpdkmaaDoor
open Go Go.RowKit Go.Proofs.E
attribute [local irreducible] Go.wpList Go.Code.wp Go.Proofs.E.exec Go.Proofs.E.wpLexG
def plS : Nat → Option (Nat × Nat) := (#[(0, 1), (1, 32)][·]?)
theorem flS (i : Int) (h : Hs) : Fl plS (.int .i64 0 :: zeroH.1.map u8v) [(0, .int .i64 i), (1, hv h.1)] (eSt.f (i, h)) :=
  .cons rfl rfl (by simp [zeroH.2]) (.cons rfl (kv_size h) (by show 1 + 32 ≤ ((.int .i64 i : Value) :: zeroH.1.map u8v).length; rw [List.length_cons, List.length_map, zeroH.2]; omega) (.nil (by
    show spl ((.int .i64 i : Value) :: zeroH.1.map u8v) 1 (hv h.1).cells.toList = _
    rw [kv_cells]
    unfold spl
    rw [List.drop_of_length_le (by simp [zeroH.2, h.2])]
    simp)))
theorem pC_s2 (s : Value) (lf : Bool) (a b h : Hs) : spl (pC s lf a b) 2 (h.1.map u8v) = pC s lf h b := by
  unfold spl
  rw [List.length_map, h.2]
  show [s, .bool lf] ++ h.1.map u8v ++ ((a.1.map u8v ++ b.1.map u8v).drop 32) = _
  rw [List.drop_left' (by rw [List.length_map, a.2])]
  simp
theorem pC_s34 (s : Value) (lf : Bool) (a b h : Hs) : spl (pC s lf a b) 34 (h.1.map u8v) = pC s lf a h := by
  unfold spl
  have e : (pC s lf a b).take 34 = s :: .bool lf :: a.1.map u8v := by
    show s :: .bool lf :: ((a.1.map u8v ++ b.1.map u8v).take 32) = _
    rw [List.take_left' (by rw [List.length_map, a.2])]
  rw [e, List.drop_of_length_le (by simp [a.2, b.2, h.2])]
  simp
theorem pC_one {s : Value} {lf : Bool} {a b : Hs} (h : s.oneCell' = true) : ∀ u ∈ pC s lf a b, u.oneCell' = true := by
  intro u hu
  simp only [List.mem_cons, List.mem_append] at hu
  rcases hu with rfl | rfl | hu | hu
  · exact h
  · rfl
  · exact one_u8 u hu
  · exact one_u8 u hu
theorem pC_ln (s : Value) (lf : Bool) (a b : Hs) : (pC s lf a b).length = 66 := by simp [a.2, b.2]
set_option maxHeartbeats 16000000 in
theorem prove12_any (vm : Value) (m : List KV) (k : Hs) (w0 : World) (hs : SortK m) (h1 : 1 ≤ m.length) (hb : m.length ≤ 1000) (hR : (Ty.enc eKv).Rd [] w0 vm m) :
    Calls Tryd.prog 21 #[vm, hv k.1] w0 (Ret fun u w' => ∃ v x, (proveM k m).2 = [x] ∧ u = .agg (pC v true x.1 x.2).toArray ∧ Mem [] w0 w' [.row eSt 51 v (proveM k m).1]) := by
  have hM := Mem.start w0
  obtain ⟨A, c, rfl⟩ := hR.form
  refine enter [.slice A m.length c, hv k.1, undef, undef, undef, undef, undef, undef, undef, undef, undef, undef, undef, undef, undef, undef, undef, undef, undef, undef, undef, undef, undef, undef, undef, undef, undef, undef, undef, undef, undef, undef, undef, undef, undef, undef, undef, undef, undef, undef, undef, undef, undef, undef, undef, undef, undef, undef, undef, undef, undef, undef, undef, undef, undef, undef, undef, undef, undef, undef, undef, undef, undef] Tryd.func21 rfl rfl ?_
  repeat (first | refine gw ?_ | (refine ks ?_; intro w hM))
  refine kbx (v := hv k.1) hM (fun w b3 hM => ?_)
  refine kal hM (fun w b4 hM => ?_)
  repeat (first | refine gw ?_ | (refine ks ?_; intro w hM))
  refine kal hM (fun w b5 hM => ?_)
  have hM : Mem [] w0 w [.cell b5 (pC (.slice none 0 0) false zeroH zeroH) 45, .cell b4 (pC (.slice none 0 0) false zeroH zeroH) 45, .cell b3 (k.1.map u8v) 30] := hM
  have hM := hM.nilRow eSt 51
  repeat (first | refine gw ?_ | (refine ks ?_; intro w hM))
  
  refine c_loop (fun n l w => ∃ (m2 : List KV) (A2 : Option Addr) (c2 : Nat) (u5 : SlV) (st : List (Int × Hs)), (∃ jj : Nat → Value, l = [.slice A2 m2.length c2, jj 1, jj 2, .pointer (some ⟨b3, 0, none⟩), .pointer (some ⟨b4, 0, none⟩), .pointer (some ⟨b5, 0, none⟩), jj 6, jj 7, jj 8, jj 9, jj 10, jj 11, jj 12, jj 13, jj 14, jj 15, jj 16, jj 17, jj 18, jj 19, jj 20, jj 21, jj 22, jj 23, jj 24, jj 25, jj 26, jj 27, jj 28, jj 29, jj 30, jj 31, jj 32, jj 33, jj 34, jj 35, jj 36, jj 37, jj 38, jj 39, jj 40, jj 41, jj 42, jj 43, jj 44, jj 45, jj 46, jj 47, jj 48, jj 49, jj 50, jj 51, jj 52, jj 53, jj 54, jj 55, jj 56, jj 57, jj 58, jj 59, jj 60, jj 61, jj 62]) ∧ n = m2.length ∧ SortK m2 ∧ 1 ≤ m2.length ∧ st.length + m2.length ≤ m.length ∧ (Ty.enc eKv).Rd [] w0 (.slice A2 m2.length c2) m2 ∧ st ++ (proveM k m2).1 = (proveM k m).1 ∧ (proveM k m2).2 = (proveM k m).2 ∧
    Mem [] w0 w [.row eSt 51 (slv u5) st, .cell b5 (pC (slv u5) false zeroH zeroH) 45, .cell b4 (pC (.slice none 0 0) false zeroH zeroH) 45, .cell b3 (k.1.map u8v) 30]) m.length
    ⟨m, A, c, (none, 0, 0), [], exj rfl, rfl, hs, h1, by simp, hR, rfl, rfl, hM⟩ ?_
  clear hM
  rintro n l w ⟨m2, A2, c2, u5, st, ⟨jj, rfl⟩, hn, hs2, h12, hst, hR2, hp1, hp2, hM⟩
  repeat (first | refine gw ?_ | (refine ks ?_; intro w hM))
  refine c_cond rfl (fun hj => ?_) (fun hj => ?_)
  · have h2 : 2 ≤ m2.length := by omega
    obtain ⟨q1, q2, _, _⟩ := cut_parts hs2 h2
    have hc6 := (cut_spec hs2 h2).1
    have hstp := proveM_step (k := k) hs2 h2
    repeat (first | refine gw ?_ | (refine ks ?_; intro w hM))
    refine kca (X := .tuple #[.int .i64 (cutI m2 : Int), .int .i64 (cutC m2 (cutI m2) : Int)]) hM (cut_any _ m2 _ (hR2.ch hM.ch) (by omega) (by omega) hc6) (fun w hM => ?_)
    generalize cutC m2 (cutI m2) = nc at q1 q2 hstp hM ⊢
    generalize cutI m2 = ci at hc6 hstp hM ⊢
    repeat (first | refine gw ?_ | (refine ks ?_; intro w hM))
    refine kca (X := .int .i64 (bitN k ci : Int)) hM (by rw [← bitZ_nat hc6]; exact rbit_any k _ _) (fun w hM => ?_)
    repeat (first | refine gw ?_ | (refine ks ?_; intro w hM))
    by_cases hbk : bitN k ci = 0
    · rw [if_pos hbk] at hstp
      refine c_cond rfl (fun _ => ?_) (fun h => absurd (by omega) h)
      repeat (first | refine gwb ?_ | (refine ks ?_; intro w hM))
      refine c_ordY ([9, 11], []) [] (by kernel_rfl) (by kernel_rfl) (by kernel_rfl) (fun w hc hsz => ?_)
      have hM := hM.call hc
      have hlt5 := Blk.lt (hM.blk (b := b5) (by (repeat constructor)))
      (first | refine yn 0 rfl ?_ | refine ynt 0 rfl ?_ | refine ynff 0 rfl ?_)
      refine ynl (v := slv u5) 1 rfl (hM.blk (b := b5) (by (repeat constructor))) (by omega) (by simp) rfl rfl ?_
      (first | refine yn 2 rfl ?_ | refine ynt 2 rfl ?_ | refine ynff 2 rfl ?_); (first | refine yn 3 rfl ?_ | refine ynt 3 rfl ?_ | refine ynff 3 rfl ?_); (first | refine yn 4 rfl ?_ | refine ynt 4 rfl ?_ | refine ynff 4 rfl ?_)
      refine yn_cut_lo 5 rfl (hR2.ch hM.ch) rfl rfl rfl (by omega) (by omega) (fun v25 hV => ?_)
      rw [Int.toNat_natCast] at hV
      obtain ⟨rs, hrs⟩ : ∃ q, q = rootM (m2.drop nc) := ⟨_, rfl⟩
      refine ync (vs := [v25]) (v := hv rs.1) 6 rfl (by kernel_rfl) (by kernel_rfl) rfl (fun w1 hc1 => by rw [hrs]; exact mroot_any _ v25 (m2.drop nc) w1 rfl (hs2.drop nc) (by simp; omega) (hV.ch (hc1.ch' hsz))) rfl ?_
      refine ynp (v := .agg (eSt.f ((ci : Int), rs)).toArray) 7 rfl (by kernel_rfl) (by kernel_rfl) (fun _ => r_bldS (vs := [(0, .int .i64 (ci : Int)), (1, hv rs.1)]) (eSt.f ((ci : Int), rs)) (z := .int .i64 0 :: zeroH.1.map u8v) (place := plS) (by intro ps; kernel_rfl) rfl (flS _ _)) rfl ?_
      refine yk1 8 hM (by kernel_rfl) rfl (fun w h0 hM => ?_)
      refine kbsC (en := eSt) (vs := [.agg (eSt.f ((ci : Int), rs)).toArray]) [((ci : Int), rs)] hM (fun w b28 hc hM => ?_) (hxs := by simp [Value.cells]) (hm := by
        intro v hv
        simp only [List.mem_singleton] at hv
        subst hv
        simp [Value.cells, rs.2])
      refine x_wy (.inl (hc.gy h0)) rfl ?_
      refine yk1 9 hM (by kernel_rfl) rfl (fun w h0 hM => ?_)
      refine kapC (en := eSt) (v := slv u5) (xs := st) (ys := [((ci : Int), rs)]) hM (hM.rowRdO (en := eSt) (v := .slice (some ⟨b28, 0, none⟩) 1 1) (xs := [((ci : Int), rs)]) (by (repeat constructor))) (fun v29 w hss hM => ?_) (hb := by simp; omega) (h63 := by simp; omega)
      refine x_wy (.inr ⟨by decide, Nat.le_trans h0 hss⟩) rfl ?_
      obtain ⟨A29, c29, rfl, _⟩ := (hM.row0 (en := eSt) (v := v29) (xs := st ++ [((ci : Int), rs)]) (by (repeat constructor))).form
      (first | refine yn 10 rfl ?_ | refine ynt 10 rfl ?_ | refine ynff 10 rfl ?_)
      refine yk1 11 hM (by kernel_rfl) rfl (fun w h0 hM => ?_)
      refine stb (hM.blk (b := b5) (by (repeat constructor))) rfl rfl rfl rfl (by simp) (fun w hB hc hss => ?_)
      have hM := hM.cellSet hB hc (by (repeat constructor))
      refine x_wy (.inr ⟨by decide, by omega⟩) rfl ?_
      refine wy_done (by kernel_rfl) (fun w hc => ?_)
      have hM := hM.call hc
      have hM : Mem [] w0 w [.row eSt 51 (slv (A29, (st ++ [((ci : Int), rs)]).length, c29)) (st ++ [((ci : Int), rs)]), .cell b5 (pC (slv (A29, (st ++ [((ci : Int), rs)]).length, c29)) false zeroH zeroH) 45, .cell b4 (pC (.slice none 0 0) false zeroH zeroH) 45, .cell b3 (k.1.map u8v) 30] := hM.sub (by (repeat constructor))
      repeat (first | refine gw ?_ | (refine ks ?_; intro w hM))
      refine kcuth hR2 (fun v33 hV2 => ?_)
      rw [Int.toNat_natCast] at hV2
      obtain ⟨A33, c33, rfl⟩ := hV2.form
      repeat (first | refine gw ?_ | (refine ks ?_; intro w hM))
      rw [← hrs] at hstp
      refine x_goes (m2.take nc).length rfl (by simp; omega) ⟨m2.take nc, A33, c33, (A29, (st ++ [((ci : Int), rs)]).length, c29), st ++ [((ci : Int), rs)], exj rfl, rfl, hs2.take nc, by simp; omega, by simp; omega, hV2, ?_, ?_, hM⟩
      · rw [← hp1, hstp, List.append_assoc]
        rfl
      · rw [← hp2, hstp]
    · rw [if_neg hbk] at hstp
      refine c_cond rfl (fun h => absurd (by omega) hbk) (fun _ => ?_)
      repeat (first | refine gwb ?_ | (refine ks ?_; intro w hM))
      refine c_ordY ([9, 11], []) [] (by kernel_rfl) (by kernel_rfl) (by kernel_rfl) (fun w hc hsz => ?_)
      have hM := hM.call hc
      have hlt5 := Blk.lt (hM.blk (b := b5) (by (repeat constructor)))
      (first | refine yn 0 rfl ?_ | refine ynt 0 rfl ?_ | refine ynff 0 rfl ?_)
      refine ynl (v := slv u5) 1 rfl (hM.blk (b := b5) (by (repeat constructor))) (by omega) (by simp) rfl rfl ?_
      (first | refine yn 2 rfl ?_ | refine ynt 2 rfl ?_ | refine ynff 2 rfl ?_); (first | refine yn 3 rfl ?_ | refine ynt 3 rfl ?_ | refine ynff 3 rfl ?_); (first | refine yn 4 rfl ?_ | refine ynt 4 rfl ?_ | refine ynff 4 rfl ?_)
      refine yn_cut_hi 5 rfl (hR2.ch hM.ch) rfl rfl rfl (by omega) (by omega) (fun v25 hV => ?_)
      rw [Int.toNat_natCast] at hV
      obtain ⟨rs, hrs⟩ : ∃ q, q = rootM (m2.take nc) := ⟨_, rfl⟩
      refine ync (vs := [v25]) (v := hv rs.1) 6 rfl (by kernel_rfl) (by kernel_rfl) rfl (fun w1 hc1 => by rw [hrs]; exact mroot_any _ v25 (m2.take nc) w1 rfl (hs2.take nc) (by simp; omega) (hV.ch (hc1.ch' hsz))) rfl ?_
      refine ynp (v := .agg (eSt.f ((ci : Int), rs)).toArray) 7 rfl (by kernel_rfl) (by kernel_rfl) (fun _ => r_bldS (vs := [(0, .int .i64 (ci : Int)), (1, hv rs.1)]) (eSt.f ((ci : Int), rs)) (z := .int .i64 0 :: zeroH.1.map u8v) (place := plS) (by intro ps; kernel_rfl) rfl (flS _ _)) rfl ?_
      refine yk1 8 hM (by kernel_rfl) rfl (fun w h0 hM => ?_)
      refine kbsC (en := eSt) (vs := [.agg (eSt.f ((ci : Int), rs)).toArray]) [((ci : Int), rs)] hM (fun w b28 hc hM => ?_) (hxs := by simp [Value.cells]) (hm := by
        intro v hv
        simp only [List.mem_singleton] at hv
        subst hv
        simp [Value.cells, rs.2])
      refine x_wy (.inl (hc.gy h0)) rfl ?_
      refine yk1 9 hM (by kernel_rfl) rfl (fun w h0 hM => ?_)
      refine kapC (en := eSt) (v := slv u5) (xs := st) (ys := [((ci : Int), rs)]) hM (hM.rowRdO (en := eSt) (v := .slice (some ⟨b28, 0, none⟩) 1 1) (xs := [((ci : Int), rs)]) (by (repeat constructor))) (fun v29 w hss hM => ?_) (hb := by simp; omega) (h63 := by simp; omega)
      refine x_wy (.inr ⟨by decide, Nat.le_trans h0 hss⟩) rfl ?_
      obtain ⟨A29, c29, rfl, _⟩ := (hM.row0 (en := eSt) (v := v29) (xs := st ++ [((ci : Int), rs)]) (by (repeat constructor))).form
      (first | refine yn 10 rfl ?_ | refine ynt 10 rfl ?_ | refine ynff 10 rfl ?_)
      refine yk1 11 hM (by kernel_rfl) rfl (fun w h0 hM => ?_)
      refine stb (hM.blk (b := b5) (by (repeat constructor))) rfl rfl rfl rfl (by simp) (fun w hB hc hss => ?_)
      have hM := hM.cellSet hB hc (by (repeat constructor))
      refine x_wy (.inr ⟨by decide, by omega⟩) rfl ?_
      refine wy_done (by kernel_rfl) (fun w hc => ?_)
      have hM := hM.call hc
      have hM : Mem [] w0 w [.row eSt 51 (slv (A29, (st ++ [((ci : Int), rs)]).length, c29)) (st ++ [((ci : Int), rs)]), .cell b5 (pC (slv (A29, (st ++ [((ci : Int), rs)]).length, c29)) false zeroH zeroH) 45, .cell b4 (pC (.slice none 0 0) false zeroH zeroH) 45, .cell b3 (k.1.map u8v) 30] := hM.sub (by (repeat constructor))
      repeat (first | refine gw ?_ | (refine ks ?_; intro w hM))
      refine kcutl hR2 (fun v33 hV2 => ?_)
      rw [Int.toNat_natCast] at hV2
      obtain ⟨A33, c33, rfl⟩ := hV2.form
      repeat (first | refine gw ?_ | (refine ks ?_; intro w hM))
      rw [← hrs] at hstp
      refine x_goes (m2.drop nc).length rfl (by simp; omega) ⟨m2.drop nc, A33, c33, (A29, (st ++ [((ci : Int), rs)]).length, c29), st ++ [((ci : Int), rs)], exj rfl, rfl, hs2.drop nc, by simp; omega, by simp; omega, hV2, ?_, ?_, hM⟩
      · rw [← hp1, hstp, List.append_assoc]
        rfl
      · rw [← hp2, hstp]
  · have hm1 : m2.length ≤ 1 := by omega
    obtain ⟨x, hx⟩ : ∃ x, m2 = [x] := by
      match m2, hm1, h12 with
      | [x], _, _ => exact ⟨x, rfl⟩
      | x :: y :: r, h, _ => simp at h
    subst hx
    rw [proveM_end hm1, List.append_nil] at hp1
    rw [proveM_end hm1] at hp2
    repeat (first | refine gw ?_ | (refine ks ?_; intro w hM))
    refine c_condb rfl (fun _ => ?_) (fun h => by cases h)
    repeat (first | refine gwb ?_ | (refine ks ?_; intro w hM))
    refine c_ordY ([], []) [b5] (by kernel_rfl) (by kernel_rfl) (by kernel_rfl) (fun w hc hsz => ?_)
    have hM := hM.call hc
    have hRx : (Ty.enc eKv).Rd [b5] w (.slice A2 [x].length c2) [x] := hM.rdNew (b := b5) (by (repeat constructor)) hR2
    (first | refine yn 0 rfl ?_ | refine ynt 0 rfl ?_ | refine ynff 0 rfl ?_)
    refine ynx 1 rfl hRx rfl rfl rfl (by decide) (by simp) (fun ba oa y hy hA => ?_)
    obtain rfl : x = y := by simpa using hy
    (first | refine yn 2 rfl ?_ | refine ynt 2 rfl ?_ | refine ynff 2 rfl ?_)
    refine ynxl 3 rfl (atK hA) (by have := hA.1; omega) rfl rfl ?_
    (first | refine yn 4 rfl ?_ | refine ynt 4 rfl ?_ | refine ynff 4 rfl ?_)
    refine ynx 5 rfl hRx rfl rfl rfl (by decide) (by simp) (fun bc oc y hy hA2 => ?_)
    obtain rfl : x = y := by simpa using hy
    (first | refine yn 6 rfl ?_ | refine ynt 6 rfl ?_ | refine ynff 6 rfl ?_)
    refine ynxl 7 rfl (atV hA2) (by have := hA2.1; omega) rfl rfl ?_
    (first | refine yn 8 rfl ?_ | refine ynt 8 rfl ?_ | refine ynff 8 rfl ?_)
    refine yk1 9 hM (by kernel_rfl) rfl (fun w h0 hM => ?_)
    refine stb (hM.blk (b := b5) (by (repeat constructor))) rfl rfl rfl rfl (by simp) (fun w hB hc hss => ?_)
    have hM := hM.cellSet hB hc (by (repeat constructor))
    refine x_wy (.inl (hc.bwn h0 (.inr (by simp)))) rfl ?_
    (first | refine yn 10 rfl ?_ | refine ynt 10 rfl ?_ | refine ynff 10 rfl ?_)
    refine yk1 11 hM (by kernel_rfl) rfl (fun w h0 hM => ?_)
    have hM : Mem [] w0 w [.cell b5 (pC (slv u5) true zeroH zeroH) 45, .row eSt 51 (slv u5) st, .cell b4 (pC (.slice none 0 0) false zeroH zeroH) 45, .cell b3 (k.1.map u8v) 30] := hM
    refine kstpQ (b := b5) (vs := x.1.1.map u8v) (cs' := pC (slv u5) true x.1 zeroH) hM (fun w hc hM => ?_) (pC_s2 (slv u5) true zeroH zeroH x.1) (by rw [List.length_map, x.1.2]) (by rw [pC_ln]; omega) one_u8
    refine x_wy (.inl (hc.bwn h0 (.inr (by simp)))) rfl ?_
    (first | refine yn 12 rfl ?_ | refine ynt 12 rfl ?_ | refine ynff 12 rfl ?_)
    refine yk1 13 hM (by kernel_rfl) rfl (fun w h0 hM => ?_)
    refine kstpQ (b := b5) (vs := x.2.1.map u8v) (cs' := pC (slv u5) true x.1 x.2) hM (fun w hc hM => ?_) (pC_s34 (slv u5) true x.1 zeroH x.2) (by rw [List.length_map, x.2.2]) (by rw [pC_ln]; omega) one_u8
    refine x_wy (.inl (hc.bwn h0 (.inr (by simp)))) rfl ?_
    refine wy_done (by kernel_rfl) (fun w hc => ?_)
    have hM := hM.call hc
    repeat (first | refine gw ?_ | (refine ks ?_; intro w hM))
    refine kstw (b := b4) (vs := pC (slv u5) true x.1 x.2) hM (fun w hM => ?_) (hln := pC_ln _ _ _ _) (hf := pC_ln _ _ _ _) (h1 := pC_one rfl)
    repeat (first | refine gw ?_ | (refine ks ?_; intro w hM))
    rw [← hp1]
    exact koc hM rfl ⟨slv u5, x, hp2.symm, rfl, hM.sub (by (repeat constructor))⟩ (hn := pC_ln _ _ _ _)
end Go.Proofs.YtkdbinchlpdkmaaDoor

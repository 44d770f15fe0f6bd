/- Walks of growth: rows put behind one another (slices.Concat, slices.Grow).
   Walks of growth: of a leaf that was and one that is, both; the law's own small functions.
   Walks of growth: the law's own small functions: are claims light, do the examples live.
   The plain law of growth, third part: if growth is accepted for the roots that two different leaves at one place lead to, two inputs of one hash are told; what is told is that.
   Walks: the laws GrowthPaths, GrowthGrown, GrowthMeets, GrowthLeaves. -/
import Derived.Test.YtkdbinchlpdkmaaDoorQGrowthSays26
import Derived.Lib.AppendZeros
set_option linter.unusedVariables false
set_option linter.unusedSimpArgs false
set_option maxRecDepth 4000
namespace Go.Proofs.E
open Go Go.RowKit
theorem zeroCells_size (z : Array Value) (n : Nat) : (Builtin.zeroCells z n).size = n * z.size := by simp [Builtin.zeroCells]
/-- A new row with room and nothing in it. -/
theorem own_room {α : Type} {en : En α} {w : World} {E : TypeId} {z : Array Value} {n cap : Nat} (hz : z.size = en.n) (hn : n ≤ cap) (hc : cap ≤ maxLen) :
    Ch [] w (w.drew.alloc (.cells (Builtin.zeroCells z n ++ Builtin.zeroCells z (cap - n)) E)) ∧ Own en (w.drew.alloc (.cells (Builtin.zeroCells z n ++ Builtin.zeroCells z (cap - n)) E)) w.heap.size E (.slice (some ⟨w.heap.size, 0, none⟩) 0 cap) [] := by
  have hN := New.mk' w.drew (Builtin.zeroCells z n ++ Builtin.zeroCells z (cap - n)) E
  have hc0 : Ch [] w w.drew := ⟨rfl, rfl, rfl, Nat.le_refl _, fun _ _ _ => rfl⟩
  refine ⟨hc0.add hN.ch, by simp, .inr ⟨w.heap.size, cap, _, rfl, Nat.le_refl _, heap_alloc_new w.drew _, Nat.zero_le _, hc, ?_, by simp⟩⟩
  rw [Array.size_append, zeroCells_size, zeroCells_size, hz, ← Nat.add_mul, Nat.add_sub_cancel' hn]
section
variable {P : Program} {ops : Array Oper} {Q : Exit → Act → World → Prop} {rest : List Oper} {l : List Value} {O : List Nat} {w0 w : World} {L L' : List As} {T : TypeId} {pos : String} {after : Array Edge}
theorem r_cap {x : Operand} {t e : TypeId} {A : Option Addr} {n c : Nat} [ht : Und P t (.slice e)] (hx : ev l x = .slice A n c := by exact rfl) : (exec (ev l) (.call { callee := .builtin .cap, args := #[x], argTypes := #[t] }) T).run P w = .ok (.value (.int .i64 (c : Int))) w := by
  simp [exec, execOp, resolve, invoke, builtin, hx, Builtin.cap_, run_underlying ht.out, goInt]
theorem r_cutnil {x y : Operand} {t e : TypeId} {z : Value} {m by_ : Nat} {k : IntKind} [hu : Und P t (.slice e)] [hi : Inf P e z m by_] (hx : ev l x = .slice none 0 0 := by exact rfl) (hy : ev l y = .int k 0 := by exact rfl) :
    (exec (ev l) (.slice t x none (some y) none) T).run P w = .ok (.value (.slice none 0 0)) w := by
  have := run_cut (P := P) (w := w) (t := t) (e := e) (A := none) (n := 0) (c := 0) (bnd_hi (P := P) (w := w) (b := true) (n := 0) (c := 0) (k := k) (j := 0) (Int.le_refl 0) (Int.le_refl 0))
  simp at this
  simp [exec, execOp, hx, hy, this]
theorem r_cut0 {x y : Operand} {t e : TypeId} {z : Value} {m by_ b n c : Nat} {k : IntKind} [hu : Und P t (.slice e)] [hi : Inf P e z m by_] (hx : ev l x = .slice (some ⟨b, 0, none⟩) n c := by exact rfl) (hy : ev l y = .int k 0 := by exact rfl) :
    (exec (ev l) (.slice t x none (some y) none) T).run P w = .ok (.value (.slice (some ⟨b, 0, none⟩) 0 c)) w := by
  have := run_cut (P := P) (w := w) (t := t) (e := e) (A := some ⟨b, 0, none⟩) (n := n) (c := c) (bnd_hi (P := P) (w := w) (b := true) (n := n) (c := c) (k := k) (j := 0) (Int.le_refl 0) (by omega))
  simp at this
  simp [exec, execOp, hx, hy, this]
  intro _
  simp [Addr.add]
end
end Go.Proofs.E
namespace Go.Proofs.YtkdbinchlpdkmaaDoor
open Go Go.RowKit Go.Proofs.E
attribute [local irreducible] Go.wpList Go.Code.wp Go.Proofs.E.exec Go.Proofs.E.wpLexG
set_option maxHeartbeats 4000000 in
theorem growF_any2 (n : Nat) (w0 : World) (h0 : 0 < n) (hn : n ≤ 1000000000) :
    Calls Tryd.prog 119 #[.slice none 0 0, .int .i64 (n : Int)] w0 (Ret fun u w' => Ch [] w0 w' ∧ Go.Proofs.E.Own eFv w' w0.heap.size 74 u []) := by
  have hM := Mem.start w0
  refine enter [.slice none 0 0, .int .i64 (n : Int), undef, undef, undef, undef, undef, undef, undef, undef, undef, undef, undef, undef, undef, undef, undef, undef, undef, undef, undef, undef, undef, undef, undef, undef, undef] Tryd.func119 rfl rfl ?_
  repeat (first | refine gfo ?_ | (refine ks ?_; intro w hM))
  refine c_cond rfl (fun h => ?_) (fun _ => ?_)
  · omega
  repeat (first | refine gfo ?_ | (refine ks ?_; intro w hM))
  (try ((with_reducible apply is_gd); first | refine gt ?_ | refine gf ?_ | refine gu ?_)); refine wl_val (r_cap) ?_
  repeat (first | refine gfo ?_ | (refine ks ?_; intro w hM))
  rw [show (n : Int) - (((0 : Nat) : Int) - ((0 : Nat) : Int)) = (n : Int) by omega]
  refine c_cond rfl (fun _ => ?_) (fun h => by omega)
  repeat (first | refine gfo ?_ | (refine ks ?_; intro w hM))
  (try ((with_reducible apply is_gd); first | refine gt ?_ | refine gf ?_ | refine gu ?_)); refine wl_val (r_cap) ?_
  (try ((with_reducible apply is_gd); first | refine gt ?_ | refine gf ?_ | refine gu ?_)); refine wl_val (r_cutnil) ?_
  repeat (first | refine gfo ?_ | (refine ks ?_; intro w hM))
  obtain ⟨i, k1, k2, k3, k4⟩ := inf_parts (P := Tryd.prog) (E := 74) inferInstance
  have hrun := Go.Lib.run_append_nil_zeros (P := Tryd.prog) w0 60 3 60 74 i _ .i64 .i64 Tryd.underlying60 Tryd.underlying3 k1 k2 n h0 (by rw [k3]; decide) (by omega) (by rw [k4]; omega)
  have hgc := grownCap_ge w0 n 0 74
  have hgm := grownCap_le_maxLen w0 n 0 74 (by simp only [maxLen]; omega)
  have hown := own_room (en := eFv) (w := w0) (E := 74) (z := (Value.agg (List.replicate 2 (Value.int IntKind.i64 0) ++ List.replicate 32 (Value.int IntKind.u8 0) ++ [Value.slice none 0 0]).toArray).cells) (n := n) (cap := grownCap w0 n 0 74) (by simp [Value.cells]) hgc hgm
  generalize grownCap w0 n 0 74 = cap at hrun hown
  generalize w0.drew.alloc _ = w1 at hrun hown
  refine wl_val (w' := w1) (v := .slice (some ⟨w0.heap.size, 0, none⟩) n cap) (by simp [exec, execOp, resolve, invoke, builtin, nth, ev, hrun]) ?_
  (try refine wk ?_)
  (try ((with_reducible apply is_gd); first | refine gt ?_ | refine gf ?_ | refine gu ?_)); refine wl_val (r_cut0) ?_
  (try refine wk ?_)
  exact out1 rfl hown
theorem slv_formG {α : Type} {t : Ty α} {u : SlV} {xs : List α} {S : List Nat} {w : World} (h : t.Rd S w (slv u) xs) : ∃ A c, u = (A, xs.length, c) := by
  obtain ⟨A, c, h⟩ := h.form
  obtain ⟨x, y, z⟩ := u
  have h : Value.slice x y z = .slice A xs.length c := h
  injection h with h1 h2 h3
  exact ⟨A, c, by rw [h1, h2, h3]⟩
theorem fm_take {α : Type} (ps : List (SlV × List α)) (j : Nat) : ((ps.take j).flatMap (·.2)).length ≤ (ps.flatMap (·.2)).length := by
  conv => rhs; rw [← List.take_append_drop j ps]
  rw [List.flatMap_append, List.length_append]
  omega
theorem fm_step {α : Type} {ps : List (SlV × List α)} {j : Nat} {p : SlV × List α} (h : ps[j]? = some p) : (ps.take (j + 1)).flatMap (·.2) = (ps.take j).flatMap (·.2) ++ p.2 := by
  rw [List.take_add_one, h, List.flatMap_append]
  simp
set_option maxHeartbeats 8000000 in
theorem concatF_any (v : Value) (ps : List (SlV × List Fv)) (w0 : World) (hR : (Ty.enc eSl).Rd [] w0 v (ps.map (·.1))) (hP : ∀ p ∈ ps, (Ty.enc eFv).Rd [] w0 (slv p.1) p.2) (h0 : 0 < (ps.flatMap (·.2)).length) (hn : (ps.flatMap (·.2)).length ≤ 1000000000) :
    Calls Tryd.prog 79 #[v] w0 (Ret fun u w' => Ch [] w0 w' ∧ Go.Proofs.E.Own eFv w' w0.heap.size 74 u (ps.flatMap (·.2))) := by
  have hM := Mem.start w0
  obtain ⟨A, c, rfl⟩ := hR.form
  rw [List.length_map]
  have hle := hR.le
  rw [List.length_map] at hle
  refine enter [.slice A ps.length c, undef, undef, undef, undef, undef, undef, undef, undef, undef, undef, undef, undef, undef, undef, undef, undef, undef, undef, undef, undef, undef, undef, undef, undef, undef, undef, undef, undef, undef, undef, undef, undef, undef, undef, undef] Tryd.func79 rfl rfl ?_
  repeat (first | refine gfo ?_ | (refine ks ?_; intro w hM))
  
  
  
  refine c_loopJ (fun n l w => ∃ (j : Nat), (∃ jj : Nat → Value, l = [.slice A ps.length c, jj 1, jj 2, .int .i64 (((ps.take j).flatMap (·.2)).length : Int), jj 4, jj 5, jj 6, jj 7, jj 8, .slice A ps.length c, .int .i64 (ps.length : Int), .int .i64 (j : Int), jj 12, jj 13, jj 14, jj 15, jj 16, jj 17, jj 18, jj 19, jj 20, jj 21, jj 22, jj 23, jj 24, jj 25, jj 26, jj 27, jj 28, jj 29, jj 30, jj 31, jj 32, jj 33, jj 34, jj 35]) ∧ n + j = ps.length ∧ Mem [] w0 w []) (fun l w => (∃ jj : Nat → Value, l = [.slice A ps.length c, jj 1, jj 2, .int .i64 ((ps.flatMap (·.2)).length : Int), jj 4, jj 5, jj 6, jj 7, jj 8, jj 9, jj 10, jj 11, jj 12, jj 13, jj 14, jj 15, jj 16, jj 17, jj 18, jj 19, jj 20, jj 21, jj 22, jj 23, jj 24, jj 25, jj 26, jj 27, jj 28, jj 29, jj 30, jj 31, jj 32, jj 33, jj 34, jj 35]) ∧ Mem [] w0 w []) ps.length
    ⟨0, exj rfl, rfl, hM⟩ ?_ ?_
  · clear hM
    rintro n l w ⟨j, ⟨jj, rfl⟩, hnj, hM⟩
    repeat (first | refine gfo ?_ | (refine ks ?_; intro w hM))
    refine c_cond rfl (fun hj => ?_) (fun hj => ?_)
    rotate_left
    · repeat (first | refine gfo ?_ | (refine ks ?_; intro w hM))
      obtain rfl : j = ps.length := by omega
      exact outJ ⟨exj (by rw [List.take_of_length_le (Nat.le_refl _)]; rfl), hM⟩
    repeat (first | refine gfo ?_ | (refine ks ?_; intro w hM))
    refine kix hR (fun b o x hx hA => ?_) (h1 := by rw [List.length_map]; omega) (hx := by rw [List.length_map]; rfl)
    rw [Int.toNat_natCast, List.getElem?_map] at hx
    obtain ⟨p, hp, rfl⟩ := Option.map_eq_some_iff.1 hx
    have hpm := List.mem_of_getElem? hp
    refine kat hM hA ?_
    obtain ⟨u, xs⟩ := p
    have hP2 : (Ty.enc eFv).Rd [] w0 (slv u) xs := hP _ hpm
    simp only at hx hA hpm ⊢
    obtain ⟨A2, c2, rfl⟩ := slv_formG hP2
    have h1 := fm_take ps (j + 1)
    rw [fm_step hp, List.length_append] at h1
    simp only at h1
    repeat (first | refine gfo ?_ | (refine ks ?_; intro w hM))
    refine c_cond rfl (fun h => by omega) (fun _ => ?_)
    repeat (first | refine gfo ?_ | (refine ks ?_; intro w hM))
    exact x_goes (n - 1) rfl (by omega) ⟨j + 1, exj (by rw [fm_step hp, List.length_append, Int.natCast_add]; rfl), by omega, hM⟩
  clear hM
  rintro l w ⟨⟨jj, rfl⟩, hM⟩
  repeat (first | refine gfo ?_ | (refine ks ?_; intro w hM))
  refine kcr hM (growF_any2 _ w h0 hn) (fun v24 w hM => ?_)
  repeat (first | refine gfo ?_ | (refine ks ?_; intro w hM))
  refine c_loop (fun n l w => ∃ (j : Nat) (v6 : Value), (∃ jj : Nat → Value, l = [.slice A ps.length c, jj 1, jj 2, jj 3, jj 4, jj 5, v6, jj 7, jj 8, jj 9, jj 10, jj 11, jj 12, jj 13, jj 14, jj 15, jj 16, jj 17, jj 18, jj 19, jj 20, jj 21, jj 22, jj 23, jj 24, .slice A ps.length c, .int .i64 (ps.length : Int), .int .i64 (j : Int), jj 28, jj 29, jj 30, jj 31, jj 32, jj 33, jj 34, jj 35]) ∧ n + j = ps.length ∧ Mem [] w0 w [.row eFv 74 v6 ((ps.take j).flatMap (·.2))]) ps.length
    ⟨0, v24, exj rfl, rfl, by simpa using hM⟩ ?_
  clear hM
  rintro n l w ⟨j, v6, ⟨jj, rfl⟩, hnj, hM⟩
  repeat (first | refine gfo ?_ | (refine ks ?_; intro w hM))
  refine c_cond rfl (fun hj => ?_) (fun hj => ?_)
  rotate_left
  · repeat (first | refine gfo ?_ | (refine ks ?_; intro w hM))
    rw [List.take_of_length_le (by omega)] at hM
    exact out1 rfl ⟨hM.ch, hM.row (by (repeat constructor))⟩
  repeat (first | refine gfo ?_ | (refine ks ?_; intro w hM))
  refine kix hR (fun b o x hx hA => ?_) (h1 := by rw [List.length_map]; omega) (hx := by rw [List.length_map]; rfl)
  rw [Int.toNat_natCast, List.getElem?_map] at hx
  obtain ⟨p, hp, rfl⟩ := Option.map_eq_some_iff.1 hx
  have hpm := List.mem_of_getElem? hp
  refine kat hM hA ?_
  have h1 := fm_take ps (j + 1)
  rw [fm_step hp, List.length_append] at h1
  repeat (first | refine gfo ?_ | (refine ks ?_; intro w hM))
  refine kap (en := eFv) (v := v6) (yv := slv p.1) (ys := p.2) hM ((hP _ hpm).ch hM.ch) (fun v33 w hM => ?_) (hb := by omega) (h63 := by omega)
  repeat (first | refine gfo ?_ | (refine ks ?_; intro w hM))
  rw [← fm_step hp] at hM
  exact x_goes (n - 1) rfl (by omega) ⟨j + 1, v33, exj rfl, by omega, hM.sub (by (repeat constructor))⟩
end Go.Proofs.YtkdbinchlpdkmaaDoor
set_option linter.unusedVariables false
set_option linter.unusedSimpArgs false
set_option maxRecDepth 4000
namespace Go.Proofs.YtkdbinchlpdkmaaDoor
open Go Go.RowKit Go.Proofs.E
attribute [local irreducible] Go.wpList Go.Code.wp Go.Proofs.E.exec Go.Proofs.E.wpLexG
theorem pathF_len : ∀ (f lo n i : Nat) (leaf : List UInt8) (p : List Hs), (pathF f lo n i leaf p).length = 2 * (waysF f lo n i).length + 1
  | 0, _, _, _, _, _ => rfl
  | f + 1, lo, n, i, leaf, p => by
    rw [pathF, waysF]
    split
    · rfl
    · split
      · rw [List.length_append, pathF_len, List.length_cons]
        rfl
      · rw [List.length_append, pathF_len, List.length_cons]
        rfl
theorem pathF_in : ∀ (f lo n i : Nat) (leaf : List UInt8) (p : List Hs), ∀ t ∈ pathF f lo n i leaf p, t.2.2.2.length ≤ leaf.length + 65
  | 0, _, _, _, leaf, _, t, ht => by
    simp only [pathF, List.mem_singleton] at ht
    subst ht
    simp [factL]
  | f + 1, lo, n, i, leaf, p, t, ht => by
    rw [pathF] at ht
    split at ht
    · simp only [List.mem_singleton] at ht
      subst ht
      simp [factL]
    · split at ht
      · rcases List.mem_append.1 ht with ht | ht
        · exact pathF_in f _ _ _ leaf _ t ht
        · simp only [List.mem_cons, List.not_mem_nil, or_false] at ht
          rcases ht with rfl | rfl
          · simp [factS]
          · generalize topF _ = h
            simp [factN, h.2, Subtype.property (p := fun a : List UInt8 => a.length = 32)]
      · rcases List.mem_append.1 ht with ht | ht
        · exact pathF_in f _ _ _ leaf _ t ht
        · simp only [List.mem_cons, List.not_mem_nil, or_false] at ht
          rcases ht with rfl | rfl
          · simp [factS]
          · generalize topF _ = h
            simp [factN, h.2, Subtype.property (p := fun a : List UInt8 => a.length = 32)]
theorem twoF_in (a : Hs) : ∀ (k : Nat) (lo m n : Nat) (p : List Hs) (whole : Bool) (s : Gs), p.length = k → twoF a lo m n p whole = some s → s.1.length ≤ 3 * p.length + 1 ∧ ∀ t ∈ s.1, t.2.2.2.length ≤ 65 := by
  intro k
  induction k with
  | zero =>
    intro lo m n p whole s hk h
    rw [twoF] at h
    by_cases hmn : m = n
    · rw [if_pos hmn] at h
      cases whole with
      | true =>
        rw [if_pos rfl, if_pos hk] at h
        injection h with h
        subst h
        simp [factS]
      | false =>
        rw [if_neg (by simp), if_neg (by omega)] at h
        cases h
    · rw [if_neg hmn, if_pos hk] at h
      cases h
  | succ k ih =>
    intro lo m n p whole s hk h
    rw [twoF] at h
    by_cases hmn : m = n
    · rw [if_pos hmn] at h
      cases whole with
      | true =>
        rw [if_pos rfl, if_neg (by omega)] at h
        cases h
      | false =>
        rw [if_neg (by simp)] at h
        by_cases hp : p.length = 1
        · rw [if_pos hp] at h
          injection h with h
          subst h
          simp [factS]
        · rw [if_neg hp] at h
          cases h
    · rw [if_neg hmn, if_neg (by omega)] at h
      have hl : (p.take (p.length - 1)).length = k := by rw [List.length_take]; omega
      by_cases hsp : m ≤ splitN n
      rw [if_pos hsp] at h
      rotate_left
      rw [if_neg hsp] at h
      rotate_left
      · obtain ⟨s2, h2, rfl⟩ := Option.map_eq_some_iff.1 h
        obtain ⟨i1, i2⟩ := ih _ _ _ _ _ _ hl h2
        refine ⟨by simp; omega, fun t ht => ?_⟩
        rcases List.mem_append.1 ht with ht | ht
        · exact i2 t ht
        · simp only [List.mem_cons, List.not_mem_nil, or_false] at ht
          rcases ht with rfl | rfl
          · simp [factS]
          · simp [factN, Subtype.property (p := fun a : List UInt8 => a.length = 32)]
      · obtain ⟨s2, h2, rfl⟩ := Option.map_eq_some_iff.1 h
        obtain ⟨i1, i2⟩ := ih _ _ _ _ _ _ hl h2
        refine ⟨by simp; omega, fun t ht => ?_⟩
        rcases List.mem_append.1 ht with ht | ht
        · exact i2 t ht
        · simp only [List.mem_cons, List.not_mem_nil, or_false] at ht
          rcases ht with rfl | rfl | rfl
          · simp [factS]
          · simp [factN, Subtype.property (p := fun a : List UInt8 => a.length = 32)]
          · simp [factN, Subtype.property (p := fun a : List UInt8 => a.length = 32)]
theorem pathG_in {n i : Int} {leaf : List UInt8} {path : List Hs} : ∀ t ∈ pathG n i leaf path, t.2.2.2.length ≤ leaf.length + 65 := fun t ht => by
  unfold pathG at ht
  split at ht
  · exact pathF_in _ _ _ _ _ _ t ht
  · cases ht
theorem pathG_len {n i : Int} {leaf : List UInt8} {path : List Hs} (h : (climbZ n i zeroH path).2 = true) : (pathG n i leaf path).length = 2 * path.length + 1 := by
  have hl := (climb_ok.1 h).2
  unfold pathG
  rw [if_pos h]
  unfold pathN
  rw [pathF_len, ways_turns, ← hl]
  rfl
theorem grownO_in {a : Hs} {m n : Int} {path : List Hs} {y : List Ft} (h : grownO a m n path = some y) : y.length ≤ 3 * path.length + 1 ∧ ∀ t ∈ y, t.2.2.2.length ≤ 65 := by
  unfold grownO at h
  split at h
  · obtain ⟨s, hs, rfl⟩ := Option.map_eq_some_iff.1 h
    exact twoF_in a _ _ _ _ _ _ _ rfl hs
  · cases h
def leavesF (m n i : Int) (la : List UInt8) (pa : List Hs) (lb : List UInt8) (pb g : List Hs) : Option (List UInt8 × List UInt8) :=
  if (climbZ m i zeroH pa).2 = true ∧ (climbZ n i zeroH pb).2 = true then
    (grownO (topF (pathG m i la pa)) m n g).bind fun y => meetF (pathG m i la pa ++ (y ++ pathG n i lb pb))
  else none
theorem ownF_plain {B : Nat → Prop} {v : Value} {fs : List (Fv × List UInt8)} : ∀ x ∈ ownF B v fs, x.plain := fun x hx => by
  simp only [List.mem_cons, List.not_mem_nil, or_false] at hx
  rcases hx with rfl | rfl <;> trivial
theorem inp_of {fs : List (Fv × List UInt8)} {w : World} (h : ∀ p ∈ fs.map inpF, tU8.Rd [] w (slv p.1) p.2) : ∀ f ∈ fs, tU8.Rd [] w (slv f.1.2.2.2) f.2 := fun f hf => h (inpF f) (List.mem_map.2 ⟨f, hf, rfl⟩)
theorem inl_of {fs : List (Fv × List UInt8)} {l : List Ft} {n : Nat} (h : fs.map dF = l) (hl : ∀ t ∈ l, t.2.2.2.length ≤ n) : ∀ f ∈ fs, f.2.length ≤ n := fun f hf => hl (dF f) (by rw [← h]; exact List.mem_map.2 ⟨f, hf, rfl⟩)
theorem meet_w0 {o : Option (List UInt8 × List UInt8)} {w0 w w' : World} {L : List As} {u : Value} (hM : Mem [] w0 w L) (h : MeetPost o w u w') : MeetPost o w0 u w' := by
  obtain ⟨a, b, hu, hN⟩ := h
  have hM2 := hM.join hN (by simp [As.plain])
  exact ⟨a, b, hu, hM2.sub (by (repeat (first | exact Go.Proofs.E.Sub.refl _ | exact Go.Proofs.E.Sub.nil | (apply Go.Proofs.E.Sub.cons; (repeat (first | exact Go.Proofs.E.Pick.here | apply Go.Proofs.E.Pick.there))) | apply Go.Proofs.E.Sub.tail)))⟩
set_option maxHeartbeats 16000000 in
theorem gleaves_any (m n i : Int) (ula upa ulb upb ug : SlV) (la : List UInt8) (pa : List Hs) (lb : List UInt8) (pb g : List Hs) (w0 : World) (hK : Laid w0) (hla : tU8.Rd [] w0 (slv ula) la) (hpa : (Ty.enc eH).Rd [] w0 (slv upa) pa) (hlb : tU8.Rd [] w0 (slv ulb) lb) (hpb : (Ty.enc eH).Rd [] w0 (slv upb) pb) (hg : (Ty.enc eH).Rd [] w0 (slv ug) g)
    (h1 : la.length ≤ 1000000) (h2 : pa.length ≤ 1000000) (h3 : lb.length ≤ 1000000) (h4 : pb.length ≤ 1000000) (h5 : g.length ≤ 1000000) :
    Calls Tryd.prog 34 #[.int .i64 m, .int .i64 n, .int .i64 i, .agg #[slv ula, slv upa], .agg #[slv ulb, slv upb], slv ug] w0 (Ret fun u w' => MeetPost (leavesF m n i la pa lb pb g) w0 u w') := by
  have hM := Mem.start w0
  refine enter [.int .i64 m, .int .i64 n, .int .i64 i, .agg #[slv ula, slv upa], .agg #[slv ulb, slv upb], slv ug, undef, undef, undef, undef, undef, undef, undef, undef, undef, undef, undef, undef, undef, undef, undef, undef, undef, undef, undef, undef, undef, undef, undef, undef, undef, undef, undef, undef, undef, undef, undef, undef, undef, undef, undef, undef, undef, undef, undef, undef, undef, undef, undef, undef, undef, undef, undef, undef, undef, undef, undef, undef, undef, undef, undef, undef, undef, undef, undef, undef, undef, undef, undef, undef, undef, undef] Tryd.func34 rfl rfl ?_
  repeat (first | refine gfo ?_ | (refine ks ?_; intro w hM))
  refine kbx (v := .agg #[slv ula, slv upa]) hM (fun w b9 hM => ?_)
  refine kbx (v := .agg #[slv ulb, slv upb]) hM (fun w b10 hM => ?_)
  have hM : Mem [] w0 w [.cell b10 [slv ulb, slv upb] 58, .cell b9 [slv ula, slv upa] 58] := hM
  repeat (first | refine gfo ?_ | (refine ks ?_; intro w hM))
  refine ca (gpath_any m i ula upa la pa _ (hK.ch hM.ch (by simp)) (hla.ch hM.ch) (hpa.ch hM.ch) (by omega) (by omega)) ?_
  rintro _ w2 ⟨vx, fx, Bx, rfl, hfx, hN⟩
  have hM := hM.join hN ownF_plain
  simp only [List.cons_append, List.nil_append] at hM
  repeat (first | refine gfo ?_ | (refine ks ?_; intro w hM))
  refine ca (gpath_any n i ulb upb lb pb _ (hK.ch hM.ch (by simp)) (hlb.ch hM.ch) (hpb.ch hM.ch) (by omega) (by omega)) ?_
  rintro _ w3 ⟨vz, fz, Bz, rfl, hfz, hN⟩
  have hM := hM.join hN ownF_plain
  simp only [List.cons_append, List.nil_append] at hM
  have hM : Mem [] w0 w3 [.row eFv 74 vz (fz.map (·.1)), .many tU8 Bz (fz.map inpF), .row eFv 74 vx (fx.map (·.1)), .many tU8 Bx (fx.map inpF)] := hM.sub (by (repeat constructor))
  have hno : ¬ ((climbZ m i zeroH pa).2 = true ∧ (climbZ n i zeroH pb).2 = true) → ∀ {w}, Mem [] w0 w [] → MeetPost (leavesF m n i la pa lb pb g) w0 (.tuple #[.slice none 0 0, .slice none 0 0, .bool false]) w := fun h {w} hM => by
    unfold leavesF MeetPost
    rw [if_neg h]
    exact ⟨_, _, rfl, (hM.nilRow eU8 5).nilRow eU8 5⟩
  cases hc1 : (climbZ m i zeroH pa).2 with
  | false =>
    repeat (first | refine gfo ?_ | (refine ks ?_; intro w hM))
    refine c_condb rfl (fun _ => ?_) (fun h => by cases h)
    repeat (first | refine gfo ?_ | (refine ks ?_; intro w hM))
    exact out3 rfl (hno (by rw [hc1]; simp) hM.nil)
  | true =>
  cases hc2 : (climbZ n i zeroH pb).2 with
  | false =>
    repeat (first | refine gfo ?_ | (refine ks ?_; intro w hM))
    refine c_condb rfl (fun _ => ?_) (fun h => by cases h)
    repeat (first | refine gfo ?_ | (refine ks ?_; intro w hM))
    exact out3 rfl (hno (by rw [hc2]; simp) hM.nil)
  | true =>
  clear hno
  have hxl : fx.length = 2 * pa.length + 1 := by rw [← pathG_len hc1 (leaf := la), ← hfx, List.length_map]
  have hzl : fz.length = 2 * pb.length + 1 := by rw [← pathG_len hc2 (leaf := lb), ← hfz, List.length_map]
  unfold leavesF
  rw [if_pos ⟨hc1, hc2⟩]
  have hix := inl_of hfx pathG_in
  have hiz := inl_of hfz pathG_in
  obtain ⟨rx, hrx⟩ : ∃ rs, rs = fx.map (·.1) := ⟨_, rfl⟩
  obtain ⟨rz, hrz⟩ : ∃ rs, rs = fz.map (·.1) := ⟨_, rfl⟩
  rw [← hrx, ← hrz] at hM
  have hrl : rx.length = fx.length := by rw [hrx, List.length_map]
  have hrlz : rz.length = fz.length := by rw [hrz, List.length_map]
  obtain ⟨A15, c15, rfl, _⟩ := (hM.row0 (v := vx) (xs := rx) (by (repeat constructor))).form
  obtain ⟨A17, c17, rfl, _⟩ := (hM.row0 (v := vz) (xs := rz) (by (repeat constructor))).form
  have hne : rx ≠ [] := by
    intro h
    rw [h] at hrl
    simp at hrl
    omega
  obtain ⟨x, hx1, hx2⟩ := last_at hne
  have htop : topF (pathG m i la pa) = x.2.2.1 := by
    rw [hrx, List.getLast?_map] at hx1
    obtain ⟨fl, hfl1, hfl2⟩ := Option.map_eq_some_iff.1 hx1
    rw [← hfx, topF_of hfl1, ← hfl2]
  rw [htop]
  repeat (first | refine gfo ?_ | (refine ks ?_; intro w hM))
  refine c_condb rfl (fun h => by cases h) (fun _ => ?_)
  repeat (first | refine gfo ?_ | (refine ks ?_; intro w hM))
  obtain ⟨b, o, hA1, hat⟩ := rd_at (hM.rowRdO (en := eFv) (v := .slice A15 rx.length c15) (xs := rx) (by (repeat constructor))) hne
  (try ((with_reducible apply is_gd); first | refine gt ?_ | refine gf ?_ | refine gu ?_)); refine wl_val (r_indexAddr (b := b) (o := o) (n := rx.length) (c := c15) (by rw [hA1]; rfl) rfl (by omega) (by omega)) ?_
  rw [show ((rx.length : Int) - 1).toNat = rx.length - 1 by omega]
  repeat (first | refine gfo ?_ | (refine ks ?_; intro w hM))
  refine wl_loade_row rfl (atHash (hat _ _ hx2)) rfl ?_
  obtain ⟨xh, hxh⟩ : ∃ h, h = x.2.2.1 := ⟨_, rfl⟩
  rw [← hxh]
  clear hat hA1
  repeat (first | refine gfo ?_ | (refine ks ?_; intro w hM))
  refine ca (ggrown_any xh m n ug g _ (hK.ch hM.ch (by simp)) (hg.ch hM.ch) (by omega)) ?_
  rintro _ w4 ⟨vy, fy, By, rfl, hfy, hN⟩
  have hM := hM.join hN ownF_plain
  simp only [List.cons_append, List.nil_append] at hM
  have hgi := fun y => grownO_in (a := xh) (m := m) (n := n) (path := g) (y := y)
  generalize grownO xh m n g = G at hfy hgi ⊢
  repeat (first | refine gfo ?_ | (refine ks ?_; intro w hM))
  cases G with
  | none =>
    refine c_condb rfl (fun _ => ?_) (fun h => by cases h)
    repeat (first | refine gfo ?_ | (refine ks ?_; intro w hM))
    refine out3 rfl ?_
    unfold MeetPost
    exact ⟨_, _, rfl, (hM.nil.nilRow eU8 5).nilRow eU8 5⟩
  | some y =>
  refine c_condb rfl (fun h => by cases h) (fun _ => ?_)
  obtain ⟨hg1, hg2⟩ := hgi y rfl
  have hfy : fy.map dF = y := hfy
  have hiy := inl_of hfy hg2
  have hyl : fy.length ≤ 3 * g.length + 1 := by rw [← hfy, List.length_map] at hg1; exact hg1
  obtain ⟨ry, hry⟩ : ∃ rs, rs = fy.map (·.1) := ⟨_, rfl⟩
  rw [← hry] at hM
  have hrly : ry.length = fy.length := by rw [hry, List.length_map]
  obtain ⟨A19, c19, rfl, _⟩ := (hM.row0 (v := vy) (xs := ry) (by (repeat constructor))).form
  have hall : rx ++ (ry ++ rz) = (fx ++ (fy ++ fz)).map (·.1) := by rw [hrx, hry, hrz, List.map_append, List.map_append]
  have hdf : (fx ++ (fy ++ fz)).map dF = pathG m i la pa ++ (y ++ pathG n i lb pb) := by rw [List.map_append, List.map_append, hfx, hfy, hfz]
  rw [Option.bind_some, ← hdf]
  have hfm : ∀ {w v L L2}, Mem [] w0 w L → Pick L (.row eFv 74 v (rx ++ (ry ++ rz))) L2 → (∃ L3, Pick L (.many tU8 Bx (fx.map inpF)) L3) → (∃ L3, Pick L (.many tU8 By (fy.map inpF)) L3) → (∃ L3, Pick L (.many tU8 Bz (fz.map inpF)) L3) → FactM w v (fx ++ (fy ++ fz)) := fun hM hp ⟨_, p1⟩ ⟨_, p2⟩ ⟨_, p3⟩ => by
    refine ⟨by rw [← hall]; exact hM.rowRdO hp, fun f hf => ?_, fun f hf => ?_⟩
    · rcases List.mem_append.1 hf with hf | hf
      · exact inp_of (hM.manyRd p1) f hf
      · rcases List.mem_append.1 hf with hf | hf
        · exact inp_of (hM.manyRd p2) f hf
        · exact inp_of (hM.manyRd p3) f hf
    · rcases List.mem_append.1 hf with hf | hf
      · have := hix f hf; omega
      · rcases List.mem_append.1 hf with hf | hf
        · have := hiy f hf; omega
        · have := hiz f hf; omega
  repeat (first | refine gfo ?_ | (refine ks ?_; intro w hM))
  refine kbs (en := eSl) (vs := [.slice A15 rx.length c15, .slice A19 ry.length c19, .slice A17 rz.length c17]) [(A15, rx.length, c15), (A19, ry.length, c19), (A17, rz.length, c17)] hM (fun w b66 hM => ?_)
  repeat (first | refine gfo ?_ | (refine ks ?_; intro w hM))
  have hps : ([((A15, rx.length, c15), rx), ((A19, ry.length, c19), ry), ((A17, rz.length, c17), rz)] : List (SlV × List Fv)).flatMap (·.2) = rx ++ (ry ++ rz) := by simp
  refine kcr hM (xs := rx ++ (ry ++ rz)) (by
    have := concatF_any (.slice (some ⟨b66, 0, none⟩) 3 3) [((A15, rx.length, c15), rx), ((A19, ry.length, c19), ry), ((A17, rz.length, c17), rz)] w (hM.rowRdO (en := eSl) (xs := [(A15, rx.length, c15), (A19, ry.length, c19), (A17, rz.length, c17)]) (by (repeat constructor))) (fun p hp => by
      simp only [List.mem_cons, List.not_mem_nil, or_false] at hp
      rcases hp with rfl | rfl | rfl
      · exact hM.rowRdO (en := eFv) (v := .slice A15 rx.length c15) (xs := rx) (by (repeat constructor))
      · exact hM.rowRdO (en := eFv) (v := .slice A19 ry.length c19) (xs := ry) (by (repeat constructor))
      · exact hM.rowRdO (en := eFv) (v := .slice A17 rz.length c17) (xs := rz) (by (repeat constructor))) (by rw [hps, List.length_append]; omega) (by rw [hps, List.length_append, List.length_append]; omega)
    rw [hps] at this
    exact this) (fun v67 w hM => ?_)
  repeat (first | refine gfo ?_ | (refine ks ?_; intro w hM))
  refine ca (gmeet_any v67 _ w (hfm hM (by (repeat constructor)) ⟨_, by (repeat constructor)⟩ ⟨_, by (repeat constructor)⟩ ⟨_, by (repeat constructor)⟩)) ?_
  rintro _ w5 hP
  have hP := meet_w0 hM hP
  obtain ⟨a, b, rfl, hN⟩ := id hP
  repeat (first | refine gfo ?_ | (refine ks ?_; intro w hM))
  exact out3 rfl hP
end Go.Proofs.YtkdbinchlpdkmaaDoor
set_option linter.unusedVariables false
set_option linter.unusedSimpArgs false
set_option maxRecDepth 4000
namespace Go.Proofs.YtkdbinchlpdkmaaDoor
open Go Go.RowKit Go.Proofs.E
attribute [local irreducible] Go.wpList Go.Code.wp Go.Proofs.E.exec Go.Proofs.E.wpLexG
theorem rleafF_any (v : Value) (bs : List UInt8) (w0 : World) (hR : tU8.Rd [] w0 v bs) (hb : bs.length ≤ 1000000000) : Calls Tryd.prog 14 #[v] w0 (Ret fun u w' => u = hv (inH (0 :: bs)).1 ∧ Ch [] w0 w') := by
  have hM := Mem.start w0
  obtain ⟨uv, rfl⟩ := hR.slv
  refine enter [slv uv, undef, undef, undef, undef, undef] Tryd.func14 rfl rfl ?_
  repeat (first | refine gw ?_ | (refine ks ?_; intro w hM))
  refine kal hM (fun w b2 hM => ?_)
  repeat (first | refine gw ?_ | (refine ks ?_; intro w hM))
  refine kbs (en := eSl) (vs := [slv uv]) [uv] hM (fun w b4 hM => ?_)
  have hRb : (Ty.sl tU8).Rd [] w _ ([(uv, bs)].map (fun p : SlV × List UInt8 => p.2)) := Ty.Rd.unraw (hM.rowRd (en := eSl) (xs := [uv]) (by (repeat constructor)) (by simp)) (fun p hp => by simp at hp; subst hp; exact hR.ch hM.ch)
  refine kca hM (rof_any 0 _ _ w hRb (by simp; omega)) (X := hv (inH (0 :: [bs].flatten)).1) (fun w hM => ?_)
  refine kstw (vs := (inH (0 :: [bs].flatten)).1.map u8v) hM (fun w hM => ?_) (hln := by rw [List.length_map, (inH _).2])
  rw [show [bs].flatten = bs by simp] at hM
  repeat (first | refine gw ?_ | (refine ks ?_; intro w hM))
  exact koc hM rfl ⟨rfl, hM.ch⟩ (hn := by rw [List.length_map, (inH _).2])
theorem climb_life : (climbZ 1 0 zeroH []).2 = true := climb_ok.2 ⟨by decide, by decide⟩
theorem path_life (x : List UInt8) : pathG 1 0 x [] = [factL 0 1 x] := by
  unfold pathG
  rw [if_pos climb_life]
  exact path_one (Nat.le_refl _)
theorem meet_same {l : List Ft} {x : List UInt8} (h : ∀ f ∈ l, inF f = [] ∨ inF f = x) : meetF l = none := meet_none fun i j hij ⟨a, b, ha, hb, hh⟩ => by
  obtain ⟨_, h2, h3, h4⟩ := hitF_iff.1 hh
  rcases h a (List.mem_of_getElem? ha) with e | e
  · exact h2 e
  · rcases h b (List.mem_of_getElem? hb) with e2 | e2
    · exact h3 e2
    · exact h4 (e.trans e2.symm)
theorem leaves_life (x : List UInt8) : leavesF 1 1 0 x [] x [] [] = none := by
  unfold leavesF
  rw [if_pos ⟨climb_life, climb_life⟩, path_life]
  unfold grownO
  rw [if_pos (by decide)]
  have e : ∀ h : Hs, twoF h 0 (Int.toNat 1) (Int.toNat 1) [] true = some ([factS 0 1 h], h, h) := fun h => by
    rw [twoF]
    rfl
  rw [e]
  refine meet_same (x := 0 :: x) fun f hf => ?_
  simp only [List.cons_append, List.nil_append, List.mem_cons, List.not_mem_nil, or_false] at hf
  rcases hf with rfl | rfl | rfl
  · exact .inr rfl
  · exact .inl rfl
  · exact .inr rfl
set_option maxHeartbeats 8000000 in
theorem lives30_any (w0 : World) (hK : Laid w0) : Calls Tryd.prog 25 #[] w0 (Ret fun u w' => u = .bool true ∧ Ch [] w0 w') := by
  have hM := Mem.start w0
  refine enter [undef, undef, undef, undef, undef, undef, undef, undef, undef, undef, undef, undef, undef, undef, undef, undef, undef, undef, undef, undef, undef, undef, undef, undef, undef, undef, undef, undef, undef, undef, undef, undef, undef, undef, undef, undef, undef, undef, undef, undef, undef, undef, undef] Tryd.func25 rfl rfl ?_
  repeat (first | refine gfo ?_ | (refine ks ?_; intro w hM))
  refine kbs (en := eU8) (vs := [.int .u8 97]) [97] hM (fun w b7 hM => ?_) (hxs := rfl)
  refine kc88 hM (fun w hc hM => ?_)
  repeat (first | refine gfo ?_ | (refine ks ?_; intro w hM))
  (try ((with_reducible apply is_gd); first | refine gt ?_ | refine gf ?_ | refine gu ?_)); refine wl_val (r_bldS (vs := [(0, .slice (some ⟨b7, 0, none⟩) 1 1)]) [.slice (some ⟨b7, 0, none⟩) 1 1, .slice none 0 0] (z := [.slice none 0 0, .slice none 0 0]) (place := (#[(0, 1), (1, 1)][·]?)) (by intro ps; kernel_rfl) rfl (.cons rfl rfl (by simp) (.nil rfl))) ?_
  refine kal hM (fun w b1 hM => ?_)
  refine kstw (vs := [.slice (some ⟨b7, 0, none⟩) 1 1, .slice none 0 0]) hM (fun w hM => ?_)
  repeat (first | refine gfo ?_ | (refine ks ?_; intro w hM))
  refine ca (gleaves_any 1 1 0 (some ⟨b7, 0, none⟩, 1, 1) (none, 0, 0) (some ⟨b7, 0, none⟩, 1, 1) (none, 0, 0) (none, 0, 0) [97] [] [97] [] [] w (hK.ch hM.ch (by simp)) (hM.frdRd (by (repeat constructor))) (Ty.Rd.nil _ _ _ _ _) (hM.frdRd (by (repeat constructor))) (Ty.Rd.nil _ _ _ _ _) (Ty.Rd.nil _ _ _ _ _) (by decide) (by decide) (by decide) (by decide) (by decide)) ?_
  rintro _ w2 hP
  rw [leaves_life] at hP
  obtain ⟨a, b, rfl, hN⟩ := hP
  have hM := hM.call hN.ch
  repeat (first | refine gfo ?_ | (refine ks ?_; intro w hM))
  refine kbs (en := eU8) (vs := [.int .u8 97]) [97] hM (fun w b18 hM => ?_) (hxs := rfl)
  refine kc88 hM (fun w hc hM => ?_)
  repeat (first | refine gfo ?_ | (refine ks ?_; intro w hM))
  refine ca (gpath_any 1 0 (some ⟨b18, 0, none⟩, 1, 1) (none, 0, 0) [97] [] w (hK.ch hM.ch (by simp)) (hM.frdRd (by (repeat constructor))) (Ty.Rd.nil _ _ _ _ _) (by decide) (by decide)) ?_
  rintro _ w2 ⟨v21, fs, B, rfl, hfs, hN⟩
  have hM := hM.join hN ownF_plain
  simp only [List.cons_append, List.nil_append] at hM
  rw [climb_life]
  rw [path_life] at hfs
  obtain ⟨f, rfl⟩ : ∃ f, fs = [f] := by
    cases fs with
    | nil => cases hfs
    | cons f fs =>
      cases fs with
      | nil => exact ⟨f, rfl⟩
      | cons g fs => simp at hfs
  have hf : f.1.2.2.1 = inH (0 :: [97]) := by
    have : dF f = factL 0 1 [97] := by simpa using hfs
    exact congrArg (fun t : Ft => t.2.2.1) this
  have hM : Mem [] w0 w2 [.row eFv 74 v21 [f.1]] := hM.sub (by (repeat constructor))
  obtain ⟨A21, c21, rfl, _⟩ := (hM.row0 (v := v21) (xs := [f.1]) (by (repeat constructor))).form
  repeat (first | refine gfob ?_ | (refine ks ?_; intro w hM))
  refine c_ordY ([], []) [] (by kernel_rfl) (by kernel_rfl) (by kernel_rfl) (fun w hc hs => ?_)
  have hM := hM.call hc
  obtain ⟨b, o, rfl, hat⟩ := rd_at (hM.rowRdO (en := eFv) (v := .slice A21 [f.1].length c21) (xs := [f.1]) (by (repeat constructor))) (by simp)
  have hath := atHash (hat 0 f.1 rfl)
  have hlt := hath.1
  rw [hs] at hlt
  (first | refine yn 0 rfl ?_ | refine ynt 0 rfl ?_ | refine ynff 0 rfl ?_); (first | refine yn 1 rfl ?_ | refine ynt 1 rfl ?_ | refine ynff 1 rfl ?_); (first | refine yn 2 rfl ?_ | refine ynt 2 rfl ?_ | refine ynff 2 rfl ?_); (first | refine yn 3 rfl ?_ | refine ynt 3 rfl ?_ | refine ynff 3 rfl ?_); (first | refine yn 4 rfl ?_ | refine ynt 4 rfl ?_ | refine ynff 4 rfl ?_); (first | refine yn 5 rfl ?_ | refine ynt 5 rfl ?_ | refine ynff 5 rfl ?_); (first | refine yn 6 rfl ?_ | refine ynt 6 rfl ?_ | refine ynff 6 rfl ?_); (first | refine yn 7 rfl ?_ | refine ynt 7 rfl ?_ | refine ynff 7 rfl ?_); (first | refine yn 8 rfl ?_ | refine ynt 8 rfl ?_ | refine ynff 8 rfl ?_); (first | refine yn 9 rfl ?_ | refine ynt 9 rfl ?_ | refine ynff 9 rfl ?_); (first | refine yn 10 rfl ?_ | refine ynt 10 rfl ?_ | refine ynff 10 rfl ?_); (first | refine yn 11 rfl ?_ | refine ynt 11 rfl ?_ | refine ynff 11 rfl ?_)
  refine ynvt 12 rfl (by kernel_rfl) (by kernel_rfl) rfl rfl (Nat.le_of_ble_eq_true rfl) rfl (fun w1 hG => r_indexAddr (b := b) (o := o) (n := [f.1].length) (c := c21) (i := 0) rfl rfl (by decide) (by simp)) rfl ?_
  (first | refine yn 13 rfl ?_ | refine ynt 13 rfl ?_ | refine ynff 13 rfl ?_)
  refine ynvt (v := hv f.1.2.2.1.1) 14 rfl (by kernel_rfl) (by kernel_rfl) rfl rfl (Nat.le_of_ble_eq_true rfl) rfl (fun w1 hG => by
    obtain ⟨hb, hS, cs, hR, hc⟩ := At.bw hath hG hlt
    have hR : cs = eH.f _ := hR
    subst hR
    exact r_load_row rfl hc (eH.hl _)) rfl ?_
  refine yk1 15 hM (by kernel_rfl) rfl (fun w h0 hM => ?_)
  refine gt ?_
  refine kbsN (en := eU8) (vs := [.int .u8 97]) [97] hM (fun w b38 hb38 hc hM => ?_) (hxs := rfl)
  have hb38 := Nat.le_trans h0 hb38
  refine x_wy (.inl (hc.gy h0)) rfl ?_
  refine yk1 16 hM (by kernel_rfl) rfl (fun w h0 hM => ?_)
  refine gt ?_
  refine kc88 hM (fun w hc hM => ?_)
  refine x_wy (.inl (hc.bwn h0 (.inl hb38))) rfl ?_
  refine yk1 17 hM (by kernel_rfl) rfl (fun w h0 hM => ?_)
  refine gt ?_
  refine ca (rleafF_any _ [97] w (hM.frdRd (by (repeat constructor))) (by decide)) ?_
  rintro _ w2 ⟨rfl, hc⟩
  have hM := hM.call hc
  refine x_wy (.inl (hc.gy h0)) rfl ?_
  rw [hf]
  generalize inH (0 :: [97]) = hh
  refine ynvt 18 rfl (by kernel_rfl) (by kernel_rfl) rfl rfl (Nat.le_of_ble_eq_true rfl) rfl (fun w1 hG => r_eq8s (n := 32) (a := hh.1) (by kernel_rfl) rfl rfl hh.2) rfl ?_
  (first | refine yn 19 rfl ?_ | refine ynt 19 rfl ?_ | refine ynff 19 rfl ?_); (first | refine yn 20 rfl ?_ | refine ynt 20 rfl ?_ | refine ynff 20 rfl ?_)
  refine wy_done (by kernel_rfl) (fun w hc => ?_)
  have hM := hM.call hc
  repeat (first | refine gfo ?_ | (refine ks ?_; intro w hM))
  exact out1 rfl ⟨rfl, hM.ch⟩
end Go.Proofs.YtkdbinchlpdkmaaDoor
set_option linter.unusedVariables false
set_option linter.unusedSimpArgs false
namespace Go.Proofs.YtkdbinchlpdkmaaDoor
open Go Go.RowKit Go.Proofs.E
/-- A fact with an input has its hash. -/
def SoundF (l : List Ft) : Prop := ∀ f ∈ l, inF f ≠ [] → f.2.2.1 = inH (inF f)
theorem sound_N (lo hi : Nat) (a b : Hs) : (factN lo hi a b).2.2.1 = inH (inF (factN lo hi a b)) := rfl
theorem sound_path : ∀ (f lo n i : Nat) (leaf : List UInt8) (p : List Hs), SoundF (pathF f lo n i leaf p)
  | 0, _, _, _, leaf, _, t, ht, _ => by
    simp only [pathF, List.mem_singleton] at ht
    subst ht
    rfl
  | f + 1, lo, n, i, leaf, p, t, ht, hne => by
    rw [pathF] at ht
    split at ht
    · simp only [List.mem_singleton] at ht
      subst ht
      rfl
    · split at ht
      · rcases List.mem_append.1 ht with ht | ht
        · exact sound_path f _ _ _ leaf _ t ht hne
        · simp only [List.mem_cons, List.not_mem_nil, or_false] at ht
          rcases ht with rfl | rfl
          · exact absurd rfl hne
          · exact sound_N _ _ _ _
      · rcases List.mem_append.1 ht with ht | ht
        · exact sound_path f _ _ _ leaf _ t ht hne
        · simp only [List.mem_cons, List.not_mem_nil, or_false] at ht
          rcases ht with rfl | rfl
          · exact absurd rfl hne
          · exact sound_N _ _ _ _
/-- The recursion of growth, opened once. -/
theorem twoF_base {a : Hs} {lo m : Nat} {p : List Hs} {whole : Bool} {s : Gs} (h : twoF a lo m m p whole = some s) : ∃ h : Hs, s = ([factS lo (lo + m) h], h, h) ∧ (whole = true → h = a ∧ p = []) := by
  rw [twoF, if_pos rfl] at h
  cases whole with
  | true =>
    rw [if_pos rfl] at h
    by_cases hp : p.length = 0
    · rw [if_pos hp] at h
      injection h with h
      exact ⟨a, h.symm, fun _ => ⟨rfl, List.eq_nil_of_length_eq_zero hp⟩⟩
    · rw [if_neg hp] at h
      cases h
  | false =>
    rw [if_neg (by simp)] at h
    by_cases hp : p.length = 1
    · rw [if_pos hp] at h
      injection h with h
      exact ⟨_, h.symm, fun h => by cases h⟩
    · rw [if_neg hp] at h
      cases h
theorem twoF_left {a : Hs} {lo m n : Nat} {p : List Hs} {whole : Bool} {s : Gs} (hmn : m ≠ n) (hs : m ≤ splitN n) (h : twoF a lo m n p whole = some s) :
    ∃ S1 S2 S3, p.length ≠ 0 ∧ twoF a lo m (splitN n) (p.take (p.length - 1)) whole = some (S1, S2, S3) ∧ s = (S1 ++ [factS (lo + splitN n) (lo + n) (p.getD (p.length - 1) zeroH), factN lo (lo + n) S3 (p.getD (p.length - 1) zeroH)], S2, nodeH S3 (p.getD (p.length - 1) zeroH)) := by
  rw [twoF, if_neg hmn] at h
  by_cases hp : p.length = 0
  · rw [if_pos hp] at h
    cases h
  · rw [if_neg hp, if_pos hs] at h
    obtain ⟨⟨S1, S2, S3⟩, h2, rfl⟩ := Option.map_eq_some_iff.1 h
    exact ⟨S1, S2, S3, hp, h2, rfl⟩
theorem twoF_right {a : Hs} {lo m n : Nat} {p : List Hs} {whole : Bool} {s : Gs} (hmn : m ≠ n) (hs : ¬ m ≤ splitN n) (h : twoF a lo m n p whole = some s) :
    ∃ S1 S2 S3, p.length ≠ 0 ∧ twoF a (lo + splitN n) (m - splitN n) (n - splitN n) (p.take (p.length - 1)) false = some (S1, S2, S3) ∧ s = (S1 ++ [factS lo (lo + splitN n) (p.getD (p.length - 1) zeroH), factN lo (lo + m) (p.getD (p.length - 1) zeroH) S2, factN lo (lo + n) (p.getD (p.length - 1) zeroH) S3], nodeH (p.getD (p.length - 1) zeroH) S2, nodeH (p.getD (p.length - 1) zeroH) S3) := by
  rw [twoF, if_neg hmn] at h
  by_cases hp : p.length = 0
  · rw [if_pos hp] at h
    cases h
  · rw [if_neg hp, if_neg hs] at h
    obtain ⟨⟨S1, S2, S3⟩, h2, rfl⟩ := Option.map_eq_some_iff.1 h
    exact ⟨S1, S2, S3, hp, h2, rfl⟩
theorem sound_two (a : Hs) : ∀ (k lo m n : Nat) (p : List Hs) (whole : Bool) (s : Gs), p.length = k → twoF a lo m n p whole = some s → SoundF s.1 := by
  intro k
  induction k with
  | zero =>
    intro lo m n p whole s hk h
    by_cases hmn : m = n
    · subst hmn
      obtain ⟨x, rfl, _⟩ := twoF_base h
      intro f hf hne
      simp only [List.mem_singleton] at hf
      subst hf
      exact absurd rfl hne
    · rw [twoF, if_neg hmn, if_pos hk] at h
      cases h
  | succ k ih =>
    intro lo m n p whole s hk h
    have hl : (p.take (p.length - 1)).length = k := by rw [List.length_take]; omega
    by_cases hmn : m = n
    · subst hmn
      obtain ⟨x, rfl, _⟩ := twoF_base h
      intro f hf hne
      simp only [List.mem_singleton] at hf
      subst hf
      exact absurd rfl hne
    · by_cases hs : m ≤ splitN n
      · obtain ⟨S1, S2, S3, _, h2, rfl⟩ := twoF_left hmn hs h
        have i1 := ih _ _ _ _ _ _ hl h2
        intro f hf hne
        rcases List.mem_append.1 hf with hf | hf
        · exact i1 f hf hne
        · simp only [List.mem_cons, List.not_mem_nil, or_false] at hf
          rcases hf with rfl | rfl
          · exact absurd rfl hne
          · exact sound_N _ _ _ _
      · obtain ⟨S1, S2, S3, _, h2, rfl⟩ := twoF_right hmn hs h
        have i1 := ih _ _ _ _ _ _ hl h2
        intro f hf hne
        rcases List.mem_append.1 hf with hf | hf
        · exact i1 f hf hne
        · simp only [List.mem_cons, List.not_mem_nil, or_false] at hf
          rcases hf with rfl | rfl | rfl
          · exact absurd rfl hne
          · exact sound_N _ _ _ _
          · exact sound_N _ _ _ _
theorem sound_pathG {n i : Int} {leaf : List UInt8} {path : List Hs} : SoundF (pathG n i leaf path) := fun f hf => by
  unfold pathG at hf
  split at hf
  · exact sound_path _ _ _ _ _ _ f hf
  · cases hf
theorem sound_grown {a : Hs} {m n : Int} {path : List Hs} {y : List Ft} (h : grownO a m n path = some y) : SoundF y := by
  unfold grownO at h
  split at h
  · obtain ⟨s, hs, rfl⟩ := Option.map_eq_some_iff.1 h
    exact sound_two a _ _ _ _ _ _ _ rfl hs
  · cases h
/-! ### Facts that agree -/
theorem in3b {X : List Ft} {a b c : Ft} : b ∈ X ++ [a, b, c] := by simp
theorem split_same {m n : Nat} (hb : n ≤ 9223372036854775807) (h1 : splitN n < m) (h2 : m ≤ n) (hn : 2 ≤ n) : splitN m = splitN n := by
  obtain ⟨j, e, h3, h4⟩ := splitN_spec hn hb
  rw [e] at h1 ⊢
  exact splitN_eq (by omega) h1 (by omega)
/-! ### What the law asks in the document's words -/
theorem climb_two {n i : Int} {a b : Hs} {path : List Hs} : (climbZ n i a path).2 = (climbZ n i b path).2 := by
  unfold climbZ
  split <;> rfl
end Go.Proofs.YtkdbinchlpdkmaaDoor
set_option linter.unusedVariables false
set_option linter.unusedSimpArgs false
set_option maxRecDepth 4000
namespace Go.Proofs.YtkdbinchlpdkmaaDoor
open Go Go.RowKit Go.Proofs.E
attribute [local irreducible] Go.wpList Go.Code.wp Go.Proofs.E.exec Go.Proofs.E.wpLexG
theorem pathG_le {n i : Int} {leaf : List UInt8} {path : List Hs} : (pathG n i leaf path).length ≤ 2 * path.length + 1 := by
  cases h : (climbZ n i zeroH path).2 with
  | true => exact Nat.le_of_eq (pathG_len h)
  | false =>
    unfold pathG
    rw [if_neg (by rw [h]; simp)]
    exact Nat.zero_le _
end Go.Proofs.YtkdbinchlpdkmaaDoor

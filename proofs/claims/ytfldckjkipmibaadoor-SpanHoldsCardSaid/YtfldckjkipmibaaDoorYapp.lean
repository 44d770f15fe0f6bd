/- Regions that draw their order: an append onto an empty literal beside another literal, guarded. -/
import Derived.Test.YtfldckjkipmibaaDoorY
import Derived.Test.YtfldckjkipmibaaDoorPeak
set_option linter.unusedVariables false
set_option linter.unusedSimpArgs false
namespace Go.Proofs.E
open Go Go.RowKit
theorem ev_set_ne {l : List Value} {d t : Nat} (u : Value) (h : t ≠ d) : ev (l.set d u) (.tmp t) = ev l (.tmp t) := by
  rw [← ev_tmp, ← ev_tmp]
  simp [Array.getD_eq_getD_getElem?, List.getElem?_set_ne (Ne.symm h)]
theorem ev_set_eq {l : List Value} {d : Nat} (u : Value) (h : d < l.length) : ev (l.set d u) (.tmp d) = u := by
  rw [← ev_tmp]
  simp [h]
section
variable {P : Program} {ops : Array Oper} {N : Nat} {S : List Nat} {Q : Exit → Act → World → Prop} {z : List Nat × List Nat} {fuel : Nat} {listed : Array Bool} {a : Act} {l l' : List Value} {w : World} {T : TypeId} {pos : String} {after : Array Edge}
theorem Ch.bwl {L : List Nat} {w w' : World} (h : Ch L w w') (hn : N ≤ w.heap.size) (hl : ∀ x ∈ L, N ≤ x) : Bw N S w w' :=
  ⟨h.os, h.tape, h.output, h.size, fun k hk _ => h.block k (Nat.lt_of_lt_of_le hk hn) fun hm => by have := hl k hm; omega⟩
/-- append([]T{}, y...) and the literal []T{x}, in any order. -/
theorem yappg {α : Type} {en : En α} {n by_ jg tg : Nat} {d1 d2 d3 ty tx : Nat} {t e : TypeId} {zv : Value} {T1 T2 T3 : TypeId} {pos1 pos2 pos3 : String} {after1 after2 after3 : Array Edge} {yv v3 : Value} {ys : List α} [hu : Und P t (.slice e)] [hi : Inf P e zv n by_] (k1 k2 k3 : Nat)
    (hr : Region.ready .any ops listed = [k1, k3]) (ho1 : ops[k1]? = some { dst := some d1, op := .buildSlice t 0 #[], type := T1, pos := pos1, after := after1, guard := some (jg, true) })
    (ho2 : ops[k2]? = some { dst := some d2, op := .call { callee := .builtin .append, args := #[.tmp d1, .tmp ty], argTypes := #[t, t] }, type := T2, pos := pos2, after := after2, guard := some (jg, true) })
    (ho3 : ops[k3]? = some { dst := some d3, op := .buildSlice t 1 #[(0, .tmp tx)], type := T3, pos := pos3, after := after3, guard := some (jg, true) })
    (hjg : (ops[jg]?).bind (·.dst) = some tg) (hgv : ev l (.tmp tg) = .bool true) (hgl : tg < l.length) (hgd : tg ≠ d1 ∧ tg ≠ d2 ∧ tg ≠ d3) (hd : d1 ≠ d2 ∧ d1 ≠ d3 ∧ d2 ≠ d3) (hlt : d1 < l.length) (hty : ty ≠ d1 ∧ ty ≠ d3) (htx : tx ≠ d1 ∧ tx ≠ d2) (hm : en.n = n) (hz : zv.cells.size = n) (hy : ev l (.tmp ty) = yv) (hR : (Ty.enc en).Rd [] w yv ys) (hx3 : ev l (.tmp tx) = v3) (hv3 : v3.cells.size = n) (hsm : n ≤ 16777216)
    (hb : ys.length * by_ ≤ 140737488355328) (h63 : ys.length ≤ 281474976710656) (hk : k1 ≠ k2 ∧ k1 ≠ k3 ∧ k2 ≠ k3)
    (hr1 : Region.ready .any ops (listed.setIfInBounds k1 true) = [k2, k3]) (hr3 : Region.ready .any ops (listed.setIfInBounds k3 true) = [k1]) (hr12 : Region.ready .any ops ((listed.setIfInBounds k1 true).setIfInBounds k2 true) = [k3]) (hr13 : Region.ready .any ops ((listed.setIfInBounds k1 true).setIfInBounds k3 true) = [k2])
    (h : ∀ w' v1 v2 bs, Ch [] w w' → Own en w' w.heap.size e v2 ys → Blk w' bs v3.cells.toList e → w.heap.size ≤ bs →
      WY P ops N S Q z fuel (((listed.setIfInBounds k1 true).setIfInBounds k2 true).setIfInBounds k3 true) (fr (((l.set d1 v1).set d2 v2).set d3 (.slice (some ⟨bs, 0, none⟩) 1 1))) w') : WY P ops N S Q z (fuel + 3) listed (fr l) w := fun h0 => by
  have hfl : [v3].flatMap (fun v => v.cells.toList) = v3.cells.toList := by simp
  have hev2 : ∀ u u', ev ((l.set d1 u).set d3 u') (.tmp d1) = u := fun u u' => by rw [ev_set_ne _ hd.2.1]; exact ev_set_eq u hlt
  have hevy : ∀ u u', ev ((l.set d1 u).set d3 u') (.tmp ty) = yv := fun u u' => by rw [ev_set_ne _ hty.2, ev_set_ne _ hty.1]; exact hy
  have g0 : ∀ u, ev (l.set d1 u) (.tmp tg) = .bool true := fun u => by rw [ev_set_ne _ hgd.1]; exact hgv
  have g3 : ∀ u, ev (l.set d3 u) (.tmp tg) = .bool true := fun u => by rw [ev_set_ne _ hgd.2.2]; exact hgv
  have g13 : ∀ u u', ev ((l.set d1 u).set d3 u') (.tmp tg) = .bool true := fun u u' => by rw [ev_set_ne _ hgd.2.2]; exact g0 u
  have g12 : ∀ u u', ev ((l.set d1 u).set d2 u') (.tmp tg) = .bool true := fun u u' => by rw [ev_set_ne _ hgd.2.1]; exact g0 u
  have g31 : ∀ u u', ev ((l.set d3 u).set d1 u') (.tmp tg) = .bool true := fun u u' => by rw [ev_set_ne _ hgd.1]; exact g3 u
  refine yn2 k1 k3 hr ho1 ho3 (fun w1 hc1 => wl_on hjg hgv hgl rfl <| wl_buildSlice (parts := []) (vs := []) rfl rfl (by simp) (by omega) (fun w2 ba hba => x_wy (.inl (hba.ch.gy (Nat.le_trans h0 hc1.size))) rfl ?_))
    (fun w1 hc1 => wl_on hjg hgv hgl rfl <| wl_buildSlice (parts := [(0, .tmp tx)]) (vs := [v3]) (by simp [hx3]) rfl (by simpa using hv3) (by omega) (fun w2 bs hbs => x_wy (.inl (hbs.ch.gy (Nat.le_trans h0 hc1.size))) rfl ?_)) h0
  · intro h0'
    have ea := hba.at_
    have z1 := hc1.size
    refine yn2 k2 k3 hr1 ho2 ho3 (fun w3 hc3 => ?_) (fun w3 hc3 => ?_) h0'
    · refine wl_on hjg (g0 _) (by simpa using hgl) rfl ?_
      refine wl_append_e (en := en) (base := w.heap.size) hm hz (ev_set_eq _ hlt) ((show Blk w2 ba [] e from hba.blk).ch hc3 (by simp)) (by omega) (by rw [ev_set_ne _ hty.1]; exact hy) (hR.ch ((hc1.then hba.ch).then hc3)) hb h63 (fun v2 w4 hO4 hc4 => ?_)
      refine x_wy (.inl (hc4.gy (Nat.le_trans h0' hc3.size))) rfl (fun h0'' => ?_)
      refine yn1 k3 hr12 ho3 (fun w5 hc5 => wl_on hjg (g12 _ _) (by simpa using hgl) rfl <| wl_buildSlice (parts := [(0, .tmp tx)]) (vs := [v3]) (by simp [ev_set_ne _ htx.1, ev_set_ne _ htx.2, hx3]) rfl (by simpa using hv3) (by omega) (fun w6 bs hbs => x_wy (.inl (hbs.ch.gy (Nat.le_trans h0'' hc5.size))) rfl ?_)) h0''
      have eb := hbs.at_
      have z3 := hc3.size
      have z4 := hc4.size
      have z5 := hc5.size
      have z2 := hba.ch.size
      exact h w6 _ v2 bs (((((hc1.then hba.ch).then hc3).then hc4).then hc5).then hbs.ch) ((hO4.ch hc5 (by simp)).ch hbs.ch (by simp)) (hfl ▸ hbs.blk) (by omega)
    · refine wl_on hjg (g0 _) (by simpa using hgl) rfl ?_
      refine wl_buildSlice (parts := [(0, .tmp tx)]) (vs := [v3]) (by simp [ev_set_ne _ htx.1, hx3]) rfl (by simpa using hv3) (by omega) (fun w4 bs hbs => x_wy (.inl (hbs.ch.gy (Nat.le_trans h0' hc3.size))) rfl (fun h0'' => ?_))
      refine yn1 k2 hr13 ho2 (fun w5 hc5 => ?_) h0''
      refine wl_on hjg (g13 _ _) (by simpa using hgl) rfl ?_
      refine wl_append_e (en := en) (base := w.heap.size) hm hz (hev2 _ _) ((((show Blk w2 ba [] e from hba.blk).ch hc3 (by simp)).ch hbs.ch (by simp)).ch hc5 (by simp)) (by omega) (hevy _ _) (hR.ch ((((hc1.then hba.ch).then hc3).then hbs.ch).then hc5)) hb h63 (fun v2 w6 hO6 hc6 => ?_)
      refine x_wy (.inl (hc6.gy (Nat.le_trans h0'' hc5.size))) rfl ?_
      have eb := hbs.at_
      have z3 := hc3.size
      have z2 := hba.ch.size
      rw [Array.setIfInBounds_comm _ _ (Ne.symm hk.2.2), List.set_comm _ _ (Ne.symm hd.2.2)]
      exact h w6 _ v2 bs (((((hc1.then hba.ch).then hc3).then hbs.ch).then hc5).then hc6) hO6 (((show Blk w4 bs v3.cells.toList e from hfl ▸ hbs.blk).ch hc5 (by simp)).ch hc6 (by simp)) (by omega)
  · intro h0'
    have eb := hbs.at_
    have z1 := hc1.size
    refine yn1 k1 hr3 ho1 (fun w3 hc3 => wl_on hjg (g3 _) (by simpa using hgl) rfl <| wl_buildSlice (parts := []) (vs := []) rfl rfl (by simp) (by omega) (fun w4 ba hba => x_wy (.inl (hba.ch.gy (Nat.le_trans h0' hc3.size))) rfl (fun h0'' => ?_))) h0'
    refine yn1 k2 (by rw [Array.setIfInBounds_comm _ _ (Ne.symm hk.2.1)]; exact hr13) ho2 (fun w5 hc5 => wl_on hjg (g31 _ _) (by simpa using hgl) rfl ?_) h0''
    have ea := hba.at_
    have z3 := hc3.size
    have zb := hbs.ch.size
    refine wl_append_e (en := en) (base := w.heap.size) hm hz (ev_set_eq _ (by simpa using hlt)) ((show Blk w4 ba [] e from hba.blk).ch hc5 (by simp)) (by omega) (by rw [ev_set_ne _ hty.1, ev_set_ne _ hty.2]; exact hy) (hR.ch ((((hc1.then hbs.ch).then hc3).then hba.ch).then hc5)) hb h63 (fun v2 w6 hO6 hc6 => ?_)
    refine x_wy (.inl (hc6.gy (Nat.le_trans h0'' hc5.size))) rfl ?_
    rw [Array.setIfInBounds_comm _ _ (Ne.symm hk.2.1), Array.setIfInBounds_comm _ _ (Ne.symm hk.2.2), List.set_comm _ _ (Ne.symm hd.2.1), List.set_comm _ _ (Ne.symm hd.2.2)]
    exact h w6 _ v2 bs (((((hc1.then hbs.ch).then hc3).then hba.ch).then hc5).then hc6) hO6 ((((show Blk w2 bs v3.cells.toList e from hfl ▸ hbs.blk).ch hc3 (by simp)).ch hba.ch (by simp)).ch (hc5.then hc6) (by simp)) (by omega)
/-- Guarded loads, cuts, calls. -/
theorem ynlrt {x : Operand} {E E' : TypeId} {b o d n by_ j tg : Nat} {cs ds : List Value} {zv : Value} [hr1 : Row P E] [hi : Inf P E zv n by_] (k : Nat) (ho : ops[k]? = some { dst := some d, op := .load E x, type := T, pos := pos, after := after, guard := some (j, true) }) (hB : Blk w b cs E') (hlt : b < N) (hS : b ∉ S) (hd : (cs.drop o).take n = ds) (hn : ds.length = n)
    (h : WY P ops N S Q z fuel (listed.setIfInBounds k true) (fr (l.set d (.agg ds.toArray))) w) (hx : ev l x = .pointer (some ⟨b, o, none⟩) := by exact rfl) (hj : (ops[j]?).bind (·.dst) = some tg := by exact rfl) (hv : ev l (.tmp tg) = .bool true := by exact rfl) (hlg : tg < l.length := by exact Nat.le_of_ble_eq_true rfl) (hr : (Region.ready .any ops listed).contains k = true := by kernel_rfl) (hf : Region.free .any ops listed k = true := by kernel_rfl) (hnf : k ∉ z.2 := by decide) : WY P ops N S Q z (fuel + 1) listed (fr l) w :=
  ynvt (hnf := hnf) k ho hr hf hj hv hlg rfl (fun w1 hG => r_load_row hx ((hB.bw hG hlt hS).row hd) hn) rfl h
theorem yncutt {α : Type} {ty : Ty α} {S' : List Nat} {wx : World} {d j tg : Nat} {x : Operand} {t e : TypeId} {zv : Value} {m by_ : Nat} [hu : Und P t (.slice e)] [hi : Inf P e zv m by_] {v : Value} {xs : List α} {y q : Operand} {k1 k2 : IntKind} {i i2 : Int} (k : Nat) (ho : ops[k]? = some { dst := some d, op := .slice t x (some y) (some q) none, type := T, pos := pos, after := after, guard := some (j, true) }) (hR : ty.Rd S' wx v xs)
    (h : ∀ v', ty.Rd S' wx v' ((xs.take i2.toNat).drop i.toNat) → WY P ops N S Q z fuel (listed.setIfInBounds k true) (fr (l.set d v')) w)
    (hx : ev l x = v := by exact rfl) (hm : ty.n = m := by exact rfl) (hy : ev l y = .int k1 i := by exact rfl) (hq : ev l q = .int k2 i2 := by exact rfl) (h0 : 0 ≤ i := by omega) (h2 : i ≤ i2 := by omega) (h1 : i2 ≤ xs.length := by omega)
    (hj : (ops[j]?).bind (·.dst) = some tg := by exact rfl) (hv : ev l (.tmp tg) = .bool true := by exact rfl) (hlg : tg < l.length := by exact Nat.le_of_ble_eq_true rfl) (hr : (Region.ready .any ops listed).contains k = true := by kernel_rfl) (hf : Region.free .any ops listed k = true := by kernel_rfl) : WY P ops N S Q z (fuel + 1) listed (fr l) w := by
  subst hm
  obtain ⟨A, c, rfl⟩ := hR.form
  have hc : xs.length ≤ c := by obtain ⟨_, _, _, hv, h, _⟩ := hR; injection hv; omega
  have := hR.cut (L := i.toNat) (H := i2.toNat) (M := c) (by omega) (by omega) (by omega)
  refine ynpt k ho hr hf hj hv hlg rfl (fun w1 => ?_) rfl (h _ this)
  simp [exec, execOp, hx, hy, hq, run_cut (hi := hi) (bnd_lh (b := true) (n := xs.length) h0 h2 (show i2 ≤ c by omega))]
theorem ynct {f : FuncId} {fn : Func} {args : List Operand} {tys : Array TypeId} {vs : List Value} {v : Value} {d : Option Nat} {j tg : Nat} (k : Nat) [hf : Fun P f fn] (ho : ops[k]? = some { dst := d, op := .call { callee := .value (.func f), args := args.toArray, argTypes := tys }, type := T, pos := pos, after := after, guard := some (j, true) })
    (hc : ∀ w1, Bw N S w w1 → Calls P f vs.toArray w1 (Ret fun u w2 => u = v ∧ Ch [] w1 w2)) (h : WY P ops N S Q z fuel (listed.setIfInBounds k true) (fr l') w)
    (ha : args.map (ev l) = vs := by first | (dsimp only [List.map, List.set, Go.Proofs.E.set1, Go.Proofs.E.ev, Go.Proofs.E.nth]; done) | exact rfl) (hl : set1 l d v = l' := by first | (dsimp only [List.set, Go.Proofs.E.set1, Go.Proofs.E.ev, Go.Proofs.E.nth]; done) | exact rfl)
    (hj : (ops[j]?).bind (·.dst) = some tg := by exact rfl) (hv : ev l (.tmp tg) = .bool true := by exact rfl) (hlg : tg < l.length := by exact Nat.le_of_ble_eq_true rfl) (hr : (Region.ready .any ops listed).contains k = true := by kernel_rfl) (hfr : Region.free .any ops listed k = true := by kernel_rfl) (hnf : k ∉ z.2 := by decide) : WY P ops N S Q z (fuel + 1) listed (fr l) w := by
  subst hl ha
  refine wy_first hnf ho hr hfr (fun h0 => .inl ⟨by simp [Region.wanted, yielded_fr hj hv hlg], fun w1 hG => ?_⟩) ?_ (v := v)
  · unfold Oper.quietAt
    rw [exec_eq, eval_fr, r_call]
    exact ⟨rfl, (hc w1 (hG h0)).mono fun e w2 ⟨u, h1, h2, h3⟩ => ⟨by rw [h1, h2], h3⟩⟩
  · show WY _ _ _ _ _ _ _ _ ((fr l).put d v) w
    rw [put_set1]
    exact h
end
end Go.Proofs.E

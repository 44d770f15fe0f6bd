/- Walks of growth: what a proof of growth says, the document's. -/
import Derived.Test.YtkdbinchlpdkmaaDoorQGro25
set_option linter.unusedVariables false
set_option linter.unusedSimpArgs false
set_option maxRecDepth 8000
namespace Go.Proofs.E
open Go Go.RowKit
theorem koc4 {P : Program} {l : List Value} {O : List Nat} {w0 w : World} {L L' L2 : List As} {fn : Func} {R : Value → World → Prop} {t s1 s2 q b1 b2 n by_ : Nat} {E E1 E2 : TypeId} {cs1 cs2 : List Value} {z : Value} [hr : Row P E] [hi : Inf P E z n by_] (hM : Mem O w0 w L) (hf : fn.results = #[.tmp t, .cell s1 E, .cell s2 E, .tmp q]) (h : R (.tuple #[ev l (.tmp t), .agg cs1.toArray, .agg cs2.toArray, ev l (.tmp q)]) w)
    (hx1 : ev l (.tmp s1) = .pointer (some ⟨b1, 0, none⟩) := by exact rfl) (hx2 : ev l (.tmp s2) = .pointer (some ⟨b2, 0, none⟩) := by exact rfl) (hp1 : Pick L (.cell b1 cs1 E1) L' := by (repeat (first | exact Go.Proofs.E.Pick.here | apply Go.Proofs.E.Pick.there))) (hp2 : Pick L (.cell b2 cs2 E2) L2 := by (repeat (first | exact Go.Proofs.E.Pick.here | apply Go.Proofs.E.Pick.there))) (hn1 : cs1.length = n := by (first | exact rfl | (simp; done) | (simp only [List.length_map]; exact Subtype.property (p := fun a : List UInt8 => a.length = 32) _))) (hn2 : cs2.length = n := by (first | exact rfl | (simp; done) | (simp only [List.length_map]; exact Subtype.property (p := fun a : List UInt8 => a.length = 32) _))) : bodyPost P fn (Ret R) .ret (fr l) w := by
  obtain ⟨d, h1, h2⟩ := hr.out
  refine ⟨rfl, .tuple #[ev l (.tmp t), .agg cs1.toArray, .agg cs2.toArray, ev l (.tmp q)], ?_, _, rfl, h⟩
  have e0 : l[t]?.getD undef = ev l (.tmp t) := by simpa [Array.getD_eq_getD_getElem?] using (ev_tmp l t)
  have e3 : l[q]?.getD undef = ev l (.tmp q) := by simpa [Array.getD_eq_getD_getElem?] using (ev_tmp l q)
  have e1 : l[s1]?.getD undef = .pointer (some ⟨b1, 0, none⟩) := by simpa [Array.getD_eq_getD_getElem?] using (ev_tmp l s1).trans hx1
  have e2 : l[s2]?.getD undef = .pointer (some ⟨b2, 0, none⟩) := by simpa [Array.getD_eq_getD_getElem?] using (ev_tmp l s2).trans hx2
  simp [results, hf, fr, e0, e1, e2, e3, asAddr, run_loadVar_mid w b1 0 E cs1 d ((hM.blk hp1).row (n := n) (by rw [List.drop_zero, List.take_of_length_le (by omega)])) h1 h2 (by rw [hn1]; exact info_size hi), run_loadVar_mid w b2 0 E cs2 d ((hM.blk hp2).row (n := n) (by rw [List.drop_zero, List.take_of_length_le (by omega)])) h1 h2 (by rw [hn2]; exact info_size hi)]
theorem Mem.ninR {O : List Nat} {w0 w : World} {L L' L'' : List As} {α : Type} {en : En α} {E F : TypeId} {v : Value} {xs : List α} {c : Nat} {ds : List Value} (h : Mem O w0 w L) (hp : Pick L (.row en E v xs) L') (hq : Pick L' (.cell c ds F) L'') : c ∉ v.ownBlock.toList := by
  have h1 := List.pairwise_cons.1 (h.pick hp).dis
  have h2 := h1.1 (.cell c ds F) (hq.perm.mem_iff.2 (by simp))
  intro hm
  exact h2 c (show v.ownBlock = some c by simpa using hm) rfl
section
variable {P : Program} {ops : Array Oper} {Q : Exit → Act → World → Prop} {rest : List Oper} {l : List Value} {O : List Nat} {w0 w : World} {L L' : List As} {T : TypeId} {pos : String} {after : Array Edge}
/-- append(v, ys...), with the block that may turn. -/
theorem kapB {α : Type} {en : En α} {n by_ : Nat} {d : Nat} {x y : Operand} {t e : TypeId} {zv : Value} [hu : Und P t (.slice e)] [hi : Inf P e zv n by_]
    {v yv : Value} {xs ys : List α} (hM : Mem O w0 w L) (hR : (Ty.enc en).Rd [] w yv ys)
    (h : ∀ v' w', Ch v.ownBlock.toList w w' → Mem O w0 w' (.row en e v' (xs ++ ys) :: L') → wpList P ops Q rest (fr (l.set d v')) w')
    (hx : ev l x = v := by exact rfl) (hp : Pick L (.row en e v xs) L' := by (repeat (first | exact Go.Proofs.E.Pick.here | apply Go.Proofs.E.Pick.there))) (hy : ev l y = yv := by exact rfl)
    (hm : en.n = n := by exact rfl) (hz : zv.cells.size = n := by exact rfl) (hn : 0 < n := by decide)
    (hb : (xs.length + ys.length) * by_ ≤ 140737488355328 := by omega) (h63 : xs.length + ys.length ≤ 281474976710656 := by omega) :
    wpList P ops Q ({ dst := some d, op := .call { callee := .builtin .append, args := #[x, y], argTypes := #[t, t] }, type := T, pos := pos, after := after, guard := none } :: rest) (fr l) w := by
  have hO := (hM.pick hp).head
  by_cases hne : ys = []
  · subst hne
    obtain ⟨A, c, rfl⟩ := hR.form
    refine wl_append0 hx hO hy (h v w (Ch.refl _ _) ?_)
    rw [List.append_nil]
    exact hM.pick hp
  · obtain ⟨b, o, cap, rfl, hb1, hS, hrow⟩ := rowE hR hne
    exact wl_append (en := en) hm hz hn hx hO (Nat.zero_le _) hy hrow hb h63 fun v' w' hO' hc hat => h v' w' (hc.mono (fun k _ hk => by simpa using hk)) ((hM.pick hp).put hc (fun k hk => show v.ownBlock = some k by simpa using hk) hO' (fun k hk => by
      rcases hat with e | e
      · exact .inl (e.symm.trans hk)
      · have : w.heap.size = k := Option.some.inj (e.symm.trans hk)
        exact .inr (this ▸ Nat.le_refl _)))
end
end Go.Proofs.E
namespace Go.Proofs.YtkdbinchlpdkmaaDoor
open Go Go.RowKit Go.Proofs.E
attribute [local irreducible] Go.wpList Go.Code.wp Go.Proofs.E.exec Go.Proofs.E.wpLexG
def TwoPost (T : Option Gs) (p : List Hs) (w0 : World) (u : Value) (w' : World) : Prop :=
  ∃ v fs B x y, u = .tuple #[v, .agg (x.1.map u8v).toArray, .agg (y.1.map u8v).toArray, .bool T.isSome] ∧ (∀ s, T = some s → s = (fs.map dF, x, y)) ∧ fs.length ≤ 3 * p.length + 1 ∧ Mem [] w0 w' (ownR B v fs)
set_option maxHeartbeats 64000000 in
theorem rtwoF_any : ∀ (f : Nat) (a : Hs) (lo m n : Nat) (up : SlV) (p : List Hs) (whole : Bool) (w0 : World), (Ty.enc eH).Rd [] w0 (slv up) p → p.length ≤ 1000000 → n ≤ f → 1 ≤ m → m ≤ n → lo + n ≤ 1099511627776 →
    Calls Tryd.prog 76 #[hv a.1, .int .i64 (lo : Int), .int .i64 (m : Int), .int .i64 ((lo + n : Nat) : Int), slv up, .bool whole] w0 (Ret fun u w' => TwoPost (twoF a lo m n p whole) p w0 u w') := by
  intro f
  induction f with
  | zero =>
    intro a lo m n up p whole w0 _ _ hf h1 h2 _
    omega
  | succ f ih =>
    intro a lo m n up p whole w0 hRp hpb hf h1m hmn hb
    have hM := Mem.start w0
    obtain ⟨Ap, cp, rfl⟩ : ∃ A c, up = (A, p.length, c) := by
      obtain ⟨A, c, h⟩ := hRp.form
      obtain ⟨x, y, z⟩ := up
      have h : Value.slice x y z = .slice A p.length c := h
      injection h with h1 h2 h3
      exact ⟨A, c, by rw [h1, h2, h3]⟩
    obtain ⟨T, hT⟩ : ∃ T, twoF a lo m n p whole = T := ⟨_, rfl⟩
    rw [hT]
    rw [twoF] at hT
    have hnone : T = none → ∀ {w}, Mem [] w0 w [] → TwoPost T p w0 (.tuple #[.slice none 0 0, .agg (zeroH.1.map u8v).toArray, .agg (zeroH.1.map u8v).toArray, .bool false]) w := fun h {w} hM => by
      subst h
      exact ⟨_, [], _, zeroH, zeroH, rfl, (fun s h => nomatch h), Nat.zero_le _, (hM.many0 tU8).nilRow eFv 146⟩
    refine enterM [hv a.1, .int .i64 (lo : Int), .int .i64 (m : Int), .int .i64 ((lo + n : Nat) : Int), slv (Ap, p.length, cp), .bool whole, undef, undef, undef, undef, undef, undef, undef, undef, undef, undef, undef, undef, undef, undef, undef, undef, undef, undef, undef, undef, undef, undef, undef, undef, undef, undef, undef, undef, undef, undef, undef, undef, undef, undef, undef, undef, undef, undef, undef, undef, undef, undef, undef, undef, undef, undef, undef, undef, undef, undef, undef, undef, undef, undef, undef, undef, undef, undef, undef, undef, undef, undef, undef, undef, undef, undef, undef, undef, undef, undef, undef, undef, undef, undef, undef, undef, undef, undef, undef, undef, undef, undef, undef, undef, undef, undef, undef, undef, undef, undef, undef, undef, undef, undef, undef, undef, undef, undef, undef, undef, undef, undef, undef, undef, undef, undef, undef, undef, undef, undef, undef, undef, undef, undef, undef, undef, undef, undef, undef, undef, undef, undef, undef, undef, undef, undef, undef, undef, undef, undef, undef, undef, undef, undef, undef, undef, undef, undef, undef, undef, undef, undef, undef, undef, undef, undef, undef, undef, undef, undef, undef, undef, undef, undef, undef, undef, undef, undef, undef, undef, undef, undef, undef] Tryd.func76 rfl rfl ?_
    repeat (first | refine gfo ?_ | (refine ks ?_; intro w hM))
    refine kbx (v := hv a.1) hM (fun w b6 hM => ?_)
    repeat (first | refine gfo ?_ | (refine ks ?_; intro w hM))
    refine kal hM (fun w b13 hM => ?_)
    rw [zero_cells] at hM
    refine kal hM (fun w b14 hM => ?_)
    rw [zero_cells] at hM
    repeat (first | refine gfo ?_ | (refine ks ?_; intro w hM))
    (try ((with_reducible apply is_gd); first | refine gt ?_ | refine gf ?_ | refine gu ?_)); refine wl_val (r_build_arr0 (e := 5)) ?_
    refine kal hM (fun w b16 hM => ?_)
    rw [zero_cells] at hM
    refine kstw (vs := zeroH.1.map u8v) hM (fun w hM => ?_)
    have hM : Mem [] w0 w [.cell b16 (zeroH.1.map u8v) 30, .cell b14 (zeroH.1.map u8v) 30, .cell b13 (zeroH.1.map u8v) 30, .cell b6 (a.1.map u8v) 30] := hM
    repeat (first | refine gfo ?_ | (refine ks ?_; intro w hM))
    by_cases hmn2 : m = n
    · subst hmn2
      rw [if_pos rfl] at hT
      rw [decide_eq_true (by omega : (lo : Int) + (m : Int) = ((lo + m : Nat) : Int))]
      refine c_condb rfl (fun _ => ?_) (fun h => by cases h)
      repeat (first | refine gfo ?_ | (refine ks ?_; intro w hM))
      cases whole with
      | true =>
        rw [if_pos rfl] at hT
        refine c_condb rfl (fun _ => ?_) (fun h => by cases h)
        repeat (first | refine gfob ?_ | (refine ks ?_; intro w hM))
        refine c_ordY ([], []) [b13, b14] (by kernel_rfl) (by kernel_rfl) (by kernel_rfl) (fun w hc hs => ?_)
        have hM := hM.call hc
        have hl6 := Blk.lt (hM.blk (b := b6) (by (repeat constructor)))
        (first | refine yn 0 rfl ?_ | refine ynt 0 rfl ?_ | refine ynff 0 rfl ?_); (first | refine yn 1 rfl ?_ | refine ynt 1 rfl ?_ | refine ynff 1 rfl ?_)
        refine ynlr 2 rfl (hM.blk (b := b6) (by (repeat constructor))) (by omega) (by have h1 := hM.nin (b := b13) (c := b6) (by (repeat constructor)) (by (repeat constructor)); have h2 := hM.nin (b := b14) (c := b6) (by (repeat constructor)) (by (repeat constructor)); simp only [List.mem_singleton] at h1 h2; simp; omega) rfl (ds := a.1.map u8v) (by rw [List.drop_zero]; exact List.take_of_length_le (by rw [hf_len]; omega)) (hf_len a) ?_
        refine ynp (v := .agg (eFv.f ((lo : Int), ((lo + m : Nat) : Int), a, (none, 0, 0))).toArray) 3 rfl (by kernel_rfl) (by kernel_rfl) (fun _ => r_bldS (vs := [(0, .int .i64 (lo : Int)), (1, .int .i64 ((lo + m : Nat) : Int)), (2, hv a.1)]) (eFv.f ((lo : Int), ((lo + m : Nat) : Int), a, (none, 0, 0))) (z := (fC 0 0 zeroH (.slice none 0 0))) (place := plF) (by intro ps; kernel_rfl) rfl (fl3 _ _ _)) rfl ?_
        refine ynlr 5 rfl (hM.blk (b := b6) (by (repeat constructor))) (by omega) (by have h1 := hM.nin (b := b13) (c := b6) (by (repeat constructor)) (by (repeat constructor)); have h2 := hM.nin (b := b14) (c := b6) (by (repeat constructor)) (by (repeat constructor)); simp only [List.mem_singleton] at h1 h2; simp; omega) rfl (ds := a.1.map u8v) (by rw [List.drop_zero]; exact List.take_of_length_le (by rw [hf_len]; omega)) (hf_len a) ?_
        refine ynlr 6 rfl (hM.blk (b := b6) (by (repeat constructor))) (by omega) (by have h1 := hM.nin (b := b13) (c := b6) (by (repeat constructor)) (by (repeat constructor)); have h2 := hM.nin (b := b14) (c := b6) (by (repeat constructor)) (by (repeat constructor)); simp only [List.mem_singleton] at h1 h2; simp; omega) rfl (ds := a.1.map u8v) (by rw [List.drop_zero]; exact List.take_of_length_le (by rw [hf_len]; omega)) (hf_len a) ?_
        (first | refine yn 7 rfl ?_ | refine ynt 7 rfl ?_ | refine ynff 7 rfl ?_); (first | refine yn 8 rfl ?_ | refine ynt 8 rfl ?_ | refine ynff 8 rfl ?_); (first | refine yn 9 rfl ?_ | refine ynt 9 rfl ?_ | refine ynff 9 rfl ?_)
        refine yk1 4 hM (by kernel_rfl) rfl (fun w h0 hM => ?_)
        refine kbsC (en := eFv) (vs := [.agg (eFv.f ((lo : Int), ((lo + m : Nat) : Int), a, (none, 0, 0))).toArray]) [((lo : Int), ((lo + m : Nat) : Int), a, (none, 0, 0))] hM (fun w b42 hc hM => ?_) (hxs := by simp [Value.cells]) (hm := by intro v hv; simp only [List.mem_singleton] at hv; subst hv; exact hf_clen _ _ _ _)
        refine x_wy (.inl (hc.gy h0)) rfl ?_
        (first | refine yn 10 rfl ?_ | refine ynt 10 rfl ?_ | refine ynff 10 rfl ?_)
        refine yk1 11 hM (by kernel_rfl) rfl (fun w h0 hM => ?_)
        refine kstwF (b := b13) (vs := a.1.map u8v) hM (fun w hc hM => ?_)
        refine x_wy (.inl (hc.bwn h0 (.inr (by simp)))) rfl ?_
        refine yk1 12 hM (by kernel_rfl) rfl (fun w h0 hM => ?_)
        refine kstwF (b := b14) (vs := a.1.map u8v) hM (fun w hc hM => ?_)
        refine x_wy (.inl (hc.bwn h0 (.inr (by simp)))) rfl ?_
        (first | refine yn 13 rfl ?_ | refine ynt 13 rfl ?_ | refine ynff 13 rfl ?_)
        refine wy_done (by kernel_rfl) (fun w hc => ?_)
        have hM := hM.call hc
        repeat (first | refine gfo ?_ | (refine ks ?_; intro w hM))
        have hM := (hM.frd0 tU8 none 0)
        have hM := ((hM.many0 tU8)).manyPut (u := (none, 0, 0))
        refine post0 (koc4 hM rfl ⟨_, [(((lo : Int), ((lo + m : Nat) : Int), a, (none, 0, 0)), [])], _, a, a, ?_, fun s hs => ?_, by simp, hM.sub (M := ownR _ _ _) (by (repeat constructor))⟩ (hn1 := hf_len _) (hn2 := hf_len _))
        · rw [← hT]
          by_cases hp0 : p.length = 0
          · rw [if_pos hp0, hp0]
            rfl
          · rw [if_neg hp0]
            exact congrArg (fun b => Value.tuple #[_, _, _, Value.bool b]) (decide_eq_false (by omega))
        · rw [← hT] at hs
          split at hs
          · injection hs with hs
            rw [← hs]
            rfl
          · cases hs
      | false =>
        rw [if_neg (by simp)] at hT
        refine c_condb rfl (fun h => by cases h) (fun _ => ?_)
        repeat (first | refine gfo ?_ | (refine ks ?_; intro w hM))
        by_cases hp1 : ¬ p.length = 1
        · rw [decide_eq_true (by omega : (p.length : Int) ≠ 1)]
          refine c_condb rfl (fun _ => ?_) (fun h => by cases h)
          rw [if_neg hp1] at hT
          repeat (first | refine gfob ?_ | (refine ks ?_; intro w hM))
          refine c_ordY ([], []) [b13, b14] (by kernel_rfl) (by kernel_rfl) (by kernel_rfl) (fun w hc hs => ?_)
          have hM := hM.call hc
          have hl16 := Blk.lt (hM.blk (b := b16) (by (repeat constructor)))
          refine ynlr 0 rfl (hM.blk (b := b16) (by (repeat constructor))) (by omega) (by have h1 := hM.nin (b := b13) (c := b16) (by (repeat constructor)) (by (repeat constructor)); have h2 := hM.nin (b := b14) (c := b16) (by (repeat constructor)) (by (repeat constructor)); simp only [List.mem_singleton] at h1 h2; simp; omega) rfl (ds := zeroH.1.map u8v) (by rw [List.drop_zero]; exact List.take_of_length_le (by rw [hf_len]; omega)) (hf_len zeroH) ?_
          refine ynlr 1 rfl (hM.blk (b := b16) (by (repeat constructor))) (by omega) (by have h1 := hM.nin (b := b13) (c := b16) (by (repeat constructor)) (by (repeat constructor)); have h2 := hM.nin (b := b14) (c := b16) (by (repeat constructor)) (by (repeat constructor)); simp only [List.mem_singleton] at h1 h2; simp; omega) rfl (ds := zeroH.1.map u8v) (by rw [List.drop_zero]; exact List.take_of_length_le (by rw [hf_len]; omega)) (hf_len zeroH) ?_
          (first | refine yn 2 rfl ?_ | refine ynt 2 rfl ?_ | refine ynff 2 rfl ?_)
          refine yk1 3 hM (by kernel_rfl) rfl (fun w h0 hM => ?_)
          refine kstwF (b := b13) (vs := zeroH.1.map u8v) hM (fun w hc hM => ?_)
          refine x_wy (.inl (hc.bwn h0 (.inr (by simp)))) rfl ?_
          refine yk1 4 hM (by kernel_rfl) rfl (fun w h0 hM => ?_)
          refine kstwF (b := b14) (vs := zeroH.1.map u8v) hM (fun w hc hM => ?_)
          refine x_wy (.inl (hc.bwn h0 (.inr (by simp)))) rfl ?_
          (first | refine yn 5 rfl ?_ | refine ynt 5 rfl ?_ | refine ynff 5 rfl ?_)
          refine wy_done (by kernel_rfl) (fun w hc => ?_)
          have hM := hM.call hc
          repeat (first | refine gfo ?_ | (refine ks ?_; intro w hM))
          exact post0 (koc4 hM rfl (hnone hT.symm hM.nil) (hn1 := hf_len _) (hn2 := hf_len _))
        have hp1 : p.length = 1 := Classical.byContradiction hp1
        rw [decide_eq_false (by omega : ¬ (p.length : Int) ≠ 1)]
        refine c_condb rfl (fun h => by cases h) (fun _ => ?_)
        rw [if_pos hp1] at hT
        have hpj : p[0]? = some (p.getD 0 zeroH) := by rw [List.getD_eq_getElem?_getD, List.getElem?_eq_getElem (by omega : 0 < p.length)]; rfl
        generalize p.getD 0 zeroH = pj at hpj hT
        repeat (first | refine gfob ?_ | (refine ks ?_; intro w hM))
        refine c_ordY ([], []) [b13, b14] (by kernel_rfl) (by kernel_rfl) (by kernel_rfl) (fun w hc hs => ?_)
        have hM := hM.call hc
        (first | refine yn 0 rfl ?_ | refine ynt 0 rfl ?_ | refine ynff 0 rfl ?_); (first | refine yn 1 rfl ?_ | refine ynt 1 rfl ?_ | refine ynff 1 rfl ?_); (first | refine yn 2 rfl ?_ | refine ynt 2 rfl ?_ | refine ynff 2 rfl ?_)
        refine kynx 3 rfl hRp rfl rfl rfl (by omega) (by simp; omega) (fun bp4 op4 p4 hp4 hA4 => ?_)
        obtain rfl : pj = p4 := by
          have h : p[0]? = some p4 := hp4
          rw [hpj] at h
          exact Option.some.inj h
        refine ynar (en := eH) 4 rfl (hA4.mv (hM.ch.some (S := [b13, b14])) (fun k hk hm => by
          have h1 := hM.ge (b := b13) (by (repeat constructor))
          have h2 := hM.ge (b := b14) (by (repeat constructor))
          simp only [List.mem_cons, List.not_mem_nil, or_false] at hm
          omega)) (by have := hA4.1; have := hM.ch.size; omega) rfl rfl ?_
        refine ynp (v := .agg (eFv.f ((lo : Int), ((lo + m : Nat) : Int), pj, (none, 0, 0))).toArray) 5 rfl (by kernel_rfl) (by kernel_rfl) (fun _ => r_bldS (vs := [(0, .int .i64 (lo : Int)), (1, .int .i64 ((lo + m : Nat) : Int)), (2, hv pj.1)]) (eFv.f ((lo : Int), ((lo + m : Nat) : Int), pj, (none, 0, 0))) (z := (fC 0 0 zeroH (.slice none 0 0))) (place := plF) (by intro ps; kernel_rfl) rfl (fl3 _ _ _)) rfl ?_
        (first | refine yn 7 rfl ?_ | refine ynt 7 rfl ?_ | refine ynff 7 rfl ?_)
        refine kynx 8 rfl hRp rfl rfl rfl (by omega) (by simp; omega) (fun bp9 op9 p9 hp9 hA9 => ?_)
        obtain rfl : pj = p9 := by
          have h : p[0]? = some p9 := hp9
          rw [hpj] at h
          exact Option.some.inj h
        refine ynar (en := eH) 9 rfl (hA9.mv (hM.ch.some (S := [b13, b14])) (fun k hk hm => by
          have h1 := hM.ge (b := b13) (by (repeat constructor))
          have h2 := hM.ge (b := b14) (by (repeat constructor))
          simp only [List.mem_cons, List.not_mem_nil, or_false] at hm
          omega)) (by have := hA9.1; have := hM.ch.size; omega) rfl rfl ?_
        (first | refine yn 10 rfl ?_ | refine ynt 10 rfl ?_ | refine ynff 10 rfl ?_)
        refine kynx 11 rfl hRp rfl rfl rfl (by omega) (by simp; omega) (fun bp12 op12 p12 hp12 hA12 => ?_)
        obtain rfl : pj = p12 := by
          have h : p[0]? = some p12 := hp12
          rw [hpj] at h
          exact Option.some.inj h
        refine ynar (en := eH) 12 rfl (hA12.mv (hM.ch.some (S := [b13, b14])) (fun k hk hm => by
          have h1 := hM.ge (b := b13) (by (repeat constructor))
          have h2 := hM.ge (b := b14) (by (repeat constructor))
          simp only [List.mem_cons, List.not_mem_nil, or_false] at hm
          omega)) (by have := hA12.1; have := hM.ch.size; omega) rfl rfl ?_
        refine yk1 6 hM (by kernel_rfl) rfl (fun w h0 hM => ?_)
        refine kbsC (en := eFv) (vs := [.agg (eFv.f ((lo : Int), ((lo + m : Nat) : Int), pj, (none, 0, 0))).toArray]) [((lo : Int), ((lo + m : Nat) : Int), pj, (none, 0, 0))] hM (fun w b42 hc hM => ?_) (hxs := by simp [Value.cells]) (hm := by intro v hv; simp only [List.mem_singleton] at hv; subst hv; exact hf_clen _ _ _ _)
        refine x_wy (.inl (hc.gy h0)) rfl ?_
        (first | refine yn 13 rfl ?_ | refine ynt 13 rfl ?_ | refine ynff 13 rfl ?_)
        refine yk1 14 hM (by kernel_rfl) rfl (fun w h0 hM => ?_)
        refine kstwF (b := b13) (vs := pj.1.map u8v) hM (fun w hc hM => ?_)
        refine x_wy (.inl (hc.bwn h0 (.inr (by simp)))) rfl ?_
        refine yk1 15 hM (by kernel_rfl) rfl (fun w h0 hM => ?_)
        refine kstwF (b := b14) (vs := pj.1.map u8v) hM (fun w hc hM => ?_)
        refine x_wy (.inl (hc.bwn h0 (.inr (by simp)))) rfl ?_
        (first | refine yn 16 rfl ?_ | refine ynt 16 rfl ?_ | refine ynff 16 rfl ?_)
        refine wy_done (by kernel_rfl) (fun w hc => ?_)
        have hM := hM.call hc
        repeat (first | refine gfo ?_ | (refine ks ?_; intro w hM))
        have hM := (hM.frd0 tU8 none 0)
        have hM := ((hM.many0 tU8)).manyPut (u := (none, 0, 0))
        refine post0 (koc4 hM rfl ⟨_, [(((lo : Int), ((lo + m : Nat) : Int), pj, (none, 0, 0)), [])], _, pj, pj, ?_, fun s hs => ?_, by simp, hM.sub (M := ownR _ _ _) (by (repeat constructor))⟩ (hn1 := hf_len _) (hn2 := hf_len _))
        · rw [← hT]
          rfl
        · rw [← hT] at hs
          injection hs with hs
          rw [← hs]
          rfl
    have hlt : m < n := by omega
    rw [if_neg hmn2] at hT
    rw [decide_eq_false (by omega : ¬ (lo : Int) + (m : Int) = ((lo + n : Nat) : Int))]
    refine c_condb rfl (fun h => by cases h) (fun _ => ?_)
    repeat (first | refine gfo ?_ | (refine ks ?_; intro w hM))
    by_cases hp0 : p.length = 0
    · rw [if_pos hp0] at hT
      rw [decide_eq_true (by omega : (p.length : Int) = 0)]
      refine c_condb rfl (fun _ => ?_) (fun h => by cases h)
      repeat (first | refine gfob ?_ | (refine ks ?_; intro w hM))
      refine c_ordY ([], []) [b13, b14] (by kernel_rfl) (by kernel_rfl) (by kernel_rfl) (fun w hc hs => ?_)
      have hM := hM.call hc
      have hl16 := Blk.lt (hM.blk (b := b16) (by (repeat constructor)))
      refine ynlr 0 rfl (hM.blk (b := b16) (by (repeat constructor))) (by omega) (by have h1 := hM.nin (b := b13) (c := b16) (by (repeat constructor)) (by (repeat constructor)); have h2 := hM.nin (b := b14) (c := b16) (by (repeat constructor)) (by (repeat constructor)); simp only [List.mem_singleton] at h1 h2; simp; omega) rfl (ds := zeroH.1.map u8v) (by rw [List.drop_zero]; exact List.take_of_length_le (by rw [hf_len]; omega)) (hf_len zeroH) ?_
      refine ynlr 1 rfl (hM.blk (b := b16) (by (repeat constructor))) (by omega) (by have h1 := hM.nin (b := b13) (c := b16) (by (repeat constructor)) (by (repeat constructor)); have h2 := hM.nin (b := b14) (c := b16) (by (repeat constructor)) (by (repeat constructor)); simp only [List.mem_singleton] at h1 h2; simp; omega) rfl (ds := zeroH.1.map u8v) (by rw [List.drop_zero]; exact List.take_of_length_le (by rw [hf_len]; omega)) (hf_len zeroH) ?_
      (first | refine yn 2 rfl ?_ | refine ynt 2 rfl ?_ | refine ynff 2 rfl ?_)
      refine yk1 3 hM (by kernel_rfl) rfl (fun w h0 hM => ?_)
      refine kstwF (b := b13) (vs := zeroH.1.map u8v) hM (fun w hc hM => ?_)
      refine x_wy (.inl (hc.bwn h0 (.inr (by simp)))) rfl ?_
      refine yk1 4 hM (by kernel_rfl) rfl (fun w h0 hM => ?_)
      refine kstwF (b := b14) (vs := zeroH.1.map u8v) hM (fun w hc hM => ?_)
      refine x_wy (.inl (hc.bwn h0 (.inr (by simp)))) rfl ?_
      (first | refine yn 5 rfl ?_ | refine ynt 5 rfl ?_ | refine ynff 5 rfl ?_)
      refine wy_done (by kernel_rfl) (fun w hc => ?_)
      have hM := hM.call hc
      repeat (first | refine gfo ?_ | (refine ks ?_; intro w hM))
      exact post0 (koc4 hM rfl (hnone hT.symm hM.nil) (hn1 := hf_len _) (hn2 := hf_len _))
    rw [if_neg hp0] at hT
    rw [decide_eq_false (by omega : ¬ (p.length : Int) = 0)]
    refine c_condb rfl (fun h => by cases h) (fun _ => ?_)
    have hsp := splitN_lt (n := n) (by omega) (by omega)
    repeat (first | refine gfo ?_ | (refine ks ?_; intro w hM))
    rw [show ((lo + n : Nat) : Int) - (lo : Int) = (n : Int) by omega]
    refine kcs (rsplit_any (n : Int) (by omega) _) ?_
    rw [splitZ_nat]
    repeat (first | refine gfob ?_ | (refine ks ?_; intro w hM))
    rw [show (lo : Int) + (splitN n : Int) = ((lo + splitN n : Nat) : Int) by omega]
    have hpj : p[p.length - 1]? = some (p.getD (p.length - 1) zeroH) := by rw [List.getD_eq_getElem?_getD, List.getElem?_eq_getElem (by omega : p.length - 1 < p.length)]; rfl
    generalize p.getD (p.length - 1) zeroH = pj at hpj hT
    refine c_ordY ([], []) [] (by kernel_rfl) (by kernel_rfl) (by kernel_rfl) (fun w hc hs => ?_)
    have hM := hM.call hc
    (first | refine yn 0 rfl ?_ | refine ynt 0 rfl ?_ | refine ynff 0 rfl ?_); (first | refine yn 1 rfl ?_ | refine ynt 1 rfl ?_ | refine ynff 1 rfl ?_); (first | refine yn 2 rfl ?_ | refine ynt 2 rfl ?_ | refine ynff 2 rfl ?_); (first | refine yn 3 rfl ?_ | refine ynt 3 rfl ?_ | refine ynff 3 rfl ?_)
    refine kynx 4 rfl hRp rfl rfl rfl (by omega) (by omega) (fun bp op pp hp' hAp => ?_)
    rw [show ((p.length : Int) - 1).toNat = p.length - 1 by omega, hpj] at hp'
    obtain rfl := Option.some.inj hp'
    refine ynar (en := eH) 5 rfl (hAp.mv hM.ch (by simp)) (by have := hAp.1; have := hM.ch.size; omega) rfl rfl ?_
    (first | refine yn 6 rfl ?_ | refine ynt 6 rfl ?_ | refine ynff 6 rfl ?_); (first | refine yn 7 rfl ?_ | refine ynt 7 rfl ?_ | refine ynff 7 rfl ?_); (first | refine yn 8 rfl ?_ | refine ynt 8 rfl ?_ | refine ynff 8 rfl ?_); (first | refine yn 9 rfl ?_ | refine ynt 9 rfl ?_ | refine ynff 9 rfl ?_)
    refine yn_cut_hi2 10 rfl hRp rfl rfl rfl (by omega) (by omega) (fun v49 hV => ?_)
    obtain ⟨A49, c49, rfl⟩ := hV.form
    refine yk1 11 hM (by kernel_rfl) rfl (fun w h0 hM => ?_)
    refine kalN hM (fun w b18 hb18 hc hM => ?_)
    have hb18 := Nat.le_trans h0 hb18
    rw [zero_cells] at hM
    refine x_wy (.inl (hc.gy h0)) rfl ?_
    refine yk1 12 hM (by kernel_rfl) rfl (fun w h0 hM => ?_)
    refine kstwF (vs := pj.1.map u8v) hM (fun w hc hM => ?_)
    refine x_wy (.inl (hc.bwn h0 (.inl hb18))) rfl ?_
    (first | refine yn 13 rfl ?_ | refine ynt 13 rfl ?_ | refine ynff 13 rfl ?_)
    refine wy_done (by kernel_rfl) (fun w hc => ?_)
    have hM := hM.call hc
    have hM : Mem [] w0 w [.cell b18 (pj.1.map u8v) 30, .cell b16 (zeroH.1.map u8v) 30, .cell b14 (zeroH.1.map u8v) 30, .cell b13 (zeroH.1.map u8v) 30, .cell b6 (a.1.map u8v) 30] := hM
    obtain ⟨q, hq⟩ : ∃ q, q = p.take (p.length - 1) := ⟨_, rfl⟩
    have hql : q.length = p.length - 1 := by rw [hq, List.length_take]; omega
    rw [show ((p.length : Int) - 1).toNat = p.length - 1 by omega, ← hq] at hV ⊢
    rw [← hq] at hT
    repeat (first | refine gfo ?_ | (refine ks ?_; intro w hM))
    by_cases hs : m ≤ splitN n
    · rw [if_pos hs] at hT
      rw [decide_eq_true (by omega : (lo : Int) + (m : Int) ≤ ((lo + splitN n : Nat) : Int))]
      refine c_condb rfl (fun _ => ?_) (fun h => by cases h)
      repeat (first | refine gfo ?_ | (refine ks ?_; intro w hM))
      refine ca (ih a lo m (splitN n) (A49, q.length, c49) q whole w (hV.ch hM.ch) (by omega) (by omega) h1m hs (by omega)) ?_
      rintro _ w2 ⟨v20, fs, B, x, y, rfl, htw, hfl, hN⟩
      generalize twoF a lo m (splitN n) q whole = R at hT htw ⊢
      have hM := hM.join hN ownR_plain
      simp only [List.cons_append, List.nil_append] at hM
      obtain ⟨rs, hrs⟩ : ∃ rs, rs = fs.map (·.1) := ⟨_, rfl⟩
      rw [← hrs] at hM
      have hrl : rs.length = fs.length := by rw [hrs, List.length_map]
      obtain ⟨u20, rfl⟩ : ∃ u : SlV, v20 = slv u := by obtain ⟨A, c, rfl, _⟩ := (hM.row0 (v := v20) (xs := rs) (by (repeat constructor))).form; exact ⟨(A, _, c), rfl⟩
      repeat (first | refine gfo ?_ | (refine ks ?_; intro w hM))
      refine kal hM (fun w b21 hM => ?_)
      rw [zero_cells] at hM
      refine kal hM (fun w b22 hM => ?_)
      rw [zero_cells] at hM
      repeat (first | refine gfo ?_ | (refine ks ?_; intro w hM))
      have hM : Mem [] w0 w [.cell b22 (y.1.map u8v) 30, .cell b21 (x.1.map u8v) 30, .row eFv 146 (slv u20) rs, .many tU8 B (fs.map inpF), .cell b18 (pj.1.map u8v) 30, .cell b16 (zeroH.1.map u8v) 30, .cell b14 (zeroH.1.map u8v) 30, .cell b13 (zeroH.1.map u8v) 30] := hM.sub (by (repeat constructor))
      repeat (first | refine gfo ?_ | (refine ks ?_; intro w hM))
      cases R with
      | none =>
        refine c_condb rfl (fun _ => ?_) (fun h => by cases h)
        repeat (first | refine gfob ?_ | (refine ks ?_; intro w hM))
        refine c_ordY ([], []) [b13, b14] (by kernel_rfl) (by kernel_rfl) (by kernel_rfl) (fun w hc hs => ?_)
        have hM := hM.call hc
        have hl16 := Blk.lt (hM.blk (b := b16) (by (repeat constructor)))
        refine ynlr 0 rfl (hM.blk (b := b16) (by (repeat constructor))) (by omega) (by have h1 := hM.nin (b := b13) (c := b16) (by (repeat constructor)) (by (repeat constructor)); have h2 := hM.nin (b := b14) (c := b16) (by (repeat constructor)) (by (repeat constructor)); simp only [List.mem_singleton] at h1 h2; simp; omega) rfl (ds := zeroH.1.map u8v) (by rw [List.drop_zero]; exact List.take_of_length_le (by rw [hf_len]; omega)) (hf_len zeroH) ?_
        refine ynlr 1 rfl (hM.blk (b := b16) (by (repeat constructor))) (by omega) (by have h1 := hM.nin (b := b13) (c := b16) (by (repeat constructor)) (by (repeat constructor)); have h2 := hM.nin (b := b14) (c := b16) (by (repeat constructor)) (by (repeat constructor)); simp only [List.mem_singleton] at h1 h2; simp; omega) rfl (ds := zeroH.1.map u8v) (by rw [List.drop_zero]; exact List.take_of_length_le (by rw [hf_len]; omega)) (hf_len zeroH) ?_
        (first | refine yn 2 rfl ?_ | refine ynt 2 rfl ?_ | refine ynff 2 rfl ?_)
        refine yk1 3 hM (by kernel_rfl) rfl (fun w h0 hM => ?_)
        refine kstwF (b := b13) (vs := zeroH.1.map u8v) hM (fun w hc hM => ?_)
        refine x_wy (.inl (hc.bwn h0 (.inr (by simp)))) rfl ?_
        refine yk1 4 hM (by kernel_rfl) rfl (fun w h0 hM => ?_)
        refine kstwF (b := b14) (vs := zeroH.1.map u8v) hM (fun w hc hM => ?_)
        refine x_wy (.inl (hc.bwn h0 (.inr (by simp)))) rfl ?_
        (first | refine yn 5 rfl ?_ | refine ynt 5 rfl ?_ | refine ynff 5 rfl ?_)
        refine wy_done (by kernel_rfl) (fun w hc => ?_)
        have hM := hM.call hc
        repeat (first | refine gfo ?_ | (refine ks ?_; intro w hM))
        exact post0 (koc4 hM rfl (hnone hT.symm hM.nil) (hn1 := hf_len _) (hn2 := hf_len _))
      | some S =>
      obtain ⟨S1, S2, S3⟩ := S
      refine c_condb rfl (fun h => by cases h) (fun _ => ?_)
      have hS := htw _ rfl
      have e1 : S1 = fs.map dF := congrArg (fun z : Gs => z.1) hS
      have e2 : S2 = x := congrArg (fun z : Gs => z.2.1) hS
      have e3 : S3 = y := congrArg (fun z : Gs => z.2.2) hS
      subst e1 e2 e3
      repeat (first | refine gfo ?_ | (refine ks ?_; intro w hM))
      refine ca (rjoin_any lo (lo + n) S3 pj w) ?_
      rintro _ w2 ⟨s1, B1, rfl, hc, hN⟩
      have hM := hM.join hN (by simp [As.plain])
      simp only [List.cons_append, List.nil_append] at hM
      repeat (first | refine gfo ?_ | (refine ks ?_; intro w hM))
      refine kal hM (fun w b24 hM => ?_)
      have hM : Mem [] w0 w (.cell b24 (fC 0 0 zeroH (.slice none 0 0)) 146 :: _) := hM
      refine kstwF (vs := eFv.f ((lo : Int), ((lo + n : Nat) : Int), nodeH S3 pj, s1)) hM (fun w hc hM => ?_)
      obtain ⟨gs, hgs⟩ : ∃ g : Fv × List UInt8, g = ((((lo + splitN n : Nat) : Int), ((lo + n : Nat) : Int), pj, (none, 0, 0)), []) := ⟨_, rfl⟩
      obtain ⟨gt, hgt⟩ : ∃ g : Fv × List UInt8, g = (((lo : Int), ((lo + n : Nat) : Int), nodeH S3 pj, s1), 1 :: (S3.1 ++ pj.1)) := ⟨_, rfl⟩
      have hM : Mem [] w0 w [.cell b24 (eFv.f gt.1) 146, .frd tU8 B1 (slv s1) gt.2, .cell b21 (S2.1.map u8v) 30, .row eFv 146 (slv u20) rs, .many tU8 B (fs.map inpF), .cell b18 (pj.1.map u8v) 30, .cell b16 (zeroH.1.map u8v) 30, .cell b14 (zeroH.1.map u8v) 30, .cell b13 (zeroH.1.map u8v) 30] := by rw [hgt]; exact hM.sub (by (repeat constructor))
      repeat (first | refine gfob ?_ | (refine ks ?_; intro w hM))
      refine c_ordY ([], []) ((slv u20).ownBlock.toList ++ [b13, b14]) (by kernel_rfl) (by kernel_rfl) (by kernel_rfl) (fun w hc hs => ?_)
      have hM := hM.call hc
      have hl24 := Blk.lt (hM.blk (b := b24) (by (repeat constructor)))
      have hl21 := Blk.lt (hM.blk (b := b21) (by (repeat constructor)))
      have hl18 := Blk.lt (hM.blk (b := b18) (by (repeat constructor)))
      (first | refine yn 0 rfl ?_ | refine ynt 0 rfl ?_ | refine ynff 0 rfl ?_); (first | refine yn 1 rfl ?_ | refine ynt 1 rfl ?_ | refine ynff 1 rfl ?_); (first | refine yn 2 rfl ?_ | refine ynt 2 rfl ?_ | refine ynff 2 rfl ?_)
      refine ynlr 3 rfl (hM.blk (b := b18) (by (repeat constructor))) (by omega) (by have h1 := hM.nin (b := b13) (c := b18) (by (repeat constructor)) (by (repeat constructor)); have h2 := hM.nin (b := b14) (c := b18) (by (repeat constructor)) (by (repeat constructor)); have h3 := hM.ninR (c := b18) (en := eFv) (v := slv u20) (xs := rs) (by (repeat constructor)) (by (repeat constructor)); simp only [List.mem_singleton] at h1 h2; simp only [List.mem_append, List.mem_cons, List.not_mem_nil, or_false, not_or]; exact ⟨h3, h1, h2⟩) rfl (ds := pj.1.map u8v) (by rw [List.drop_zero]; exact List.take_of_length_le (by rw [hf_len]; omega)) (hf_len pj) ?_
      refine ynp (v := .agg (eFv.f (((lo + splitN n : Nat) : Int), ((lo + n : Nat) : Int), pj, (none, 0, 0))).toArray) 4 rfl (by kernel_rfl) (by kernel_rfl) (fun _ => r_bldS (vs := [(0, .int .i64 ((lo + splitN n : Nat) : Int)), (1, .int .i64 ((lo + n : Nat) : Int)), (2, hv pj.1)]) (eFv.f (((lo + splitN n : Nat) : Int), ((lo + n : Nat) : Int), pj, (none, 0, 0))) (z := (fC 0 0 zeroH (.slice none 0 0))) (place := plF) (by intro ps; kernel_rfl) rfl (fl3 _ _ _)) rfl ?_
      refine ynlr 5 rfl (hM.blk (b := b24) (by (repeat constructor))) (by omega) (by have h1 := hM.nin (b := b13) (c := b24) (by (repeat constructor)) (by (repeat constructor)); have h2 := hM.nin (b := b14) (c := b24) (by (repeat constructor)) (by (repeat constructor)); have h3 := hM.ninR (c := b24) (en := eFv) (v := slv u20) (xs := rs) (by (repeat constructor)) (by (repeat constructor)); simp only [List.mem_singleton] at h1 h2; simp only [List.mem_append, List.mem_cons, List.not_mem_nil, or_false, not_or]; exact ⟨h3, h1, h2⟩) rfl (ds := eFv.f gt.1) (by rw [List.drop_zero]; exact List.take_of_length_le (by rw [eFv.hl]; omega)) (eFv.hl _) ?_
      refine ynlr 8 rfl (hM.blk (b := b21) (by (repeat constructor))) (by omega) (by have h1 := hM.nin (b := b13) (c := b21) (by (repeat constructor)) (by (repeat constructor)); have h2 := hM.nin (b := b14) (c := b21) (by (repeat constructor)) (by (repeat constructor)); have h3 := hM.ninR (c := b21) (en := eFv) (v := slv u20) (xs := rs) (by (repeat constructor)) (by (repeat constructor)); simp only [List.mem_singleton] at h1 h2; simp only [List.mem_append, List.mem_cons, List.not_mem_nil, or_false, not_or]; exact ⟨h3, h1, h2⟩) rfl (ds := S2.1.map u8v) (by rw [List.drop_zero]; exact List.take_of_length_le (by rw [hf_len]; omega)) (hf_len S2) ?_
      (first | refine yn 9 rfl ?_ | refine ynt 9 rfl ?_ | refine ynff 9 rfl ?_)
      refine ynlr 10 rfl (hM.blk (b := b24) (by (repeat constructor))) (by omega) (by have h1 := hM.nin (b := b13) (c := b24) (by (repeat constructor)) (by (repeat constructor)); have h2 := hM.nin (b := b14) (c := b24) (by (repeat constructor)) (by (repeat constructor)); have h3 := hM.ninR (c := b24) (en := eFv) (v := slv u20) (xs := rs) (by (repeat constructor)) (by (repeat constructor)); simp only [List.mem_singleton] at h1 h2; simp only [List.mem_append, List.mem_cons, List.not_mem_nil, or_false, not_or]; exact ⟨h3, h1, h2⟩) rfl (ds := (nodeH S3 pj).1.map u8v) (by rw [hgt]; exact hf_take _ _ _ _) (hf_len _) ?_
      refine yk1 6 hM (by kernel_rfl) rfl (fun w h0 hM => ?_)
      refine kbsC (en := eFv) (vs := [.agg (eFv.f (((lo + splitN n : Nat) : Int), ((lo + n : Nat) : Int), pj, (none, 0, 0))).toArray, .agg (eFv.f gt.1).toArray]) [gs.1, gt.1] hM (fun w b76 hc hM => ?_) (hxs := by rw [hgs]; simp [Value.cells]) (hm := by
        intro v hv
        simp only [List.mem_cons, List.not_mem_nil, or_false] at hv
        rcases hv with rfl | rfl <;> exact hf_clen _ _ _ _)
      refine x_wy (.inl (hc.gy h0)) rfl ?_
      refine yk1 7 hM (by kernel_rfl) rfl (fun w h0 hM => ?_)
      refine kapB (en := eFv) (v := slv u20) (xs := rs) (ys := [gs.1, gt.1]) hM (hM.rowRdO (en := eFv) (v := .slice (some ⟨b76, 0, none⟩) 2 2) (xs := [gs.1, gt.1]) (by (repeat constructor))) (fun v77 w hc hM => ?_) (hb := by simp; omega) (h63 := by simp; omega)
      refine x_wy (.inl ((hc.mono (fun k _ hk => List.mem_append.2 (.inl hk))).bw h0)) rfl ?_
      (first | refine yn 11 rfl ?_ | refine ynt 11 rfl ?_ | refine ynff 11 rfl ?_)
      refine yk1 12 hM (by kernel_rfl) rfl (fun w h0 hM => ?_)
      refine kstwF (b := b13) (vs := S2.1.map u8v) hM (fun w hc hM => ?_)
      refine x_wy (.inl (hc.bwn h0 (.inr (by simp)))) rfl ?_
      refine yk1 13 hM (by kernel_rfl) rfl (fun w h0 hM => ?_)
      refine kstwF (b := b14) (vs := (nodeH S3 pj).1.map u8v) hM (fun w hc hM => ?_)
      refine x_wy (.inl (hc.bwn h0 (.inr (by simp)))) rfl ?_
      (first | refine yn 14 rfl ?_ | refine ynt 14 rfl ?_ | refine ynff 14 rfl ?_)
      refine wy_done (by kernel_rfl) (fun w hc => ?_)
      have hM := hM.call hc
      repeat (first | refine gfo ?_ | (refine ks ?_; intro w hM))
      have hM := hM.frd0 tU8 none 0
      have hM := (hM.pick (a := .many tU8 B (fs.map inpF)) (by (repeat constructor))).manyPut (u := (none, 0, 0))
      have hM := ((hM.pick (a := .frd tU8 B1 (slv s1) gt.2) (by (repeat constructor))).pick (a := .many tU8 _ _) (.there .here)).manyPut
      have e1 : fs.map inpF ++ [((none, 0, 0), [])] ++ [(s1, gt.2)] = (fs ++ [gs, gt]).map inpF := by rw [hgs, hgt, List.map_append]; simp [inpF]
      have e2 : rs ++ [gs.1, gt.1] = (fs ++ [gs, gt]).map (·.1) := by rw [List.map_append, hrs]; rfl
      rw [e1] at hM
      rw [e2] at hM
      refine post0 (koc4 hM rfl ⟨_, fs ++ [gs, gt], _, S2, nodeH S3 pj, ?_, fun s hs => ?_, by simp; omega, hM.sub (M := ownR _ v77 (fs ++ [gs, gt])) (by (repeat constructor))⟩ (hn1 := hf_len _) (hn2 := hf_len _))
      · rw [← hT]
        rfl
      · rw [← hT] at hs
        injection hs with hs
        rw [← hs, List.map_append, hgs, hgt]
        rfl
    · rw [if_neg hs] at hT
      rw [decide_eq_false (by omega : ¬ ((lo : Int) + (m : Int) ≤ ((lo + splitN n : Nat) : Int)))]
      refine c_condb rfl (fun h => by cases h) (fun _ => ?_)
      repeat (first | refine gfo ?_ | (refine ks ?_; intro w hM))
      have hcall := ih a (lo + splitN n) (m - splitN n) (n - splitN n) (A49, q.length, c49) q false w (hV.ch hM.ch) (by omega) (by omega) (by omega) (by omega) (by omega)
      rw [show lo + splitN n + (n - splitN n) = lo + n by omega] at hcall
      rw [show (lo : Int) + (m : Int) - ((lo + splitN n : Nat) : Int) = ((m - splitN n : Nat) : Int) by omega]
      refine ca hcall ?_
      rintro _ w2 ⟨v20, fs, B, x, y, rfl, htw, hfl, hN⟩
      generalize twoF a (lo + splitN n) (m - splitN n) (n - splitN n) q false = R at hT htw ⊢
      have hM := hM.join hN ownR_plain
      simp only [List.cons_append, List.nil_append] at hM
      obtain ⟨rs, hrs⟩ : ∃ rs, rs = fs.map (·.1) := ⟨_, rfl⟩
      rw [← hrs] at hM
      have hrl : rs.length = fs.length := by rw [hrs, List.length_map]
      obtain ⟨u20, rfl⟩ : ∃ u : SlV, v20 = slv u := by obtain ⟨A, c, rfl, _⟩ := (hM.row0 (v := v20) (xs := rs) (by (repeat constructor))).form; exact ⟨(A, _, c), rfl⟩
      repeat (first | refine gfo ?_ | (refine ks ?_; intro w hM))
      refine kal hM (fun w b21 hM => ?_)
      rw [zero_cells] at hM
      refine kal hM (fun w b22 hM => ?_)
      rw [zero_cells] at hM
      repeat (first | refine gfo ?_ | (refine ks ?_; intro w hM))
      have hM : Mem [] w0 w [.cell b22 (y.1.map u8v) 30, .cell b21 (x.1.map u8v) 30, .row eFv 146 (slv u20) rs, .many tU8 B (fs.map inpF), .cell b18 (pj.1.map u8v) 30, .cell b16 (zeroH.1.map u8v) 30, .cell b14 (zeroH.1.map u8v) 30, .cell b13 (zeroH.1.map u8v) 30] := hM.sub (by (repeat constructor))
      repeat (first | refine gfo ?_ | (refine ks ?_; intro w hM))
      cases R with
      | none =>
        refine c_condb rfl (fun _ => ?_) (fun h => by cases h)
        repeat (first | refine gfob ?_ | (refine ks ?_; intro w hM))
        refine c_ordY ([], []) [b13, b14] (by kernel_rfl) (by kernel_rfl) (by kernel_rfl) (fun w hc hs => ?_)
        have hM := hM.call hc
        have hl16 := Blk.lt (hM.blk (b := b16) (by (repeat constructor)))
        refine ynlr 0 rfl (hM.blk (b := b16) (by (repeat constructor))) (by omega) (by have h1 := hM.nin (b := b13) (c := b16) (by (repeat constructor)) (by (repeat constructor)); have h2 := hM.nin (b := b14) (c := b16) (by (repeat constructor)) (by (repeat constructor)); simp only [List.mem_singleton] at h1 h2; simp; omega) rfl (ds := zeroH.1.map u8v) (by rw [List.drop_zero]; exact List.take_of_length_le (by rw [hf_len]; omega)) (hf_len zeroH) ?_
        refine ynlr 1 rfl (hM.blk (b := b16) (by (repeat constructor))) (by omega) (by have h1 := hM.nin (b := b13) (c := b16) (by (repeat constructor)) (by (repeat constructor)); have h2 := hM.nin (b := b14) (c := b16) (by (repeat constructor)) (by (repeat constructor)); simp only [List.mem_singleton] at h1 h2; simp; omega) rfl (ds := zeroH.1.map u8v) (by rw [List.drop_zero]; exact List.take_of_length_le (by rw [hf_len]; omega)) (hf_len zeroH) ?_
        (first | refine yn 2 rfl ?_ | refine ynt 2 rfl ?_ | refine ynff 2 rfl ?_)
        refine yk1 3 hM (by kernel_rfl) rfl (fun w h0 hM => ?_)
        refine kstwF (b := b13) (vs := zeroH.1.map u8v) hM (fun w hc hM => ?_)
        refine x_wy (.inl (hc.bwn h0 (.inr (by simp)))) rfl ?_
        refine yk1 4 hM (by kernel_rfl) rfl (fun w h0 hM => ?_)
        refine kstwF (b := b14) (vs := zeroH.1.map u8v) hM (fun w hc hM => ?_)
        refine x_wy (.inl (hc.bwn h0 (.inr (by simp)))) rfl ?_
        (first | refine yn 5 rfl ?_ | refine ynt 5 rfl ?_ | refine ynff 5 rfl ?_)
        refine wy_done (by kernel_rfl) (fun w hc => ?_)
        have hM := hM.call hc
        repeat (first | refine gfo ?_ | (refine ks ?_; intro w hM))
        exact post0 (koc4 hM rfl (hnone hT.symm hM.nil) (hn1 := hf_len _) (hn2 := hf_len _))
      | some S =>
      obtain ⟨S1, S2, S3⟩ := S
      refine c_condb rfl (fun h => by cases h) (fun _ => ?_)
      have hS := htw _ rfl
      have e1 : S1 = fs.map dF := congrArg (fun z : Gs => z.1) hS
      have e2 : S2 = x := congrArg (fun z : Gs => z.2.1) hS
      have e3 : S3 = y := congrArg (fun z : Gs => z.2.2) hS
      subst e1 e2 e3
      repeat (first | refine gfob ?_ | (refine ks ?_; intro w hM))
      rw [show (lo : Int) + (m : Int) = ((lo + m : Nat) : Int) by omega]
      refine c_ordY ([], []) [] (by kernel_rfl) (by kernel_rfl) (by kernel_rfl) (fun w hc hs => ?_)
      have hM := hM.call hc
      have hl18 := Blk.lt (hM.blk (b := b18) (by (repeat constructor)))
      have hl21 := Blk.lt (hM.blk (b := b21) (by (repeat constructor)))
      have hl22 := Blk.lt (hM.blk (b := b22) (by (repeat constructor)))
      (first | refine yn 0 rfl ?_ | refine ynt 0 rfl ?_ | refine ynff 0 rfl ?_); (first | refine yn 1 rfl ?_ | refine ynt 1 rfl ?_ | refine ynff 1 rfl ?_); (first | refine yn 2 rfl ?_ | refine ynt 2 rfl ?_ | refine ynff 2 rfl ?_); (first | refine yn 3 rfl ?_ | refine ynt 3 rfl ?_ | refine ynff 3 rfl ?_)
      refine ynlr 4 rfl (hM.blk (b := b18) (by (repeat constructor))) (by omega) (by simp) rfl (ds := pj.1.map u8v) (by rw [List.drop_zero]; exact List.take_of_length_le (by rw [hf_len]; omega)) (hf_len pj) ?_
      refine ynlr 5 rfl (hM.blk (b := b21) (by (repeat constructor))) (by omega) (by simp) rfl (ds := S2.1.map u8v) (by rw [List.drop_zero]; exact List.take_of_length_le (by rw [hf_len]; omega)) (hf_len S2) ?_
      (first | refine yn 7 rfl ?_ | refine ynt 7 rfl ?_ | refine ynff 7 rfl ?_); (first | refine yn 8 rfl ?_ | refine ynt 8 rfl ?_ | refine ynff 8 rfl ?_)
      refine ynlr 9 rfl (hM.blk (b := b18) (by (repeat constructor))) (by omega) (by simp) rfl (ds := pj.1.map u8v) (by rw [List.drop_zero]; exact List.take_of_length_le (by rw [hf_len]; omega)) (hf_len pj) ?_
      refine ynlr 10 rfl (hM.blk (b := b22) (by (repeat constructor))) (by omega) (by simp) rfl (ds := S3.1.map u8v) (by rw [List.drop_zero]; exact List.take_of_length_le (by rw [hf_len]; omega)) (hf_len S3) ?_
      rw [show (lo : Int) + (m : Int) = ((lo + m : Nat) : Int) by omega]
      refine wy_cont (X := (SlV × (Nat → Prop)) × (SlV × (Nat → Prop)) × Nat × Nat) (fun x N w => (N ≤ x.2.2.1 ∧ N ≤ x.2.2.2) ∧ Mem [] w0 w [.cell x.2.2.1 (fC 0 0 zeroH (.slice none 0 0)) 146, .cell x.2.2.2 (fC 0 0 zeroH (.slice none 0 0)) 146, .frd tU8 x.1.2 (slv x.1.1) (1 :: (pj.1 ++ S2.1)), .frd tU8 x.2.1.2 (slv x.2.1.1) (1 :: (pj.1 ++ S3.1)), .row eFv 146 (slv u20) rs, .many tU8 B (fs.map inpF), .cell b18 (pj.1.map u8v) 30, .cell b16 (zeroH.1.map u8v) 30, .cell b14 (zeroH.1.map u8v) 30, .cell b13 (zeroH.1.map u8v) 30])
        (fun x l => (((l.set 150 (.agg (eFv.f ((lo : Int), ((lo + m : Nat) : Int), nodeH pj S2, x.1.1)).toArray)).set 155 (.agg (eFv.f ((lo : Int), ((lo + n : Nat) : Int), nodeH pj S3, x.2.1.1)).toArray)).set 29 (.pointer (some ⟨x.2.2.1, 0, none⟩))).set 30 (.pointer (some ⟨x.2.2.2, 0, none⟩))) #[true, true, true, true, true, true, true, true, true, true, true, true, true, true, false, false] (fuel := 2) (fun hkk => ?_) ?_
      · skip
        refine yk3 6 12 13 hM (by kernel_rfl) rfl rfl rfl (fun w h0 hM => ?_) (fun w h0 hM => ?_) (fun w h0 hM => ?_)
        · skip
          refine ca (rjoin_any lo (lo + m) pj S2 _) ?_
          rintro _ w2 ⟨s1, B1, rfl, hc, hN⟩
          have hM := hM.join hN (by simp [As.plain])
          simp only [List.cons_append, List.nil_append] at hM
          refine x_wy (.inl (hc.gy h0)) rfl ?_
          refine yk3 11 12 13 hM (by kernel_rfl) rfl rfl rfl (fun w h0 hM => ?_) (fun w h0 hM => ?_) (fun w h0 hM => ?_)
          · skip
            refine ca (rjoin_any lo (lo + n) pj S3 _) ?_
            rintro _ w2 ⟨s2, B2, rfl, hc, hN⟩
            have hM := hM.join hN (by simp [As.plain])
            simp only [List.cons_append, List.nil_append] at hM
            refine x_wy (.inl (hc.gy h0)) rfl ?_
            refine yk2 12 13 hM (by kernel_rfl) rfl rfl (fun w h0 hM => ?_) (fun w h0 hM => ?_)
            · skip
              refine kalN hM (fun w b29 hb29 hc hM => ?_)
              have hb29 := Nat.le_trans h0 hb29
              refine x_wy (.inl (hc.gy h0)) rfl ?_
              refine yk1 13 hM (by kernel_rfl) rfl (fun w h0 hM => ?_)
              refine kalN hM (fun w b30 hb30 hc hM => ?_)
              have hb30 := Nat.le_trans h0 hb30
              refine x_wy (.inl (hc.gy h0)) rfl ?_
              exact hkk ((s1, B1), (s2, B2), b29, b30) _ _ _ (by kernel_rfl) rfl ⟨⟨hb29, hb30⟩, hM.sub (by (repeat constructor))⟩
            · skip
              refine kalN hM (fun w b30 hb30 hc hM => ?_)
              have hb30 := Nat.le_trans h0 hb30
              refine x_wy (.inl (hc.gy h0)) rfl ?_
              refine yk1 12 hM (by kernel_rfl) rfl (fun w h0 hM => ?_)
              refine kalN hM (fun w b29 hb29 hc hM => ?_)
              have hb29 := Nat.le_trans h0 hb29
              refine x_wy (.inl (hc.gy h0)) rfl ?_
              exact hkk ((s1, B1), (s2, B2), b29, b30) _ _ _ (by kernel_rfl) rfl ⟨⟨hb29, hb30⟩, hM.sub (by (repeat constructor))⟩
          · skip
            refine kalN hM (fun w b29 hb29 hc hM => ?_)
            have hb29 := Nat.le_trans h0 hb29
            refine x_wy (.inl (hc.gy h0)) rfl ?_
            refine yk2 11 13 hM (by kernel_rfl) rfl rfl (fun w h0 hM => ?_) (fun w h0 hM => ?_)
            · skip
              refine ca (rjoin_any lo (lo + n) pj S3 _) ?_
              rintro _ w2 ⟨s2, B2, rfl, hc, hN⟩
              have hM := hM.join hN (by simp [As.plain])
              simp only [List.cons_append, List.nil_append] at hM
              refine x_wy (.inl (hc.gy h0)) rfl ?_
              refine yk1 13 hM (by kernel_rfl) rfl (fun w h0 hM => ?_)
              refine kalN hM (fun w b30 hb30 hc hM => ?_)
              have hb30 := Nat.le_trans h0 hb30
              refine x_wy (.inl (hc.gy h0)) rfl ?_
              exact hkk ((s1, B1), (s2, B2), b29, b30) _ _ _ (by kernel_rfl) rfl ⟨⟨hb29, hb30⟩, hM.sub (by (repeat constructor))⟩
            · skip
              refine kalN hM (fun w b30 hb30 hc hM => ?_)
              have hb30 := Nat.le_trans h0 hb30
              refine x_wy (.inl (hc.gy h0)) rfl ?_
              refine yk1 11 hM (by kernel_rfl) rfl (fun w h0 hM => ?_)
              refine ca (rjoin_any lo (lo + n) pj S3 _) ?_
              rintro _ w2 ⟨s2, B2, rfl, hc, hN⟩
              have hM := hM.join hN (by simp [As.plain])
              simp only [List.cons_append, List.nil_append] at hM
              refine x_wy (.inl (hc.gy h0)) rfl ?_
              exact hkk ((s1, B1), (s2, B2), b29, b30) _ _ _ (by kernel_rfl) rfl ⟨⟨hb29, hb30⟩, hM.sub (by (repeat constructor))⟩
          · skip
            refine kalN hM (fun w b30 hb30 hc hM => ?_)
            have hb30 := Nat.le_trans h0 hb30
            refine x_wy (.inl (hc.gy h0)) rfl ?_
            refine yk2 11 12 hM (by kernel_rfl) rfl rfl (fun w h0 hM => ?_) (fun w h0 hM => ?_)
            · skip
              refine ca (rjoin_any lo (lo + n) pj S3 _) ?_
              rintro _ w2 ⟨s2, B2, rfl, hc, hN⟩
              have hM := hM.join hN (by simp [As.plain])
              simp only [List.cons_append, List.nil_append] at hM
              refine x_wy (.inl (hc.gy h0)) rfl ?_
              refine yk1 12 hM (by kernel_rfl) rfl (fun w h0 hM => ?_)
              refine kalN hM (fun w b29 hb29 hc hM => ?_)
              have hb29 := Nat.le_trans h0 hb29
              refine x_wy (.inl (hc.gy h0)) rfl ?_
              exact hkk ((s1, B1), (s2, B2), b29, b30) _ _ _ (by kernel_rfl) rfl ⟨⟨hb29, hb30⟩, hM.sub (by (repeat constructor))⟩
            · skip
              refine kalN hM (fun w b29 hb29 hc hM => ?_)
              have hb29 := Nat.le_trans h0 hb29
              refine x_wy (.inl (hc.gy h0)) rfl ?_
              refine yk1 11 hM (by kernel_rfl) rfl (fun w h0 hM => ?_)
              refine ca (rjoin_any lo (lo + n) pj S3 _) ?_
              rintro _ w2 ⟨s2, B2, rfl, hc, hN⟩
              have hM := hM.join hN (by simp [As.plain])
              simp only [List.cons_append, List.nil_append] at hM
              refine x_wy (.inl (hc.gy h0)) rfl ?_
              exact hkk ((s1, B1), (s2, B2), b29, b30) _ _ _ (by kernel_rfl) rfl ⟨⟨hb29, hb30⟩, hM.sub (by (repeat constructor))⟩
        · skip
          refine kalN hM (fun w b29 hb29 hc hM => ?_)
          have hb29 := Nat.le_trans h0 hb29
          refine x_wy (.inl (hc.gy h0)) rfl ?_
          refine yk2 6 13 hM (by kernel_rfl) rfl rfl (fun w h0 hM => ?_) (fun w h0 hM => ?_)
          · skip
            refine ca (rjoin_any lo (lo + m) pj S2 _) ?_
            rintro _ w2 ⟨s1, B1, rfl, hc, hN⟩
            have hM := hM.join hN (by simp [As.plain])
            simp only [List.cons_append, List.nil_append] at hM
            refine x_wy (.inl (hc.gy h0)) rfl ?_
            refine yk2 11 13 hM (by kernel_rfl) rfl rfl (fun w h0 hM => ?_) (fun w h0 hM => ?_)
            · skip
              refine ca (rjoin_any lo (lo + n) pj S3 _) ?_
              rintro _ w2 ⟨s2, B2, rfl, hc, hN⟩
              have hM := hM.join hN (by simp [As.plain])
              simp only [List.cons_append, List.nil_append] at hM
              refine x_wy (.inl (hc.gy h0)) rfl ?_
              refine yk1 13 hM (by kernel_rfl) rfl (fun w h0 hM => ?_)
              refine kalN hM (fun w b30 hb30 hc hM => ?_)
              have hb30 := Nat.le_trans h0 hb30
              refine x_wy (.inl (hc.gy h0)) rfl ?_
              exact hkk ((s1, B1), (s2, B2), b29, b30) _ _ _ (by kernel_rfl) rfl ⟨⟨hb29, hb30⟩, hM.sub (by (repeat constructor))⟩
            · skip
              refine kalN hM (fun w b30 hb30 hc hM => ?_)
              have hb30 := Nat.le_trans h0 hb30
              refine x_wy (.inl (hc.gy h0)) rfl ?_
              refine yk1 11 hM (by kernel_rfl) rfl (fun w h0 hM => ?_)
              refine ca (rjoin_any lo (lo + n) pj S3 _) ?_
              rintro _ w2 ⟨s2, B2, rfl, hc, hN⟩
              have hM := hM.join hN (by simp [As.plain])
              simp only [List.cons_append, List.nil_append] at hM
              refine x_wy (.inl (hc.gy h0)) rfl ?_
              exact hkk ((s1, B1), (s2, B2), b29, b30) _ _ _ (by kernel_rfl) rfl ⟨⟨hb29, hb30⟩, hM.sub (by (repeat constructor))⟩
          · skip
            refine kalN hM (fun w b30 hb30 hc hM => ?_)
            have hb30 := Nat.le_trans h0 hb30
            refine x_wy (.inl (hc.gy h0)) rfl ?_
            refine yk1 6 hM (by kernel_rfl) rfl (fun w h0 hM => ?_)
            refine ca (rjoin_any lo (lo + m) pj S2 _) ?_
            rintro _ w2 ⟨s1, B1, rfl, hc, hN⟩
            have hM := hM.join hN (by simp [As.plain])
            simp only [List.cons_append, List.nil_append] at hM
            refine x_wy (.inl (hc.gy h0)) rfl ?_
            refine yk1 11 hM (by kernel_rfl) rfl (fun w h0 hM => ?_)
            refine ca (rjoin_any lo (lo + n) pj S3 _) ?_
            rintro _ w2 ⟨s2, B2, rfl, hc, hN⟩
            have hM := hM.join hN (by simp [As.plain])
            simp only [List.cons_append, List.nil_append] at hM
            refine x_wy (.inl (hc.gy h0)) rfl ?_
            exact hkk ((s1, B1), (s2, B2), b29, b30) _ _ _ (by kernel_rfl) rfl ⟨⟨hb29, hb30⟩, hM.sub (by (repeat constructor))⟩
        · skip
          refine kalN hM (fun w b30 hb30 hc hM => ?_)
          have hb30 := Nat.le_trans h0 hb30
          refine x_wy (.inl (hc.gy h0)) rfl ?_
          refine yk2 6 12 hM (by kernel_rfl) rfl rfl (fun w h0 hM => ?_) (fun w h0 hM => ?_)
          · skip
            refine ca (rjoin_any lo (lo + m) pj S2 _) ?_
            rintro _ w2 ⟨s1, B1, rfl, hc, hN⟩
            have hM := hM.join hN (by simp [As.plain])
            simp only [List.cons_append, List.nil_append] at hM
            refine x_wy (.inl (hc.gy h0)) rfl ?_
            refine yk2 11 12 hM (by kernel_rfl) rfl rfl (fun w h0 hM => ?_) (fun w h0 hM => ?_)
            · skip
              refine ca (rjoin_any lo (lo + n) pj S3 _) ?_
              rintro _ w2 ⟨s2, B2, rfl, hc, hN⟩
              have hM := hM.join hN (by simp [As.plain])
              simp only [List.cons_append, List.nil_append] at hM
              refine x_wy (.inl (hc.gy h0)) rfl ?_
              refine yk1 12 hM (by kernel_rfl) rfl (fun w h0 hM => ?_)
              refine kalN hM (fun w b29 hb29 hc hM => ?_)
              have hb29 := Nat.le_trans h0 hb29
              refine x_wy (.inl (hc.gy h0)) rfl ?_
              exact hkk ((s1, B1), (s2, B2), b29, b30) _ _ _ (by kernel_rfl) rfl ⟨⟨hb29, hb30⟩, hM.sub (by (repeat constructor))⟩
            · skip
              refine kalN hM (fun w b29 hb29 hc hM => ?_)
              have hb29 := Nat.le_trans h0 hb29
              refine x_wy (.inl (hc.gy h0)) rfl ?_
              refine yk1 11 hM (by kernel_rfl) rfl (fun w h0 hM => ?_)
              refine ca (rjoin_any lo (lo + n) pj S3 _) ?_
              rintro _ w2 ⟨s2, B2, rfl, hc, hN⟩
              have hM := hM.join hN (by simp [As.plain])
              simp only [List.cons_append, List.nil_append] at hM
              refine x_wy (.inl (hc.gy h0)) rfl ?_
              exact hkk ((s1, B1), (s2, B2), b29, b30) _ _ _ (by kernel_rfl) rfl ⟨⟨hb29, hb30⟩, hM.sub (by (repeat constructor))⟩
          · skip
            refine kalN hM (fun w b29 hb29 hc hM => ?_)
            have hb29 := Nat.le_trans h0 hb29
            refine x_wy (.inl (hc.gy h0)) rfl ?_
            refine yk1 6 hM (by kernel_rfl) rfl (fun w h0 hM => ?_)
            refine ca (rjoin_any lo (lo + m) pj S2 _) ?_
            rintro _ w2 ⟨s1, B1, rfl, hc, hN⟩
            have hM := hM.join hN (by simp [As.plain])
            simp only [List.cons_append, List.nil_append] at hM
            refine x_wy (.inl (hc.gy h0)) rfl ?_
            refine yk1 11 hM (by kernel_rfl) rfl (fun w h0 hM => ?_)
            refine ca (rjoin_any lo (lo + n) pj S3 _) ?_
            rintro _ w2 ⟨s2, B2, rfl, hc, hN⟩
            have hM := hM.join hN (by simp [As.plain])
            simp only [List.cons_append, List.nil_append] at hM
            refine x_wy (.inl (hc.gy h0)) rfl ?_
            exact hkk ((s1, B1), (s2, B2), b29, b30) _ _ _ (by kernel_rfl) rfl ⟨⟨hb29, hb30⟩, hM.sub (by (repeat constructor))⟩
      clear hM
      rintro ⟨⟨s1, B1⟩, ⟨s2, B2⟩, b29, b30⟩ w ⟨⟨hb29, hb30⟩, hM⟩
      simp only at hb29 hb30 hM
      refine wy_nf ?_
      refine yk1 14 hM (by kernel_rfl) rfl (fun w h0 hM => ?_)
      refine kstwF (vs := eFv.f ((lo : Int), ((lo + m : Nat) : Int), nodeH pj S2, s1)) hM (fun w hc hM => ?_)
      refine x_wy (.inl (hc.bwn h0 (.inl hb29))) rfl ?_
      refine yk1 15 hM (by kernel_rfl) rfl (fun w h0 hM => ?_)
      refine kstwF (vs := eFv.f ((lo : Int), ((lo + n : Nat) : Int), nodeH pj S3, s2)) hM (fun w hc hM => ?_)
      refine x_wy (.inl (hc.bwn h0 (.inl hb30))) rfl ?_
      refine wy_done (by kernel_rfl) (fun w hc => ?_)
      have hM := hM.call hc
      obtain ⟨gs, hgs⟩ : ∃ g : Fv × List UInt8, g = (((lo : Int), ((lo + splitN n : Nat) : Int), pj, (none, 0, 0)), []) := ⟨_, rfl⟩
      obtain ⟨gf, hgf⟩ : ∃ g : Fv × List UInt8, g = (((lo : Int), ((lo + m : Nat) : Int), nodeH pj S2, s1), 1 :: (pj.1 ++ S2.1)) := ⟨_, rfl⟩
      obtain ⟨gt, hgt⟩ : ∃ g : Fv × List UInt8, g = (((lo : Int), ((lo + n : Nat) : Int), nodeH pj S3, s2), 1 :: (pj.1 ++ S3.1)) := ⟨_, rfl⟩
      have hM : Mem [] w0 w [.cell b29 (eFv.f gf.1) 146, .cell b30 (eFv.f gt.1) 146, .frd tU8 B1 (slv s1) gf.2, .frd tU8 B2 (slv s2) gt.2, .row eFv 146 (slv u20) rs, .many tU8 B (fs.map inpF), .cell b18 (pj.1.map u8v) 30, .cell b16 (zeroH.1.map u8v) 30, .cell b14 (zeroH.1.map u8v) 30, .cell b13 (zeroH.1.map u8v) 30] := by rw [hgf, hgt]; exact hM.sub (by (repeat constructor))
      repeat (first | refine gfob ?_ | (refine ks ?_; intro w hM))
      refine c_ordY ([], []) ((slv u20).ownBlock.toList ++ [b13, b14]) (by kernel_rfl) (by kernel_rfl) (by kernel_rfl) (fun w hc hs => ?_)
      have hM := hM.call hc
      have hl29 := Blk.lt (hM.blk (b := b29) (by (repeat constructor)))
      have hl30 := Blk.lt (hM.blk (b := b30) (by (repeat constructor)))
      have hl18 := Blk.lt (hM.blk (b := b18) (by (repeat constructor)))
      (first | refine yn 0 rfl ?_ | refine ynt 0 rfl ?_ | refine ynff 0 rfl ?_); (first | refine yn 1 rfl ?_ | refine ynt 1 rfl ?_ | refine ynff 1 rfl ?_); (first | refine yn 2 rfl ?_ | refine ynt 2 rfl ?_ | refine ynff 2 rfl ?_)
      refine ynlr 3 rfl (hM.blk (b := b18) (by (repeat constructor))) (by omega) (by have h1 := hM.nin (b := b13) (c := b18) (by (repeat constructor)) (by (repeat constructor)); have h2 := hM.nin (b := b14) (c := b18) (by (repeat constructor)) (by (repeat constructor)); have h3 := hM.ninR (c := b18) (en := eFv) (v := slv u20) (xs := rs) (by (repeat constructor)) (by (repeat constructor)); simp only [List.mem_singleton] at h1 h2; simp only [List.mem_append, List.mem_cons, List.not_mem_nil, or_false, not_or]; exact ⟨h3, h1, h2⟩) rfl (ds := pj.1.map u8v) (by rw [List.drop_zero]; exact List.take_of_length_le (by rw [hf_len]; omega)) (hf_len pj) ?_
      refine ynp (v := .agg (eFv.f ((lo : Int), ((lo + splitN n : Nat) : Int), pj, (none, 0, 0))).toArray) 4 rfl (by kernel_rfl) (by kernel_rfl) (fun _ => r_bldS (vs := [(0, .int .i64 (lo : Int)), (1, .int .i64 ((lo + splitN n : Nat) : Int)), (2, hv pj.1)]) (eFv.f ((lo : Int), ((lo + splitN n : Nat) : Int), pj, (none, 0, 0))) (z := (fC 0 0 zeroH (.slice none 0 0))) (place := plF) (by intro ps; kernel_rfl) rfl (fl3 _ _ _)) rfl ?_
      refine ynlr 5 rfl (hM.blk (b := b29) (by (repeat constructor))) (by omega) (by have h1 := hM.nin (b := b13) (c := b29) (by (repeat constructor)) (by (repeat constructor)); have h2 := hM.nin (b := b14) (c := b29) (by (repeat constructor)) (by (repeat constructor)); have h3 := hM.ninR (c := b29) (en := eFv) (v := slv u20) (xs := rs) (by (repeat constructor)) (by (repeat constructor)); simp only [List.mem_singleton] at h1 h2; simp only [List.mem_append, List.mem_cons, List.not_mem_nil, or_false, not_or]; exact ⟨h3, h1, h2⟩) rfl (ds := eFv.f gf.1) (by rw [List.drop_zero]; exact List.take_of_length_le (by rw [eFv.hl]; omega)) (eFv.hl _) ?_
      refine ynlr 6 rfl (hM.blk (b := b30) (by (repeat constructor))) (by omega) (by have h1 := hM.nin (b := b13) (c := b30) (by (repeat constructor)) (by (repeat constructor)); have h2 := hM.nin (b := b14) (c := b30) (by (repeat constructor)) (by (repeat constructor)); have h3 := hM.ninR (c := b30) (en := eFv) (v := slv u20) (xs := rs) (by (repeat constructor)) (by (repeat constructor)); simp only [List.mem_singleton] at h1 h2; simp only [List.mem_append, List.mem_cons, List.not_mem_nil, or_false, not_or]; exact ⟨h3, h1, h2⟩) rfl (ds := eFv.f gt.1) (by rw [List.drop_zero]; exact List.take_of_length_le (by rw [eFv.hl]; omega)) (eFv.hl _) ?_
      (first | refine yn 9 rfl ?_ | refine ynt 9 rfl ?_ | refine ynff 9 rfl ?_)
      refine ynlr 10 rfl (hM.blk (b := b29) (by (repeat constructor))) (by omega) (by have h1 := hM.nin (b := b13) (c := b29) (by (repeat constructor)) (by (repeat constructor)); have h2 := hM.nin (b := b14) (c := b29) (by (repeat constructor)) (by (repeat constructor)); have h3 := hM.ninR (c := b29) (en := eFv) (v := slv u20) (xs := rs) (by (repeat constructor)) (by (repeat constructor)); simp only [List.mem_singleton] at h1 h2; simp only [List.mem_append, List.mem_cons, List.not_mem_nil, or_false, not_or]; exact ⟨h3, h1, h2⟩) rfl (ds := (nodeH pj S2).1.map u8v) (by rw [hgf]; exact hf_take _ _ _ _) (hf_len _) ?_
      (first | refine yn 11 rfl ?_ | refine ynt 11 rfl ?_ | refine ynff 11 rfl ?_)
      refine ynlr 12 rfl (hM.blk (b := b30) (by (repeat constructor))) (by omega) (by have h1 := hM.nin (b := b13) (c := b30) (by (repeat constructor)) (by (repeat constructor)); have h2 := hM.nin (b := b14) (c := b30) (by (repeat constructor)) (by (repeat constructor)); have h3 := hM.ninR (c := b30) (en := eFv) (v := slv u20) (xs := rs) (by (repeat constructor)) (by (repeat constructor)); simp only [List.mem_singleton] at h1 h2; simp only [List.mem_append, List.mem_cons, List.not_mem_nil, or_false, not_or]; exact ⟨h3, h1, h2⟩) rfl (ds := (nodeH pj S3).1.map u8v) (by rw [hgt]; exact hf_take _ _ _ _) (hf_len _) ?_
      refine yk1 7 hM (by kernel_rfl) rfl (fun w h0 hM => ?_)
      refine kbsC (en := eFv) (vs := [.agg (eFv.f ((lo : Int), ((lo + splitN n : Nat) : Int), pj, (none, 0, 0))).toArray, .agg (eFv.f gf.1).toArray, .agg (eFv.f gt.1).toArray]) [gs.1, gf.1, gt.1] hM (fun w b76 hc hM => ?_) (hxs := by rw [hgs]; simp [Value.cells]) (hm := by
        intro v hv
        simp only [List.mem_cons, List.not_mem_nil, or_false] at hv
        rcases hv with rfl | rfl | rfl <;> exact hf_clen _ _ _ _)
      refine x_wy (.inl (hc.gy h0)) rfl ?_
      refine yk1 8 hM (by kernel_rfl) rfl (fun w h0 hM => ?_)
      refine kapB (en := eFv) (v := slv u20) (xs := rs) (ys := [gs.1, gf.1, gt.1]) hM (hM.rowRdO (en := eFv) (v := .slice (some ⟨b76, 0, none⟩) 3 3) (xs := [gs.1, gf.1, gt.1]) (by (repeat constructor))) (fun v77 w hc hM => ?_) (hb := by simp; omega) (h63 := by simp; omega)
      refine x_wy (.inl ((hc.mono (fun k _ hk => List.mem_append.2 (.inl hk))).bw h0)) rfl ?_
      (first | refine yn 13 rfl ?_ | refine ynt 13 rfl ?_ | refine ynff 13 rfl ?_)
      refine yk1 14 hM (by kernel_rfl) rfl (fun w h0 hM => ?_)
      refine kstwF (b := b13) (vs := (nodeH pj S2).1.map u8v) hM (fun w hc hM => ?_)
      refine x_wy (.inl (hc.bwn h0 (.inr (by simp)))) rfl ?_
      refine yk1 15 hM (by kernel_rfl) rfl (fun w h0 hM => ?_)
      refine kstwF (b := b14) (vs := (nodeH pj S3).1.map u8v) hM (fun w hc hM => ?_)
      refine x_wy (.inl (hc.bwn h0 (.inr (by simp)))) rfl ?_
      (first | refine yn 16 rfl ?_ | refine ynt 16 rfl ?_ | refine ynff 16 rfl ?_)
      refine wy_done (by kernel_rfl) (fun w hc => ?_)
      have hM := hM.call hc
      repeat (first | refine gfo ?_ | (refine ks ?_; intro w hM))
      have hM := hM.frd0 tU8 none 0
      have hM := (hM.pick (a := .many tU8 B (fs.map inpF)) (by (repeat constructor))).manyPut (u := (none, 0, 0))
      have hM := ((hM.pick (a := .frd tU8 B1 (slv s1) gf.2) (by (repeat constructor))).pick (a := .many tU8 _ _) (.there .here)).manyPut
      have hM := ((hM.pick (a := .frd tU8 B2 (slv s2) gt.2) (by (repeat constructor))).pick (a := .many tU8 _ _) (.there .here)).manyPut
      have e1 : fs.map inpF ++ [((none, 0, 0), [])] ++ [(s1, gf.2)] ++ [(s2, gt.2)] = (fs ++ [gs, gf, gt]).map inpF := by rw [hgs, hgf, hgt, List.map_append]; simp [inpF]
      have e2 : rs ++ [gs.1, gf.1, gt.1] = (fs ++ [gs, gf, gt]).map (·.1) := by rw [List.map_append, hrs]; rfl
      rw [e1] at hM
      rw [e2] at hM
      refine post0 (koc4 hM rfl ⟨_, fs ++ [gs, gf, gt], _, nodeH pj S2, nodeH pj S3, ?_, fun s hs => ?_, by simp; omega, hM.sub (M := ownR _ v77 (fs ++ [gs, gf, gt])) (by (repeat constructor))⟩ (hn1 := hf_len _) (hn2 := hf_len _))
      · rw [← hT]
        rfl
      · rw [← hT] at hs
        injection hs with hs
        rw [← hs, List.map_append, hgs, hgf, hgt]
        rfl
end Go.Proofs.YtkdbinchlpdkmaaDoor

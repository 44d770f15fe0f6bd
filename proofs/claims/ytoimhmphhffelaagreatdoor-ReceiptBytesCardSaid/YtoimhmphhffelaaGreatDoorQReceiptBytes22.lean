/- Walks: turns told from the last one back; the loop over them. -/
import Derived.Test.YtoimhmphhffelaaGreatDoorQReceiptBytes07
import Derived.Test.YtoimhmphhffelaaGreatDoorQReceiptBytes21
set_option linter.unusedVariables false
set_option linter.unusedSimpArgs false
namespace Go.Proofs.YtoimhmphhffelaaGreatDoor
open Go Go.RowKit Go.Proofs.E
attribute [local irreducible] Go.wpList Go.Code.wp Go.Proofs.E.exec Go.Proofs.E.wpLexG
abbrev Xt (L : Nat) := { x : Nat × (Nat × Bool) // x.1 < L }
def encU {L : Nat} (x : Xt L) : Array Value := #[.int .i64 (x.1.1 : Int), .agg #[.int .i64 (x.1.2.1 : Int), .bool x.1.2.2]]
/-- From the last one back, numbered. -/
def upl (ts : List (Nat × Bool)) : List (Nat × (Nat × Bool)) := ts.reverse.zipIdx.map fun p => (p.2, p.1)
theorem upl_get {ts : List (Nat × Bool)} {i : Nat} {t : Nat × Bool} (h : ts[ts.length - 1 - i]? = some t) (hi : i < ts.length) : (upl ts)[i]? = some (i, t) := by
  unfold upl
  rw [List.getElem?_map, List.getElem?_zipIdx, List.getElem?_reverse hi, h]
  simp
theorem upl_len (ts : List (Nat × Bool)) : (upl ts).length = ts.length := by simp [upl]
set_option maxHeartbeats 8000000 in
theorem up_stops {S : List Nat} {n : Nat} {w0 : World} {bx : Nat} {v : Value} {ts : List (Nat × Bool)} (hBx : Blk w0 bx [v] 203) (hSx : bx ∉ S) (hR : (Ty.enc eT).Rd S w0 v ts) (hlen : ts.length ≤ 2199023255552) :
    SeqStopsK Fence.wide n Tryz.prog 215 #[.pointer (some ⟨bx, 0, none⟩)] (encU (L := ts.length)) (Bw w0.heap.size S) (fun xs => xs.map (·.1) = upl ts) (fun _ => True) ts.length w0 := by
  intro lr J Jx W hW hJ hJx hY h0
  refine callsIn_wide.2 ?_
  suffices h : Calls Tryz.prog 215 #[.func (.yield lr) #[] #[], .pointer (some ⟨bx, 0, none⟩)] W (Ret fun _ W' => (∃ xs : List (Xt ts.length), xs.map (·.1) = upl ts ∧ J xs W') ∨ (∃ pre : List (Xt ts.length), True ∧ Jx pre W')) from
    h.mono fun e w ⟨v, he, h⟩ => ⟨⟨v, he⟩, h⟩
  refine enter [.func (.yield lr) #[] #[], .pointer (some ⟨bx, 0, none⟩), undef, undef, undef, undef, undef, undef, undef, undef, undef, undef, undef, undef, undef, undef, undef, undef, undef, undef, undef, undef] Tryz.func215 rfl rfl ?_
  have hbW : Bw w0.heap.size S w0 W := Bw.of_below hW
  obtain ⟨A, cap, rfl⟩ := hR.form
  (try refine wk ?_)
  refine ldb (hBx.ch hbW.ch hSx) rfl rfl ?_
  (try refine wk ?_)
  
  refine c_loop (fun k l w' => ∃ (i : Nat) (pre : List (Xt ts.length)), (∃ jj : Nat → Value, l = [.func (.yield lr) #[] #[], .pointer (some ⟨bx, 0, none⟩), jj 2, jj 3, jj 4, .int .i64 (ts.length : Int), .int .i64 (i : Int), jj 7, jj 8, jj 9, jj 10, jj 11, jj 12, jj 13, jj 14, jj 15, jj 16, jj 17, jj 18, jj 19, jj 20, jj 21]) ∧ k + i = ts.length ∧ pre.length = i ∧ pre.map (·.1) = (upl ts).take i ∧ J pre w' ∧ Bw w0.heap.size S w0 w') ts.length
    ⟨0, [], exj rfl, rfl, rfl, rfl, h0, hbW⟩ ?_
  rintro k l w1 ⟨i, pre, ⟨jj, rfl⟩, hki, hpl, hpre, hJ1, hb1⟩
  have hB1 := hBx.ch hb1.ch hSx
  have hR1 := hR.ch hb1.ch
  (try refine wk ?_)
  refine c_cond rfl (fun hi => ?_) (fun hi => ?_)
  · have hil : ts.length - 1 - i < ts.length := by omega
    obtain ⟨hl, A', cap', hv, hcap, hA⟩ := hR1
    injection hv with hv1 hv2 hv3
    subst hv1 hv3
    obtain ⟨b, o, rfl, hbl, hbS, he⟩ := hA (fun h => by rw [h] at hil; simp at hil)
    obtain ⟨_, _, cs, hcs, hrow⟩ := he _ _ (List.getElem?_eq_getElem hil)
    have hcs' : cs = eT.f ts[ts.length - 1 - i] := hcs
    subst hcs'
    have hget := upl_get (List.getElem?_eq_getElem hil) (by omega)
    generalize ts[ts.length - 1 - i] = t at hrow hget
    have hyl := hY pre ⟨(i, t), by omega⟩ w1 hJ1 (by omega)
    have hsnoc : (pre ++ [(⟨(i, t), by omega⟩ : Xt ts.length)]).map (·.1) = (upl ts).take (i + 1) := by
      rw [List.map_append, hpre, List.take_add_one, hget]
      rfl
    (try refine wkb ?_)
    refine c_region ?_
    refine st ?_
    refine st ?_
    refine en ?_
    (try refine wkb ?_)
    refine (wpIn_wide (n := n)).1 (wpIn_region_lit ?_)
    refine li_val (r_move _) ?_
    refine li_val (r_move _) ?_
    refine li_val (r_load_one rfl (hB1.cell rfl)) ?_
    refine li_val (r_load_one rfl (hB1.cell rfl)) ?_
    refine li_val (r_len rfl) ?_
    refine li_val (r_to (r_sub rfl rfl) (wrap_rng (by exact rfl) (by omega) (by omega))) ?_
    refine li_val (r_move _) ?_
    refine li_val (r_to (r_sub rfl rfl) (wrap_rng (by exact rfl) (by omega) (by omega))) ?_
    refine li_val (r_indexAddr rfl rfl (by omega) (by omega)) ?_
    rw [show ((ts.length : Int) - 1 - (i : Int)).toNat = ts.length - 1 - i by omega]
    refine li_val (r_load_row rfl hrow rfl) ?_
    refine li_yield rfl rfl hyl ?_
    rintro e w2 (⟨rfl, hJ2, hk2⟩ | ⟨rfl, hJ2⟩)
    · refine ⟨_, rfl, ?_⟩
      refine li_val (r_not rfl) ?_
      refine wpListIn_nil ?_
      (try refine wkb ?_)
      refine c_condb rfl (fun h => by cases h) (fun _ => ?_)
      (try refine wk ?_)
      exact x_goes (k - 1) rfl (by omega) ⟨i + 1, _, exj rfl, by omega, by simp [hpl], hsnoc, hJ2, hb1.then hk2⟩
    · refine ⟨_, rfl, ?_⟩
      refine li_val (r_not rfl) ?_
      refine wpListIn_nil ?_
      (try refine wkb ?_)
      refine c_condb rfl (fun _ => ?_) (fun h => by cases h)
      (try refine wk ?_)
      exact out0 rfl (.inr ⟨_, trivial, hJ2⟩)
  · (try refine wk ?_)
    refine out0 rfl (.inl ⟨pre, ?_, hJ1⟩)
    rw [hpre, List.take_of_length_le (by rw [upl_len]; omega)]
/-- How a round may be left. -/
def UpPost (S : List Nat) (Fz : List (Nat × (Nat × Bool)) → World → Prop) (pre : List (Nat × (Nat × Bool))) (W : World) : Exit → Act → World → Prop := fun e _ W' => e = .normal ∧ Ch S W W' ∧ Fz pre W'
theorem noOut_up {S : List Nat} {Fz : List (Nat × (Nat × Bool)) → World → Prop} {pre : List (Nat × (Nat × Bool))} {W : World} : ¬ LetsOut (UpPost S Fz pre W) := fun ⟨a, w, h, _⟩ => by cases h
theorem noOut_f : ¬ LetsOut (fun _ _ _ => False) := fun ⟨a, w, h⟩ => h
theorem grown_at {W W' : World} {row : Option Nat} {n : Nat} (hg : W.grownBy W' row) (hn : n ≤ W.heap.size) (hr : ∀ r, row = some r → n ≤ r) : ∀ k, k < n → W'.heap[k]? = W.heap[k]? := fun k hk => hg.block k (Nat.lt_of_lt_of_le hk hn) fun e => by
  have := hr k e.symm
  omega
set_option maxHeartbeats 4000000 in
theorem c_up {l : List Value} {w : World} {Q : Exit → Act → World → Prop} {S : List Nat} {bx : Nat} {v : Value} {ts : List (Nat × Bool)} {g p1 p2 : Nat} {assign body : Code} (q1 q2 : Nat)
    (hBx : Blk w bx [v] 203) (hSx : bx ∉ S) (hSlt : ∀ x ∈ S, x < w.heap.size) (hR : (Ty.enc eT).Rd S w v ts) (hlen : ts.length ≤ 2199023255552)
    (hg : ev l (.tmp g) = .func (.func 215) #[] #[.pointer (some ⟨bx, 0, none⟩)])
    (Fz : List (Nat × (Nat × Bool)) → World → Prop) (hFz : ∀ pre W W', Fz pre W → (∀ k, k < w.heap.size → W'.heap[k]? = W.heap[k]?) → Fz pre W') (h0 : Fz [] w)
    (hassign : ∀ (r : Nat) (x : Nat × (Nat × Bool)) (W : World) (K : Act → World → Prop), (∀ b W', W.heap.size ≤ b → Ch [] W W' → Blk W' b (eT.f x.2) 209 → K (fr ((((l.set p1 (.int .i64 (x.1 : Int))).set p2 (.agg #[.int .i64 (x.2.1 : Int), .bool x.2.2])).set q1 (.int .i64 (x.1 : Int))).set q2 (.pointer (some ⟨b, 0, none⟩)))) W') →
      assign.wpIn (RF r) 8 Tryz.prog (Exit.then K (fun _ _ _ => False)) (fr ((l.set p1 (.int .i64 (x.1 : Int))).set p2 (.agg #[.int .i64 (x.2.1 : Int), .bool x.2.2]))) W)
    (hbody : ∀ (r : Nat) (pre : List (Nat × (Nat × Bool))) (x : Nat × (Nat × Bool)) (b : Nat) (W : World), x.1 < ts.length → Ch S w W → Fz pre W → w.heap.size ≤ b → Blk W b (eT.f x.2) 209 →
      body.wpIn (RF r) 8 Tryz.prog (UpPost S Fz (pre ++ [x]) W) (fr ((((l.set p1 (.int .i64 (x.1 : Int))).set p2 (.agg #[.int .i64 (x.2.1 : Int), .bool x.2.2])).set q1 (.int .i64 (x.1 : Int))).set q2 (.pointer (some ⟨b, 0, none⟩)))) W)
    (hdone : ∀ (D : Nat) (W : World), w.heap.size ≤ D → Ch S w W → Fz (upl ts) W → W.heap[D]? = some (.deferred (some [])) → Q .normal (frd l [{ target := .collected D, args := #[] }]) W) :
    (Code.rangeFunc (.tmp g) #[p1, p2] assign body).wp Tryz.prog Q (fr l) w := by
  refine (wpIn_wide (n := 10)).1 ?_
  refine wpIn_rangeFunc_ownH (α := Xt ts.length) (F := Fence.wide) (n := 10) rfl (by omega) (gf := 215) (lb := #[.pointer (some ⟨bx, 0, none⟩)]) (by rw [eval_fr]; exact hg) trivial (enters_of Tryz.func215 (by kernel_rfl) rfl)
    (up_stops (n := 9) hBx hSx hR hlen) (fun h k => h.then k) (fun W lx o o' hl hW _ _ => Bw.putObj _ hl) (Below.refl _ _) (fun _ => rfl)
    (fun pre W => Ch S w W ∧ Fz (pre.map (·.1)) W) (fun _ _ _ => False) ?_ (fun _ _ _ _ _ h _ _ => h) ⟨Ch.refl _ _, h0⟩
    (fun x a' W => ∃ b, w.heap.size ≤ b ∧ Blk W b (eT.f x.1.2) 209 ∧ a' = fr ((((l.set p1 (.int .i64 (x.1.1 : Int))).set p2 (.agg #[.int .i64 (x.1.2.1 : Int), .bool x.1.2.2])).set q1 (.int .i64 (x.1.1 : Int))).set q2 (.pointer (some ⟨b, 0, none⟩)))) ?_ ?_ ?_ ?_ ?_
  · rintro pre W W' row ⟨hc, hF⟩ hgr hrow
    have hsame := grown_at (n := w.heap.size) hgr hc.size (fun r e => (hrow r e).1)
    exact ⟨⟨hgr.os.trans hc.os, hgr.tape.trans hc.tape, hgr.output.trans hc.output, Nat.le_trans hc.size hgr.size, fun k hk hS => (hsame k hk).trans (hc.block k hk hS)⟩, hFz _ _ _ hF hsame⟩
  · rintro x a' _ W W' row ⟨b, hb, hB, ha⟩ hgr hrow
    refine ⟨b, hb, ?_, ha⟩
    refine (hgr.block b hB.lt fun e => ?_).trans hB
    obtain ⟨_, o, ho, hno⟩ := hrow b e.symm
    rw [hB] at ho
    cases ho
    cases hno
  · rintro lr pre x W K ⟨hc, hF⟩ hK
    have := hassign lr x.1 W K (fun b W' hb hch hB => hK _ _ ⟨hch.size, fun k o hk ho _ => (hch.block k (Array.getElem?_eq_some_iff.1 ho).1 (by simp)).trans ho⟩ ((hch.some (S := S)).bw hc.size)
      ⟨hc.add hch, hFz _ _ _ hF (fun k hk => hch.block k (Nat.lt_of_lt_of_le hk hc.size) (by simp))⟩ ⟨b, Nat.le_trans hc.size hb, hB, rfl⟩)
    refine Code.wpIn_mono (fun e a w h => h) ?_
    have he : (((#[p1, p2] : Array Nat).zip (encU x)).foldl (fun t (p : Nat × Value) => t.setIfInBounds p.1 p.2) (fr l).tmps) = ((l.set p1 (.int .i64 (x.1.1 : Int))).set p2 (.agg #[.int .i64 (x.1.2.1 : Int), .bool x.1.2.2])).toArray := by
      simp [encU, fr]
    show assign.wpIn _ _ _ _ { tmps := ((#[p1, p2] : Array Nat).zip (encU x)).foldl (fun t (p : Nat × Value) => t.setIfInBounds p.1 p.2) (fr l).tmps, defers := [] } W
    rw [he]
    exact this
  · rintro lr pre x a' W hlr _ ⟨hc, hF⟩ ⟨b, hb, hB, rfl⟩ _
    refine Code.wpIn_mono (Q := UpPost S Fz (pre.map (·.1) ++ [x.1]) W) (fun e a W' h => ?_) (hbody lr (pre.map (·.1)) x.1 b W x.2 hc hF hb hB)
    obtain ⟨rfl, hch, hF'⟩ := h
    refine ⟨⟨hch.size, fun k o hk ho _ => (hch.block k (Array.getElem?_eq_some_iff.1 ho).1 (fun hm => by have := hSlt k hm; omega)).trans ho⟩, hch.bw hc.size, hc.then hch, ?_⟩
    rw [List.map_append]
    exact hF'
  · rintro D xs W hD hxs ⟨hc, hF⟩ hK
    rw [hxs] at hF
    exact hdone D W hD hc hF hK
  · rintro D c pre W _ _ h _
    exact h.elim
end Go.Proofs.YtoimhmphhffelaaGreatDoor

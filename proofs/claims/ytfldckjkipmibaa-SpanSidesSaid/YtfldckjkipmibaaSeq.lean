/- A range over a function whose iterator has memory of its own, and whose body grows a row of its own: its value lies in block b. -/
import Derived.Test.YtfldckjkipmibaaIn
set_option linter.unusedVariables false
set_option linter.unusedSimpArgs false
namespace Go.Proofs.E
open Go Go.RowKit
/-- Block k holds the row of the value in block b. -/
def Held (b : Nat) (T : TypeId) (A : World) (k : Nat) : Prop := ∃ v : Value, Blk A b [v] T ∧ v.ownBlock = some k ∧ ∃ o, A.heap[k]? = some o ∧ o.isCells = true
/-- Whatever lies below B, and the row of the value in block b, lies as it lay. -/
structure Mv (B b : Nat) (T : TypeId) (A A' : World) : Prop where
  os : A'.os = A.os
  tape : A'.tape = A.tape
  output : A'.output = A.output
  size : A.heap.size ≤ A'.heap.size
  low : ∀ k, k < B → A'.heap[k]? = A.heap[k]?
  held : ∀ (k : Nat), Held b T A k → A'.heap[k]? = A.heap[k]?
/-- What a round keeps: all cells but block b and its value's row; that value's row is the same or a new one. -/
structure Kw (b : Nat) (T : TypeId) (A A' : World) : Prop where
  size : A.heap.size ≤ A'.heap.size
  go : ∀ v, Blk A b [v] T → (∀ k o, A.heap[k]? = some o → o.isCells = true → k ≠ b → v.ownBlock ≠ some k → A'.heap[k]? = some o) ∧ ∃ v', Blk A' b [v'] T ∧ (v'.ownBlock = v.ownBlock ∨ ∃ k, v'.ownBlock = some k ∧ A.heap.size ≤ k ∧ k < A'.heap.size)
theorem Blk.lt' {w : World} {b : Nat} {cs : List Value} {E : TypeId} (h : Blk w b cs E) : b < w.heap.size := (Array.getElem?_eq_some_iff.1 h).1
theorem Kw.then {b : Nat} {T : TypeId} {A B C : World} (h : Kw b T A B) (k : Kw b T B C) : Kw b T A C := by
  refine ⟨Nat.le_trans h.size k.size, fun v hv => ?_⟩
  obtain ⟨h1, v1, hv1, ho1⟩ := h.go v hv
  obtain ⟨h2, v2, hv2, ho2⟩ := k.go v1 hv1
  refine ⟨fun i o hi hc hb hn => h2 i o (h1 i o hi hc hb hn) hc hb fun e => ?_, v2, hv2, ?_⟩
  · have hi' := (Array.getElem?_eq_some_iff.1 hi).1
    rcases ho1 with ho1 | ⟨q, ho1, hq, _⟩
    · exact hn (ho1.symm.trans e)
    · rw [ho1] at e
      cases e
      omega
  · rcases ho2 with ho2 | ⟨q, ho2, hq, hq'⟩
    · rcases ho1 with ho1 | ⟨q, ho1, hq, hq'⟩
      · exact .inl (ho2.trans ho1)
      · exact .inr ⟨q, ho2.trans ho1, hq, Nat.lt_of_lt_of_le hq' k.size⟩
    · exact .inr ⟨q, ho2, Nat.le_trans h.size hq, hq'⟩
theorem Kw.put {b : Nat} {T : TypeId} {A : World} {l : Nat} {o : Obj} (o' : Obj) (hl : A.heap[l]? = some o) (ho : o.isCells = false) : Kw b T A (A.putObj l o') := by
  have hne : ∀ (k : Nat) (o1 : Obj), A.heap[k]? = some o1 → o1.isCells = true → (A.putObj l o').heap[k]? = some o1 := fun k o1 hk hc => by
    have : k ≠ l := fun e => by
      subst e
      rw [hl] at hk
      cases hk
      rw [ho] at hc
      cases hc
    exact (World.putObj_heap_other (by omega)).trans hk
  exact ⟨by simp [World.putObj], fun v hv => ⟨fun k o1 hk hc _ _ => hne k o1 hk hc, v, hne b _ hv rfl, .inl rfl⟩⟩
theorem Kw.ch {b : Nat} {T : TypeId} {A A' : World} (h : Ch [] A A') : Kw b T A A' :=
  ⟨h.size, fun v hv => ⟨fun k o hk _ _ _ => (h.block k (Array.getElem?_eq_some_iff.1 hk).1 (by simp)).trans hk, v, hv.ch h (by simp), .inl rfl⟩⟩
theorem Mv.ch {B b : Nat} {T : TypeId} {A A' : World} (h : Ch [] A A') (hB : B ≤ A.heap.size) : Mv B b T A A' :=
  ⟨h.os, h.tape, h.output, h.size, fun k hk => h.block k (Nat.lt_of_lt_of_le hk hB) (by simp), fun k ⟨_, _, _, o, ho, _⟩ => h.block k (Array.getElem?_eq_some_iff.1 ho).1 (by simp)⟩
theorem Mv.put {B b : Nat} {T : TypeId} {A : World} {l : Nat} {o : Obj} (o' : Obj) (hB : B ≤ l) (hl : A.heap[l]? = some o) (ho : o.isCells = false) : Mv B b T A (A.putObj l o') :=
  ⟨rfl, rfl, rfl, by simp [World.putObj], fun k hk => World.putObj_heap_other (by omega), fun k ⟨_, _, _, o1, h1, h2⟩ => World.putObj_heap_other fun e => by
    subst e
    rw [hl] at h1
    cases h1
    rw [ho] at h2
    cases h2⟩
theorem Mv.le {B B' b : Nat} {T : TypeId} {A A' : World} (h : Mv B' b T A A') (hB : B ≤ B') : Mv B b T A A' := ⟨h.os, h.tape, h.output, h.size, fun k hk => h.low k (by omega), h.held⟩
/-- The iterator's word: it hands L's elements, in order, to whatever rounds keep theirs; whatever it may not turn lies as the last round left it. -/
def SeqX {α : Type} (P : Program) (n g : Nat) (lb : Array Value) (encs : α → Array Value) (b : Nat) (T : TypeId) (L : List α) (w0 : World) : Prop :=
  ∀ (r : Nat) (J : List α → World → Prop) (W : World), Below w0.heap.size w0 W → (∀ s A A', J s A → Mv W.heap.size b T A A' → J s A') →
    (∀ pre x W1, J pre W1 → pre.length < L.length → YieldAt Fence.wide (n - 1) P r (encs x) W1 fun e W' => e = .returned (.bool true) ∧ J (pre ++ [x]) W' ∧ Kw b T W1 W') →
    J [] W → CallsIn Fence.wide n P g (#[.func (.yield r) #[] #[]] ++ lb) W fun e W' => (∃ v, e = .returned v) ∧ J L W'
/-- How a round must be left. -/
def RoundX (B b : Nat) (T : TypeId) (W : World) (I : World → Prop) : Exit → Act → World → Prop := fun e _ W' => e = .normal ∧ KeepsFrom B W W' ∧ Kw b T W W' ∧ I W'
theorem noOut_X {B b : Nat} {T : TypeId} {W : World} {I : World → Prop} : ¬ LetsOut (RoundX B b T W I) := fun ⟨a, w, h, _⟩ => by cases h
theorem noOut_F : ¬ LetsOut (fun _ _ _ => False) := fun ⟨a, w, h⟩ => h
theorem wpIn_rangeX {α : Type} {P : Program} {n : Nat} {g : Operand} {ps : Array Tmp} {assign body : Code} {Q : Exit → Act → World → Prop} {a : Act} {w : World} (h1 : 1 ≤ n) {gf : Nat} {lb : Array Value} (hg : a.eval g = .func (.func gf) #[] lb)
    (eg : ∀ args w, (callFunc gf args).run P w = .ok (.enter gf args) w) {encs : α → Array Value} {b : Nat} {T : TypeId} {L : List α} (hseq : SeqX P (n - 1) gf lb encs b T L w) (hb : b < w.heap.size) (hps : ∀ x, (encs x).size = ps.size)
    (I : List α → World → Prop) (hI : ∀ s A A', I s A → Mv w.heap.size b T A A' → I s A') (h0 : I [] w)
    (Ax : α → Act → World → Prop) (hAx : ∀ x a' A l o o', Ax x a' A → A.heap[l]? = some o → o.isCells = false → Ax x a' (A.putObj l o'))
    (hassign : ∀ (r : Nat) (x : α) (W : World) (K : Act → World → Prop), w.heap.size ≤ W.heap.size → (∀ a' W', Ch [] W W' → Ax x a' W' → K a' W') → assign.wpIn (RF r) (n - 1 - 1) P (Exit.then K (fun _ _ _ => False)) { tmps := (ps.zip (encs x)).foldl (fun t (p, v) => t.setIfInBounds p v) a.tmps, defers := [] } W)
    (hbody : ∀ (r : Nat) (pre : List α) (x : α) (a' : Act) (W : World), w.heap.size ≤ r → (∃ rr, W.heap[r]? = some (.loop rr)) → I pre W → Ax x a' W → pre.length < L.length → body.wpIn (RF r) (n - 1 - 1) P (RoundX w.heap.size b T W (I (pre ++ [x]))) a' W)
    (hdone : ∀ (D : Nat) (W : World), w.heap.size ≤ D → I L W → W.heap[D]? = some (.deferred (some [])) → Q .normal { a with defers := { target := .collected D, args := #[] } :: a.defers } W) :
    (Code.rangeFunc g ps assign body).wpIn Fence.wide n P Q a w := by
  refine wpIn_rangeFunc ?_
  intro fn hfn
  obtain ⟨rec, hrec⟩ : ∃ rec : LoopState → Option Code → Loop, rec = fun st pe => { state := st, pending := pe, fn, tmps := a.tmps, params := ps, assign, body, defers := w.heap.size } := ⟨_, rfl⟩
  obtain ⟨W1, hW1⟩ : ∃ W1, (w.alloc (.deferred (some []))).alloc (.loop (rec .ready none)) = W1 := ⟨_, rfl⟩
  have hz1 : W1.heap.size = w.heap.size + 2 := by rw [← hW1]; simp
  have hL1 : W1.heap[w.heap.size + 1]? = some (.loop (rec .ready none)) := by
    rw [← hW1]
    have := World.alloc_heap_new (w.alloc (.deferred (some []))) (.loop (rec .ready none))
    rwa [World.size_alloc] at this
  have hK1 : W1.heap[w.heap.size]? = some (.deferred (some [])) := by
    rw [← hW1]
    exact (Below.heap_alloc _ _ _ (by simp)).trans (World.alloc_heap_new w _)
  have hch1 : Ch [] w W1 := by
    rw [← hW1]
    exact Ch.of_below (((Below.refl _ w).alloc (Nat.le_refl _) _).alloc (by simp) _)
  have hI1 : I [] W1 := hI _ _ _ h0 (Mv.ch hch1 (Nat.le_refl _))
  refine ⟨w.heap.size + 1, [{ target := .collected w.heap.size, args := #[] }], W1, { target := .fn (.func gf) lb, args := #[.func (.yield (w.heap.size + 1)) #[] #[]] }, W1, gf,
    #[.func (.yield (w.heap.size + 1)) #[] #[]] ++ lb, W1, ?_, ?_, ?_, ?_, fun _ => h1, ?_⟩
  · rw [← hW1, hrec]
    exact run_enterLoop_outer _ _ _ _ _
  · simp only [resolve, hg]
    simp [go_sem]
  · intro f' _
    trivial
  · simp [invoke, go_sem, eg]
  · refine (hseq (w.heap.size + 1) (fun pre W => I pre W ∧ W.heap[w.heap.size + 1]? = some (.loop (rec .ready none)) ∧ W.heap[w.heap.size]? = some (.deferred (some []))) W1 hch1.below ?_ ?_ ⟨hI1, hL1, hK1⟩).mono ?_
    · rintro s A A' ⟨hi, hl, hk⟩ hm
      exact ⟨hI s A A' hi (hm.le (by omega)), (hm.low _ (by omega)).trans hl, (hm.low _ (by omega)).trans hk⟩
    · rintro pre x W ⟨hi, hl, hk⟩ hlen
      have hlt : w.heap.size + 1 < W.heap.size := (Array.getElem?_eq_some_iff.1 hl).1
      have hy := run_yield (P := P) (args := encs x) hl (by rw [hrec]; exact hps x)
      rw [hrec] at hy
      refine ⟨fn, _, assign, body, hy, roundIn_of_wpIn hfn (hassign _ x W _ (by omega) ?_)⟩
      clear hy
      intro a' Wa hca hax
      have hla := (hca.block _ hlt (by simp)).trans hl
      have hka := (hca.block _ (by omega) (by simp)).trans hk
      have hlta : w.heap.size + 1 < Wa.heap.size := (Array.getElem?_eq_some_iff.1 hla).1
      have hia := hI _ _ _ hi (Mv.ch hca (by omega))
      refine ⟨_, run_beginRound hla (by rw [hrec]), ?_⟩
      have hl2 : (Wa.putObj (w.heap.size + 1) (.loop { rec .ready none with state := .busy })).heap[w.heap.size + 1]? = some (.loop { rec .ready none with state := .busy }) := World.putObj_heap_same hlta
      have hk2 : (Wa.putObj (w.heap.size + 1) (.loop { rec .ready none with state := .busy })).heap[w.heap.size]? = some (.deferred (some [])) := (World.putObj_heap_other (by omega)).trans hka
      refine wpIn_mono (hbody _ pre x a' _ (by omega) ⟨_, hl2⟩ (hI _ _ _ hia (Mv.put _ (by omega) hla rfl)) (hAx _ _ _ _ _ _ hax hla rfl) hlen) ?_
      rintro e a3 W3 ⟨rfl, hk3, hkw3, hi3⟩
      have hl3 := hk3.same _ _ (by omega) hl2 rfl
      have hd3 := hk3.same _ _ (Nat.le_refl _) hk2 rfl
      have hend := run_endRound (P := P) none hl3
      have hback : ({ rec .ready none with state := if (none : Option Code).isNone = true then .ready else .done, pending := none } : Loop) = rec .ready none := by rw [hrec]; rfl
      refine ⟨_, _, hend, rfl, ⟨hI _ _ _ hi3 (Mv.put _ (by omega) hl3 rfl), ?_, (World.putObj_heap_other (by omega)).trans hd3⟩, ?_⟩
      · refine (World.putObj_heap_same (Array.getElem?_eq_some_iff.1 hl3).1).trans ?_
        rw [hrec]
        rfl
      · exact (((Kw.ch hca).then (Kw.put _ hla rfl)).then hkw3).then (Kw.put _ hl3 rfl)
    · rintro e W2 ⟨⟨v, rfl⟩, hi, hl, hk⟩
      exact ⟨none, _, by have := run_endLoop (P := P) hl (by rw [hrec]; simp); rw [hrec] at this; exact this, hdone _ _ (Nat.le_refl _) (hI _ _ _ hi (Mv.put _ (by omega) hl rfl)) ((World.putObj_heap_other (by omega)).trans hk)⟩
/-- The same at the wide fence, with frames, two loop variables. -/
theorem c_rangeX {α : Type} {P : Program} {l : List Value} {w : World} {Q : Exit → Act → World → Prop} {g p1 p2 : Nat} {assign body : Code} {gf : Nat} {lb : Array Value} {e1 e2 : α → Value} {b : Nat} {T : TypeId} {L : List α} (hg : ev l (.tmp g) = .func (.func gf) #[] lb)
    (eg : ∀ args w, (callFunc gf args).run P w = .ok (.enter gf args) w) (hseq : SeqX P 9 gf lb (fun x => #[e1 x, e2 x]) b T L w) (hb : b < w.heap.size)
    (I : List α → World → Prop) (hI : ∀ s A A', I s A → Mv w.heap.size b T A A' → I s A') (h0 : I [] w)
    (Ax : α → List Value → World → Prop) (hAx : ∀ x a' A l o o', Ax x a' A → A.heap[l]? = some o → o.isCells = false → Ax x a' (A.putObj l o'))
    (hassign : ∀ (r : Nat) (x : α) (W : World) (K : Act → World → Prop), w.heap.size ≤ W.heap.size → (∀ l' W', Ch [] W W' → Ax x l' W' → K (fr l') W') → assign.wpIn (RF r) 8 P (Exit.then K (fun _ _ _ => False)) (fr ((l.set p1 (e1 x)).set p2 (e2 x))) W)
    (hbody : ∀ (r : Nat) (pre : List α) (x : α) (l' : List Value) (W : World), w.heap.size ≤ r → I pre W → Ax x l' W → pre.length < L.length → body.wpIn (RF r) 8 P (RoundX w.heap.size b T W (I (pre ++ [x]))) (fr l') W)
    (hdone : ∀ (D : Nat) (W : World), w.heap.size ≤ D → I L W → W.heap[D]? = some (.deferred (some [])) → Q .normal (frd l [{ target := .collected D, args := #[] }]) W) :
    (Code.rangeFunc (.tmp g) #[p1, p2] assign body).wp P Q (fr l) w := by
  refine (wpIn_wide (n := 10)).1 ?_
  refine wpIn_rangeX (n := 10) (by omega) (gf := gf) (lb := lb) (by rw [eval_fr]; exact hg) eg hseq hb (fun _ => rfl) I hI h0 (fun x a' W => ∃ l', a' = fr l' ∧ Ax x l' W) (fun x a' A l o o' ⟨l', e, h⟩ h1 h2 => ⟨l', e, hAx x l' A l o o' h h1 h2⟩) ?_ ?_ ?_
  · intro r x W K hz hK
    have he : (((#[p1, p2] : Array Nat).zip #[e1 x, e2 x]).foldl (fun t (p : Nat × Value) => t.setIfInBounds p.1 p.2) (fr l).tmps) = ((l.set p1 (e1 x)).set p2 (e2 x)).toArray := by
      simp [fr]
    show assign.wpIn _ _ _ _ { tmps := ((#[p1, p2] : Array Nat).zip #[e1 x, e2 x]).foldl (fun t (p : Nat × Value) => t.setIfInBounds p.1 p.2) (fr l).tmps, defers := [] } W
    rw [he]
    exact hassign r x W K hz (fun l' W' hc h => hK _ _ hc ⟨l', rfl, h⟩)
  · rintro r pre x a' W hr _ hi ⟨l', rfl, hx⟩ hlen
    exact hbody r pre x l' W hr hi hx hlen
  · exact hdone
end Go.Proofs.E

/- A range over a function, with own memory: the iterator's word and the loop's rule. -/
import Derived.Test.YtnkkeehoejmcnaaK
import Derived.Test.YtnkkeehoejmcnaaIn
set_option linter.unusedVariables false
set_option linter.unusedSimpArgs false
namespace Go.Proofs.E
open Go Go.RowKit
/-- The iterator hands L's elements, in order, to whatever rounds keep theirs; X0 is what it reads by. -/
def SeqM {α : Type} (P : Program) (n g : Nat) (lb : Array Value) (encs : α → Array Value) (L : List α) (O : List Nat) (w0 : World) (X0 : List As) : Prop :=
  ∀ (r : Nat) (Inv Stp : List α → List As → Prop) (W : World) (La : List As), Mem O w0 W (La ++ X0) → Inv [] La →
    (∀ pre x W1 La1 (X : List As), (pre ++ [x]) <+: L → Inv pre La1 → Mem O w0 W1 (La1 ++ X) →
      YieldAt Fence.wide (n - 1) P r (encs x) W1 fun e W' => (e = .returned (.bool true) ∧ ∃ La2, Inv (pre ++ [x]) La2 ∧ Mem O w0 W' (La2 ++ X)) ∨ (e = .returned (.bool false) ∧ ∃ La2, Stp (pre ++ [x]) La2 ∧ Mem O w0 W' (La2 ++ X))) →
    CallsIn Fence.wide n P g (#[.func (.yield r) #[] #[]] ++ lb) W fun e W' => (∃ v, e = .returned v) ∧ ∃ La', (Inv L La' ∨ ∃ pre, Stp pre La') ∧ Mem O w0 W' (La' ++ X0)
/-- How a round may be left. -/
def RoundM (O : List Nat) (w0 : World) (X : List As) (I : List As → Prop) (St : Code → List As → Prop) : Exit → Act → World → Prop
  | .normal, _, W => ∃ La, I La ∧ Mem O w0 W (La ++ X)
  | .ret, _, W => ∃ La, St .ret La ∧ Mem O w0 W (La ++ X)
  | .exit id, _, W => ∃ La, St (.exit id) La ∧ Mem O w0 W (La ++ X)
  | .goto t, _, W => ∃ La, St (.goto t) La ∧ Mem O w0 W (La ++ X)
  | .panic _, _, _ => False
  | .outgrown, _, _ => False
theorem noOut_round {O : List Nat} {w0 : World} {X : List As} {I : List As → Prop} {St : Code → List As → Prop} : ¬ LetsOut (RoundM O w0 X I St) := fun ⟨a, w, h⟩ => h
theorem noOut_fls : ¬ LetsOut (fun _ _ _ => False) := fun ⟨a, w, h⟩ => h
theorem Mem.putObj {O : List Nat} {w0 w : World} {k : Nat} {o o' : Obj} {L : List As} (h : Mem O w0 w (.obj k o :: L)) : Mem O w0 (w.putObj k o') (.obj k o' :: L) :=
  h.put (S := [k]) ⟨rfl, rfl, rfl, by simp [World.putObj], fun j hj hn => World.putObj_heap_other (by simpa using hn)⟩ (fun j hj => show j = k by simpa using hj) (World.putObj_heap_same (Array.getElem?_eq_some_iff.1 h.head).1) (fun j hj => .inl hj)
theorem Mem.newObj {O : List Nat} {w0 w : World} {o : Obj} {L : List As} (h : Mem O w0 w L) : Mem O w0 (w.alloc o) (.obj w.heap.size o :: L) :=
  h.res (Ch.of_below ((Below.refl _ w).alloc (Nat.le_refl _) _)) (World.alloc_heap_new w o) (fun k hk => Nat.le_of_eq (show w.heap.size = k from hk.symm))
theorem perm2 {α : Type 1} {a b : α} {L X : List α} : (L ++ (a :: b :: X)).Perm (a :: b :: (L ++ X)) := List.perm_middle.trans (List.Perm.cons _ List.perm_middle)
set_option maxHeartbeats 2000000 in
theorem c_rangeM {α : Type} {P : Program} {l : List Value} {O : List Nat} {w0 w : World} {Q : Exit → Act → World → Prop} {g : Nat} {ps : Array Tmp} {assign body : Code} {gf : Nat} {lb : Array Value} {encs : α → Array Value} {L : List α} {X0 La : List As} (hM : Mem O w0 w (La ++ X0)) (hg : ev l (.tmp g) = .func (.func gf) #[] lb)
    (eg : ∀ args w, (callFunc gf args).run P w = .ok (.enter gf args) w) (hseq : SeqM P 9 gf lb encs L O w0 X0) (hps : ∀ x, (encs x).size = ps.size)
    (Inv : List α → List As → Prop) (h0 : Inv [] La) (Stp : Code → List α → List As → Prop) (Ax : List α → α → List Value → List As → Prop)
    (hassign : ∀ (r : Nat) (pre : List α) (x : α) (W : World) (La X : List As) (K : Act → World → Prop), (pre ++ [x]) <+: L → Inv pre La → Mem O w0 W (La ++ X) → (∀ l' W' La2, Ax pre x l' La2 → Mem O w0 W' (La2 ++ X) → K (fr l') W') →
      assign.wpIn (RF r) 8 P (Exit.then K (fun _ _ _ => False)) { tmps := (ps.zip (encs x)).foldl (fun t (p, v) => t.setIfInBounds p v) (fr l).tmps, defers := [] } W)
    (hbody : ∀ (r : Nat) (pre : List α) (x : α) (l' : List Value) (W : World) (La X : List As), (pre ++ [x]) <+: L → Ax pre x l' La → Mem O w0 W (La ++ X) → body.wpIn (RF r) 8 P (RoundM O w0 X (Inv (pre ++ [x])) (fun c => Stp c (pre ++ [x]))) (fr l') W)
    (hdone : ∀ (D : Nat) (W : World) (La : List As), Inv L La → Mem O w0 W (.obj D (.deferred (some [])) :: (La ++ X0)) → Q .normal (frd l [{ target := .collected D, args := #[] }]) W)
    (hstop : ∀ (D : Nat) (c : Code) (pre : List α) (W : World) (La : List As), Stp c pre La → Mem O w0 W (.obj D (.deferred (some [])) :: (La ++ X0)) → c.wpIn Fence.wide 10 P Q (frd l [{ target := .collected D, args := #[] }]) W) :
    (Code.rangeFunc (.tmp g) ps assign body).wp P Q (fr l) w := by
  refine (wpIn_wide (n := 10)).1 ?_
  refine wpIn_rangeFunc ?_
  intro fn hfn
  obtain ⟨rec, hrec⟩ : ∃ rec : LoopState → Option Code → Loop, rec = fun st pe => { state := st, pending := pe, fn, tmps := (fr l).tmps, params := ps, assign, body, defers := w.heap.size } := ⟨_, rfl⟩
  obtain ⟨W1, hW1⟩ : ∃ W1, (w.alloc (.deferred (some []))).alloc (.loop (rec .ready none)) = W1 := ⟨_, rfl⟩
  have hM1 : Mem O w0 W1 (.obj (w.heap.size + 1) (.loop (rec .ready none)) :: .obj w.heap.size (.deferred (some [])) :: (La ++ X0)) := by
    rw [← hW1]
    have := (hM.newObj (o := .deferred (some []))).newObj (o := .loop (rec .ready none))
    rwa [World.size_alloc] at this
  generalize hr : w.heap.size + 1 = r at hM1
  generalize hD : w.heap.size = D at hM1 hr
  refine ⟨r, [{ target := .collected D, args := #[] }], W1, { target := .fn (.func gf) lb, args := #[.func (.yield r) #[] #[]] }, W1, gf, #[.func (.yield r) #[] #[]] ++ lb, W1, ?_, ?_, ?_, ?_, fun _ => by omega, ?_⟩
  · rw [← hW1, hrec, ← hr, ← hD]
    exact run_enterLoop_outer _ _ _ _ _
  · have hg' : (fr l).eval (.tmp g) = .func (.func gf) #[] lb := by rw [eval_fr]; exact hg
    simp only [resolve, hg']
    simp [go_sem]
  · intro f' _
    trivial
  · simp [invoke, go_sem, eg]
  · refine (hseq r (fun pre M => ∃ La, Inv pre La ∧ M = .obj r (.loop (rec .ready none)) :: .obj D (.deferred (some [])) :: La) (fun pre M => ∃ c La, Stp c pre La ∧ M = .obj r (.loop (rec .done (some c))) :: .obj D (.deferred (some [])) :: La)
      W1 _ hM1 ⟨La, h0, rfl⟩ ?_).mono ?_
    · rintro pre x W _ X hpx ⟨La, hi, rfl⟩ hM
      have hl : W.heap[r]? = some (.loop (rec .ready none)) := hM.head
      have hMx : Mem O w0 W (La ++ (.obj r (.loop (rec .ready none)) :: .obj D (.deferred (some [])) :: X)) := hM.perm perm2.symm
      have hy := run_yield (P := P) (args := encs x) hl (by rw [hrec]; exact hps x)
      rw [hrec] at hy
      refine ⟨fn, _, assign, body, hy, roundIn_of_wpIn hfn (hassign r pre x W La _ _ hpx hi hMx ?_)⟩
      clear hy
      intro l' Wa La2 hax hMa
      have hMa := hMa.perm perm2
      have hla : Wa.heap[r]? = some (.loop (rec .ready none)) := hMa.head
      refine ⟨_, run_beginRound hla (by rw [hrec]), ?_⟩
      have hMb := (hMa.putObj (o' := .loop { rec .ready none with state := .busy })).perm perm2.symm
      refine wpIn_mono (hbody r pre x l' _ La2 _ hpx hax hMb) ?_
      have fin : ∀ (jump : Option Code) (W3 : World) (La3 : List As), Mem O w0 W3 (La3 ++ (.obj r (.loop { rec .ready none with state := .busy }) :: .obj D (.deferred (some [])) :: X)) →
          (Instr.endRound r jump).run P W3 = .ok (.bool jump.isNone) (W3.putObj r (.loop (rec (if jump.isNone then .ready else .done) jump))) ∧
          Mem O w0 (W3.putObj r (.loop (rec (if jump.isNone then .ready else .done) jump))) (.obj r (.loop (rec (if jump.isNone then .ready else .done) jump)) :: .obj D (.deferred (some [])) :: (La3 ++ X)) := fun jump W3 La3 h3 => by
        have h3 := h3.perm perm2
        have := run_endRound (P := P) jump (show W3.heap[r]? = some (.loop { rec .ready none with state := .busy }) from h3.head)
        rw [hrec] at this h3 ⊢
        exact ⟨this, h3.putObj⟩
      rintro e a3 W3 hp
      cases e with
      | normal =>
        obtain ⟨La3, hi3, h3⟩ := hp
        obtain ⟨hr, h4⟩ := fin none W3 La3 h3
        exact ⟨_, _, hr, .inl ⟨rfl, _, ⟨La3, hi3, rfl⟩, h4⟩⟩
      | ret =>
        obtain ⟨La3, hi3, h3⟩ := hp
        obtain ⟨hr, h4⟩ := fin (some .ret) W3 La3 h3
        exact ⟨_, _, hr, .inr ⟨rfl, _, ⟨.ret, La3, hi3, rfl⟩, h4⟩⟩
      | exit id =>
        obtain ⟨La3, hi3, h3⟩ := hp
        obtain ⟨hr, h4⟩ := fin (some (.exit id)) W3 La3 h3
        exact ⟨_, _, hr, .inr ⟨rfl, _, ⟨.exit id, La3, hi3, rfl⟩, h4⟩⟩
      | goto t =>
        obtain ⟨La3, hi3, h3⟩ := hp
        obtain ⟨hr, h4⟩ := fin (some (.goto t)) W3 La3 h3
        exact ⟨_, _, hr, .inr ⟨rfl, _, ⟨.goto t, La3, hi3, rfl⟩, h4⟩⟩
      | panic ch => exact hp.elim
      | outgrown => exact hp.elim
    · rintro e W2 ⟨⟨v, rfl⟩, M, (⟨La, hi, rfl⟩ | ⟨pre, c, La, hi, rfl⟩), hM2⟩
      · have hl : W2.heap[r]? = some (.loop (rec .ready none)) := hM2.head
        exact ⟨none, _, by have := run_endLoop (P := P) hl (by rw [hrec]; simp); rw [hrec] at this; exact this, hdone D _ La hi (hM2.putObj (o' := _)).drop⟩
      · have hl : W2.heap[r]? = some (.loop (rec .done (some c))) := hM2.head
        exact ⟨some c, _, by have := run_endLoop (P := P) hl (by rw [hrec]; simp); rw [hrec] at this; exact this, hstop D c pre _ La hi (hM2.putObj (o' := _)).drop⟩
end Go.Proofs.E

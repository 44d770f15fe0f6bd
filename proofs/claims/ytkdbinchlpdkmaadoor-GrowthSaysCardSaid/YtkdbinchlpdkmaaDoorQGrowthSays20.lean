/- A range over a function, with own memory: the iterator's word and the loop's rule.
   Slices of slices: their raw view; strings of bytes; what is new and read.
   A region that draws its order and calls yield: all that only reads in any order, then the call alone, then one operation more.
   A range over a function with two variables; what comes behind it; results in three cells. -/
import Derived.Test.YtkdbinchlpdkmaaDoorQGrowthSays19
import Derived.Test.YtkdbinchlpdkmaaDoorQGrowthSays04
import Derived.Laws.BytesString
set_option linter.unusedVariables false
set_option linter.unusedSimpArgs false
namespace Go.Proofs.E
open Go Go.RowKit
/-- The iterator hands L's elements, in order, to whatever rounds keep theirs; X0 is what it reads by. -/
def SeqM {α : Type} (P : Program) (n g : Nat) (lb : Array Value) (encs : α → Array Value) (L : List α) (O : List Nat) (w0 : World) (X0 : List As) : Prop :=
  ∀ (r : Nat) (Inv Stp : List α → List As → Prop) (W : World) (La : List As), Mem O w0 W (La ++ X0) → Inv [] La →
    (∀ pre x W1 La1 (X : List As), (pre ++ [x]) <+: L → Inv pre La1 → Mem O w0 W1 (La1 ++ X) →
      YieldAt Fence.wide (n - 1) P r (encs x) W1 fun e W' => (e = .returned (.bool true) ∧ ∃ La2, Inv (pre ++ [x]) La2 ∧ Mem O w0 W' (La2 ++ X)) ∨ (e = .returned (.bool false) ∧ ∃ La2, Stp (pre ++ [x]) La2 ∧ Mem O w0 W' (La2 ++ X))) →
    CallsIn Fence.wide n P g (#[.func (.yield r) #[] #[]] ++ lb) W fun e W' => (∃ v, e = .returned v) ∧ ∃ La', (Inv L La' ∨ ∃ pre, Stp pre La') ∧ Mem O w0 W' (La' ++ X0)
/-- How a round may be left. -/
def RoundM (O : List Nat) (w0 : World) (X : List As) (I : List As → Prop) (St : Code → List As → Prop) : Exit → Act → World → Prop
  | .normal, _, W => ∃ La, I La ∧ Mem O w0 W (La ++ X)
  | .ret, _, W => ∃ La, St .ret La ∧ Mem O w0 W (La ++ X)
  | .exit id, _, W => ∃ La, St (.exit id) La ∧ Mem O w0 W (La ++ X)
  | .goto t, _, W => ∃ La, St (.goto t) La ∧ Mem O w0 W (La ++ X)
  | .panic _, _, _ => False
  | .outgrown, _, _ => False
theorem noOut_round {O : List Nat} {w0 : World} {X : List As} {I : List As → Prop} {St : Code → List As → Prop} : ¬ LetsOut (RoundM O w0 X I St) := fun ⟨a, w, h⟩ => h
theorem noOut_fls : ¬ LetsOut (fun _ _ _ => False) := fun ⟨a, w, h⟩ => h
theorem Mem.putObj {O : List Nat} {w0 w : World} {k : Nat} {o o' : Obj} {L : List As} (h : Mem O w0 w (.obj k o :: L)) : Mem O w0 (w.putObj k o') (.obj k o' :: L) :=
  h.put (S := [k]) ⟨rfl, rfl, rfl, by simp [World.putObj], fun j hj hn => World.putObj_heap_other (by simpa using hn)⟩ (fun j hj => show j = k by simpa using hj) (World.putObj_heap_same (Array.getElem?_eq_some_iff.1 h.head).1) (fun j hj => .inl hj)
theorem Mem.newObj {O : List Nat} {w0 w : World} {o : Obj} {L : List As} (h : Mem O w0 w L) : Mem O w0 (w.alloc o) (.obj w.heap.size o :: L) :=
  h.res (Ch.of_below ((Below.refl _ w).alloc (Nat.le_refl _) _)) (World.alloc_heap_new w o) (fun k hk => Nat.le_of_eq (show w.heap.size = k from hk.symm))
theorem perm2 {α : Type 1} {a b : α} {L X : List α} : (L ++ (a :: b :: X)).Perm (a :: b :: (L ++ X)) := List.perm_middle.trans (List.Perm.cons _ List.perm_middle)
set_option maxHeartbeats 2000000 in
theorem c_rangeM {α : Type} {P : Program} {l : List Value} {O : List Nat} {w0 w : World} {Q : Exit → Act → World → Prop} {g : Nat} {ps : Array Tmp} {assign body : Code} {gf : Nat} {lb : Array Value} {encs : α → Array Value} {L : List α} {X0 La : List As} (hM : Mem O w0 w (La ++ X0)) (hg : ev l (.tmp g) = .func (.func gf) #[] lb)
    (eg : ∀ args w, (callFunc gf args).run P w = .ok (.enter gf args) w) (hseq : SeqM P 9 gf lb encs L O w0 X0) (hps : ∀ x, (encs x).size = ps.size)
    (Inv : List α → List As → Prop) (h0 : Inv [] La) (Stp : Code → List α → List As → Prop) (Ax : List α → α → List Value → List As → Prop)
    (hassign : ∀ (r : Nat) (pre : List α) (x : α) (W : World) (La X : List As) (K : Act → World → Prop), (pre ++ [x]) <+: L → Inv pre La → Mem O w0 W (La ++ X) → (∀ l' W' La2, Ax pre x l' La2 → Mem O w0 W' (La2 ++ X) → K (fr l') W') →
      assign.wpIn (RF r) 8 P (Exit.then K (fun _ _ _ => False)) { tmps := (ps.zip (encs x)).foldl (fun t (p, v) => t.setIfInBounds p v) (fr l).tmps, defers := [] } W)
    (hbody : ∀ (r : Nat) (pre : List α) (x : α) (l' : List Value) (W : World) (La X : List As), (pre ++ [x]) <+: L → Ax pre x l' La → Mem O w0 W (La ++ X) → body.wpIn (RF r) 8 P (RoundM O w0 X (Inv (pre ++ [x])) (fun c => Stp c (pre ++ [x]))) (fr l') W)
    (hdone : ∀ (D : Nat) (W : World) (La : List As), Inv L La → Mem O w0 W (.obj D (.deferred (some [])) :: (La ++ X0)) → Q .normal (frd l [{ target := .collected D, args := #[] }]) W)
    (hstop : ∀ (D : Nat) (c : Code) (pre : List α) (W : World) (La : List As), Stp c pre La → Mem O w0 W (.obj D (.deferred (some [])) :: (La ++ X0)) → c.wpIn Fence.wide 10 P Q (frd l [{ target := .collected D, args := #[] }]) W) :
    (Code.rangeFunc (.tmp g) ps assign body).wp P Q (fr l) w := by
  refine (wpIn_wide (n := 10)).1 ?_
  refine wpIn_rangeFunc ?_
  intro fn hfn
  obtain ⟨rec, hrec⟩ : ∃ rec : LoopState → Option Code → Loop, rec = fun st pe => { state := st, pending := pe, fn, tmps := (fr l).tmps, params := ps, assign, body, defers := w.heap.size } := ⟨_, rfl⟩
  obtain ⟨W1, hW1⟩ : ∃ W1, (w.alloc (.deferred (some []))).alloc (.loop (rec .ready none)) = W1 := ⟨_, rfl⟩
  have hM1 : Mem O w0 W1 (.obj (w.heap.size + 1) (.loop (rec .ready none)) :: .obj w.heap.size (.deferred (some [])) :: (La ++ X0)) := by
    rw [← hW1]
    have := (hM.newObj (o := .deferred (some []))).newObj (o := .loop (rec .ready none))
    rwa [World.size_alloc] at this
  generalize hr : w.heap.size + 1 = r at hM1
  generalize hD : w.heap.size = D at hM1 hr
  refine ⟨r, [{ target := .collected D, args := #[] }], W1, { target := .fn (.func gf) lb, args := #[.func (.yield r) #[] #[]] }, W1, gf, #[.func (.yield r) #[] #[]] ++ lb, W1, ?_, ?_, ?_, ?_, fun _ => by omega, ?_⟩
  · rw [← hW1, hrec, ← hr, ← hD]
    exact run_enterLoop_outer _ _ _ _ _
  · have hg' : (fr l).eval (.tmp g) = .func (.func gf) #[] lb := by rw [eval_fr]; exact hg
    simp only [resolve, hg']
    simp [go_sem]
  · intro f' _
    trivial
  · simp [invoke, go_sem, eg]
  · refine (hseq r (fun pre M => ∃ La, Inv pre La ∧ M = .obj r (.loop (rec .ready none)) :: .obj D (.deferred (some [])) :: La) (fun pre M => ∃ c La, Stp c pre La ∧ M = .obj r (.loop (rec .done (some c))) :: .obj D (.deferred (some [])) :: La)
      W1 _ hM1 ⟨La, h0, rfl⟩ ?_).mono ?_
    · rintro pre x W _ X hpx ⟨La, hi, rfl⟩ hM
      have hl : W.heap[r]? = some (.loop (rec .ready none)) := hM.head
      have hMx : Mem O w0 W (La ++ (.obj r (.loop (rec .ready none)) :: .obj D (.deferred (some [])) :: X)) := hM.perm perm2.symm
      have hy := run_yield (P := P) (args := encs x) hl (by rw [hrec]; exact hps x)
      rw [hrec] at hy
      refine ⟨fn, _, assign, body, hy, roundIn_of_wpIn hfn (hassign r pre x W La _ _ hpx hi hMx ?_)⟩
      clear hy
      intro l' Wa La2 hax hMa
      have hMa := hMa.perm perm2
      have hla : Wa.heap[r]? = some (.loop (rec .ready none)) := hMa.head
      refine ⟨_, run_beginRound hla (by rw [hrec]), ?_⟩
      have hMb := (hMa.putObj (o' := .loop { rec .ready none with state := .busy })).perm perm2.symm
      refine wpIn_mono (hbody r pre x l' _ La2 _ hpx hax hMb) ?_
      have fin : ∀ (jump : Option Code) (W3 : World) (La3 : List As), Mem O w0 W3 (La3 ++ (.obj r (.loop { rec .ready none with state := .busy }) :: .obj D (.deferred (some [])) :: X)) →
          (Instr.endRound r jump).run P W3 = .ok (.bool jump.isNone) (W3.putObj r (.loop (rec (if jump.isNone then .ready else .done) jump))) ∧
          Mem O w0 (W3.putObj r (.loop (rec (if jump.isNone then .ready else .done) jump))) (.obj r (.loop (rec (if jump.isNone then .ready else .done) jump)) :: .obj D (.deferred (some [])) :: (La3 ++ X)) := fun jump W3 La3 h3 => by
        have h3 := h3.perm perm2
        have := run_endRound (P := P) jump (show W3.heap[r]? = some (.loop { rec .ready none with state := .busy }) from h3.head)
        rw [hrec] at this h3 ⊢
        exact ⟨this, h3.putObj⟩
      rintro e a3 W3 hp
      cases e with
      | normal =>
        obtain ⟨La3, hi3, h3⟩ := hp
        obtain ⟨hr, h4⟩ := fin none W3 La3 h3
        exact ⟨_, _, hr, .inl ⟨rfl, _, ⟨La3, hi3, rfl⟩, h4⟩⟩
      | ret =>
        obtain ⟨La3, hi3, h3⟩ := hp
        obtain ⟨hr, h4⟩ := fin (some .ret) W3 La3 h3
        exact ⟨_, _, hr, .inr ⟨rfl, _, ⟨.ret, La3, hi3, rfl⟩, h4⟩⟩
      | exit id =>
        obtain ⟨La3, hi3, h3⟩ := hp
        obtain ⟨hr, h4⟩ := fin (some (.exit id)) W3 La3 h3
        exact ⟨_, _, hr, .inr ⟨rfl, _, ⟨.exit id, La3, hi3, rfl⟩, h4⟩⟩
      | goto t =>
        obtain ⟨La3, hi3, h3⟩ := hp
        obtain ⟨hr, h4⟩ := fin (some (.goto t)) W3 La3 h3
        exact ⟨_, _, hr, .inr ⟨rfl, _, ⟨.goto t, La3, hi3, rfl⟩, h4⟩⟩
      | panic ch => exact hp.elim
      | outgrown => exact hp.elim
    · rintro e W2 ⟨⟨v, rfl⟩, M, (⟨La, hi, rfl⟩ | ⟨pre, c, La, hi, rfl⟩), hM2⟩
      · have hl : W2.heap[r]? = some (.loop (rec .ready none)) := hM2.head
        exact ⟨none, _, by have := run_endLoop (P := P) hl (by rw [hrec]; simp); rw [hrec] at this; exact this, hdone D _ La hi (hM2.putObj (o' := _)).drop⟩
      · have hl : W2.heap[r]? = some (.loop (rec .done (some c))) := hM2.head
        exact ⟨some c, _, by have := run_endLoop (P := P) hl (by rw [hrec]; simp); rw [hrec] at this; exact this, hstop D c pre _ La hi (hM2.putObj (o' := _)).drop⟩
end Go.Proofs.E
set_option linter.unusedVariables false
set_option linter.unusedSimpArgs false
namespace Go.Proofs.E
open Go Go.RowKit
abbrev SlV := Option Addr × Nat × Nat
def slv (x : SlV) : Value := .slice x.1 x.2.1 x.2.2
@[simp] theorem slv_cells (x : SlV) : (slv x).cells = #[slv x] := rfl
@[simp] theorem slv_one (x : SlV) : (slv x).oneCell' = true := rfl
abbrev eSl : En SlV := { f := fun x => [slv x], n := 1, hl := fun _ => rfl, h1 := fun _ u hu => by simp at hu; subst hu; rfl }
theorem Ty.Rd.slv {α : Type} {t : Ty α} {S : List Nat} {w : World} {v : Value} {xs : List α} (h : t.Rd S w v xs) : ∃ u : SlV, v = E.slv u := let ⟨_, A, cap, hv, _, _⟩ := h; ⟨(A, xs.length, cap), hv⟩
theorem Ty.Rd.unraw {α : Type} {t : Ty α} {S : List Nat} {w : World} {v : Value} {ps : List (SlV × List α)} (h : (Ty.enc eSl).Rd S w v (ps.map (·.1))) (hp : ∀ p ∈ ps, t.Rd S w (E.slv p.1) p.2) : (Ty.sl t).Rd S w v (ps.map (·.2)) := by
  obtain ⟨hl, A, cap, rfl, hcap, hA⟩ := h
  refine ⟨by simpa using hl, A, cap, by simp, by simpa using hcap, fun hne => ?_⟩
  obtain ⟨b, o, rfl, hb, hn, he⟩ := hA (by simpa using hne)
  refine ⟨b, o, rfl, hb, hn, fun i x hx => ?_⟩
  rw [List.getElem?_map] at hx
  obtain ⟨p, hpi, rfl⟩ := Option.map_eq_some_iff.1 hx
  obtain ⟨_, _, cs, rfl, hr⟩ := he i p.1 (by rw [List.getElem?_map, hpi]; rfl)
  exact ⟨hb, hn, _, ⟨_, rfl, hp p (List.mem_of_getElem? hpi)⟩, hr⟩
/-! ### What is new and read -/
abbrev As.many {α : Type} (t : Ty α) (B : Nat → Prop) (ps : List (SlV × List α)) : As := .gen B (fun S w => ∀ p ∈ ps, t.Rd S w (slv p.1) p.2) (fun hc hs h p hp => (h p hp).mv hc hs)
abbrev As.frd {α : Type} (t : Ty α) (B : Nat → Prop) (v : Value) (xs : List α) : As := .gen B (fun S w => t.Rd S w v xs) (fun hc hs h => h.mv hc hs)
def As.plain : As → Prop
  | .rd .. => False
  | _ => True
theorem As.free {O O' : List Nat} {n0 n1 : Nat} : ∀ (a : As) {w : World}, a.plain → a.P O n0 w → a.P O' n1 w
  | .cell .., w, _, h => h
  | .row .., w, _, h => h
  | .obj .., w, _, h => h
  | .gen .., w, _, h => h
  | .rd .., w, h, _ => h.elim
section
variable {O : List Nat} {w0 w w' : World} {L L' M : List As} {a c d : As}
theorem Mem.turn (h : Mem O w0 w (a :: L)) (hd : a.P O w0.heap.size w → d.P O w0.heap.size w) (ho : ∀ k, d.own k → a.own k) : Mem O w0 w (d :: L) :=
  h.put (S := []) (Ch.refl _ _) (by simp) (hd h.head) (fun k hk => .inl (ho k hk))
theorem Mem.fuse (h : Mem O w0 w (a :: c :: L)) (hd : a.P O w0.heap.size w → c.P O w0.heap.size w → d.P O w0.heap.size w) (ho : ∀ k, d.own k → a.own k ∨ c.own k) : Mem O w0 w (d :: L) := by
  have hac := List.pairwise_cons.1 h.dis
  have hc := List.pairwise_cons.1 hac.2
  refine ⟨h.ch, fun x hx => ?_, fun x hx k hk => ?_, List.pairwise_cons.2 ⟨fun x hx k hk hxk => ?_, hc.2⟩⟩
  · rcases List.mem_cons.1 hx with rfl | hx
    · exact hd h.head (h.drop).head
    · exact h.all x (by simp [hx])
  · rcases List.mem_cons.1 hx with rfl | hx
    · exact (ho k hk).elim (h.new a (by simp) k) (h.new c (by simp) k)
    · exact h.new x (by simp [hx]) k hk
  · exact (ho k hk).elim (fun hk => hac.1 x (by simp [hx]) k hk hxk) (fun hk => hc.1 x hx k hk hxk)
/-- What a call handed back, all of it new. -/
theorem Mem.join (h : Mem O w0 w L) (k : Mem [] w w' M) (hp : ∀ a ∈ M, a.plain) : Mem O w0 w' (M ++ L) := by
  have h1 := h.call k.ch
  have hn : ∀ a ∈ M, ∀ j, a.own j → w.heap.size ≤ j := fun a ha j hj => (k.new a ha j hj).resolve_right (by simp)
  refine ⟨h1.ch, fun a ha => ?_, fun a ha j hj => ?_, List.pairwise_append.2 ⟨k.dis, h1.dis, fun a ha c hc j hj hj' => ?_⟩⟩
  · rcases List.mem_append.1 ha with ha | ha
    · exact a.free (hp a ha) (k.all a ha)
    · exact h1.all a ha
  · rcases List.mem_append.1 ha with ha | ha
    · exact .inl (Nat.le_trans h.ch.size (hn a ha j hj))
    · exact h1.new a ha j hj
  · have h2 := hn a ha j hj
    have h3 := c.lt (h.all c hc) j hj'
    omega
variable {α : Type} {t : Ty α} {en : En α} {B B2 : Nat → Prop} {E : TypeId} {v : Value} {u : SlV} {xs : List α} {ps : List (SlV × List α)}
theorem Mem.many0 (t : Ty α) (h : Mem O w0 w L) : Mem O w0 w (.many t (fun _ => False) [] :: L) :=
  h.res (Ch.refl _ _) ⟨fun k hk => hk.elim, fun S _ p hp => by simp at hp⟩ (fun k hk => hk.elim)
theorem Mem.frd0 (t : Ty α) (h : Mem O w0 w L) (A : Option Addr) (c : Nat) : Mem O w0 w (.frd t (fun _ => False) (.slice A 0 c) [] :: L) :=
  h.res (Ch.refl _ _) ⟨fun k hk => hk.elim, fun S _ => Ty.Rd.nil _ _ _ _ _⟩ (fun k hk => hk.elim)
theorem Mem.rowFrd (h : Mem O w0 w (.row en E v xs :: L)) (hb : xs.length ≤ 9223372036854775807) : Mem O w0 w (.frd (Ty.enc en) (fun k => v.ownBlock = some k) v xs :: L) :=
  h.turn (fun hO => ⟨fun k hk => (Own.lt hO hk).2, fun S hS => Own.rd hO (fun k hk hm => hS k hm hk) hb⟩) (fun k hk => hk)
theorem Mem.manyPut (h : Mem O w0 w (.many t B ps :: .frd t B2 (slv u) xs :: L)) : Mem O w0 w (.many t (fun k => B k ∨ B2 k) (ps ++ [(u, xs)]) :: L) :=
  h.fuse (fun h1 h2 => ⟨fun k hk => hk.elim (h1.1 k) (h2.1 k), fun S hS p hp => by
    rcases List.mem_append.1 hp with hp | hp
    · exact h1.2 S (fun k hk hb => hS k hk (.inl hb)) p hp
    · simp only [List.mem_singleton] at hp
      subst hp
      exact h2.2 S (fun k hk hb => hS k hk (.inr hb))⟩) (fun k hk => hk)
theorem Mem.frdRd (h : Mem O w0 w L) (hp : Pick L (.frd t B v xs) L') : t.Rd [] w v xs := (h.pick hp).head.2 [] (by simp)
theorem Mem.manyRd (h : Mem O w0 w L) (hp : Pick L (.many t B ps) L') : ∀ p ∈ ps, t.Rd [] w (slv p.1) p.2 := (h.pick hp).head.2 [] (by simp)
end
theorem Own.le {α : Type} {en : En α} {w : World} {b : Nat} {E : TypeId} {v : Value} {xs : List α} (h : Own en w b E v xs) : xs.length ≤ 9223372036854775807 := by
  rcases h.2 with ⟨_, h0⟩ | ⟨g, cap, cur, rfl, hg, hh, h1, h2, _⟩
  · omega
  · simp only [maxLen] at h2
    omega
theorem Mem.rowRdO {O : List Nat} {w0 w : World} {L L' : List As} {α : Type} {en : En α} {E : TypeId} {v : Value} {xs : List α} (h : Mem O w0 w L) (hp : Pick L (.row en E v xs) L') : (Ty.enc en).Rd [] w v xs := h.rowRd hp (h.row0 hp).le
/-! ### Strings -/
def bst (bs : List UInt8) : ByteArray := ⟨bs.toArray⟩
section
variable {P : Program} {l : List Value} {w : World} {T : TypeId}
end
end Go.Proofs.E
set_option linter.unusedVariables false
set_option linter.unusedSimpArgs false
namespace Go.Proofs.E
open Go Go.RowKit
section
variable {P : Program} {ops : Array Oper} {G : World → World → Prop} {Z : Act → World → Prop} {full : Array Bool} {z : Nat}
variable {Q : Exit → Act → World → Prop} {n : Nat}
end
section
variable {P : Program} {Q : Exit → Act → World → Prop} {n : Nat} {O : List Nat} {w0 w : World} {L : List As} {l : List Value}
end
end Go.Proofs.E
set_option linter.unusedVariables false
set_option linter.unusedSimpArgs false
namespace Go.Proofs.E
open Go Go.RowKit
theorem c_rangeM2 {α : Type} {P : Program} {l : List Value} {O : List Nat} {w0 w : World} {Q : Exit → Act → World → Prop} {g p1 p2 : Nat} {assign body : Code} {gf : Nat} {lb : Array Value} {e1 e2 : α → Value} {L : List α} {X0 La : List As} (hM : Mem O w0 w (La ++ X0)) (hg : ev l (.tmp g) = .func (.func gf) #[] lb)
    (eg : ∀ args w, (callFunc gf args).run P w = .ok (.enter gf args) w) (hseq : SeqM P 9 gf lb (fun x => #[e1 x, e2 x]) L O w0 X0)
    (Inv : List α → List As → Prop) (h0 : Inv [] La) (Stp : Code → List α → List As → Prop) (Ax : List α → α → List Value → List As → Prop)
    (hassign : ∀ (r : Nat) (pre : List α) (x : α) (W : World) (La X : List As) (K : Act → World → Prop), (pre ++ [x]) <+: L → Inv pre La → Mem O w0 W (La ++ X) → (∀ l' W' La2, Ax pre x l' La2 → Mem O w0 W' (La2 ++ X) → K (fr l') W') →
      assign.wpIn (RF r) 8 P (Exit.then K (fun _ _ _ => False)) (fr ((l.set p1 (e1 x)).set p2 (e2 x))) W)
    (hbody : ∀ (r : Nat) (pre : List α) (x : α) (l' : List Value) (W : World) (La X : List As), (pre ++ [x]) <+: L → Ax pre x l' La → Mem O w0 W (La ++ X) → body.wpIn (RF r) 8 P (RoundM O w0 X (Inv (pre ++ [x])) (fun c => Stp c (pre ++ [x]))) (fr l') W)
    (hdone : ∀ (D : Nat) (W : World) (La : List As), Inv L La → Mem O w0 W (.obj D (.deferred (some [])) :: (La ++ X0)) → Q .normal (frd l [{ target := .collected D, args := #[] }]) W)
    (hstop : ∀ (D : Nat) (c : Code) (pre : List α) (W : World) (La : List As), Stp c pre La → Mem O w0 W (.obj D (.deferred (some [])) :: (La ++ X0)) → c.wpIn Fence.wide 10 P Q (frd l [{ target := .collected D, args := #[] }]) W) :
    (Code.rangeFunc (.tmp g) #[p1, p2] assign body).wp P Q (fr l) w := by
  refine c_rangeM hM hg eg hseq (fun _ => rfl) Inv h0 Stp Ax ?_ hbody hdone hstop
  intro r pre x W La X K hp hi hMx hK
  have he : (((#[p1, p2] : Array Nat).zip #[e1 x, e2 x]).foldl (fun t (p : Nat × Value) => t.setIfInBounds p.1 p.2) (fr l).tmps) = ((l.set p1 (e1 x)).set p2 (e2 x)).toArray := by
    simp [fr]
  show assign.wpIn _ _ _ _ { tmps := ((#[p1, p2] : Array Nat).zip #[e1 x, e2 x]).foldl (fun t (p : Nat × Value) => t.setIfInBounds p.1 p.2) (fr l).tmps, defers := [] } W
  rw [he]
  exact hassign r pre x W La X K hp hi hMx hK
section
variable {P : Program} {Q : Exit → Act → World → Prop} {l : List Value} {w w0 : World} {O : List Nat} {L L1 L2 L3 : List As} {ops : Array Oper} {ds : List Deferred}
theorem c_regd {id : Nat} {os : List Oper} (hs : os.all (fun o => simpleOp o.op) = true) (hno : ¬ LetsOut Q) (h : wpList P os.toArray (Sh ds Q) os (fr l) w) : (Code.region id os.toArray false).wp P Q (frd l ds) w :=
  wp_region_lit (list_defers os (fr l) w hs hno h)
variable {R : Value → World → Prop} {fn : Func}
end
end Go.Proofs.E

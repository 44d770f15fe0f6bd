/- A range over a function, with own memory: the iterator's word and the loop's rule.
   Slices of slices: their raw view; strings of bytes; what is new and read.
   A region that draws its order and calls yield: all that only reads in any order, then the call alone, then one operation more.
   A range over a function with two variables; what comes behind it; results in three cells. -/
import Derived.Test.YtkdbinchlpdkmaaDoorQClashTops12
import Derived.Test.YtkdbinchlpdkmaaDoorQClashTops13
import Derived.Laws.BytesString
set_option linter.unusedVariables false
set_option linter.unusedSimpArgs false
namespace Go.Proofs.E
open Go Go.RowKit
/-- The iterator hands L's elements, in order, to whatever rounds keep theirs; X0 is what it reads by. -/
def SeqM {α : Type} (P : Program) (n g : Nat) (lb : Array Value) (encs : α → Array Value) (L : List α) (O : List Nat) (w0 : World) (X0 : List As) : Prop :=
  ∀ (r : Nat) (Inv Stp : List α → List As → Prop) (W : World) (La : List As), Mem O w0 W (La ++ X0) → Inv [] La →
    (∀ pre x W1 La1 (X : List As), (pre ++ [x]) <+: L → Inv pre La1 → Mem O w0 W1 (La1 ++ X) →
      YieldAt Fence.wide (n - 1) P r (encs x) W1 fun e W' => (e = .returned (.bool true) ∧ ∃ La2, Inv (pre ++ [x]) La2 ∧ Mem O w0 W' (La2 ++ X)) ∨ (e = .returned (.bool false) ∧ ∃ La2, Stp (pre ++ [x]) La2 ∧ Mem O w0 W' (La2 ++ X))) →
    CallsIn Fence.wide n P g (#[.func (.yield r) #[] #[]] ++ lb) W fun e W' => (∃ v, e = .returned v) ∧ ∃ La', (Inv L La' ∨ ∃ pre, Stp pre La') ∧ Mem O w0 W' (La' ++ X0)
/-- How a round may be left. -/
def RoundM (O : List Nat) (w0 : World) (X : List As) (I : List As → Prop) (St : Code → List As → Prop) : Exit → Act → World → Prop
  | .normal, _, W => ∃ La, I La ∧ Mem O w0 W (La ++ X)
  | .ret, _, W => ∃ La, St .ret La ∧ Mem O w0 W (La ++ X)
  | .exit id, _, W => ∃ La, St (.exit id) La ∧ Mem O w0 W (La ++ X)
  | .goto t, _, W => ∃ La, St (.goto t) La ∧ Mem O w0 W (La ++ X)
  | .panic _, _, _ => False
  | .outgrown, _, _ => False
theorem noOut_round {O : List Nat} {w0 : World} {X : List As} {I : List As → Prop} {St : Code → List As → Prop} : ¬ LetsOut (RoundM O w0 X I St) := fun ⟨a, w, h⟩ => h
theorem noOut_fls : ¬ LetsOut (fun _ _ _ => False) := fun ⟨a, w, h⟩ => h
theorem Mem.putObj {O : List Nat} {w0 w : World} {k : Nat} {o o' : Obj} {L : List As} (h : Mem O w0 w (.obj k o :: L)) : Mem O w0 (w.putObj k o') (.obj k o' :: L) :=
  h.put (S := [k]) ⟨rfl, rfl, rfl, by simp [World.putObj], fun j hj hn => World.putObj_heap_other (by simpa using hn)⟩ (fun j hj => show j = k by simpa using hj) (World.putObj_heap_same (Array.getElem?_eq_some_iff.1 h.head).1) (fun j hj => .inl hj)
theorem Mem.newObj {O : List Nat} {w0 w : World} {o : Obj} {L : List As} (h : Mem O w0 w L) : Mem O w0 (w.alloc o) (.obj w.heap.size o :: L) :=
  h.res (Ch.of_below ((Below.refl _ w).alloc (Nat.le_refl _) _)) (World.alloc_heap_new w o) (fun k hk => Nat.le_of_eq (show w.heap.size = k from hk.symm))
theorem perm2 {α : Type 1} {a b : α} {L X : List α} : (L ++ (a :: b :: X)).Perm (a :: b :: (L ++ X)) := List.perm_middle.trans (List.Perm.cons _ List.perm_middle)
set_option maxHeartbeats 2000000 in
theorem c_rangeM {α : Type} {P : Program} {l : List Value} {O : List Nat} {w0 w : World} {Q : Exit → Act → World → Prop} {g : Nat} {ps : Array Tmp} {assign body : Code} {gf : Nat} {lb : Array Value} {encs : α → Array Value} {L : List α} {X0 La : List As} (hM : Mem O w0 w (La ++ X0)) (hg : ev l (.tmp g) = .func (.func gf) #[] lb)
    (eg : ∀ args w, (callFunc gf args).run P w = .ok (.enter gf args) w) (hseq : SeqM P 9 gf lb encs L O w0 X0) (hps : ∀ x, (encs x).size = ps.size)
    (Inv : List α → List As → Prop) (h0 : Inv [] La) (Stp : Code → List α → List As → Prop) (Ax : List α → α → List Value → List As → Prop)
    (hassign : ∀ (r : Nat) (pre : List α) (x : α) (W : World) (La X : List As) (K : Act → World → Prop), (pre ++ [x]) <+: L → Inv pre La → Mem O w0 W (La ++ X) → (∀ l' W' La2, Ax pre x l' La2 → Mem O w0 W' (La2 ++ X) → K (fr l') W') →
      assign.wpIn (RF r) 8 P (Exit.then K (fun _ _ _ => False)) { tmps := (ps.zip (encs x)).foldl (fun t (p, v) => t.setIfInBounds p v) (fr l).tmps, defers := [] } W)
    (hbody : ∀ (r : Nat) (pre : List α) (x : α) (l' : List Value) (W : World) (La X : List As), (pre ++ [x]) <+: L → Ax pre x l' La → Mem O w0 W (La ++ X) → body.wpIn (RF r) 8 P (RoundM O w0 X (Inv (pre ++ [x])) (fun c => Stp c (pre ++ [x]))) (fr l') W)
    (hdone : ∀ (D : Nat) (W : World) (La : List As), Inv L La → Mem O w0 W (.obj D (.deferred (some [])) :: (La ++ X0)) → Q .normal (frd l [{ target := .collected D, args := #[] }]) W)
    (hstop : ∀ (D : Nat) (c : Code) (pre : List α) (W : World) (La : List As), Stp c pre La → Mem O w0 W (.obj D (.deferred (some [])) :: (La ++ X0)) → c.wpIn Fence.wide 10 P Q (frd l [{ target := .collected D, args := #[] }]) W) :
    (Code.rangeFunc (.tmp g) ps assign body).wp P Q (fr l) w := by
  refine (wpIn_wide (n := 10)).1 ?_
  refine wpIn_rangeFunc ?_
  intro fn hfn
  obtain ⟨rec, hrec⟩ : ∃ rec : LoopState → Option Code → Loop, rec = fun st pe => { state := st, pending := pe, fn, tmps := (fr l).tmps, params := ps, assign, body, defers := w.heap.size } := ⟨_, rfl⟩
  obtain ⟨W1, hW1⟩ : ∃ W1, (w.alloc (.deferred (some []))).alloc (.loop (rec .ready none)) = W1 := ⟨_, rfl⟩
  have hM1 : Mem O w0 W1 (.obj (w.heap.size + 1) (.loop (rec .ready none)) :: .obj w.heap.size (.deferred (some [])) :: (La ++ X0)) := by
    rw [← hW1]
    have := (hM.newObj (o := .deferred (some []))).newObj (o := .loop (rec .ready none))
    rwa [World.size_alloc] at this
  generalize hr : w.heap.size + 1 = r at hM1
  generalize hD : w.heap.size = D at hM1 hr
  refine ⟨r, [{ target := .collected D, args := #[] }], W1, { target := .fn (.func gf) lb, args := #[.func (.yield r) #[] #[]] }, W1, gf, #[.func (.yield r) #[] #[]] ++ lb, W1, ?_, ?_, ?_, ?_, fun _ => by omega, ?_⟩
  · rw [← hW1, hrec, ← hr, ← hD]
    exact run_enterLoop_outer _ _ _ _ _
  · have hg' : (fr l).eval (.tmp g) = .func (.func gf) #[] lb := by rw [eval_fr]; exact hg
    simp only [resolve, hg']
    simp [go_sem]
  · intro f' _
    trivial
  · simp [invoke, go_sem, eg]
  · refine (hseq r (fun pre M => ∃ La, Inv pre La ∧ M = .obj r (.loop (rec .ready none)) :: .obj D (.deferred (some [])) :: La) (fun pre M => ∃ c La, Stp c pre La ∧ M = .obj r (.loop (rec .done (some c))) :: .obj D (.deferred (some [])) :: La)
      W1 _ hM1 ⟨La, h0, rfl⟩ ?_).mono ?_
    · rintro pre x W _ X hpx ⟨La, hi, rfl⟩ hM
      have hl : W.heap[r]? = some (.loop (rec .ready none)) := hM.head
      have hMx : Mem O w0 W (La ++ (.obj r (.loop (rec .ready none)) :: .obj D (.deferred (some [])) :: X)) := hM.perm perm2.symm
      have hy := run_yield (P := P) (args := encs x) hl (by rw [hrec]; exact hps x)
      rw [hrec] at hy
      refine ⟨fn, _, assign, body, hy, roundIn_of_wpIn hfn (hassign r pre x W La _ _ hpx hi hMx ?_)⟩
      clear hy
      intro l' Wa La2 hax hMa
      have hMa := hMa.perm perm2
      have hla : Wa.heap[r]? = some (.loop (rec .ready none)) := hMa.head
      refine ⟨_, run_beginRound hla (by rw [hrec]), ?_⟩
      have hMb := (hMa.putObj (o' := .loop { rec .ready none with state := .busy })).perm perm2.symm
      refine wpIn_mono (hbody r pre x l' _ La2 _ hpx hax hMb) ?_
      have fin : ∀ (jump : Option Code) (W3 : World) (La3 : List As), Mem O w0 W3 (La3 ++ (.obj r (.loop { rec .ready none with state := .busy }) :: .obj D (.deferred (some [])) :: X)) →
          (Instr.endRound r jump).run P W3 = .ok (.bool jump.isNone) (W3.putObj r (.loop (rec (if jump.isNone then .ready else .done) jump))) ∧
          Mem O w0 (W3.putObj r (.loop (rec (if jump.isNone then .ready else .done) jump))) (.obj r (.loop (rec (if jump.isNone then .ready else .done) jump)) :: .obj D (.deferred (some [])) :: (La3 ++ X)) := fun jump W3 La3 h3 => by
        have h3 := h3.perm perm2
        have := run_endRound (P := P) jump (show W3.heap[r]? = some (.loop { rec .ready none with state := .busy }) from h3.head)
        rw [hrec] at this h3 ⊢
        exact ⟨this, h3.putObj⟩
      rintro e a3 W3 hp
      cases e with
      | normal =>
        obtain ⟨La3, hi3, h3⟩ := hp
        obtain ⟨hr, h4⟩ := fin none W3 La3 h3
        exact ⟨_, _, hr, .inl ⟨rfl, _, ⟨La3, hi3, rfl⟩, h4⟩⟩
      | ret =>
        obtain ⟨La3, hi3, h3⟩ := hp
        obtain ⟨hr, h4⟩ := fin (some .ret) W3 La3 h3
        exact ⟨_, _, hr, .inr ⟨rfl, _, ⟨.ret, La3, hi3, rfl⟩, h4⟩⟩
      | exit id =>
        obtain ⟨La3, hi3, h3⟩ := hp
        obtain ⟨hr, h4⟩ := fin (some (.exit id)) W3 La3 h3
        exact ⟨_, _, hr, .inr ⟨rfl, _, ⟨.exit id, La3, hi3, rfl⟩, h4⟩⟩
      | goto t =>
        obtain ⟨La3, hi3, h3⟩ := hp
        obtain ⟨hr, h4⟩ := fin (some (.goto t)) W3 La3 h3
        exact ⟨_, _, hr, .inr ⟨rfl, _, ⟨.goto t, La3, hi3, rfl⟩, h4⟩⟩
      | panic ch => exact hp.elim
      | outgrown => exact hp.elim
    · rintro e W2 ⟨⟨v, rfl⟩, M, (⟨La, hi, rfl⟩ | ⟨pre, c, La, hi, rfl⟩), hM2⟩
      · have hl : W2.heap[r]? = some (.loop (rec .ready none)) := hM2.head
        exact ⟨none, _, by have := run_endLoop (P := P) hl (by rw [hrec]; simp); rw [hrec] at this; exact this, hdone D _ La hi (hM2.putObj (o' := _)).drop⟩
      · have hl : W2.heap[r]? = some (.loop (rec .done (some c))) := hM2.head
        exact ⟨some c, _, by have := run_endLoop (P := P) hl (by rw [hrec]; simp); rw [hrec] at this; exact this, hstop D c pre _ La hi (hM2.putObj (o' := _)).drop⟩
end Go.Proofs.E
set_option linter.unusedVariables false
set_option linter.unusedSimpArgs false
namespace Go.Proofs.E
open Go Go.RowKit
abbrev SlV := Option Addr × Nat × Nat
def slv (x : SlV) : Value := .slice x.1 x.2.1 x.2.2
@[simp] theorem slv_cells (x : SlV) : (slv x).cells = #[slv x] := rfl
@[simp] theorem slv_one (x : SlV) : (slv x).oneCell' = true := rfl
abbrev eSl : En SlV := { f := fun x => [slv x], n := 1, hl := fun _ => rfl, h1 := fun _ u hu => by simp at hu; subst hu; rfl }
theorem Ty.Rd.slv {α : Type} {t : Ty α} {S : List Nat} {w : World} {v : Value} {xs : List α} (h : t.Rd S w v xs) : ∃ u : SlV, v = E.slv u := let ⟨_, A, cap, hv, _, _⟩ := h; ⟨(A, xs.length, cap), hv⟩
theorem list_ofS {α : Type} {p : Nat → α → Prop} : ∀ {n : Nat}, (∀ i, i < n → ∃ x, p i x) → ∃ xs : List α, xs.length = n ∧ ∀ (i : Nat) x, xs[i]? = some x → p i x
  | 0, _ => ⟨[], rfl, fun i x hx => by simp at hx⟩
  | n + 1, h => by
    obtain ⟨xs, hl, hxs⟩ := list_ofS (n := n) fun i hi => h i (by omega)
    obtain ⟨x, hx⟩ := h n (by omega)
    refine ⟨xs ++ [x], by simp [hl], fun i y hy => ?_⟩
    rcases Nat.lt_or_ge i n with hlt | hge
    · rw [List.getElem?_append_left (by omega)] at hy
      exact hxs i y hy
    · rw [List.getElem?_append_right (by omega)] at hy
      have : i = n := by
        have := (List.getElem?_eq_some_iff.1 hy).1
        simp at this
        omega
      subst this
      rw [hl, Nat.sub_self] at hy
      simp only [List.getElem?_cons_zero, Option.some.injEq] at hy
      subst hy
      exact hx
/-- The elements' own values. -/
theorem Ty.Rd.raw {α : Type} {t : Ty α} {S : List Nat} {w : World} {v : Value} {xss : List (List α)} (h : (Ty.sl t).Rd S w v xss) :
    ∃ ps : List (SlV × List α), ps.map (·.2) = xss ∧ (Ty.enc eSl).Rd S w v (ps.map (·.1)) ∧ ∀ p ∈ ps, t.Rd S w (E.slv p.1) p.2 := by
  obtain ⟨hl, A, cap, rfl, hcap, hA⟩ := h
  by_cases hne : xss = []
  · subst hne
    exact ⟨[], rfl, ⟨by simp, A, cap, rfl, by simp, fun h => absurd rfl h⟩, by simp⟩
  · obtain ⟨b, o, rfl, hb, hn, he⟩ := hA hne
    obtain ⟨ps, hpl, hps⟩ : ∃ ps : List (SlV × List α), ps.length = xss.length ∧ ∀ (i : Nat) p, ps[i]? = some p → xss[i]? = some p.2 ∧ t.Rd S w (E.slv p.1) p.2 ∧ w.rangeAt b (o + i * 1) [E.slv p.1] := list_ofS fun i hi => by
      obtain ⟨_, _, cs, ⟨v, rfl, hR⟩, hr⟩ := he i _ (List.getElem?_eq_getElem hi)
      obtain ⟨u, rfl⟩ := hR.slv
      exact ⟨(u, xss[i]), List.getElem?_eq_getElem hi, hR, hr⟩
    refine ⟨ps, List.ext_getElem? fun i => ?_, ⟨by simpa [hpl] using hl, some ⟨b, o, none⟩, cap, by simp [hpl], by simpa [hpl] using hcap, fun _ => ⟨b, o, rfl, hb, hn, fun i x hx => ?_⟩⟩, fun p hp => ?_⟩
    · rw [List.getElem?_map]
      by_cases hi : i < xss.length
      · rw [List.getElem?_eq_getElem (l := ps) (by omega), (hps i _ (List.getElem?_eq_getElem (by omega))).1]
        rfl
      · rw [List.getElem?_eq_none (by omega), List.getElem?_eq_none (by omega)]
        rfl
    · rw [List.getElem?_map] at hx
      obtain ⟨p, hp, rfl⟩ := Option.map_eq_some_iff.1 hx
      exact ⟨hb, hn, _, rfl, (hps i p hp).2.2⟩
    · obtain ⟨i, hi⟩ := List.getElem?_of_mem hp
      exact (hps i p hi).2.1
theorem Ty.Rd.unraw {α : Type} {t : Ty α} {S : List Nat} {w : World} {v : Value} {ps : List (SlV × List α)} (h : (Ty.enc eSl).Rd S w v (ps.map (·.1))) (hp : ∀ p ∈ ps, t.Rd S w (E.slv p.1) p.2) : (Ty.sl t).Rd S w v (ps.map (·.2)) := by
  obtain ⟨hl, A, cap, rfl, hcap, hA⟩ := h
  refine ⟨by simpa using hl, A, cap, by simp, by simpa using hcap, fun hne => ?_⟩
  obtain ⟨b, o, rfl, hb, hn, he⟩ := hA (by simpa using hne)
  refine ⟨b, o, rfl, hb, hn, fun i x hx => ?_⟩
  rw [List.getElem?_map] at hx
  obtain ⟨p, hpi, rfl⟩ := Option.map_eq_some_iff.1 hx
  obtain ⟨_, _, cs, rfl, hr⟩ := he i p.1 (by rw [List.getElem?_map, hpi]; rfl)
  exact ⟨hb, hn, _, ⟨_, rfl, hp p (List.mem_of_getElem? hpi)⟩, hr⟩
/-! ### What is new and read -/
abbrev As.many {α : Type} (t : Ty α) (B : Nat → Prop) (ps : List (SlV × List α)) : As := .gen B (fun S w => ∀ p ∈ ps, t.Rd S w (slv p.1) p.2) (fun hc hs h p hp => (h p hp).mv hc hs)
abbrev As.frd {α : Type} (t : Ty α) (B : Nat → Prop) (v : Value) (xs : List α) : As := .gen B (fun S w => t.Rd S w v xs) (fun hc hs h => h.mv hc hs)
def As.plain : As → Prop
  | .rd .. => False
  | _ => True
theorem As.free {O O' : List Nat} {n0 n1 : Nat} : ∀ (a : As) {w : World}, a.plain → a.P O n0 w → a.P O' n1 w
  | .cell .., w, _, h => h
  | .row .., w, _, h => h
  | .obj .., w, _, h => h
  | .gen .., w, _, h => h
  | .rd .., w, h, _ => h.elim
section
variable {O : List Nat} {w0 w w' : World} {L L' M : List As} {a c d : As}
theorem Mem.turn (h : Mem O w0 w (a :: L)) (hd : a.P O w0.heap.size w → d.P O w0.heap.size w) (ho : ∀ k, d.own k → a.own k) : Mem O w0 w (d :: L) :=
  h.put (S := []) (Ch.refl _ _) (by simp) (hd h.head) (fun k hk => .inl (ho k hk))
theorem Mem.fuse (h : Mem O w0 w (a :: c :: L)) (hd : a.P O w0.heap.size w → c.P O w0.heap.size w → d.P O w0.heap.size w) (ho : ∀ k, d.own k → a.own k ∨ c.own k) : Mem O w0 w (d :: L) := by
  have hac := List.pairwise_cons.1 h.dis
  have hc := List.pairwise_cons.1 hac.2
  refine ⟨h.ch, fun x hx => ?_, fun x hx k hk => ?_, List.pairwise_cons.2 ⟨fun x hx k hk hxk => ?_, hc.2⟩⟩
  · rcases List.mem_cons.1 hx with rfl | hx
    · exact hd h.head (h.drop).head
    · exact h.all x (by simp [hx])
  · rcases List.mem_cons.1 hx with rfl | hx
    · exact (ho k hk).elim (h.new a (by simp) k) (h.new c (by simp) k)
    · exact h.new x (by simp [hx]) k hk
  · exact (ho k hk).elim (fun hk => hac.1 x (by simp [hx]) k hk hxk) (fun hk => hc.1 x hx k hk hxk)
/-- What a call handed back, all of it new. -/
theorem Mem.join (h : Mem O w0 w L) (k : Mem [] w w' M) (hp : ∀ a ∈ M, a.plain) : Mem O w0 w' (M ++ L) := by
  have h1 := h.call k.ch
  have hn : ∀ a ∈ M, ∀ j, a.own j → w.heap.size ≤ j := fun a ha j hj => (k.new a ha j hj).resolve_right (by simp)
  refine ⟨h1.ch, fun a ha => ?_, fun a ha j hj => ?_, List.pairwise_append.2 ⟨k.dis, h1.dis, fun a ha c hc j hj hj' => ?_⟩⟩
  · rcases List.mem_append.1 ha with ha | ha
    · exact a.free (hp a ha) (k.all a ha)
    · exact h1.all a ha
  · rcases List.mem_append.1 ha with ha | ha
    · exact .inl (Nat.le_trans h.ch.size (hn a ha j hj))
    · exact h1.new a ha j hj
  · have h2 := hn a ha j hj
    have h3 := c.lt (h.all c hc) j hj'
    omega
variable {α : Type} {t : Ty α} {en : En α} {B B2 : Nat → Prop} {E : TypeId} {v : Value} {u : SlV} {xs : List α} {ps : List (SlV × List α)}
theorem Mem.many0 (t : Ty α) (h : Mem O w0 w L) : Mem O w0 w (.many t (fun _ => False) [] :: L) :=
  h.res (Ch.refl _ _) ⟨fun k hk => hk.elim, fun S _ p hp => by simp at hp⟩ (fun k hk => hk.elim)
theorem Mem.frd0 (t : Ty α) (h : Mem O w0 w L) (A : Option Addr) (c : Nat) : Mem O w0 w (.frd t (fun _ => False) (.slice A 0 c) [] :: L) :=
  h.res (Ch.refl _ _) ⟨fun k hk => hk.elim, fun S _ => Ty.Rd.nil _ _ _ _ _⟩ (fun k hk => hk.elim)
theorem Mem.rowFrd (h : Mem O w0 w (.row en E v xs :: L)) (hb : xs.length ≤ 9223372036854775807) : Mem O w0 w (.frd (Ty.enc en) (fun k => v.ownBlock = some k) v xs :: L) :=
  h.turn (fun hO => ⟨fun k hk => (Own.lt hO hk).2, fun S hS => Own.rd hO (fun k hk hm => hS k hm hk) hb⟩) (fun k hk => hk)
theorem Mem.manyPut (h : Mem O w0 w (.many t B ps :: .frd t B2 (slv u) xs :: L)) : Mem O w0 w (.many t (fun k => B k ∨ B2 k) (ps ++ [(u, xs)]) :: L) :=
  h.fuse (fun h1 h2 => ⟨fun k hk => hk.elim (h1.1 k) (h2.1 k), fun S hS p hp => by
    rcases List.mem_append.1 hp with hp | hp
    · exact h1.2 S (fun k hk hb => hS k hk (.inl hb)) p hp
    · simp only [List.mem_singleton] at hp
      subst hp
      exact h2.2 S (fun k hk hb => hS k hk (.inr hb))⟩) (fun k hk => hk)
theorem Mem.manyFrd (h : Mem O w0 w (.row eSl E v (ps.map (·.1)) :: .many t B ps :: L)) (hb : ps.length ≤ 9223372036854775807) : Mem O w0 w (.frd (Ty.sl t) (fun k => v.ownBlock = some k ∨ B k) v (ps.map (·.2)) :: L) :=
  h.fuse (fun h1 h2 => ⟨fun k hk => hk.elim (fun hk => (Own.lt h1 hk).2) (h2.1 k), fun S hS =>
    (Own.rd h1 (fun k hk hm => hS k hm (.inl hk)) (by simpa using hb)).unraw (h2.2 S (fun k hk hb => hS k hk (.inr hb)))⟩) (fun k hk => hk)
theorem Mem.frdRd (h : Mem O w0 w L) (hp : Pick L (.frd t B v xs) L') : t.Rd [] w v xs := (h.pick hp).head.2 [] (by simp)
theorem Mem.manyRd (h : Mem O w0 w L) (hp : Pick L (.many t B ps) L') : ∀ p ∈ ps, t.Rd [] w (slv p.1) p.2 := (h.pick hp).head.2 [] (by simp)
end
theorem Own.le {α : Type} {en : En α} {w : World} {b : Nat} {E : TypeId} {v : Value} {xs : List α} (h : Own en w b E v xs) : xs.length ≤ 9223372036854775807 := by
  rcases h.2 with ⟨_, h0⟩ | ⟨g, cap, cur, rfl, hg, hh, h1, h2, _⟩
  · omega
  · simp only [maxLen] at h2
    omega
theorem Mem.rowRdO {O : List Nat} {w0 w : World} {L L' : List As} {α : Type} {en : En α} {E : TypeId} {v : Value} {xs : List α} (h : Mem O w0 w L) (hp : Pick L (.row en E v xs) L') : (Ty.enc en).Rd [] w v xs := h.rowRd hp (h.row0 hp).le
/-! ### Strings -/
def bst (bs : List UInt8) : ByteArray := ⟨bs.toArray⟩
theorem bst_fold : ∀ (bs : List UInt8) (s : ByteArray), (bs.map fun b => (b.toNat : Int)).foldl (fun r n => r.push (UInt8.ofNat n.toNat)) s = ⟨s.data ++ bs.toArray⟩
  | [], s => by simp
  | b :: bs, s => by
    rw [List.map_cons, List.foldl_cons, bst_fold bs]
    simp [ByteArray.push]
theorem bst_loop (a : List UInt8) : ∀ (k i : Nat) (r : List UInt8), a.length - i = k → ByteArray.toList.loop (bst a) i r = r.reverse ++ a.drop i := by
  intro k
  induction k with
  | zero =>
    intro i r h
    rw [ByteArray.toList.loop, if_neg (by show ¬ i < a.toArray.size; simp; omega), List.drop_eq_nil_of_le (by omega), List.append_nil]
  | succ k ih =>
    intro i r h
    have hi : i < a.length := by omega
    rw [ByteArray.toList.loop, if_pos (show i < (bst a).size from (by simpa using hi : i < a.toArray.size)), ih (i + 1) _ (by omega), List.drop_eq_getElem_cons hi]
    have : (bst a).get! i = a[i] := by
      show a.toArray[i]! = a[i]
      simp [hi]
    rw [this]
    simp
theorem bst_list (a : List UInt8) : (bst a).toList = a := by
  have := bst_loop a _ 0 [] rfl
  simpa [ByteArray.toList] using this
section
variable {P : Program} {l : List Value} {w : World} {T : TypeId}
theorem r_b2s {x : Operand} {t u e : TypeId} {v : Value} {bs : List UInt8} {S : List Nat} [ht : Und P t (.slice e)] [he : Und P e (.int .u8)] [hu : Und P u .string] (hR : tU8.Rd S w v bs) (hx : ev l x = v := by exact rfl) :
    (exec (ev l) (.convert t u x) T).run P w = .ok (.value (.string (bst bs))) w := by
  have key : (Conv.bytesToString v).run P w = .ok (.string (bst bs)) w := by
    by_cases hne : bs = []
    · subst hne
      obtain ⟨A, cap, rfl⟩ := hR.form
      cases A with
      | none => simp [Conv.bytesToString, bst, Sem.run_pure]; rfl
      | some a =>
        have hl : (loadCells a 0).run P w = .ok #[] w := by simpa using run_loadCells_list (P := P) w a [] (by simp)
        have := run_bytesToString (P := P) w a 0 cap [] (by simpa using hl)
        exact this
    · obtain ⟨b, o, cap, rfl, hb, hS, hr⟩ := rowE hR hne
      have hl := run_loadCells_list (P := P) w ⟨b, o, none⟩ (bs.flatMap eU8.f) (fun j v hj => by by_cases hj0 : j = 0 <;> simpa [Addr.add, hj0] using hr j v hj)
      have hf : bs.flatMap eU8.f = (bs.map fun b => (b.toNat : Int)).map (Value.int .u8) := by
        rw [List.map_map]
        exact List.map_eq_flatMap.symm
      rw [hf, List.length_map, List.length_map] at hl
      rw [run_bytesToString (P := P) w ⟨b, o, none⟩ bs.length cap _ hl, bst_fold]
      simp [bst]
  obtain ⟨A, cap, rfl⟩ := hR.form
  have := run_convert_bytes_string (P := P) w t u e A bs.length cap ht.out he.out hu.out
  simp [exec, execOp, hx, this, key]
theorem r_minI {x y : Operand} {ts : Array TypeId} {k : IntKind} {a b : Int} (c : Int) (hx : ev l x = .int k a := by exact rfl) (hy : ev l y = .int k b := by exact rfl) (hc : c = min a b := by omega) : (exec (ev l) (.call { callee := .builtin .min, args := #[x, y], argTypes := ts }) T).run P w = .ok (.value (.int k c)) w := by
  have h : c = (if b < a then b else a) := by rw [hc]; omega
  subst h
  simp [exec, execOp, resolve, invoke, builtin, hx, hy, run_min_int2]
theorem r_eqst {x y : Operand} {t u : TypeId} {a b : List UInt8} [hU : Und P t .string] (hx : ev l x = .string (bst a) := by exact rfl) (hy : ev l y = .string (bst b) := by exact rfl) : (exec (ev l) (.binOp .eql t x y u) T).run P w = .ok (.value (.bool (decide (a = b)))) w := by
  have : (a == b) = decide (a = b) := by rw [Bool.eq_iff_iff, beq_iff_eq, decide_eq_true_eq]
  simp [exec, execOp, hx, hy, eqGuard, binOp, Op.stringOp, bst_list, this]
end
end Go.Proofs.E
set_option linter.unusedVariables false
set_option linter.unusedSimpArgs false
namespace Go.Proofs.E
open Go Go.RowKit
section
variable {P : Program} {ops : Array Oper} {G : World → World → Prop} {Z : Act → World → Prop} {full : Array Bool} {z : Nat}
def QZ (Z : Act → World → Prop) : Exit → Act → World → Prop := fun e a w => e = .normal ∧ Z a w
theorem noOut_QZ : ¬ LetsOut (QZ Z) := fun ⟨a, w, h, _⟩ => by cases h
def wpAnyGS (P : Program) (ops : Array Oper) (G : World → World → Prop) (Z : Act → World → Prop) (full : Array Bool) : Nat → Array Bool → Act → World → Prop
  | 0, listed, a, w => listed = full ∧ ∀ w1, G w w1 → Z a w1
  | fuel + 1, listed, a, w => ∀ w1, G w w1 → Region.ready .any ops listed ≠ [] ∧ ∀ i ∈ Region.ready .any ops listed, wpOp P ops (QZ Z) i (fun a' w' => G w1 w' ∧ wpAnyGS P ops G Z full fuel (listed.setIfInBounds i true) a' w') a w1
theorem wpAnyGS_up (ht : ∀ a b c, G a b → G b c → G a c) : ∀ (fuel : Nat) (listed : Array Bool) (a : Act) (w w1 : World), G w w1 → wpAnyGS P ops G Z full fuel listed a w → wpAnyGS P ops G Z full fuel listed a w1
  | 0, _, _, _, _, hG, h => ⟨h.1, fun w2 h2 => h.2 w2 (ht _ _ _ hG h2)⟩
  | _ + 1, _, _, _, _, hG, h => fun w2 h2 => h w2 (ht _ _ _ hG h2)
theorem wpAnyGS_first (hlate : Late .any ops z) (hz : Region.ready .any ops full = [z]) (hrefl : ∀ a, G a a) (ht : ∀ a b c, G a b → G b c → G a c) {i : Nat} {oi : Oper} {v : Value} (hi : ops[i]? = some oi) (hiz : i ≠ z) (hsel : ∀ (j : Nat) (o : Oper) cs b, ops[j]? = some o → o.op ≠ .select cs b) :
    ∀ (fuel : Nat) (listed : Array Bool) (a : Act) (w : World),
      (∀ j oj, ops[j]? = some oj → j ≠ i → listed.getD j true = false → (∀ e ∈ oj.after, Region.binds .any e = true → e.on ≠ i) → oi.apart ops oj = true) →
      Dn .any ops listed → i ∈ Region.ready .any ops listed → Steady P ops G w oi v a →
      wpAnyGS P ops G Z full fuel (listed.setIfInBounds i true) (a.put oi.dst v) w → wpAnyGS P ops G Z full (fuel + 1) listed a w := by
  intro fuel
  induction fuel with
  | zero =>
    intro listed a w _ hD hr hy H w1 hG
    refine ⟨fun h => (by rw [h] at hr; cases hr), fun j hj => ?_⟩
    by_cases hji : j = i
    · subst hji
      exact hy.wpOp hrefl hi hG fun w' hw' => ⟨hw', wpAnyGS_up ht 0 _ _ _ _ (ht _ _ _ hG hw') H⟩
    · have := ready_mono hj hji
      rw [H.1, hz] at this
      have hjz : j = z := by simpa using this
      subst hjz
      exact absurd (hlate listed i hD hj hr) hiz
  | succ fuel ih =>
    intro listed a w hfree hD hr hy H w1 hG
    refine ⟨fun h => (by rw [h] at hr; cases hr), fun j hj => ?_⟩
    by_cases hji : j = i
    · subst hji
      exact hy.wpOp hrefl hi hG fun w' hw' => ⟨hw', wpAnyGS_up ht (fuel + 1) _ _ _ _ (ht _ _ _ hG hw') H⟩
    · have h1 := (H w1 hG).2 j (ready_mono hj hji)
      obtain ⟨hjun, oj, hoj, hall⟩ := mem_ready.1 hj
      have hnot : ∀ e ∈ oj.after, Region.binds .any e = true → e.on ≠ i := fun e he hb heq => by
        have h1 := hall e he hb
        have h0 := (mem_ready.1 hr).1
        rw [heq] at h1
        rcases Nat.lt_or_ge i listed.size with h' | h'
        · simp [h'] at h0 h1; rw [h0] at h1; cases h1
        · simp [Array.getElem?_eq_none h'] at h1
      have h2 := wpOp_putG hoj (hfree j oj hoj hji hjun hnot) (fun cs b => hsel i oi cs b hi) (fun cs b => hsel j oj cs b hoj) (fun c a w h => by cases h.1) hy h1
      have hfree' : ∀ k ok, ops[k]? = some ok → k ≠ i → (listed.setIfInBounds j true).getD k true = false →
          (∀ e ∈ ok.after, Region.binds .any e = true → e.on ≠ i) → oi.apart ops ok = true := fun k ok hk hki hun hno => by
        refine hfree k ok hk hki ?_ hno
        by_cases hjk : j = k
        · subst hjk; exact hjun
        · rw [getD_set_ne true hjk] at hun; exact hun
      refine wpOp_mono (fun a' w' h3 => ⟨h3.2.1, ih (listed.setIfInBounds j true) a' w' hfree' (hD.set hj) (ready_mono hr (Ne.symm hji)) (h3.1.up ht (ht _ _ _ hG h3.2.1)) ?_⟩) h2
      rw [Array.setIfInBounds_comm _ _ hji]
      exact h3.2.2
def setAll (listed : Array Bool) (k n : Nat) : Array Bool := (List.range' k n).foldl (fun a i => a.setIfInBounds i true) listed
theorem preG_sound (hlate : Late .any ops z) (hz : Region.ready .any ops full = [z]) (hrefl : ∀ a, G a a) (ht : ∀ a b c, G a b → G b c → G a c) (hs : Region.noSelect ops = true) (m : Nat) :
    ∀ (l : List Oper) (k : Nat) (listed : Array Bool) (a : Act) (w : World), (∀ j, j < l.length → l[j]? = ops[k + j]?) → k + l.length = z → setAll listed k l.length = full → Dn .any ops listed → Region.lexFrom .any ops (l.length + m) k listed = true → wpLexG P ops G (QZ Z) z l k listed a w → wpAnyGS P ops G Z full l.length listed a w
  | [], k, listed, a, w, _, _, hf, _, hB, h => ⟨by simpa [setAll] using hf, fun w1 h1 => (h w1 h1).2⟩
  | o :: l, k, listed, a, w, hl, hkz, hf, hD, hB, h => by
    have h0 : ops[k]? = some o := by have := hl 0 (by simp); simpa using this.symm
    have hkz' : k ≠ z := by simp at hkz; omega
    rw [List.length_cons, show l.length + 1 + m = (l.length + m) + 1 by omega] at hB
    simp only [Region.lexFrom, Bool.and_eq_true] at hB
    obtain ⟨⟨hr, hfr⟩, hB'⟩ := hB
    have hl' : ∀ j, j < l.length → l[j]? = ops[k + 1 + j]? := fun j hj => by have := hl (j + 1) (by simp; omega); simpa [Nat.add_assoc, Nat.add_comm 1 j] using this
    have hf' : setAll (listed.setIfInBounds k true) (k + 1) l.length = full := by rw [← hf]; rfl
    have hkl : k + 1 + l.length = z := by simp at hkz; omega
    rcases h with ⟨v, hy, h⟩ | ⟨hone, h⟩
    · exact wpAnyGS_first hlate hz hrefl ht h0 hkz' (Region.noSelect_spec hs) l.length listed a w (Region.free_spec h0 hfr) hD (by simpa using hr) hy
        (preG_sound hlate hz hrefl ht hs m l (k + 1) _ _ w hl' hkl hf' (hD.set (by simpa using hr)) hB' h)
    · intro w1 hG
      refine ⟨by rw [hone]; simp, fun i hi => ?_⟩
      have hik : i = k := by rw [hone] at hi; simpa using hi
      subst hik
      exact wpOp_mono (fun a' w' h' => ⟨h'.1.resolve_right hkz', preG_sound hlate hz hrefl ht hs m l (i + 1) _ _ w' hl' hkl hf' (hD.set (by simpa using hr)) hB' h'.2⟩) (h w1 hG)
variable {Q : Exit → Act → World → Prop} {n : Nat}
theorem op_wide {o : Oper} {a : Act} {w : World} {K : Act → World → Prop} {Q Q' : Exit → Act → World → Prop} (hno : ¬ LetsOut Q) (hp : ∀ c a w, ¬ Q (.panic c) a w) (h : o.wp P a w K Q ∨ (o.asks P a w ∧ LetsOut Q)) : o.wpIn Fence.wide n P a w K Q' := by
  rcases h with h | ⟨_, h⟩
  · unfold Oper.wpIn
    refine ⟨fun f _ => trivial, ?_⟩
    rw [show Fence.wide.round = none from rfl, Oper.semAt_none]
    unfold Oper.wp at h
    generalize (execOp a.eval o).run P w = res at *
    cases res with
    | ok x w' =>
      cases x <;> simp only [Oper.upon] at h <;> simp only [Oper.uponIn]
      case value u => exact h
      case skip => exact h
      case defer d => exact h
      case enter f args =>
        refine ⟨fun h => (by cases h), ?_⟩
        exact ((callsIn_wide (n := n - 1)).2 h).mono fun e w'' he => by
          cases e with
          | returned v => exact he
          | panicked c => exact absurd he (hp _ _ _)
          | outgrown => exact absurd he hno
      case row row args =>
        refine ⟨fun h => (by cases h), fun c cs hroom => ?_⟩
        obtain ⟨v, w', hr, hs⟩ := h c cs
        exact ⟨v, w', hr, stepsIn_wide.2 hs⟩
    | halt x w' =>
      cases x <;> simp only [Oper.upon] at h <;> simp only [Oper.uponIn] <;> exact absurd h (hp _ _ _)
  · exact absurd h hno
theorem opn_wide {i : Nat} {a : Act} {w : World} {K : Act → World → Prop} (h : wpOp P ops (QZ Z) i K a w) : wpOpIn Fence.wide n P ops Q i K a w := by
  unfold wpOp at h
  unfold wpOpIn
  cases ho : ops[i]? with
  | none =>
    simp only [ho] at h
    exact h
  | some o =>
    simp only [ho] at h ⊢
    split at h
    · rename_i hw
      rw [if_pos hw]
      exact op_wide noOut_QZ (fun c a w h => by cases h.1) h
    · rename_i hw
      rw [if_neg hw]
      exact ⟨fun f _ => trivial, h⟩
theorem anyGS_in (hrefl : ∀ a, G a a) (m : Nat) (hZ : ∀ a w, Z a w → wpAnyIn Fence.wide n P .any ops Q m full a w) : ∀ (fuel : Nat) (listed : Array Bool) (a : Act) (w : World), wpAnyGS P ops G Z full fuel listed a w → wpAnyIn Fence.wide n P .any ops Q (fuel + m) listed a w
  | 0, listed, a, w, h => by
    rw [Nat.zero_add, h.1]
    exact hZ a w (h.2 w (hrefl w))
  | fuel + 1, listed, a, w, h => by
    rw [show fuel + 1 + m = (fuel + m) + 1 by omega]
    exact ⟨fun h0 => absurd h0 (h w (hrefl w)).1, fun i hi => opn_wide (wpOp_mono (fun a' w' h' => anyGS_in hrefl m hZ fuel _ a' w' h'.2) ((h w (hrefl w)).2 i hi))⟩
end
section
variable {P : Program} {Q : Exit → Act → World → Prop} {n : Nat} {O : List Nat} {w0 w : World} {L : List As} {l : List Value}
theorem wq_end {ops : Array Oper} {Z : Act → World → Prop} {z k : Nat} {listed : Array Bool} (hM : Mem O w0 w L) (h : ∀ w, Mem O w0 w L → Z (fr l) w) : wpLexG P ops (Ch []) (QZ Z) z [] k listed (fr l) w := fun w1 hc => ⟨rfl, h w1 (hM.call hc)⟩
theorem c_drawY {id : Nat} {os : List Oper} (z : Nat) (y r : Oper) (hM : Mem O w0 w L) (hm : P.follows .mixedOrders = true) (hB : Region.lexB .any os.toArray = true) (hL : lateB os.toArray z = true) (hos : os.drop z = [y, r])
    (h1 : Region.ready .any os.toArray (setAll (Array.replicate os.length false) 0 z) = [z]) (h2 : Region.ready .any os.toArray (setAll (Array.replicate os.length false) 0 (z + 1)) = [z + 1]) (h3 : Region.ready .any os.toArray (setAll (Array.replicate os.length false) 0 (z + 2)) = [])
    (h : ∀ w, Mem O w0 w L → wpLexG P os.toArray (Ch []) (QZ fun a w => wpListIn Fence.wide n P os.toArray Q [y, r] a w) z (os.take z) 0 (Array.replicate os.length false) (fr l) w) : (Code.region id os.toArray true).wpIn Fence.wide n P Q (fr l) w := by
  simp only [Region.lexB, Bool.and_eq_true] at hB
  have hlen : os.length = z + 2 := by
    have := congrArg List.length hos
    rw [List.length_drop] at this
    simp at this
    omega
  have hty : os[z]? = some y := by have := congrArg (fun q => q[0]?) hos; simpa using this
  have htr : os[z + 1]? = some r := by have := congrArg (fun q => q[1]?) hos; simpa using this
  have hset : ∀ k, setAll (Array.replicate os.length false) 0 (k + 1) = (setAll (Array.replicate os.length false) 0 k).setIfInBounds k true := fun k => by
    unfold setAll
    rw [List.range'_1_concat, List.foldl_append]
    simp
  refine wpIn_region_any hm ?_
  have hw : Mem O w0 { w with drawn := w.drawn + 1 } L := hM.call ⟨rfl, rfl, rfl, Nat.le_refl _, fun _ _ _ => rfl⟩
  have hpre := preG_sound (P := P) (G := Ch []) (Z := fun a w => wpListIn Fence.wide n P os.toArray Q [y, r] a w) (late_of hL) h1 (Ch.refl []) (fun _ _ _ h k => h.then k) hB.1 2 (os.take z) 0 (Array.replicate os.length false) (fr l) { w with drawn := w.drawn + 1 }
    (fun j hj => by rw [List.getElem?_take, if_pos (by simp at hj; omega)]; simp) (by simp; omega) (by rw [List.length_take, Nat.min_eq_left (by omega)]) dn0 (by rw [List.length_take, Nat.min_eq_left (by omega)]; simpa [hlen] using hB.2) (h _ hw)
  have := anyGS_in (Q := Q) (n := n) (Ch.refl []) 2 (fun a w hz => ?_) _ _ _ _ hpre
  · rw [List.length_take, Nat.min_eq_left (by omega), ← hlen] at this
    simpa using this
  · refine ⟨fun h0 => absurd (h1 ▸ h0) (by simp), fun i hi => ?_⟩
    rw [h1] at hi
    have hi : i = z := by simpa using hi
    subst hi
    unfold wpListIn at hz
    unfold wpOpIn
    simp only [List.getElem?_toArray, hty]
    have key : ∀ a w, wpListIn Fence.wide n P os.toArray Q [r] a w → wpAnyIn Fence.wide n P .any os.toArray Q 1 ((setAll (Array.replicate os.length false) 0 i).setIfInBounds i true) a w := by
      intro a w hz
      rw [← hset i]
      refine ⟨fun h0 => absurd (h2 ▸ h0) (by simp), fun j hj => ?_⟩
      rw [h2] at hj
      have hj : j = i + 1 := by simpa using hj
      subst hj
      unfold wpListIn at hz
      unfold wpOpIn
      simp only [List.getElem?_toArray, htr]
      have key2 : ∀ a w, wpListIn Fence.wide n P os.toArray Q [] a w → wpAnyIn Fence.wide n P .any os.toArray Q 0 ((setAll (Array.replicate os.length false) 0 (i + 1)).setIfInBounds (i + 1) true) a w := fun a w hz => by
        rw [← hset (i + 1)]
        exact ⟨h3, hz⟩
      split at hz
      · rename_i hw
        rw [if_pos hw]
        exact Oper.wpIn_mono key2 hz
      · rename_i hw
        rw [if_neg hw]
        exact ⟨hz.1, key2 _ _ hz.2⟩
    split at hz
    · rename_i hw
      rw [if_pos hw]
      exact Oper.wpIn_mono key hz
    · rename_i hw
      rw [if_neg hw]
      exact ⟨hz.1, key _ _ hz.2⟩
end
end Go.Proofs.E
set_option linter.unusedVariables false
set_option linter.unusedSimpArgs false
namespace Go.Proofs.E
open Go Go.RowKit
theorem c_rangeM2 {α : Type} {P : Program} {l : List Value} {O : List Nat} {w0 w : World} {Q : Exit → Act → World → Prop} {g p1 p2 : Nat} {assign body : Code} {gf : Nat} {lb : Array Value} {e1 e2 : α → Value} {L : List α} {X0 La : List As} (hM : Mem O w0 w (La ++ X0)) (hg : ev l (.tmp g) = .func (.func gf) #[] lb)
    (eg : ∀ args w, (callFunc gf args).run P w = .ok (.enter gf args) w) (hseq : SeqM P 9 gf lb (fun x => #[e1 x, e2 x]) L O w0 X0)
    (Inv : List α → List As → Prop) (h0 : Inv [] La) (Stp : Code → List α → List As → Prop) (Ax : List α → α → List Value → List As → Prop)
    (hassign : ∀ (r : Nat) (pre : List α) (x : α) (W : World) (La X : List As) (K : Act → World → Prop), (pre ++ [x]) <+: L → Inv pre La → Mem O w0 W (La ++ X) → (∀ l' W' La2, Ax pre x l' La2 → Mem O w0 W' (La2 ++ X) → K (fr l') W') →
      assign.wpIn (RF r) 8 P (Exit.then K (fun _ _ _ => False)) (fr ((l.set p1 (e1 x)).set p2 (e2 x))) W)
    (hbody : ∀ (r : Nat) (pre : List α) (x : α) (l' : List Value) (W : World) (La X : List As), (pre ++ [x]) <+: L → Ax pre x l' La → Mem O w0 W (La ++ X) → body.wpIn (RF r) 8 P (RoundM O w0 X (Inv (pre ++ [x])) (fun c => Stp c (pre ++ [x]))) (fr l') W)
    (hdone : ∀ (D : Nat) (W : World) (La : List As), Inv L La → Mem O w0 W (.obj D (.deferred (some [])) :: (La ++ X0)) → Q .normal (frd l [{ target := .collected D, args := #[] }]) W)
    (hstop : ∀ (D : Nat) (c : Code) (pre : List α) (W : World) (La : List As), Stp c pre La → Mem O w0 W (.obj D (.deferred (some [])) :: (La ++ X0)) → c.wpIn Fence.wide 10 P Q (frd l [{ target := .collected D, args := #[] }]) W) :
    (Code.rangeFunc (.tmp g) #[p1, p2] assign body).wp P Q (fr l) w := by
  refine c_rangeM hM hg eg hseq (fun _ => rfl) Inv h0 Stp Ax ?_ hbody hdone hstop
  intro r pre x W La X K hp hi hMx hK
  have he : (((#[p1, p2] : Array Nat).zip #[e1 x, e2 x]).foldl (fun t (p : Nat × Value) => t.setIfInBounds p.1 p.2) (fr l).tmps) = ((l.set p1 (e1 x)).set p2 (e2 x)).toArray := by
    simp [fr]
  show assign.wpIn _ _ _ _ { tmps := ((#[p1, p2] : Array Nat).zip #[e1 x, e2 x]).foldl (fun t (p : Nat × Value) => t.setIfInBounds p.1 p.2) (fr l).tmps, defers := [] } W
  rw [he]
  exact hassign r pre x W La X K hp hi hMx hK
section
variable {P : Program} {Q : Exit → Act → World → Prop} {l : List Value} {w w0 : World} {O : List Nat} {L L1 L2 L3 : List As} {ops : Array Oper} {ds : List Deferred}
theorem c_regd {id : Nat} {os : List Oper} (hs : os.all (fun o => simpleOp o.op) = true) (hno : ¬ LetsOut Q) (h : wpList P os.toArray (Sh ds Q) os (fr l) w) : (Code.region id os.toArray false).wp P Q (frd l ds) w :=
  wp_region_lit (list_defers os (fr l) w hs hno h)
variable {R : Value → World → Prop} {fn : Func}
theorem koc3 {t u s b1 b2 b3 : Nat} {E1 E2 E3 F1 F2 F3 : TypeId} {v1 v2 v3 : Value} [h1 : One P E1] [h2 : One P E2] [h3 : One P E3] (hM : Mem O w0 w L) (hf : fn.results = #[.cell t E1, .cell u E2, .cell s E3]) (h : R (.tuple #[v1, v2, v3]) w)
    (hx1 : ev l (.tmp t) = .pointer (some ⟨b1, 0, none⟩) := by exact rfl) (hx2 : ev l (.tmp u) = .pointer (some ⟨b2, 0, none⟩) := by exact rfl) (hx3 : ev l (.tmp s) = .pointer (some ⟨b3, 0, none⟩) := by exact rfl)
    (hp1 : Pick L (.cell b1 [v1] F1) L1 := by (repeat (first | exact Go.Proofs.E.Pick.here | apply Go.Proofs.E.Pick.there))) (hp2 : Pick L (.cell b2 [v2] F2) L2 := by (repeat (first | exact Go.Proofs.E.Pick.here | apply Go.Proofs.E.Pick.there))) (hp3 : Pick L (.cell b3 [v3] F3) L3 := by (repeat (first | exact Go.Proofs.E.Pick.here | apply Go.Proofs.E.Pick.there))) :
    bodyPost P fn (Ret R) .ret (fr l) w := by
  refine ⟨rfl, .tuple #[v1, v2, v3], ?_, _, rfl, h⟩
  have e1 : l[t]?.getD undef = .pointer (some ⟨b1, 0, none⟩) := by simpa [Array.getD_eq_getD_getElem?] using (ev_tmp l t).trans hx1
  have e2 : l[u]?.getD undef = .pointer (some ⟨b2, 0, none⟩) := by simpa [Array.getD_eq_getD_getElem?] using (ev_tmp l u).trans hx2
  have e3 : l[s]?.getD undef = .pointer (some ⟨b3, 0, none⟩) := by simpa [Array.getD_eq_getD_getElem?] using (ev_tmp l s).trans hx3
  have c1 := (hM.blk hp1).cell (o := 0) (v := v1) rfl
  have c2 := (hM.blk hp2).cell (o := 0) (v := v2) rfl
  have c3 := (hM.blk hp3).cell (o := 0) (v := v3) rfl
  simp [results, hf, fr, e1, e2, e3, asAddr, run_loadVar_one c1, run_loadVar_one c2, run_loadVar_one c3]
end
end Go.Proofs.E

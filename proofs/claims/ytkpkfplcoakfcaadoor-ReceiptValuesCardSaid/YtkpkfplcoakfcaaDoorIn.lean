/- Walks inside the rounds of a range over a function. -/
import Derived.Test.YtkpkfplcoakfcaaDoorZ
import Derived.RangeFuncNested
import Derived.RangeFuncBound
import Derived.RangeFuncCalls
import Derived.RangeFuncLeaves
import Derived.TacticsIn
import Derived.OrdersIn
set_option linter.unusedVariables false
set_option linter.unusedSimpArgs false
namespace Go.Proofs.E
open Go Go.RowKit
abbrev RF (r : Nat) : Fence := Fence.wide.inRound r
def noDefer (os : List Oper) : Bool := os.all fun o => match o.op with | .defer _ => false | _ => true
theorem noDefer_at {os : List Oper} (h : noDefer os = true) {o : Oper} (ho : o ∈ os) : ∀ c, o.op ≠ .defer c := by
  intro c hc
  have := List.all_eq_true.1 h o ho
  rw [hc] at this
  cases this
section
variable {P : Program} {Q : Exit → Act → World → Prop} {r n : Nat} {ops : Array Oper}
theorem op_in {o : Oper} {a : Act} {w : World} {K : Act → World → Prop} (hd : ∀ c, o.op ≠ .defer c) (hno : ¬ LetsOut Q) (h : o.wp P a w K Q ∨ (o.asks P a w ∧ LetsOut Q)) : o.wpIn (RF r) n P a w K Q := by
  rcases h with h | ⟨_, h⟩
  · unfold Oper.wpIn
    refine ⟨fun f _ => trivial, ?_⟩
    rw [Oper.semAt_eq _ _ _ hd]
    unfold Oper.wp at h
    generalize (execOp a.eval o).run P w = res at *
    cases res with
    | ok x w' =>
      cases x <;> simp only [Oper.upon] at h <;> simp only [Oper.uponIn]
      case value u => exact h
      case skip => exact h
      case defer d => exact h
      case enter f args =>
        refine ⟨fun h => (by cases h), ?_⟩
        exact (CallsIn.inRound r ((callsIn_wide (n := n - 1)).2 h)).mono fun e w'' he => by cases e <;> exact he
      case row row args =>
        refine ⟨fun h => (by cases h), fun c cs hroom => ?_⟩
        obtain ⟨v, w', hr, hs⟩ := h c cs
        exact ⟨v, w', hr, stepsIn_wide.2 hs⟩
    | halt x w' => cases x <;> simp only [Oper.upon] at h <;> simp only [Oper.uponIn] <;> exact h
  · exact absurd h hno
theorem list_in : ∀ (os : List Oper) (a : Act) (w : World), noDefer os = true → ¬ LetsOut Q → wpList P ops Q os a w → wpListIn (RF r) n P ops Q os a w
  | [], a, w, _, _, h => h
  | o :: os, a, w, hd, hno, h => by
    have hd' : noDefer os = true := by
      unfold noDefer at hd ⊢
      rw [List.all_cons, Bool.and_eq_true] at hd
      exact hd.2
    unfold wpList at h
    unfold wpListIn
    split at h
    · rename_i hw
      rw [if_pos hw]
      refine op_in (noDefer_at hd (by simp)) hno ?_
      rcases h with h | h
      · exact .inl (Oper.wp_mono (fun a w k => list_in os a w hd' hno k) h)
      · exact .inr h
    · rename_i hw
      rw [if_neg hw]
      exact ⟨fun f _ => trivial, list_in os _ w hd' hno h⟩
theorem opn_in {i : Nat} {a : Act} {w : World} {K : Act → World → Prop} (hd : noDefer ops.toList = true) (hno : ¬ LetsOut Q) (h : wpOp P ops Q i K a w) : wpOpIn (RF r) n P ops Q i K a w := by
  unfold wpOp at h
  unfold wpOpIn
  cases ho : ops[i]? with
  | none =>
    simp only [ho] at h
    exact h
  | some o =>
    simp only [ho] at h ⊢
    have hm : o ∈ ops.toList := by
      have := Array.mem_of_getElem? ho
      simpa using this
    split at h
    · rename_i hw
      rw [if_pos hw]
      exact op_in (noDefer_at hd hm) hno h
    · rename_i hw
      rw [if_neg hw]
      exact ⟨fun f _ => trivial, h⟩
theorem any_in {md : Region.Mode} : ∀ (fuel : Nat) (listed : Array Bool) (a : Act) (w : World), noDefer ops.toList = true → ¬ LetsOut Q → wpAny P md ops Q fuel listed a w → wpAnyIn (RF r) n P md ops Q fuel listed a w
  | 0, listed, a, w, _, _, h => h
  | fuel + 1, listed, a, w, hd, hno, h => ⟨h.1, fun i hi => opn_in hd hno (wpOp_mono (fun a' w' k => any_in fuel _ a' w' hd hno k) (h.2 i hi))⟩
theorem noOut_then {K : Act → World → Prop} (h : ¬ LetsOut Q) : ¬ LetsOut (Exit.then K Q) := fun ⟨a, w, x⟩ => h ⟨a, w, x⟩
theorem noOut_block {id : Nat} (h : ¬ LetsOut Q) : ¬ LetsOut (Exit.inBlock id Q) := fun ⟨a, w, x⟩ => h ⟨a, w, x⟩
theorem noOut_NoP (h : ¬ LetsOut Q) : ¬ LetsOut (NoP Q) := fun ⟨a, w, x⟩ => h ⟨a, w, x⟩
variable {l : List Value} {w : World}
theorem ci_region {id : Nat} {os : List Oper} (hno : ¬ LetsOut Q) (hd : noDefer os = true) (h : wpList P os.toArray Q os (fr l) w) : (Code.region id os.toArray false).wpIn (RF r) n P Q (fr l) w :=
  wpIn_region_lit (list_in os _ _ hd hno h)
theorem ci_drawl {id : Nat} {os : List Oper} (zz : Nat) (S : List Nat) (hno : ¬ LetsOut Q) (hd : noDefer os = true) (hm : P.follows .mixedOrders = true) (hB : Region.lexB .any os.toArray = true) (hL : lateB os.toArray zz = true)
    (h : ∀ w0, Ch S w w0 → w0.heap.size = w.heap.size → wpLexG P os.toArray (Ch S) (NoP Q) zz os 0 (Array.replicate os.length false) (fr l) w0) : (Code.region id os.toArray true).wpIn (RF r) n P Q (fr l) w := by
  refine Code.wpIn_mono (Q := NoP Q) (fun e a w h => by cases e <;> first | exact h | exact (h : False).elim) ?_
  simp only [Region.lexB, Bool.and_eq_true] at hB
  refine wpIn_region_any hm (any_in _ _ _ _ (by simpa using hd) (noOut_NoP hno) (wpAny_of_G (G := Ch S) (z := zz) (Ch.refl S) _ _ _ _ ?_))
  have := wpLexG_sound (P := P) (G := Ch S) (Q := NoP Q) (late_of hL) (Ch.refl S) (fun _ _ _ h k => h.then k) hB.1 (fun c a w d v h => (h : False).elim) os 0 (Array.replicate os.length false) (fr l) { w with drawn := w.drawn + 1 } (by simp) dn0 (by simpa using hB.2)
    (h _ ⟨rfl, rfl, rfl, Nat.le_refl _, fun _ _ _ => rfl⟩ rfl)
  simpa using this
theorem ci_condb {c : Operand} {x y : Code} {b : Bool} (hc : ev l c = .bool b) (ht : b = true → x.wpIn (RF r) n P Q (fr l) w) (hf : b = false → y.wpIn (RF r) n P Q (fr l) w) : (Code.cond c x y).wpIn (RF r) n P Q (fr l) w := by
  cases b
  · exact wpIn_cond (t := false) (by rw [eval_fr, hc]) (hf rfl)
  · exact wpIn_cond (t := true) (by rw [eval_fr, hc]) (ht rfl)
/-! ### At the wide fence: a call of yield -/
variable {op : Op} {T : TypeId} {pos : String} {after : Array Edge} {rest : List Oper}
theorem li_val {d : Nat} {v : Value} (hr : (exec (ev l) op T).run P w = .ok (.value v) w) (h : wpListIn Fence.wide n P ops Q rest (fr (l.set d v)) w) :
    wpListIn Fence.wide n P ops Q ({ dst := some d, op := op, type := T, pos := pos, after := after, guard := none } :: rest) (fr l) w := by
  unfold wpListIn
  rw [if_pos (by simp [Region.wanted])]
  unfold Oper.wpIn
  refine ⟨fun f _ => trivial, ?_⟩
  rw [show Fence.wide.round = none from rfl, Oper.semAt_none, exec_eq, eval_fr, hr]
  show wpListIn _ _ _ _ _ _ ((fr l).put (some d) v) w
  rw [put_set1]
  exact h
/-- The call of yield: a round is gone. -/
theorem li_yield {d : Nat} {x : Operand} {args : List Operand} {tys : Array TypeId} {vs : List Value} {lr : Nat} (hx : ev l x = .func (.yield lr) #[] #[]) (ha : args.map (ev l) = vs) {R : Ending → World → Prop}
    (hy : YieldAt Fence.wide (n - 1) P lr vs.toArray w R) (h : ∀ e w', R e w' → ∃ u, e = .returned u ∧ wpListIn Fence.wide n P ops Q rest (fr (l.set d u)) w') :
    wpListIn Fence.wide n P ops Q ({ dst := some d, op := .call { callee := .value x, args := args.toArray, argTypes := tys }, type := T, pos := pos, after := after, guard := none } :: rest) (fr l) w := by
  subst ha
  obtain ⟨fn, tmps, assign, body, hrun, hR⟩ := hy
  unfold wpListIn
  rw [if_pos (by simp [Region.wanted])]
  unfold Oper.wpIn
  refine ⟨fun f _ => trivial, ?_⟩
  rw [show Fence.wide.round = none from rfl, Oper.semAt_none, exec_eq, eval_fr]
  have hr : (exec (ev l) (.call { callee := .value x, args := args.toArray, argTypes := tys }) T).run P w = .ok (.round lr fn tmps assign body) w := by
    simp [exec, execOp, resolve, hx, invoke, hrun, Deferred.ofValue]
  rw [hr]
  refine ⟨fun h => (by cases h), hR.mono fun e w' he => ?_⟩
  obtain ⟨u, rfl, hk⟩ := h e w' he
  show wpListIn _ _ _ _ _ _ ((fr l).put (some d) u) w'
  rw [put_set1]
  exact hk
/-! ### With deferred calls at hand -/
theorem put_defers (a : Act) (d : Option Tmp) (v : Value) (ds : List Deferred) : ({ a with defers := ds } : Act).put d v = { a.put d v with defers := ds } := by
  cases d <;> rfl
def simpleOp : Op → Bool
  | .load .. | .store .. | .assign .. | .move .. | .binOp .. | .unOp .. | .pick .. => true
  | _ => false
theorem bind_no {P : Program} {α : Type} {s : Sem α} {f : α → Next} (hf : ∀ x d, f x ≠ .defer d) {w w' : World} {d : Deferred} : (s >>= fun x => pure (f x)).run P w ≠ .ok (.defer d) w' := by
  rw [Sem.run_bind]
  intro h
  cases hs : s.run P w with
  | ok x w1 =>
    rw [hs] at h
    simp at h
    exact hf _ _ h.1
  | halt x w1 =>
    rw [hs] at h
    simp [Result.andThen] at h
theorem simple_no {P : Program} {ρ : Operand → Value} {o : Oper} (h : simpleOp o.op = true) (w : World) (d : Deferred) (w' : World) : (execOp ρ o).run P w ≠ .ok (.defer d) w' := by
  intro hr
  unfold execOp at hr
  cases ho : o.op <;> rw [ho] at h <;> simp only [simpleOp, Bool.false_eq_true] at h <;> rw [ho] at hr <;> simp only at hr <;> first
    | exact bind_no (f := fun x => Next.value x) (fun x d => by simp) hr
    | exact bind_no (f := fun (_ : Unit) => Next.skip) (fun x d => by simp) hr
    | exact bind_no (f := fun b => Next.value (if b = true then _ else _)) (fun x d => by simp) hr
    | (simp at hr)
def frd (l : List Value) (ds : List Deferred) : Act := { tmps := l.toArray, defers := ds }
/-- What is asked behind, at the same temporaries with other deferred calls. -/
def Sh (ds : List Deferred) (Q : Exit → Act → World → Prop) : Exit → Act → World → Prop := fun e a w => Q e { a with defers := ds } w
theorem list_defers {ds : List Deferred} : ∀ (os : List Oper) (a : Act) (w : World), os.all (fun o => simpleOp o.op) = true → ¬ LetsOut Q → wpList P ops (Sh ds Q) os a w → wpList P ops Q os { a with defers := ds } w
  | [], a, w, _, _, h => h
  | o :: os, a, w, hd, hno, h => by
    rw [List.all_cons, Bool.and_eq_true] at hd
    have hd' := hd.2
    have hno' : ¬ LetsOut (Sh ds Q) := fun ⟨a, w, x⟩ => hno ⟨_, w, x⟩
    have ih := fun a w h => list_defers (ds := ds) os a w hd' hno h
    unfold wpList at h ⊢
    split at h
    · rename_i hw
      rw [if_pos hw]
      rcases h with h | ⟨_, h⟩
      · refine .inl ?_
        unfold Oper.wp at *
        have he : ({ a with defers := ds } : Act).eval = a.eval := by funext x; cases x <;> rfl
        rw [he]
        generalize hres : (execOp a.eval o).run P w = res at *
        cases res with
        | ok x w' =>
          cases x <;> simp only [Oper.upon] at h ⊢
          case value u => exact put_defers a o.dst u ds ▸ ih _ _ h
          case skip => exact put_defers a o.dst undef ds ▸ ih _ _ h
          case defer d =>
            exact absurd hres (simple_no hd.1 _ _ _)
          case enter f args =>
            refine Calls.mono h fun e w'' he => ?_
            cases e with
            | returned u =>
              show wpList P ops Q os (Act.put { a with defers := ds } o.dst u) w''
              rw [put_defers]
              exact ih _ _ he
            | panicked c => exact he
            | outgrown => exact absurd he hno'
          case row row args => exact Rows.mono h fun u w'' he => by rw [put_defers]; exact ih _ _ he
        | halt x w' =>
          cases x <;> simp only [Oper.upon] at h ⊢
          case panic u => exact h
      · exact absurd h hno'
    · rename_i hw
      rw [if_neg hw, put_defers]
      exact ih _ _ h
end
end Go.Proofs.E
namespace Go.Proofs.E
open Go Go.RowKit
/-- Blocks below n lie as they lay, but S's. -/
structure Bw (n : Nat) (S : List Nat) (w w' : World) : Prop where
  os : w'.os = w.os
  tape : w'.tape = w.tape
  output : w'.output = w.output
  size : w.heap.size ≤ w'.heap.size
  block : ∀ k, k < n → k ∉ S → w'.heap[k]? = w.heap[k]?
theorem Bw.then {n : Nat} {S : List Nat} {a b c : World} (h : Bw n S a b) (k : Bw n S b c) : Bw n S a c :=
  ⟨k.os.trans h.os, k.tape.trans h.tape, k.output.trans h.output, Nat.le_trans h.size k.size, fun i hi hS => (k.block i hi hS).trans (h.block i hi hS)⟩
theorem Bw.ch {S : List Nat} {w w' : World} (h : Bw w.heap.size S w w') : Ch S w w' := ⟨h.os, h.tape, h.output, h.size, h.block⟩
theorem Ch.bw {n : Nat} {S : List Nat} {w w' : World} (h : Ch S w w') (hn : n ≤ w.heap.size) : Bw n S w w' := ⟨h.os, h.tape, h.output, h.size, fun k hk hS => h.block k (Nat.lt_of_lt_of_le hk hn) hS⟩
theorem Bw.of_below {n : Nat} {S : List Nat} {w w' : World} (h : Below n w w') : Bw n S w w' := ⟨h.os, h.tape, h.output, h.size, fun k hk _ => h.block k hk⟩
theorem Bw.putObj {n : Nat} {S : List Nat} {w : World} {l : Nat} (o : Obj) (h : n ≤ l) : Bw n S w (w.putObj l o) :=
  ⟨rfl, rfl, rfl, by simp [World.putObj], fun k hk _ => by simp [World.putObj]; exact Array.getElem?_setIfInBounds_ne (by omega)⟩
/-- The way in, where the body holds a range over a function. -/
theorem enterM {P : Program} {w : World} {f : FuncId} {fn : Func} {c : Code} {args : Array Value} {R : Ending → World → Prop} (l : List Value)
    (hf : P.funcs[f]? = some fn) (hb : fn.body = some c) (hl : args.toList ++ List.replicate (fn.ntmps - args.size) undef = l)
    (h : c.wp P (bodyPostM Fence.wide 10 P fn R) (fr l) w) : Calls P f args w R := by
  refine (callsIn_wide (n := 10)).1 (callsIn_of_wp_marks hf hb trivial (wpIn_wide.2 ?_))
  have : (args ++ Array.replicate (fn.ntmps - args.size) undef : Array Value) = l.toArray := by
    rw [← hl]
    apply Array.ext'
    simp
  rw [this]
  exact h
theorem post0 {P : Program} {w : World} {fn : Func} {R : Ending → World → Prop} {l : List Value} (h : bodyPost P fn R .ret (fr l) w) : bodyPostM Fence.wide 10 P fn R .ret (fr l) w := by
  obtain ⟨_, v, h1, h2⟩ := h
  exact ⟨v, h1, h2⟩
theorem post1 {P : Program} {w : World} {fn : Func} {R : Ending → World → Prop} {l : List Value} {D : Nat} (hK : w.heap[D]? = some (.deferred (some []))) (h : bodyPost P fn R .ret (fr l) (w.putObj D (.deferred none))) :
    bodyPostM Fence.wide 10 P fn R .ret (frd l [{ target := .collected D, args := #[] }]) w := by
  obtain ⟨_, v, h1, h2⟩ := h
  exact ⟨by simp, .inl ⟨_, _, rfl, run_takeDeferred hK, ⟨v, h1, h2⟩⟩⟩
theorem noOut_M {P : Program} {fn : Func} {R : Value → World → Prop} : ¬ LetsOut (bodyPostM Fence.wide 10 P fn (Ret R)) := fun ⟨a, w, v, h, _⟩ => by cases h
end Go.Proofs.E
namespace Go.Proofs.E
open Go Go.RowKit
section
variable {P : Program} {l : List Value} {w : World} {T : TypeId}
theorem r_build_arr0 {t e : TypeId} {z ze : Value} {n k b m b2 : Nat} [hu : Und P t (.array n e)] [hi : Inf P t z k b] [he : Inf P e ze m b2] : (exec (ev l) (.build t #[]) T).run P w = .ok (.value (.agg z.cells)) w := by
  simp [exec, execOp, Instr.build, run_underlying hu.out, run_size (hi := he), run_zero (hi := hi), Instr.fill]
theorem r_makeFunc {f : Fn} {cs : List Operand} : (exec (ev l) (.makeFunc f #[] cs.toArray) T).run P w = .ok (.value (.func f #[] (cs.map (ev l)).toArray)) w := by
  simp [exec, execOp, Instr.makeFunc]
theorem Blk.put {w : World} {b D : Nat} {cs : List Value} {E : TypeId} (h : Blk w b cs E) (hn : b ≠ D) (o : Obj) : Blk (w.putObj D o) b cs E := by
  unfold Blk at *
  simp [World.putObj]
  rw [Array.getElem?_setIfInBounds_ne (fun e => hn e.symm)]
  exact h
theorem Ch.put (w : World) (D : Nat) (o : Obj) : Ch [D] w (w.putObj D o) := ⟨rfl, rfl, rfl, by simp [World.putObj], fun k hk hn => by
  simp at hn
  simp [World.putObj]
  exact Array.getElem?_setIfInBounds_ne (fun e => hn e.symm)⟩
end
end Go.Proofs.E

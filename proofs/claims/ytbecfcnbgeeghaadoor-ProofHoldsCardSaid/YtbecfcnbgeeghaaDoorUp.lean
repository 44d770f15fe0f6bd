/- Walks inside the rounds of a range over a function.
   Walks: turns told from the last one back; the loop over them. -/
import Derived.Test.YtbecfcnbgeeghaaDoorTurns
import Derived.RangeFuncNested
import Derived.RangeFuncBound
import Derived.RangeFuncCalls
import Derived.RangeFuncLeaves
import Derived.TacticsIn
import Derived.OrdersIn
set_option linter.unusedVariables false
set_option linter.unusedSimpArgs false
namespace Go.Proofs.E
open Go Go.RowKit
abbrev RF (r : Nat) : Fence := Fence.wide.inRound r
def noDefer (os : List Oper) : Bool := os.all fun o => match o.op with | .defer _ => false | _ => true
theorem noDefer_at {os : List Oper} (h : noDefer os = true) {o : Oper} (ho : o ∈ os) : ∀ c, o.op ≠ .defer c := by
  intro c hc
  have := List.all_eq_true.1 h o ho
  rw [hc] at this
  cases this
section
variable {P : Program} {Q : Exit → Act → World → Prop} {r n : Nat} {ops : Array Oper}
theorem op_in {o : Oper} {a : Act} {w : World} {K : Act → World → Prop} (hd : ∀ c, o.op ≠ .defer c) (hno : ¬ LetsOut Q) (h : o.wp P a w K Q ∨ (o.asks P a w ∧ LetsOut Q)) : o.wpIn (RF r) n P a w K Q := by
  rcases h with h | ⟨_, h⟩
  · unfold Oper.wpIn
    refine ⟨fun f _ => trivial, ?_⟩
    rw [Oper.semAt_eq _ _ _ hd]
    unfold Oper.wp at h
    generalize (execOp a.eval o).run P w = res at *
    cases res with
    | ok x w' =>
      cases x <;> simp only [Oper.upon] at h <;> simp only [Oper.uponIn]
      case value u => exact h
      case skip => exact h
      case defer d => exact h
      case enter f args =>
        refine ⟨fun h => (by cases h), ?_⟩
        exact (CallsIn.inRound r ((callsIn_wide (n := n - 1)).2 h)).mono fun e w'' he => by cases e <;> exact he
      case row row args =>
        refine ⟨fun h => (by cases h), fun c cs hroom => ?_⟩
        obtain ⟨v, w', hr, hs⟩ := h c cs
        exact ⟨v, w', hr, stepsIn_wide.2 hs⟩
    | halt x w' => cases x <;> simp only [Oper.upon] at h <;> simp only [Oper.uponIn] <;> exact h
  · exact absurd h hno
theorem list_in : ∀ (os : List Oper) (a : Act) (w : World), noDefer os = true → ¬ LetsOut Q → wpList P ops Q os a w → wpListIn (RF r) n P ops Q os a w
  | [], a, w, _, _, h => h
  | o :: os, a, w, hd, hno, h => by
    have hd' : noDefer os = true := by
      unfold noDefer at hd ⊢
      rw [List.all_cons, Bool.and_eq_true] at hd
      exact hd.2
    unfold wpList at h
    unfold wpListIn
    split at h
    · rename_i hw
      rw [if_pos hw]
      refine op_in (noDefer_at hd (by simp)) hno ?_
      rcases h with h | h
      · exact .inl (Oper.wp_mono (fun a w k => list_in os a w hd' hno k) h)
      · exact .inr h
    · rename_i hw
      rw [if_neg hw]
      exact ⟨fun f _ => trivial, list_in os _ w hd' hno h⟩
theorem opn_in {i : Nat} {a : Act} {w : World} {K : Act → World → Prop} (hd : noDefer ops.toList = true) (hno : ¬ LetsOut Q) (h : wpOp P ops Q i K a w) : wpOpIn (RF r) n P ops Q i K a w := by
  unfold wpOp at h
  unfold wpOpIn
  cases ho : ops[i]? with
  | none =>
    simp only [ho] at h
    exact h
  | some o =>
    simp only [ho] at h ⊢
    have hm : o ∈ ops.toList := by
      have := Array.mem_of_getElem? ho
      simpa using this
    split at h
    · rename_i hw
      rw [if_pos hw]
      exact op_in (noDefer_at hd hm) hno h
    · rename_i hw
      rw [if_neg hw]
      exact ⟨fun f _ => trivial, h⟩
theorem any_in {md : Region.Mode} : ∀ (fuel : Nat) (listed : Array Bool) (a : Act) (w : World), noDefer ops.toList = true → ¬ LetsOut Q → wpAny P md ops Q fuel listed a w → wpAnyIn (RF r) n P md ops Q fuel listed a w
  | 0, listed, a, w, _, _, h => h
  | fuel + 1, listed, a, w, hd, hno, h => ⟨h.1, fun i hi => opn_in hd hno (wpOp_mono (fun a' w' k => any_in fuel _ a' w' hd hno k) (h.2 i hi))⟩
theorem noOut_then {K : Act → World → Prop} (h : ¬ LetsOut Q) : ¬ LetsOut (Exit.then K Q) := fun ⟨a, w, x⟩ => h ⟨a, w, x⟩
theorem noOut_block {id : Nat} (h : ¬ LetsOut Q) : ¬ LetsOut (Exit.inBlock id Q) := fun ⟨a, w, x⟩ => h ⟨a, w, x⟩
theorem noOut_NoP (h : ¬ LetsOut Q) : ¬ LetsOut (NoP Q) := fun ⟨a, w, x⟩ => h ⟨a, w, x⟩
variable {l : List Value} {w : World}
theorem ci_region {id : Nat} {os : List Oper} (hno : ¬ LetsOut Q) (hd : noDefer os = true) (h : wpList P os.toArray Q os (fr l) w) : (Code.region id os.toArray false).wpIn (RF r) n P Q (fr l) w :=
  wpIn_region_lit (list_in os _ _ hd hno h)
theorem ci_drawl {id : Nat} {os : List Oper} (zz : Nat) (S : List Nat) (hno : ¬ LetsOut Q) (hd : noDefer os = true) (hm : P.follows .mixedOrders = true) (hB : Region.lexB .any os.toArray = true) (hL : lateB os.toArray zz = true)
    (h : ∀ w0, Ch S w w0 → w0.heap.size = w.heap.size → wpLexG P os.toArray (Ch S) (NoP Q) zz os 0 (Array.replicate os.length false) (fr l) w0) : (Code.region id os.toArray true).wpIn (RF r) n P Q (fr l) w := by
  refine Code.wpIn_mono (Q := NoP Q) (fun e a w h => by cases e <;> first | exact h | exact (h : False).elim) ?_
  simp only [Region.lexB, Bool.and_eq_true] at hB
  refine wpIn_region_any hm (any_in _ _ _ _ (by simpa using hd) (noOut_NoP hno) (wpAny_of_G (G := Ch S) (z := zz) (Ch.refl S) _ _ _ _ ?_))
  have := wpLexG_sound (P := P) (G := Ch S) (Q := NoP Q) (late_of hL) (Ch.refl S) (fun _ _ _ h k => h.then k) hB.1 (fun c a w d v h => (h : False).elim) os 0 (Array.replicate os.length false) (fr l) { w with drawn := w.drawn + 1 } (by simp) dn0 (by simpa using hB.2)
    (h _ ⟨rfl, rfl, rfl, Nat.le_refl _, fun _ _ _ => rfl⟩ rfl)
  simpa using this
theorem ci_condb {c : Operand} {x y : Code} {b : Bool} (hc : ev l c = .bool b) (ht : b = true → x.wpIn (RF r) n P Q (fr l) w) (hf : b = false → y.wpIn (RF r) n P Q (fr l) w) : (Code.cond c x y).wpIn (RF r) n P Q (fr l) w := by
  cases b
  · exact wpIn_cond (t := false) (by rw [eval_fr, hc]) (hf rfl)
  · exact wpIn_cond (t := true) (by rw [eval_fr, hc]) (ht rfl)
/-! ### At the wide fence: a call of yield -/
variable {op : Op} {T : TypeId} {pos : String} {after : Array Edge} {rest : List Oper}
theorem li_val {d : Nat} {v : Value} (hr : (exec (ev l) op T).run P w = .ok (.value v) w) (h : wpListIn Fence.wide n P ops Q rest (fr (l.set d v)) w) :
    wpListIn Fence.wide n P ops Q ({ dst := some d, op := op, type := T, pos := pos, after := after, guard := none } :: rest) (fr l) w := by
  unfold wpListIn
  rw [if_pos (by simp [Region.wanted])]
  unfold Oper.wpIn
  refine ⟨fun f _ => trivial, ?_⟩
  rw [show Fence.wide.round = none from rfl, Oper.semAt_none, exec_eq, eval_fr, hr]
  show wpListIn _ _ _ _ _ _ ((fr l).put (some d) v) w
  rw [put_set1]
  exact h
/-- The call of yield: a round is gone. -/
theorem li_yield {d : Nat} {x : Operand} {args : List Operand} {tys : Array TypeId} {vs : List Value} {lr : Nat} (hx : ev l x = .func (.yield lr) #[] #[]) (ha : args.map (ev l) = vs) {R : Ending → World → Prop}
    (hy : YieldAt Fence.wide (n - 1) P lr vs.toArray w R) (h : ∀ e w', R e w' → ∃ u, e = .returned u ∧ wpListIn Fence.wide n P ops Q rest (fr (l.set d u)) w') :
    wpListIn Fence.wide n P ops Q ({ dst := some d, op := .call { callee := .value x, args := args.toArray, argTypes := tys }, type := T, pos := pos, after := after, guard := none } :: rest) (fr l) w := by
  subst ha
  obtain ⟨fn, tmps, assign, body, hrun, hR⟩ := hy
  unfold wpListIn
  rw [if_pos (by simp [Region.wanted])]
  unfold Oper.wpIn
  refine ⟨fun f _ => trivial, ?_⟩
  rw [show Fence.wide.round = none from rfl, Oper.semAt_none, exec_eq, eval_fr]
  have hr : (exec (ev l) (.call { callee := .value x, args := args.toArray, argTypes := tys }) T).run P w = .ok (.round lr fn tmps assign body) w := by
    simp [exec, execOp, resolve, hx, invoke, hrun, Deferred.ofValue]
  rw [hr]
  refine ⟨fun h => (by cases h), hR.mono fun e w' he => ?_⟩
  obtain ⟨u, rfl, hk⟩ := h e w' he
  show wpListIn _ _ _ _ _ _ ((fr l).put (some d) u) w'
  rw [put_set1]
  exact hk
/-! ### With deferred calls at hand -/
theorem put_defers (a : Act) (d : Option Tmp) (v : Value) (ds : List Deferred) : ({ a with defers := ds } : Act).put d v = { a.put d v with defers := ds } := by
  cases d <;> rfl
def simpleOp : Op → Bool
  | .load .. | .store .. | .assign .. | .move .. | .binOp .. | .unOp .. | .pick .. => true
  | _ => false
theorem bind_no {P : Program} {α : Type} {s : Sem α} {f : α → Next} (hf : ∀ x d, f x ≠ .defer d) {w w' : World} {d : Deferred} : (s >>= fun x => pure (f x)).run P w ≠ .ok (.defer d) w' := by
  rw [Sem.run_bind]
  intro h
  cases hs : s.run P w with
  | ok x w1 =>
    rw [hs] at h
    simp at h
    exact hf _ _ h.1
  | halt x w1 =>
    rw [hs] at h
    simp [Result.andThen] at h
theorem simple_no {P : Program} {ρ : Operand → Value} {o : Oper} (h : simpleOp o.op = true) (w : World) (d : Deferred) (w' : World) : (execOp ρ o).run P w ≠ .ok (.defer d) w' := by
  intro hr
  unfold execOp at hr
  cases ho : o.op <;> rw [ho] at h <;> simp only [simpleOp, Bool.false_eq_true] at h <;> rw [ho] at hr <;> simp only at hr <;> first
    | exact bind_no (f := fun x => Next.value x) (fun x d => by simp) hr
    | exact bind_no (f := fun (_ : Unit) => Next.skip) (fun x d => by simp) hr
    | exact bind_no (f := fun b => Next.value (if b = true then _ else _)) (fun x d => by simp) hr
    | (simp at hr)
def frd (l : List Value) (ds : List Deferred) : Act := { tmps := l.toArray, defers := ds }
/-- What is asked behind, at the same temporaries with other deferred calls. -/
def Sh (ds : List Deferred) (Q : Exit → Act → World → Prop) : Exit → Act → World → Prop := fun e a w => Q e { a with defers := ds } w
theorem list_defers {ds : List Deferred} : ∀ (os : List Oper) (a : Act) (w : World), os.all (fun o => simpleOp o.op) = true → ¬ LetsOut Q → wpList P ops (Sh ds Q) os a w → wpList P ops Q os { a with defers := ds } w
  | [], a, w, _, _, h => h
  | o :: os, a, w, hd, hno, h => by
    rw [List.all_cons, Bool.and_eq_true] at hd
    have hd' := hd.2
    have hno' : ¬ LetsOut (Sh ds Q) := fun ⟨a, w, x⟩ => hno ⟨_, w, x⟩
    have ih := fun a w h => list_defers (ds := ds) os a w hd' hno h
    unfold wpList at h ⊢
    split at h
    · rename_i hw
      rw [if_pos hw]
      rcases h with h | ⟨_, h⟩
      · refine .inl ?_
        unfold Oper.wp at *
        have he : ({ a with defers := ds } : Act).eval = a.eval := by funext x; cases x <;> rfl
        rw [he]
        generalize hres : (execOp a.eval o).run P w = res at *
        cases res with
        | ok x w' =>
          cases x <;> simp only [Oper.upon] at h ⊢
          case value u => exact put_defers a o.dst u ds ▸ ih _ _ h
          case skip => exact put_defers a o.dst undef ds ▸ ih _ _ h
          case defer d =>
            exact absurd hres (simple_no hd.1 _ _ _)
          case enter f args =>
            refine Calls.mono h fun e w'' he => ?_
            cases e with
            | returned u =>
              show wpList P ops Q os (Act.put { a with defers := ds } o.dst u) w''
              rw [put_defers]
              exact ih _ _ he
            | panicked c => exact he
            | outgrown => exact absurd he hno'
          case row row args => exact Rows.mono h fun u w'' he => by rw [put_defers]; exact ih _ _ he
        | halt x w' =>
          cases x <;> simp only [Oper.upon] at h ⊢
          case panic u => exact h
      · exact absurd h hno'
    · rename_i hw
      rw [if_neg hw, put_defers]
      exact ih _ _ h
end
end Go.Proofs.E
set_option linter.unusedVariables false
set_option linter.unusedSimpArgs false
namespace Go.Proofs.E
open Go Go.RowKit
/-- Blocks below n lie as they lay, but S's. -/
structure Bw (n : Nat) (S : List Nat) (w w' : World) : Prop where
  os : w'.os = w.os
  tape : w'.tape = w.tape
  output : w'.output = w.output
  size : w.heap.size ≤ w'.heap.size
  block : ∀ k, k < n → k ∉ S → w'.heap[k]? = w.heap[k]?
theorem Bw.then {n : Nat} {S : List Nat} {a b c : World} (h : Bw n S a b) (k : Bw n S b c) : Bw n S a c :=
  ⟨k.os.trans h.os, k.tape.trans h.tape, k.output.trans h.output, Nat.le_trans h.size k.size, fun i hi hS => (k.block i hi hS).trans (h.block i hi hS)⟩
theorem Bw.ch {S : List Nat} {w w' : World} (h : Bw w.heap.size S w w') : Ch S w w' := ⟨h.os, h.tape, h.output, h.size, h.block⟩
theorem Ch.bw {n : Nat} {S : List Nat} {w w' : World} (h : Ch S w w') (hn : n ≤ w.heap.size) : Bw n S w w' := ⟨h.os, h.tape, h.output, h.size, fun k hk hS => h.block k (Nat.lt_of_lt_of_le hk hn) hS⟩
theorem Bw.of_below {n : Nat} {S : List Nat} {w w' : World} (h : Below n w w') : Bw n S w w' := ⟨h.os, h.tape, h.output, h.size, fun k hk _ => h.block k hk⟩
theorem Bw.putObj {n : Nat} {S : List Nat} {w : World} {l : Nat} (o : Obj) (h : n ≤ l) : Bw n S w (w.putObj l o) :=
  ⟨rfl, rfl, rfl, by simp [World.putObj], fun k hk _ => by simp [World.putObj]; exact Array.getElem?_setIfInBounds_ne (by omega)⟩
/-- The way in, where the body holds a range over a function. -/
theorem enterM {P : Program} {w : World} {f : FuncId} {fn : Func} {c : Code} {args : Array Value} {R : Ending → World → Prop} (l : List Value)
    (hf : P.funcs[f]? = some fn) (hb : fn.body = some c) (hl : args.toList ++ List.replicate (fn.ntmps - args.size) undef = l)
    (h : c.wp P (bodyPostM Fence.wide 10 P fn R) (fr l) w) : Calls P f args w R := by
  refine (callsIn_wide (n := 10)).1 (callsIn_of_wp_marks hf hb trivial (wpIn_wide.2 ?_))
  have : (args ++ Array.replicate (fn.ntmps - args.size) undef : Array Value) = l.toArray := by
    rw [← hl]
    apply Array.ext'
    simp
  rw [this]
  exact h
theorem post0 {P : Program} {w : World} {fn : Func} {R : Ending → World → Prop} {l : List Value} (h : bodyPost P fn R .ret (fr l) w) : bodyPostM Fence.wide 10 P fn R .ret (fr l) w := by
  obtain ⟨_, v, h1, h2⟩ := h
  exact ⟨v, h1, h2⟩
theorem post1 {P : Program} {w : World} {fn : Func} {R : Ending → World → Prop} {l : List Value} {D : Nat} (hK : w.heap[D]? = some (.deferred (some []))) (h : bodyPost P fn R .ret (fr l) (w.putObj D (.deferred none))) :
    bodyPostM Fence.wide 10 P fn R .ret (frd l [{ target := .collected D, args := #[] }]) w := by
  obtain ⟨_, v, h1, h2⟩ := h
  exact ⟨by simp, .inl ⟨_, _, rfl, run_takeDeferred hK, ⟨v, h1, h2⟩⟩⟩
theorem noOut_M {P : Program} {fn : Func} {R : Value → World → Prop} : ¬ LetsOut (bodyPostM Fence.wide 10 P fn (Ret R)) := fun ⟨a, w, v, h, _⟩ => by cases h
end Go.Proofs.E
namespace Go.Proofs.YtbecfcnbgeeghaaDoor
open Go Go.RowKit Go.Proofs.E
attribute [local irreducible] Go.wpList Go.Code.wp Go.Proofs.E.exec Go.Proofs.E.wpLexG
abbrev Xt (L : Nat) := { x : Nat × (Nat × Bool) // x.1 < L }
def encU {L : Nat} (x : Xt L) : Array Value := #[.int .i64 (x.1.1 : Int), .agg #[.int .i64 (x.1.2.1 : Int), .bool x.1.2.2]]
/-- From the last one back, numbered. -/
def upl (ts : List (Nat × Bool)) : List (Nat × (Nat × Bool)) := ts.reverse.zipIdx.map fun p => (p.2, p.1)
theorem upl_get {ts : List (Nat × Bool)} {i : Nat} {t : Nat × Bool} (h : ts[ts.length - 1 - i]? = some t) (hi : i < ts.length) : (upl ts)[i]? = some (i, t) := by
  unfold upl
  rw [List.getElem?_map, List.getElem?_zipIdx, List.getElem?_reverse hi, h]
  simp
theorem upl_len (ts : List (Nat × Bool)) : (upl ts).length = ts.length := by simp [upl]
set_option maxHeartbeats 8000000 in
theorem up_stops {S : List Nat} {n : Nat} {w0 : World} {bx : Nat} {v : Value} {ts : List (Nat × Bool)} (hBx : Blk w0 bx [v] 74) (hSx : bx ∉ S) (hR : (Ty.enc eT).Rd S w0 v ts) (hlen : ts.length ≤ 2199023255552) :
    SeqStopsK Fence.wide n Tryd.prog 84 #[.pointer (some ⟨bx, 0, none⟩)] (encU (L := ts.length)) (Bw w0.heap.size S) (fun xs => xs.map (·.1) = upl ts) (fun _ => True) ts.length w0 := by
  intro lr J Jx W hW hJ hJx hY h0
  refine callsIn_wide.2 ?_
  suffices h : Calls Tryd.prog 84 #[.func (.yield lr) #[] #[], .pointer (some ⟨bx, 0, none⟩)] W (Ret fun _ W' => (∃ xs : List (Xt ts.length), xs.map (·.1) = upl ts ∧ J xs W') ∨ (∃ pre : List (Xt ts.length), True ∧ Jx pre W')) from
    h.mono fun e w ⟨v, he, h⟩ => ⟨⟨v, he⟩, h⟩
  refine enter [.func (.yield lr) #[] #[], .pointer (some ⟨bx, 0, none⟩), undef, undef, undef, undef, undef, undef, undef, undef, undef, undef, undef, undef, undef, undef, undef, undef, undef, undef, undef, undef] Tryd.func84 rfl rfl ?_
  have hbW : Bw w0.heap.size S w0 W := Bw.of_below hW
  obtain ⟨A, cap, rfl⟩ := hR.form
  repeat (first | ((with_reducible apply is_st); refine su ?_) | ((with_reducible apply is_gd); first | refine gt ?_ | refine gf ?_ | refine gu ?_) | ((with_reducible apply is_en); refine en ?_) | (with_reducible first | apply x_then | apply wp_seq | apply c_region | apply wp_block | apply wp_skip | apply wp_exit | apply wp_ret | apply wp_label | apply wp_scope_straight | apply x_ng | apply x_ng_ret | apply x_ng_exit | apply x_then_ret | apply x_then_exit | apply x_block | apply x_block_ret | apply x_block_exit | refine x_block_other (by decide) ?_))
  refine ldb (hBx.ch hbW.ch hSx) rfl rfl ?_
  repeat (first | ((with_reducible apply is_st); refine su ?_) | ((with_reducible apply is_gd); first | refine gt ?_ | refine gf ?_ | refine gu ?_) | ((with_reducible apply is_en); refine en ?_) | (with_reducible first | apply x_then | apply wp_seq | apply c_region | apply wp_block | apply wp_skip | apply wp_exit | apply wp_ret | apply wp_label | apply wp_scope_straight | apply x_ng | apply x_ng_ret | apply x_ng_exit | apply x_then_ret | apply x_then_exit | apply x_block | apply x_block_ret | apply x_block_exit | refine x_block_other (by decide) ?_))
  
  refine c_loop (fun k l w' => ∃ (i : Nat) (pre : List (Xt ts.length)), (∃ jj : Nat → Value, l = [.func (.yield lr) #[] #[], .pointer (some ⟨bx, 0, none⟩), jj 2, jj 3, jj 4, .int .i64 (ts.length : Int), .int .i64 (i : Int), jj 7, jj 8, jj 9, jj 10, jj 11, jj 12, jj 13, jj 14, jj 15, jj 16, jj 17, jj 18, jj 19, jj 20, jj 21]) ∧ k + i = ts.length ∧ pre.length = i ∧ pre.map (·.1) = (upl ts).take i ∧ J pre w' ∧ Bw w0.heap.size S w0 w') ts.length
    ⟨0, [], exj rfl, rfl, rfl, rfl, h0, hbW⟩ ?_
  rintro k l w1 ⟨i, pre, ⟨jj, rfl⟩, hki, hpl, hpre, hJ1, hb1⟩
  have hB1 := hBx.ch hb1.ch hSx
  have hR1 := hR.ch hb1.ch
  repeat (first | ((with_reducible apply is_st); refine su ?_) | ((with_reducible apply is_gd); first | refine gt ?_ | refine gf ?_ | refine gu ?_) | ((with_reducible apply is_en); refine en ?_) | (with_reducible first | apply x_then | apply wp_seq | apply c_region | apply wp_block | apply wp_skip | apply wp_exit | apply wp_ret | apply wp_label | apply wp_scope_straight | apply x_ng | apply x_ng_ret | apply x_ng_exit | apply x_then_ret | apply x_then_exit | apply x_block | apply x_block_ret | apply x_block_exit | refine x_block_other (by decide) ?_))
  refine c_cond rfl (fun hi => ?_) (fun hi => ?_)
  · have hil : ts.length - 1 - i < ts.length := by omega
    obtain ⟨hl, A', cap', hv, hcap, hA⟩ := hR1
    injection hv with hv1 hv2 hv3
    subst hv1 hv3
    obtain ⟨b, o, rfl, hbl, hbS, he⟩ := hA (fun h => by rw [h] at hil; simp at hil)
    obtain ⟨_, _, cs, hcs, hrow⟩ := he _ _ (List.getElem?_eq_getElem hil)
    have hcs' : cs = eT.f ts[ts.length - 1 - i] := hcs
    subst hcs'
    have hget := upl_get (List.getElem?_eq_getElem hil) (by omega)
    generalize ts[ts.length - 1 - i] = t at hrow hget
    have hyl := hY pre ⟨(i, t), by omega⟩ w1 hJ1 (by omega)
    have hsnoc : (pre ++ [(⟨(i, t), by omega⟩ : Xt ts.length)]).map (·.1) = (upl ts).take (i + 1) := by
      rw [List.map_append, hpre, List.take_add_one, hget]
      rfl
    repeat (first | ((with_reducible apply is_st); refine su ?_) | ((with_reducible apply is_gd); first | refine gt ?_ | refine gf ?_ | refine gu ?_) | ((with_reducible apply is_en); refine en ?_) | (with_reducible first | apply x_then | apply wp_seq | apply wp_block | apply wp_skip | apply wp_exit | apply wp_ret | apply wp_label | apply wp_scope_straight | apply x_ng | apply x_ng_ret | apply x_ng_exit | apply x_then_ret | apply x_then_exit | apply x_block | apply x_block_ret | apply x_block_exit | refine x_block_other (by decide) ?_))
    refine c_region ?_
    refine st ?_
    refine st ?_
    refine en ?_
    repeat (first | ((with_reducible apply is_st); refine su ?_) | ((with_reducible apply is_gd); first | refine gt ?_ | refine gf ?_ | refine gu ?_) | ((with_reducible apply is_en); refine en ?_) | (with_reducible first | apply x_then | apply wp_seq | apply wp_block | apply wp_skip | apply wp_exit | apply wp_ret | apply wp_label | apply wp_scope_straight | apply x_ng | apply x_ng_ret | apply x_ng_exit | apply x_then_ret | apply x_then_exit | apply x_block | apply x_block_ret | apply x_block_exit | refine x_block_other (by decide) ?_))
    refine (wpIn_wide (n := n)).1 (wpIn_region_lit ?_)
    refine li_val (r_move _) ?_
    refine li_val (r_move _) ?_
    refine li_val (r_load_one rfl (hB1.cell rfl)) ?_
    refine li_val (r_load_one rfl (hB1.cell rfl)) ?_
    refine li_val (r_len rfl) ?_
    refine li_val (r_to (r_sub rfl rfl) (wrap_rng (by exact rfl) (by omega) (by omega))) ?_
    refine li_val (r_move _) ?_
    refine li_val (r_to (r_sub rfl rfl) (wrap_rng (by exact rfl) (by omega) (by omega))) ?_
    refine li_val (r_indexAddr rfl rfl (by omega) (by omega)) ?_
    rw [show ((ts.length : Int) - 1 - (i : Int)).toNat = ts.length - 1 - i by omega]
    refine li_val (r_load_row rfl hrow rfl) ?_
    refine li_yield rfl rfl hyl ?_
    rintro e w2 (⟨rfl, hJ2, hk2⟩ | ⟨rfl, hJ2⟩)
    · refine ⟨_, rfl, ?_⟩
      refine li_val (r_not rfl) ?_
      refine wpListIn_nil ?_
      repeat (first | ((with_reducible apply is_st); refine su ?_) | ((with_reducible apply is_gd); first | refine gt ?_ | refine gf ?_ | refine gu ?_) | ((with_reducible apply is_en); refine en ?_) | (with_reducible first | apply x_then | apply wp_seq | apply wp_block | apply wp_skip | apply wp_exit | apply wp_ret | apply wp_label | apply wp_scope_straight | apply x_ng | apply x_ng_ret | apply x_ng_exit | apply x_then_ret | apply x_then_exit | apply x_block | apply x_block_ret | apply x_block_exit | refine x_block_other (by decide) ?_))
      refine c_condb rfl (fun h => by cases h) (fun _ => ?_)
      repeat (first | ((with_reducible apply is_st); refine su ?_) | ((with_reducible apply is_gd); first | refine gt ?_ | refine gf ?_ | refine gu ?_) | ((with_reducible apply is_en); refine en ?_) | (with_reducible first | apply x_then | apply wp_seq | apply c_region | apply wp_block | apply wp_skip | apply wp_exit | apply wp_ret | apply wp_label | apply wp_scope_straight | apply x_ng | apply x_ng_ret | apply x_ng_exit | apply x_then_ret | apply x_then_exit | apply x_block | apply x_block_ret | apply x_block_exit | refine x_block_other (by decide) ?_))
      exact x_goes (k - 1) rfl (by omega) ⟨i + 1, _, exj rfl, by omega, by simp [hpl], hsnoc, hJ2, hb1.then hk2⟩
    · refine ⟨_, rfl, ?_⟩
      refine li_val (r_not rfl) ?_
      refine wpListIn_nil ?_
      repeat (first | ((with_reducible apply is_st); refine su ?_) | ((with_reducible apply is_gd); first | refine gt ?_ | refine gf ?_ | refine gu ?_) | ((with_reducible apply is_en); refine en ?_) | (with_reducible first | apply x_then | apply wp_seq | apply wp_block | apply wp_skip | apply wp_exit | apply wp_ret | apply wp_label | apply wp_scope_straight | apply x_ng | apply x_ng_ret | apply x_ng_exit | apply x_then_ret | apply x_then_exit | apply x_block | apply x_block_ret | apply x_block_exit | refine x_block_other (by decide) ?_))
      refine c_condb rfl (fun _ => ?_) (fun h => by cases h)
      repeat (first | ((with_reducible apply is_st); refine su ?_) | ((with_reducible apply is_gd); first | refine gt ?_ | refine gf ?_ | refine gu ?_) | ((with_reducible apply is_en); refine en ?_) | (with_reducible first | apply x_then | apply wp_seq | apply c_region | apply wp_block | apply wp_skip | apply wp_exit | apply wp_ret | apply wp_label | apply wp_scope_straight | apply x_ng | apply x_ng_ret | apply x_ng_exit | apply x_then_ret | apply x_then_exit | apply x_block | apply x_block_ret | apply x_block_exit | refine x_block_other (by decide) ?_))
      exact out0 rfl (.inr ⟨_, trivial, hJ2⟩)
  · repeat (first | ((with_reducible apply is_st); refine su ?_) | ((with_reducible apply is_gd); first | refine gt ?_ | refine gf ?_ | refine gu ?_) | ((with_reducible apply is_en); refine en ?_) | (with_reducible first | apply x_then | apply wp_seq | apply c_region | apply wp_block | apply wp_skip | apply wp_exit | apply wp_ret | apply wp_label | apply wp_scope_straight | apply x_ng | apply x_ng_ret | apply x_ng_exit | apply x_then_ret | apply x_then_exit | apply x_block | apply x_block_ret | apply x_block_exit | refine x_block_other (by decide) ?_))
    refine out0 rfl (.inl ⟨pre, ?_, hJ1⟩)
    rw [hpre, List.take_of_length_le (by rw [upl_len]; omega)]
/-- How a round may be left. -/
def UpPost (S : List Nat) (Fz : List (Nat × (Nat × Bool)) → World → Prop) (pre : List (Nat × (Nat × Bool))) (W : World) : Exit → Act → World → Prop := fun e _ W' => e = .normal ∧ Ch S W W' ∧ Fz pre W'
theorem noOut_up {S : List Nat} {Fz : List (Nat × (Nat × Bool)) → World → Prop} {pre : List (Nat × (Nat × Bool))} {W : World} : ¬ LetsOut (UpPost S Fz pre W) := fun ⟨a, w, h, _⟩ => by cases h
theorem noOut_f : ¬ LetsOut (fun _ _ _ => False) := fun ⟨a, w, h⟩ => h
theorem grown_at {W W' : World} {row : Option Nat} {n : Nat} (hg : W.grownBy W' row) (hn : n ≤ W.heap.size) (hr : ∀ r, row = some r → n ≤ r) : ∀ k, k < n → W'.heap[k]? = W.heap[k]? := fun k hk => hg.block k (Nat.lt_of_lt_of_le hk hn) fun e => by
  have := hr k e.symm
  omega
set_option maxHeartbeats 4000000 in
theorem c_up {l : List Value} {w : World} {Q : Exit → Act → World → Prop} {S : List Nat} {bx : Nat} {v : Value} {ts : List (Nat × Bool)} {g p1 p2 : Nat} {assign body : Code} (q1 q2 : Nat)
    (hBx : Blk w bx [v] 74) (hSx : bx ∉ S) (hSlt : ∀ x ∈ S, x < w.heap.size) (hR : (Ty.enc eT).Rd S w v ts) (hlen : ts.length ≤ 2199023255552)
    (hg : ev l (.tmp g) = .func (.func 84) #[] #[.pointer (some ⟨bx, 0, none⟩)])
    (Fz : List (Nat × (Nat × Bool)) → World → Prop) (hFz : ∀ pre W W', Fz pre W → (∀ k, k < w.heap.size → W'.heap[k]? = W.heap[k]?) → Fz pre W') (h0 : Fz [] w)
    (hassign : ∀ (r : Nat) (x : Nat × (Nat × Bool)) (W : World) (K : Act → World → Prop), (∀ b W', W.heap.size ≤ b → Ch [] W W' → Blk W' b (eT.f x.2) 77 → K (fr ((((l.set p1 (.int .i64 (x.1 : Int))).set p2 (.agg #[.int .i64 (x.2.1 : Int), .bool x.2.2])).set q1 (.int .i64 (x.1 : Int))).set q2 (.pointer (some ⟨b, 0, none⟩)))) W') →
      assign.wpIn (RF r) 8 Tryd.prog (Exit.then K (fun _ _ _ => False)) (fr ((l.set p1 (.int .i64 (x.1 : Int))).set p2 (.agg #[.int .i64 (x.2.1 : Int), .bool x.2.2]))) W)
    (hbody : ∀ (r : Nat) (pre : List (Nat × (Nat × Bool))) (x : Nat × (Nat × Bool)) (b : Nat) (W : World), x.1 < ts.length → Ch S w W → Fz pre W → w.heap.size ≤ b → Blk W b (eT.f x.2) 77 →
      body.wpIn (RF r) 8 Tryd.prog (UpPost S Fz (pre ++ [x]) W) (fr ((((l.set p1 (.int .i64 (x.1 : Int))).set p2 (.agg #[.int .i64 (x.2.1 : Int), .bool x.2.2])).set q1 (.int .i64 (x.1 : Int))).set q2 (.pointer (some ⟨b, 0, none⟩)))) W)
    (hdone : ∀ (D : Nat) (W : World), w.heap.size ≤ D → Ch S w W → Fz (upl ts) W → W.heap[D]? = some (.deferred (some [])) → Q .normal (frd l [{ target := .collected D, args := #[] }]) W) :
    (Code.rangeFunc (.tmp g) #[p1, p2] assign body).wp Tryd.prog Q (fr l) w := by
  refine (wpIn_wide (n := 10)).1 ?_
  refine wpIn_rangeFunc_ownH (α := Xt ts.length) (F := Fence.wide) (n := 10) rfl (by omega) (gf := 84) (lb := #[.pointer (some ⟨bx, 0, none⟩)]) (by rw [eval_fr]; exact hg) trivial (enters_of Tryd.func84 (by kernel_rfl) rfl)
    (up_stops (n := 9) hBx hSx hR hlen) (fun h k => h.then k) (fun W lx o o' hl hW _ _ => Bw.putObj _ hl) (Below.refl _ _) (fun _ => rfl)
    (fun pre W => Ch S w W ∧ Fz (pre.map (·.1)) W) (fun _ _ _ => False) ?_ (fun _ _ _ _ _ h _ _ => h) ⟨Ch.refl _ _, h0⟩
    (fun x a' W => ∃ b, w.heap.size ≤ b ∧ Blk W b (eT.f x.1.2) 77 ∧ a' = fr ((((l.set p1 (.int .i64 (x.1.1 : Int))).set p2 (.agg #[.int .i64 (x.1.2.1 : Int), .bool x.1.2.2])).set q1 (.int .i64 (x.1.1 : Int))).set q2 (.pointer (some ⟨b, 0, none⟩)))) ?_ ?_ ?_ ?_ ?_
  · rintro pre W W' row ⟨hc, hF⟩ hgr hrow
    have hsame := grown_at (n := w.heap.size) hgr hc.size (fun r e => (hrow r e).1)
    exact ⟨⟨hgr.os.trans hc.os, hgr.tape.trans hc.tape, hgr.output.trans hc.output, Nat.le_trans hc.size hgr.size, fun k hk hS => (hsame k hk).trans (hc.block k hk hS)⟩, hFz _ _ _ hF hsame⟩
  · rintro x a' _ W W' row ⟨b, hb, hB, ha⟩ hgr hrow
    refine ⟨b, hb, ?_, ha⟩
    refine (hgr.block b hB.lt fun e => ?_).trans hB
    obtain ⟨_, o, ho, hno⟩ := hrow b e.symm
    rw [hB] at ho
    cases ho
    cases hno
  · rintro lr pre x W K ⟨hc, hF⟩ hK
    have := hassign lr x.1 W K (fun b W' hb hch hB => hK _ _ ⟨hch.size, fun k o hk ho _ => (hch.block k (Array.getElem?_eq_some_iff.1 ho).1 (by simp)).trans ho⟩ ((hch.some (S := S)).bw hc.size)
      ⟨hc.add hch, hFz _ _ _ hF (fun k hk => hch.block k (Nat.lt_of_lt_of_le hk hc.size) (by simp))⟩ ⟨b, Nat.le_trans hc.size hb, hB, rfl⟩)
    refine Code.wpIn_mono (fun e a w h => h) ?_
    have he : (((#[p1, p2] : Array Nat).zip (encU x)).foldl (fun t (p : Nat × Value) => t.setIfInBounds p.1 p.2) (fr l).tmps) = ((l.set p1 (.int .i64 (x.1.1 : Int))).set p2 (.agg #[.int .i64 (x.1.2.1 : Int), .bool x.1.2.2])).toArray := by
      simp [encU, fr]
    show assign.wpIn _ _ _ _ { tmps := ((#[p1, p2] : Array Nat).zip (encU x)).foldl (fun t (p : Nat × Value) => t.setIfInBounds p.1 p.2) (fr l).tmps, defers := [] } W
    rw [he]
    exact this
  · rintro lr pre x a' W hlr _ ⟨hc, hF⟩ ⟨b, hb, hB, rfl⟩ _
    refine Code.wpIn_mono (Q := UpPost S Fz (pre.map (·.1) ++ [x.1]) W) (fun e a W' h => ?_) (hbody lr (pre.map (·.1)) x.1 b W x.2 hc hF hb hB)
    obtain ⟨rfl, hch, hF'⟩ := h
    refine ⟨⟨hch.size, fun k o hk ho _ => (hch.block k (Array.getElem?_eq_some_iff.1 ho).1 (fun hm => by have := hSlt k hm; omega)).trans ho⟩, hch.bw hc.size, hc.then hch, ?_⟩
    rw [List.map_append]
    exact hF'
  · rintro D xs W hD hxs ⟨hc, hF⟩ hK
    rw [hxs] at hF
    exact hdone D W hD hc hF hK
  · rintro D c pre W _ _ h _
    exact h.elim
end Go.Proofs.YtbecfcnbgeeghaaDoor

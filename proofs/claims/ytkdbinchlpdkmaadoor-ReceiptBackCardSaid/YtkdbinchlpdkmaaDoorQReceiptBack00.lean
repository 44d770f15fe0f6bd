/- The engine: one lemma for each operation of the model, said over a world of which facts alone are known; frames are lists of values.
   The engine's memory: what blocks hold, what a change leaves as it was, what a slice reads as.
   The engine's slices: literals, cuts, appends, make, copy.
   The engine's regions that draw their order: one walk in the text's order serves every order, if each operation is steady (one value in whatever world may have come of this one) or is the only one that may come up.
   A loop whose ways out all come to the same: what holds behind it is said once. -/
import Derived.WalkKit
import Derived.WalkSpells
import Derived.Deep.MidRow
import Derived.OrdersHeld
import Derived.Laws.BitsLemmas
import Derived.KernelRfl
import Derived.Maps.AppendAt
import Derived.Deep.Quiet
set_option linter.unusedVariables false
set_option linter.unusedSimpArgs false
namespace Go.Proofs.E
open Go Go.RowKit

/-! ### Frames -/
def nth : List Value → Nat → Value
  | [], _ => undef
  | v :: _, 0 => v
  | _ :: l, n + 1 => nth l n
theorem nth_getD : ∀ (l : List Value) (n : Nat), l.getD n undef = nth l n
  | [], _ => by simp [nth]
  | _ :: _, 0 => by simp [nth]
  | _ :: l, n + 1 => by simpa [nth] using nth_getD l n
def ev (l : List Value) : Operand → Value
  | .tmp t => nth l t
  | .const v => v
  | .global g => .pointer (some ⟨g, 0, none⟩)
  | .func f => .func (.func f) #[] #[]
def fr (l : List Value) : Act := { tmps := l.toArray, defers := [] }
theorem eval_fr (l : List Value) : (fr l).eval = ev l := by
  funext x
  cases x with
  | tmp t =>
    show l.toArray.getD t undef = nth l t
    rw [← nth_getD]
    simp [Array.getD_eq_getD_getElem?, List.getD_eq_getElem?_getD]
  | _ => rfl
theorem put_fr (l : List Value) (d : Nat) (v : Value) : (fr l).put (some d) v = fr (l.set d v) := by
  simp [Act.put, fr]
def set1 (l : List Value) : Option Nat → Value → List Value
  | some d, v => l.set d v
  | none, _ => l
theorem put_set1 (l : List Value) (d : Option Nat) (v : Value) : (fr l).put d v = fr (set1 l d v) := by
  cases d
  · rfl
  · exact put_fr l _ v

/-- What an operation does, with its operands' values. -/
def exec (ρ : Operand → Value) (op : Op) (T : TypeId) : Sem Next := execOp ρ { dst := none, op := op, type := T, pos := "", after := #[], guard := none }
theorem exec_eq (ρ : Operand → Value) (o : Oper) : execOp ρ o = exec ρ o.op o.type := by
  cases o; rfl

section
variable {P : Program} {ops : Array Oper} {Q : Exit → Act → World → Prop} {rest : List Oper} {l : List Value} {w : World}
  {op : Op} {T : TypeId} {pos : String} {after : Array Edge}

theorem wl_any {o : Oper} (hg : o.guard = none) (h : o.wp P (fr l) w (wpList P ops Q rest) Q) : wpList P ops Q (o :: rest) (fr l) w := by
  unfold wpList
  rw [if_pos (by simp [Region.wanted, hg])]
  exact .inl h
theorem wl_val {d : Nat} {v : Value} {w' : World} (hr : (exec (ev l) op T).run P w = .ok (.value v) w') (h : wpList P ops Q rest (fr (l.set d v)) w') :
    wpList P ops Q ({ dst := some d, op := op, type := T, pos := pos, after := after, guard := none } :: rest) (fr l) w := by
  refine wl_any rfl ?_
  unfold Oper.wp
  rw [exec_eq, eval_fr, hr, Oper.upon_value, put_fr]
  exact h
theorem wl_skip {w' : World} (hr : (exec (ev l) op T).run P w = .ok .skip w') (h : wpList P ops Q rest (fr l) w') :
    wpList P ops Q ({ dst := none, op := op, type := T, pos := pos, after := after, guard := none } :: rest) (fr l) w := by
  refine wl_any rfl ?_
  unfold Oper.wp
  rw [exec_eq, eval_fr, hr, Oper.upon_skip]
  exact h
/-- A call that hands something back. -/
def Ret (R : Value → World → Prop) : Ending → World → Prop := fun e w' => ∃ v, e = .returned v ∧ R v w'
theorem wl_call {d : Option Nat} {f : FuncId} {args : Array Value} {w' : World} {R : Value → World → Prop} (hr : (exec (ev l) op T).run P w = .ok (.enter f args) w')
    (hc : Calls P f args w' (Ret R)) (h : ∀ v w'', R v w'' → wpList P ops Q rest (fr (set1 l d v)) w'') :
    wpList P ops Q ({ dst := d, op := op, type := T, pos := pos, after := after, guard := none } :: rest) (fr l) w := by
  refine wl_any rfl ?_
  unfold Oper.wp
  rw [exec_eq, eval_fr, hr, Oper.upon_enter]
  refine hc.mono fun e w'' he => ?_
  obtain ⟨v, rfl, hv⟩ := he
  show wpList P ops Q rest ((fr l).put d v) w''
  rw [put_set1]
  exact h v w'' hv
theorem wl_nil (h : Q .normal (fr l) w) : wpList P ops Q [] (fr l) w := h
/-- A guarded operation: its guard's value is known. -/
theorem wl_on {d : Option Nat} {j t : Nat} {b c : Bool} (hj : (ops[j]?).bind (·.dst) = some t) (hv : ev l (.tmp t) = .bool c) (hlt : t < l.length) (hc : c = b)
    (h : wpList P ops Q ({ dst := d, op := op, type := T, pos := pos, after := after, guard := none } :: rest) (fr l) w) :
    wpList P ops Q ({ dst := d, op := op, type := T, pos := pos, after := after, guard := some (j, b) } :: rest) (fr l) w := by
  subst hc
  have hy : yielded ops (fr l).tmps j = some c := by
    unfold yielded
    rw [hj]
    have : l[t]? = some (.bool c) := by
      have h1 : nth l t = .bool c := hv
      rw [← nth_getD, List.getD_eq_getElem?_getD] at h1
      rw [List.getElem?_eq_getElem hlt] at h1 ⊢
      simpa using h1
    simp [fr, this]
  unfold wpList at h ⊢
  rw [if_pos (by simp [Region.wanted])] at h
  rw [if_pos (by simp [Region.wanted, hy])]
  exact h
theorem wl_off {d : Option Nat} {j t : Nat} {b c : Bool} (hj : (ops[j]?).bind (·.dst) = some t) (hv : ev l (.tmp t) = .bool c) (hlt : t < l.length) (hn : c = !b)
    (h : wpList P ops Q rest (fr (set1 l d undef)) w) :
    wpList P ops Q ({ dst := d, op := op, type := T, pos := pos, after := after, guard := some (j, b) } :: rest) (fr l) w := by
  have hy : yielded ops (fr l).tmps j = some c := by
    unfold yielded
    rw [hj]
    have : l[t]? = some (.bool c) := by
      have h1 : nth l t = .bool c := hv
      rw [← nth_getD, List.getD_eq_getElem?_getD] at h1
      rw [List.getElem?_eq_getElem hlt] at h1 ⊢
      simpa using h1
    simp [fr, this]
  unfold wpList
  rw [if_neg (by simp [Region.wanted, hy, hn])]
  show wpList P ops Q rest ((fr l).put d undef) w
  rw [put_set1]
  exact h
/-- The guard's operation was itself not wanted. -/
theorem wl_off' {d : Option Nat} {j t : Nat} {b : Bool} (hj : (ops[j]?).bind (·.dst) = some t) (hv : ev l (.tmp t) = undef) (hlt : t < l.length)
    (h : wpList P ops Q rest (fr (set1 l d undef)) w) :
    wpList P ops Q ({ dst := d, op := op, type := T, pos := pos, after := after, guard := some (j, b) } :: rest) (fr l) w := by
  have hy : yielded ops (fr l).tmps j = none := by
    unfold yielded
    rw [hj]
    have : l[t]? = some undef := by
      have h1 : nth l t = undef := hv
      rw [← nth_getD, List.getD_eq_getElem?_getD] at h1
      rw [List.getElem?_eq_getElem hlt] at h1 ⊢
      simpa using h1
    simp [fr, this, undef]
  unfold wpList
  rw [if_neg (by simp [Region.wanted, hy])]
  show wpList P ops Q rest ((fr l).put d undef) w
  rw [put_set1]
  exact h
end

/-! ### Code -/
section
variable {P : Program} {Q : Exit → Act → World → Prop} {l : List Value} {w : World}
theorem c_region {id : Nat} {os : List Oper} (h : wpList P os.toArray Q os (fr l) w) : (Code.region id os.toArray false).wp P Q (fr l) w := wp_region_lit h
theorem c_cond {c : Operand} {x y : Code} {p : Prop} [Decidable p] (hc : ev l c = .bool (decide p)) (ht : p → x.wp P Q (fr l) w) (hf : ¬ p → y.wp P Q (fr l) w) : (Code.cond c x y).wp P Q (fr l) w := by
  by_cases hp : p
  · exact wp_cond (t := true) (by rw [eval_fr, hc, decide_eq_true hp]) (ht hp)
  · exact wp_cond (t := false) (by rw [eval_fr, hc, decide_eq_false hp]) (hf hp)
theorem c_condb {c : Operand} {x y : Code} {b : Bool} (hc : ev l c = .bool b) (ht : b = true → x.wp P Q (fr l) w) (hf : b = false → y.wp P Q (fr l) w) : (Code.cond c x y).wp P Q (fr l) w := by
  cases b
  · exact wp_cond (t := false) (by rw [eval_fr, hc]) (hf rfl)
  · exact wp_cond (t := true) (by rw [eval_fr, hc]) (ht rfl)
theorem x_then {K : Act → World → Prop} {a : Act} (h : K a w) : Exit.then K Q .normal a w := h
theorem x_block {a : Act} {i : Nat} (h : Q .normal a w) : Exit.inBlock i Q .normal a w := h
theorem x_block_exit {a : Act} {i : Nat} (h : Q .normal a w) : Exit.inBlock i Q (.exit i) a w := by
  unfold Exit.inBlock
  simp
  exact h
theorem x_block_other {a : Act} {i j : Nat} (hj : j ≠ i) (h : Q (.exit j) a w) : Exit.inBlock i Q (.exit j) a w := by
  unfold Exit.inBlock
  simp [hj]
  exact h
/-- A loop whose rounds are counted down by a number that no slot holds. -/
def Goes (I : Nat → List Value → World → Prop) (k : Nat) (a : Act) (w : World) : Prop := ∃ (k' : Nat) (l' : List Value), k' < k ∧ a = fr l' ∧ I k' l' w
theorem c_loop {c : Code} (I : Nat → List Value → World → Prop) (n : Nat) (h0 : I n l w)
    (hr : ∀ (k : Nat) (l : List Value) (w : World), I k l w → c.wp P (Exit.then (Goes I k) Q) (fr l) w) : (Code.loop c).wp P Q (fr l) w := by
  have hdec : ∀ (a : Act) (w : World) (h : ∃ k, ∃ l, a = fr l ∧ I k l w), ∃ m, (∃ l, a = fr l ∧ I m l w) ∧ ∀ j, (∃ l, a = fr l ∧ I j l w) → m ≤ j := by
    intro a w h
    obtain ⟨k, hk⟩ := h
    induction k using Nat.strongRecOn with
    | _ k ih =>
      by_cases hex : ∃ j, j < k ∧ ∃ l, a = fr l ∧ I j l w
      · obtain ⟨j, hj, hjl⟩ := hex
        exact ih j hj hjl
      · exact ⟨k, hk, fun j hj => Nat.le_of_not_lt fun hlt => hex ⟨j, hlt, hj⟩⟩
  let μ : Act → World → Nat := fun a w => @dite _ (∃ k, ∃ l, a = fr l ∧ I k l w) (Classical.propDecidable _) (fun h => (hdec a w h).choose) (fun _ => 0)
  refine wp_loop (fun a w => ∃ k, ∃ l, a = fr l ∧ I k l w) μ ⟨n, l, rfl, h0⟩ ?_
  intro a w h
  have hμ : μ a w = (hdec a w h).choose := by simp only [μ]; rw [dif_pos h]
  obtain ⟨⟨l', rfl, hl'⟩, hmin⟩ := (hdec a w h).choose_spec
  rw [← hμ] at hl'
  refine wp_mono (hr _ l' w hl') ?_
  intro e a' w' he
  cases e with
  | normal =>
    obtain ⟨k', l'', hk', rfl, hI'⟩ := he
    have h' : ∃ k, ∃ l, fr l'' = fr l ∧ I k l w' := ⟨k', l'', rfl, hI'⟩
    refine ⟨h', ?_⟩
    have hμ' : μ (fr l'') w' = (hdec _ w' h').choose := by simp only [μ]; rw [dif_pos h']
    rw [hμ']
    exact Nat.lt_of_le_of_lt ((hdec _ w' h').choose_spec.2 k' ⟨l'', rfl, hI'⟩) hk'
  | _ => exact he
/-- A round's end. -/
theorem x_goes {I : Nat → List Value → World → Prop} {k : Nat} (k' : Nat) {l' : List Value} (hl : l = l') (hk : k' < k) (h : I k' l' w) : Goes I k (fr l) w := ⟨k', l', hk, by rw [hl], h⟩
/-- The way in. -/
theorem enter {f : FuncId} {fn : Func} {c : Code} {args : Array Value} {R : Ending → World → Prop} (l : List Value)
    (hf : P.funcs[f]? = some fn) (hb : fn.body = some c) (hl : args.toList ++ List.replicate (fn.ntmps - args.size) undef = l)
    (h : c.wp P (bodyPost P fn R) (fr l) w) : Calls P f args w R := by
  refine calls_of_wp hf hb ?_
  have : (args ++ Array.replicate (fn.ntmps - args.size) undef : Array Value) = l.toArray := by
    rw [← hl]
    apply Array.ext'
    simp
  rw [this]
  exact h
/-- The ways out. -/
theorem ev_tmp (l : List Value) (t : Nat) : l.toArray.getD t undef = ev l (.tmp t) := congrFun (eval_fr l) (.tmp t)
theorem out1 {fn : Func} {t : Nat} {R : Value → World → Prop} (hr : fn.results = #[.tmp t]) (h : R (ev l (.tmp t)) w) : bodyPost P fn (Ret R) .ret (fr l) w := by
  refine ⟨rfl, ev l (.tmp t), ?_, _, rfl, h⟩
  have := results_tmp hr l.toArray P w
  rw [ev_tmp] at this
  exact this
theorem out3 {fn : Func} {t u s : Nat} {R : Value → World → Prop} (hr : fn.results = #[.tmp t, .tmp u, .tmp s]) (h : R (.tuple #[ev l (.tmp t), ev l (.tmp u), ev l (.tmp s)]) w) : bodyPost P fn (Ret R) .ret (fr l) w := by
  refine ⟨rfl, _, ?_, _, rfl, h⟩
  have : (results fn l.toArray).run P w = .ok (.tuple #[l.toArray.getD t undef, l.toArray.getD u undef, l.toArray.getD s undef]) w := by simp [results, hr]
  rw [ev_tmp, ev_tmp, ev_tmp] at this
  exact this
theorem out0 {fn : Func} {R : Value → World → Prop} (hr : fn.results = #[]) (h : R (.tuple #[]) w) : bodyPost P fn (Ret R) .normal (fr l) w :=
  ⟨rfl, _, results_none hr l.toArray P w, _, rfl, h⟩
end

/-! ### What is known of a program's tables -/
class Und (P : Program) (t : TypeId) (d : outParam TypeDesc) : Prop where
  out : P.underlying t = some d
/-- A type whose values are rows of cells. -/
class Row (P : Program) (t : TypeId) : Prop where
  out : ∃ d, P.underlying t = some d ∧ d.isRow = true
/-- A type whose values are one cell. -/
class One (P : Program) (t : TypeId) : Prop where
  out : ∃ d, P.underlying t = some d ∧ d.isRow = false
class Inf (P : Program) (t : TypeId) (z : outParam Value) (n b : outParam Nat) : Prop where
  out : (P.info? t).map (fun i => (i.zero, i.size, i.bytes)) = some (some z, n, b)
class Fun (P : Program) (f : FuncId) (fn : outParam Func) : Prop where
  out : P.funcs[f]? = some fn
  body : fn.body.isNone = false
  name : (fn.name == "runtime.NumGoroutine") = false
class Fld (P : Program) (s : TypeId) (i : Nat) (off : outParam Nat) (t : outParam TypeId) : Prop where
  out : ∃ (fs : Array Field) (f : Field), P.underlying s = some (.struct fs) ∧ fs[i]? = some f ∧ f.offset = off ∧ f.type = t

/-! ### Operations that only reckon -/
section
variable {P : Program} {l : List Value} {w : World} {T : TypeId}
theorem r_move (x : Operand) : (exec (ev l) (.move x) T).run P w = .ok (.value (ev l x)) w := rfl
theorem r_assign (x : Operand) : (exec (ev l) (.assign x) T).run P w = .ok (.value (ev l x)) w := rfl
theorem r_pick {c a b : Operand} {t : Bool} (hc : ev l c = .bool t) : (exec (ev l) (.pick c a b) T).run P w = .ok (.value (if t then ev l a else ev l b)) w := by
  simp [exec, execOp, hc, asBool]
theorem r_pick_t {c a b : Operand} {t : Bool} (hc : ev l c = .bool t) (ht : t = true) : (exec (ev l) (.pick c a b) T).run P w = .ok (.value (ev l a)) w := by subst ht; exact r_pick hc
theorem r_pick_f {c a b : Operand} {t : Bool} (hc : ev l c = .bool t) (ht : t = false) : (exec (ev l) (.pick c a b) T).run P w = .ok (.value (ev l b)) w := by subst ht; exact r_pick hc
section
variable {x y : Operand} {t u : TypeId} {k : IntKind} {a b : Int} (hx : ev l x = .int k a) (hy : ev l y = .int k b)
include hx hy
theorem r_add : (exec (ev l) (.binOp .add t x y u) T).run P w = .ok (.value (.int k (k.wrap (a + b)))) w := by
  simp [exec, execOp, hx, hy, eqGuard, binOp, Op.intArith]
theorem r_sub : (exec (ev l) (.binOp .sub t x y u) T).run P w = .ok (.value (.int k (k.wrap (a - b)))) w := by
  simp [exec, execOp, hx, hy, eqGuard, binOp, Op.intArith]
theorem r_mul : (exec (ev l) (.binOp .mul t x y u) T).run P w = .ok (.value (.int k (k.wrap (a * b)))) w := by
  simp [exec, execOp, hx, hy, eqGuard, binOp, Op.intArith]
theorem r_quo (h0 : b ≠ 0) : (exec (ev l) (.binOp .quo t x y u) T).run P w = .ok (.value (.int k (k.wrap (a.tdiv b)))) w := by
  simp [exec, execOp, hx, hy, eqGuard, binOp, Op.intDiv, h0]
theorem r_rem (h0 : b ≠ 0) : (exec (ev l) (.binOp .rem t x y u) T).run P w = .ok (.value (.int k (a.tmod b))) w := by
  simp [exec, execOp, hx, hy, eqGuard, binOp, Op.intDiv, h0]
theorem r_and : (exec (ev l) (.binOp .and t x y u) T).run P w = .ok (.value (.int k (k.wrap (BitVec.ofInt k.bits a &&& BitVec.ofInt k.bits b).toNat))) w := by
  simp [exec, execOp, hx, hy, eqGuard, binOp, Op.intBits]
theorem r_or : (exec (ev l) (.binOp .or t x y u) T).run P w = .ok (.value (.int k (k.wrap (BitVec.ofInt k.bits a ||| BitVec.ofInt k.bits b).toNat))) w := by
  simp [exec, execOp, hx, hy, eqGuard, binOp, Op.intBits]
theorem r_xor : (exec (ev l) (.binOp .xor t x y u) T).run P w = .ok (.value (.int k (k.wrap (BitVec.ofInt k.bits a ^^^ BitVec.ofInt k.bits b).toNat))) w := by
  simp [exec, execOp, hx, hy, eqGuard, binOp, Op.intBits]
theorem r_eql : (exec (ev l) (.binOp .eql t x y u) T).run P w = .ok (.value (.bool (decide (a = b)))) w := by
  simp [exec, execOp, hx, hy, eqGuard, binOp, Op.intCmp]; rfl
theorem r_neq : (exec (ev l) (.binOp .neq t x y u) T).run P w = .ok (.value (.bool (decide (a ≠ b)))) w := by
  simp [exec, execOp, hx, hy, eqGuard, binOp, Op.intCmp]; rfl
theorem r_lss : (exec (ev l) (.binOp .lss t x y u) T).run P w = .ok (.value (.bool (decide (a < b)))) w := by
  simp [exec, execOp, hx, hy, eqGuard, binOp, Op.intCmp]
theorem r_leq : (exec (ev l) (.binOp .leq t x y u) T).run P w = .ok (.value (.bool (decide (a ≤ b)))) w := by
  simp [exec, execOp, hx, hy, eqGuard, binOp, Op.intCmp]
theorem r_gtr : (exec (ev l) (.binOp .gtr t x y u) T).run P w = .ok (.value (.bool (decide (b < a)))) w := by
  simp [exec, execOp, hx, hy, eqGuard, binOp, Op.intCmp]
theorem r_geq : (exec (ev l) (.binOp .geq t x y u) T).run P w = .ok (.value (.bool (decide (b ≤ a)))) w := by
  simp [exec, execOp, hx, hy, eqGuard, binOp, Op.intCmp]
end
section
variable {x y : Operand} {t u : TypeId} {k q : IntKind} {a b : Int} (hx : ev l x = .int k a) (hy : ev l y = .int q b) (h0 : 0 ≤ b)
include hx hy h0
theorem r_shl : (exec (ev l) (.binOp .shl t x y u) T).run P w = .ok (.value (.int k (k.wrap (a * 2 ^ min b.toNat k.bits)))) w := by
  simp [exec, execOp, hx, hy, eqGuard, binOp, Op.shift, show ¬ b < 0 by omega]
theorem r_shr : (exec (ev l) (.binOp .shr t x y u) T).run P w = .ok (.value (.int k (a.fdiv (2 ^ min b.toNat k.bits)))) w := by
  simp [exec, execOp, hx, hy, eqGuard, binOp, Op.shift, show ¬ b < 0 by omega]
end
/-- A result whose number is known to be another spelling. -/
theorem r_to {op : Op} {k : IntKind} {a b : Int} {w' : World} (h : (exec (ev l) op T).run P w = .ok (.value (.int k a)) w') (e : a = b) : (exec (ev l) op T).run P w = .ok (.value (.int k b)) w' := e ▸ h
theorem wrap_i64 {a : Int} (h : -9223372036854775808 ≤ a ∧ a ≤ 9223372036854775807) : IntKind.i64.wrap a = a := IntWalk.i64_in _ h
theorem wrap_u64 {a : Int} (h : 0 ≤ a ∧ a ≤ 18446744073709551615) : IntKind.u64.wrap a = a := by
  simp [IntKind.wrap, IntKind.signed, IntKind.bits]; omega
theorem r_not {x : Operand} {a : Bool} {t : TypeId} (hx : ev l x = .bool a) : (exec (ev l) (.unOp .not t x) T).run P w = .ok (.value (.bool (!a))) w := by
  simp [exec, execOp, hx, Op.unary]
theorem r_neg {x : Operand} {a : Int} {k : IntKind} {t : TypeId} (hx : ev l x = .int k a) : (exec (ev l) (.unOp .neg t x) T).run P w = .ok (.value (.int k (k.wrap (-a)))) w := by
  simp [exec, execOp, hx, Op.unary, Op.intArith]
theorem r_compl {x : Operand} {a : Int} {k : IntKind} {t : TypeId} (hx : ev l x = .int k a) : (exec (ev l) (.unOp .xor t x) T).run P w = .ok (.value (.int k (k.wrap (BitVec.ofInt k.bits (if k.signed = true then -1 else k.max) ^^^ BitVec.ofInt k.bits a).toNat))) w := by
  simp [exec, execOp, hx, Op.unary, Op.intBits]
theorem r_conv {x : Operand} {a : Int} {k q : IntKind} {s t : TypeId} {d : TypeDesc} [hs : Und P s d] [ht : Und P t (.int k)] (hx : ev l x = .int q a) : (exec (ev l) (.convert s t x) T).run P w = .ok (.value (.int k (k.wrap a))) w := by
  simp [exec, execOp, hx, convert, run_underlying hs.out, run_underlying ht.out, Conv.intToInt]
theorem r_call {f : FuncId} {fn : Func} {args : List Operand} {tys : Array TypeId} [hf : Fun P f fn] :
    (exec (ev l) (.call { callee := .value (.func f), args := args.toArray, argTypes := tys }) T).run P w = .ok (.enter f (args.map (ev l)).toArray) w := by
  have h1 := hf.body
  have h2 := hf.name
  cases h : fn.body with
  | none => rw [h] at h1; cases h1
  | some c => simp [exec, execOp, resolve, Deferred.ofValue, ev, invoke, callFunc, program, Sem.run, hf.out, h, by simpa using h2]
/-- A call of a function of the program. -/
theorem wl_callf {ops : Array Oper} {Q : Exit → Act → World → Prop} {rest : List Oper} {pos : String} {after : Array Edge} {d : Option Nat} {f : FuncId} {fn : Func} {args : List Operand} {tys : Array TypeId} [hf : Fun P f fn] {vs : List Value} {R : Value → World → Prop}
    (ha : args.map (ev l) = vs) (hc : Calls P f vs.toArray w (Ret R)) (h : ∀ v w', R v w' → wpList P ops Q rest (fr (set1 l d v)) w') :
    wpList P ops Q ({ dst := d, op := .call { callee := .value (.func f), args := args.toArray, argTypes := tys }, type := T, pos := pos, after := after, guard := none } :: rest) (fr l) w := by
  subst ha
  exact wl_call r_call hc h
theorem ret_eq {f : FuncId} {args : Array Value} {v : Value} (h : Calls P f args w fun e w' => e = .returned v ∧ w' = w) : Calls P f args w (Ret fun u w' => u = v ∧ w' = w) :=
  h.mono fun e w' ⟨h1, h2⟩ => ⟨v, h1, rfl, h2⟩
theorem r_len {x : Operand} {A : Option Addr} {n c : Nat} {t e : TypeId} [ht : Und P t (.slice e)] (hx : ev l x = .slice A n c) : (exec (ev l) (.call { callee := .builtin .len, args := #[x], argTypes := #[t] }) T).run P w = .ok (.value (.int .i64 n)) w := by
  simp [exec, execOp, resolve, invoke, builtin, Builtin.len_, hx, run_underlying ht.out, goInt]
theorem r_lens {x : Operand} {s : ByteArray} {t : TypeId} [ht : Und P t .string] (hx : ev l x = .string s) : (exec (ev l) (.call { callee := .builtin .len, args := #[x], argTypes := #[t] }) T).run P w = .ok (.value (.int .i64 s.size)) w := by
  simp [exec, execOp, resolve, invoke, builtin, Builtin.len_, hx, run_underlying ht.out, goInt]
theorem r_extract {x : Operand} {vs : Array Value} {i : Nat} {v : Value} (hx : ev l x = .tuple vs) (hv : vs[i]? = some v) : (exec (ev l) (.extract x i) T).run P w = .ok (.value v) w := by
  simp [exec, execOp, Instr.extract, hx, hv]
theorem r_nilCheck {x : Operand} {a : Addr} (hx : ev l x = .pointer (some a)) : (exec (ev l) (.nilCheck x) T).run P w = .ok (.value (.pointer (some a))) w := by
  simp [exec, execOp, hx]
end

/-! ### One step, by lemmas that look for their own proofs -/
section
/-- Sums, differences, products: the kind and the number ahead of its wrap. -/
def pa (ρ : Operand → Value) : Op → Option (IntKind × IntKind × Int)
  | .binOp .add _ x y _ => match ρ x, ρ y with | .int k a, .int q b => some (k, q, a + b) | _, _ => none
  | .binOp .sub _ x y _ => match ρ x, ρ y with | .int k a, .int q b => some (k, q, a - b) | _, _ => none
  | .binOp .mul _ x y _ => match ρ x, ρ y with | .int k a, .int q b => some (k, q, a * b) | _, _ => none
  | _ => none
/-- Copies, comparisons of whole numbers, 'not', what is picked. -/
def pv (ρ : Operand → Value) : Op → Option (IntKind × IntKind × Value)
  | .move x => some (.i64, .i64, ρ x)
  | .assign x => some (.i64, .i64, ρ x)
  | .binOp .eql _ x y _ => match ρ x, ρ y with | .int k a, .int q b => some (k, q, .bool (decide (a = b))) | _, _ => none
  | .binOp .neq _ x y _ => match ρ x, ρ y with | .int k a, .int q b => some (k, q, .bool (decide (a ≠ b))) | _, _ => none
  | .binOp .lss _ x y _ => match ρ x, ρ y with | .int k a, .int q b => some (k, q, .bool (decide (a < b))) | _, _ => none
  | .binOp .leq _ x y _ => match ρ x, ρ y with | .int k a, .int q b => some (k, q, .bool (decide (a ≤ b))) | _, _ => none
  | .binOp .gtr _ x y _ => match ρ x, ρ y with | .int k a, .int q b => some (k, q, .bool (decide (b < a))) | _, _ => none
  | .binOp .geq _ x y _ => match ρ x, ρ y with | .int k a, .int q b => some (k, q, .bool (decide (b ≤ a))) | _, _ => none
  | .unOp .not _ x => match ρ x with | .bool a => some (.i64, .i64, .bool (!a)) | _ => none
  | .nilCheck x => match ρ x with | .pointer (some a) => some (.i64, .i64, .pointer (some a)) | _ => none
  | .extract x i => match ρ x with | .tuple vs => (vs[i]?).map fun v => (.i64, .i64, v) | _ => none
  | _ => none
def rng : IntKind → Int × Int
  | .i8 => (-128, 127) | .i16 => (-32768, 32767) | .i32 => (-2147483648, 2147483647) | .i64 => (-9223372036854775808, 9223372036854775807)
  | .u8 => (0, 255) | .u16 => (0, 65535) | .u32 => (0, 4294967295) | .u64 => (0, 18446744073709551615)
theorem wrap_rng {k : IntKind} {a lo hi : Int} (h : rng k = (lo, hi)) (h1 : lo ≤ a) (h2 : a ≤ hi) : k.wrap a = a := by
  cases k <;> simp only [rng, Prod.mk.injEq] at h <;> obtain ⟨rfl, rfl⟩ := h <;> simp [IntKind.wrap, IntKind.signed, IntKind.bits] <;> omega
variable {P : Program} {ops : Array Oper} {Q : Exit → Act → World → Prop} {rest : List Oper} {l : List Value} {w : World} {op : Op} {T : TypeId} {pos : String} {after : Array Edge}
theorem r_pa {k q : IntKind} {a : Int} (h : pa (ev l) op = some (k, q, a)) (hk : k = q) : (exec (ev l) op T).run P w = .ok (.value (.int k (k.wrap a))) w := by
  subst hk
  unfold pa at h
  split at h <;> (try (cases h; done)) <;> (split at h <;> (try (cases h; done)); rename_i hx hy; simp only [Option.some.injEq, Prod.mk.injEq] at h; obtain ⟨rfl, rfl, rfl⟩ := h)
  · exact r_add hx hy
  · exact r_sub hx hy
  · exact r_mul hx hy
theorem r_paw {k q : IntKind} {a lo hi : Int} (h : pa (ev l) op = some (k, q, a)) (hk : k = q) (hr : rng k = (lo, hi)) (h1 : lo ≤ a) (h2 : a ≤ hi) : (exec (ev l) op T).run P w = .ok (.value (.int k a)) w := by
  have := r_pa (P := P) (w := w) (T := T) h hk
  rwa [wrap_rng hr h1 h2] at this
theorem r_convw {x : Operand} {a lo hi : Int} {k q : IntKind} {s t : TypeId} {d : TypeDesc} [hs : Und P s d] [ht : Und P t (.int k)] (hx : ev l x = .int q a) (hr : rng k = (lo, hi)) (h1 : lo ≤ a) (h2 : a ≤ hi) : (exec (ev l) (.convert s t x) T).run P w = .ok (.value (.int k a)) w := by
  have := r_conv (P := P) (w := w) (T := T) (s := s) (t := t) hx
  rwa [wrap_rng hr h1 h2] at this
/-- What stands at the goal's head: cheap to ask. -/
theorem is_st {d : Nat} (h : wpList P ops Q ({ dst := some d, op := op, type := T, pos := pos, after := after, guard := none } :: rest) (fr l) w) : wpList P ops Q ({ dst := some d, op := op, type := T, pos := pos, after := after, guard := none } :: rest) (fr l) w := h
theorem is_gd {d : Option Nat} {g : Nat × Bool} (h : wpList P ops Q ({ dst := d, op := op, type := T, pos := pos, after := after, guard := some g } :: rest) (fr l) w) : wpList P ops Q ({ dst := d, op := op, type := T, pos := pos, after := after, guard := some g } :: rest) (fr l) w := h
theorem is_en (h : wpList P ops Q [] (fr l) w) : wpList P ops Q [] (fr l) w := h
/-- One operation that only reckons. -/
theorem st {d : Nat} {v : Value} {l' : List Value} (h : wpList P ops Q rest (fr l') w)
    (hr : (exec (ev l) op T).run P w = .ok (.value v) w := by
      first
      | (with_reducible apply Go.Proofs.E.r_move)
      | (with_reducible apply Go.Proofs.E.r_assign)
      | ((with_reducible apply Go.Proofs.E.r_to (Go.Proofs.E.r_add ?hx ?hy) ?hw); (case hx => exact rfl); (case hy => exact rfl); (case hw => exact Go.Proofs.E.wrap_rng (by exact rfl) (by omega) (by omega)))
      | ((with_reducible apply Go.Proofs.E.r_add ?hx ?hy); (case hx => exact rfl); (case hy => exact rfl))
      | ((with_reducible apply Go.Proofs.E.r_to (Go.Proofs.E.r_sub ?hx ?hy) ?hw); (case hx => exact rfl); (case hy => exact rfl); (case hw => exact Go.Proofs.E.wrap_rng (by exact rfl) (by omega) (by omega)))
      | ((with_reducible apply Go.Proofs.E.r_sub ?hx ?hy); (case hx => exact rfl); (case hy => exact rfl))
      | ((with_reducible apply Go.Proofs.E.r_to (Go.Proofs.E.r_mul ?hx ?hy) ?hw); (case hx => exact rfl); (case hy => exact rfl); (case hw => exact Go.Proofs.E.wrap_rng (by exact rfl) (by omega) (by omega)))
      | ((with_reducible apply Go.Proofs.E.r_mul ?hx ?hy); (case hx => exact rfl); (case hy => exact rfl))
      | ((with_reducible apply Go.Proofs.E.r_lss ?hx ?hy); (case hx => exact rfl); (case hy => exact rfl))
      | ((with_reducible apply Go.Proofs.E.r_leq ?hx ?hy); (case hx => exact rfl); (case hy => exact rfl))
      | ((with_reducible apply Go.Proofs.E.r_gtr ?hx ?hy); (case hx => exact rfl); (case hy => exact rfl))
      | ((with_reducible apply Go.Proofs.E.r_geq ?hx ?hy); (case hx => exact rfl); (case hy => exact rfl))
      | ((with_reducible apply Go.Proofs.E.r_eql ?hx ?hy); (case hx => exact rfl); (case hy => exact rfl))
      | ((with_reducible apply Go.Proofs.E.r_neq ?hx ?hy); (case hx => exact rfl); (case hy => exact rfl))
      | ((with_reducible apply Go.Proofs.E.r_not ?hx); (case hx => exact rfl))
      | ((with_reducible apply Go.Proofs.E.r_len ?hx); (case hx => exact rfl))
      | ((with_reducible apply Go.Proofs.E.r_lens ?hx); (case hx => exact rfl))
      | ((with_reducible apply Go.Proofs.E.r_nilCheck ?hx); (case hx => exact rfl))
      | ((with_reducible apply Go.Proofs.E.r_extract ?hx ?hy); (case hx => exact rfl); (case hy => exact rfl))
      | ((with_reducible apply Go.Proofs.E.r_to (Go.Proofs.E.r_conv ?hx) ?hw); (case hx => exact rfl); (case hw => exact Go.Proofs.E.wrap_rng (by exact rfl) (by omega) (by omega)))
      | ((with_reducible apply Go.Proofs.E.r_conv ?hx); (case hx => exact rfl))
      | ((with_reducible apply Go.Proofs.E.r_pick_t ?hx ?hb); (case hx => exact rfl); (case hb => first | exact rfl | exact decide_eq_true (by omega) | exact decide_eq_false (by omega) | assumption | exact decide_eq_true (by assumption) | exact decide_eq_false (by assumption)))
      | ((with_reducible apply Go.Proofs.E.r_pick_f ?hx ?hb); (case hx => exact rfl); (case hb => first | exact rfl | exact decide_eq_true (by omega) | exact decide_eq_false (by omega) | assumption | exact decide_eq_true (by assumption) | exact decide_eq_false (by assumption)))
      | ((with_reducible apply Go.Proofs.E.r_neg ?hx); (case hx => exact rfl))
      | ((with_reducible apply Go.Proofs.E.r_shl ?hx ?hy ?h0); (case hx => exact rfl); (case hy => exact rfl); (case h0 => omega))
      | ((with_reducible apply Go.Proofs.E.r_shr ?hx ?hy ?h0); (case hx => exact rfl); (case hy => exact rfl); (case h0 => omega))
      | ((with_reducible apply Go.Proofs.E.r_quo ?hx ?hy ?h0); (case hx => exact rfl); (case hy => exact rfl); (case h0 => omega))
      | ((with_reducible apply Go.Proofs.E.r_rem ?hx ?hy ?h0); (case hx => exact rfl); (case hy => exact rfl); (case h0 => omega)))
    (hl : l.set d v = l' := by first | (dsimp only [List.set, Go.Proofs.E.set1, Go.Proofs.E.ev, Go.Proofs.E.nth]; done) | exact rfl) :
    wpList P ops Q ({ dst := some d, op := op, type := T, pos := pos, after := after, guard := none } :: rest) (fr l) w := by subst hl; exact wl_val hr h
theorem en {l' : List Value} (h : Q .normal (fr l') w) (hl : l = l' := by first | (dsimp only [List.set, Go.Proofs.E.set1, Go.Proofs.E.ev, Go.Proofs.E.nth]; done) | exact rfl) : wpList P ops Q [] (fr l) w := by subst hl; exact h
theorem gt {d : Option Nat} {j t : Nat} {b c : Bool} (h : wpList P ops Q ({ dst := d, op := op, type := T, pos := pos, after := after, guard := none } :: rest) (fr l) w)
    (hj : (ops[j]?).bind (·.dst) = some t := by exact rfl) (hv : ev l (.tmp t) = .bool c := by exact rfl) (hlt : t < l.length := by exact Nat.le_of_ble_eq_true rfl)
    (hc : c = b := by first | exact rfl | exact decide_eq_true (by omega) | exact decide_eq_false (by omega) | assumption | exact decide_eq_true (by assumption) | exact decide_eq_false (by assumption)) :
    wpList P ops Q ({ dst := d, op := op, type := T, pos := pos, after := after, guard := some (j, b) } :: rest) (fr l) w := wl_on hj hv hlt hc h
theorem gf {d : Option Nat} {j t : Nat} {b c nb : Bool} {l' : List Value} (h : wpList P ops Q rest (fr l') w)
    (hj : (ops[j]?).bind (·.dst) = some t := by exact rfl) (hv : ev l (.tmp t) = .bool c := by exact rfl) (hlt : t < l.length := by exact Nat.le_of_ble_eq_true rfl)
    (hb : (!b) = nb := by exact rfl) (hc : c = nb := by first | exact rfl | exact decide_eq_true (by omega) | exact decide_eq_false (by omega) | assumption | exact decide_eq_true (by assumption) | exact decide_eq_false (by assumption)) (hl : set1 l d undef = l' := by first | (dsimp only [List.set, Go.Proofs.E.set1, Go.Proofs.E.ev, Go.Proofs.E.nth]; done) | exact rfl) :
    wpList P ops Q ({ dst := d, op := op, type := T, pos := pos, after := after, guard := some (j, b) } :: rest) (fr l) w := by subst hl; exact wl_off hj hv hlt (hc.trans hb.symm) h
theorem gu {d : Option Nat} {j t : Nat} {b : Bool} {l' : List Value} (h : wpList P ops Q rest (fr l') w)
    (hj : (ops[j]?).bind (·.dst) = some t := by exact rfl) (hv : ev l (.tmp t) = undef := by exact rfl) (hlt : t < l.length := by exact Nat.le_of_ble_eq_true rfl) (hl : set1 l d undef = l' := by first | (dsimp only [List.set, Go.Proofs.E.set1, Go.Proofs.E.ev, Go.Proofs.E.nth]; done) | exact rfl) :
    wpList P ops Q ({ dst := d, op := op, type := T, pos := pos, after := after, guard := some (j, b) } :: rest) (fr l) w := by subst hl; exact wl_off' hj hv hlt h
/-- A call, its contract at hand. -/
theorem ca {d : Option Nat} {f : FuncId} {fn : Func} {args : List Operand} {tys : Array TypeId} {vs : List Value} {R : Value → World → Prop}
    (hc : Calls P f vs.toArray w (Ret R)) (h : ∀ v w', R v w' → wpList P ops Q rest (fr (set1 l d v)) w') [hf : Fun P f fn]
    (ha : args.map (ev l) = vs := by first | (dsimp only [List.map, List.set, Go.Proofs.E.set1, Go.Proofs.E.ev, Go.Proofs.E.nth]; done) | exact rfl) :
    wpList P ops Q ({ dst := d, op := .call { callee := .value (.func f), args := args.toArray, argTypes := tys }, type := T, pos := pos, after := after, guard := none } :: rest) (fr l) w := wl_callf ha hc h
/-- What a frame's other slots hold. -/
theorem exj {l : List Value} {F : (Nat → Value) → List Value} (h : l = F (nth l)) : ∃ j, l = F j := ⟨nth l, h⟩
end
/-! ### Short steps: the code's own -/
class Stp (G : Prop) (H : outParam Prop) : Prop where
  out : H → G
theorem ws {G H : Prop} [s : Stp G H] (h : H) : G := s.out h
section
variable {P : Program} {Q : Exit → Act → World → Prop} {K : Act → World → Prop} {a : Act} {w : World}
instance stp_then : Stp (Exit.then K Q .normal a w) (K a w) := ⟨fun h => h⟩
instance stp_then_ret : Stp (Exit.then K Q .ret a w) (Q .ret a w) := ⟨fun h => h⟩
instance stp_then_exit {i : Nat} : Stp (Exit.then K Q (.exit i) a w) (Q (.exit i) a w) := ⟨fun h => h⟩
instance stp_seq {x y : Code} : Stp ((Code.seq x y).wp P Q a w) (x.wp P (Exit.then (y.wp P Q) Q) a w) := ⟨fun h => wp_seq h⟩
instance stp_block {id : Nat} {c : Code} : Stp ((Code.block id c).wp P Q a w) (c.wp P (Exit.inBlock id Q) a w) := ⟨fun h => wp_block h⟩
instance stp_skip : Stp (Code.skip.wp P Q a w) (Q .normal a w) := ⟨fun h => wp_skip h⟩
instance stp_label {l : Nat} : Stp ((Code.label l).wp P Q a w) (Q .normal a w) := ⟨fun h => wp_label h⟩
instance stp_exit {id : Nat} : Stp ((Code.exit id).wp P Q a w) (Q (.exit id) a w) := ⟨fun h => wp_exit h⟩
instance stp_ret : Stp (Code.ret.wp P Q a w) (Q .ret a w) := ⟨fun h => wp_ret h⟩
instance stp_blk {i : Nat} : Stp (Exit.inBlock i Q .normal a w) (Q .normal a w) := ⟨fun h => h⟩
instance stp_blk_ret {i : Nat} : Stp (Exit.inBlock i Q .ret a w) (Q .ret a w) := ⟨fun h => h⟩
instance stp_blk_exit {i : Nat} : Stp (Exit.inBlock i Q (.exit i) a w) (Q .normal a w) := ⟨fun h => x_block_exit h⟩
end
end Go.Proofs.E
set_option linter.unusedVariables false
set_option linter.unusedSimpArgs false
namespace Go.Proofs.E
open Go Go.RowKit

/-! ### Blocks and changes -/
def Blk (w : World) (b : Nat) (cs : List Value) (E : TypeId) : Prop := w.heap[b]? = some (.cells cs.toArray E (0, 0))
/-- Of the blocks that were there, those of S alone may have turned. -/
structure Ch (S : List Nat) (w w' : World) : Prop where
  os : w'.os = w.os
  tape : w'.tape = w.tape
  output : w'.output = w.output
  size : w.heap.size ≤ w'.heap.size
  block : ∀ k, k < w.heap.size → k ∉ S → w'.heap[k]? = w.heap[k]?
theorem Blk.lt {w : World} {b : Nat} {cs : List Value} {E : TypeId} (h : Blk w b cs E) : b < w.heap.size := (Array.getElem?_eq_some_iff.1 h).1
theorem Ch.refl (S : List Nat) (w : World) : Ch S w w := ⟨rfl, rfl, rfl, Nat.le_refl _, fun _ _ _ => rfl⟩
theorem Ch.trans {S T U : List Nat} {w w1 w2 : World} (h : Ch S w w1) (k : Ch T w1 w2) (hs : ∀ x, x < w.heap.size → x ∈ S → x ∈ U) (ht : ∀ x, x < w.heap.size → x ∈ T → x ∈ U) : Ch U w w2 :=
  ⟨k.os.trans h.os, k.tape.trans h.tape, k.output.trans h.output, Nat.le_trans h.size k.size, fun i hi hu =>
    (k.block i (Nat.lt_of_lt_of_le hi h.size) (fun hx => hu (ht i hi hx))).trans (h.block i hi (fun hx => hu (hs i hi hx)))⟩
theorem Ch.mono {S T : List Nat} {w w' : World} (h : Ch S w w') (hs : ∀ x, x < w.heap.size → x ∈ S → x ∈ T) : Ch T w w' :=
  ⟨h.os, h.tape, h.output, h.size, fun i hi hu => h.block i hi (fun hx => hu (hs i hi hx))⟩
theorem Ch.then {S : List Nat} {w w1 w2 : World} (h : Ch S w w1) (k : Ch S w1 w2) : Ch S w w2 := h.trans k (fun _ _ h => h) (fun _ _ h => h)
theorem Ch.below {w w' : World} (h : Ch [] w w') : Below w.heap.size w w' := ⟨h.os, h.tape, h.output, h.size, fun k hk => h.block k hk (by simp)⟩
theorem Ch.of_below {w w' : World} (h : Below w.heap.size w w') : Ch [] w w' := ⟨h.os, h.tape, h.output, h.size, fun k hk _ => h.block k hk⟩
theorem Blk.ch {S : List Nat} {w w' : World} {b : Nat} {cs : List Value} {E : TypeId} (hb : Blk w b cs E) (h : Ch S w w') (hn : b ∉ S) : Blk w' b cs E := (h.block b hb.lt hn).trans hb
/-- A new block. -/
structure New (w w' : World) (b : Nat) (cs : List Value) (E : TypeId) : Prop where
  at_ : b = w.heap.size
  blk : Blk w' b cs E
  ch : Ch [] w w'
  size : w'.heap.size = b + 1
theorem New.mk_ (w : World) (cs : List Value) (E : TypeId) : New w (w.alloc (.cells cs.toArray E)) w.heap.size cs E :=
  ⟨rfl, heap_alloc_new w _, Ch.of_below ((Below.refl _ w).alloc (Nat.le_refl _) _), by simp⟩
theorem New.mk' (w : World) (cs : Array Value) (E : TypeId) : New w (w.alloc (.cells cs E)) w.heap.size cs.toList E := by
  have := New.mk_ w cs.toList E
  rwa [Array.toArray_toList] at this
/-- Cells written over others. -/
def spl (cs : List Value) (o : Nat) (vs : List Value) : List Value := cs.take o ++ vs ++ cs.drop (o + vs.length)
theorem spl_length {cs : List Value} {o : Nat} {vs : List Value} (h : o + vs.length ≤ cs.length) : (spl cs o vs).length = cs.length := by
  simp [spl]; omega
theorem get_spl {cs : List Value} {o : Nat} {vs : List Value} (h : o + vs.length ≤ cs.length) (i : Nat) : (spl cs o vs)[i]? = if i < o then cs[i]? else if i < o + vs.length then vs[i - o]? else cs[i]? := by
  have ht : (cs.take o).length = o := by rw [List.length_take]; omega
  unfold spl
  by_cases h1 : i < o
  · rw [if_pos h1, List.append_assoc, List.getElem?_append_left (by omega), List.getElem?_take, if_pos h1]
  · rw [if_neg h1]
    by_cases h2 : i < o + vs.length
    · rw [if_pos h2, List.getElem?_append_left (by rw [List.length_append]; omega), List.getElem?_append_right (by omega), ht]
    · rw [if_neg h2, List.getElem?_append_right (by rw [List.length_append]; omega), List.length_append, ht, List.getElem?_drop]
      congr 1
      omega
theorem spl_cons {cs : List Value} {o : Nat} {v : Value} {vs : List Value} (h : o + (v :: vs).length ≤ cs.length) : spl (cs.set o v) (o + 1) vs = spl cs o (v :: vs) := by
  have hl : o + 1 + vs.length ≤ cs.length := by simp at h; omega
  apply List.ext_getElem?
  intro i
  rw [get_spl (by simpa using hl), get_spl h]
  simp only [List.length_cons]
  by_cases h1 : i < o
  · rw [if_pos h1, if_pos (by omega), List.getElem?_set_ne (by omega)]
  · by_cases h2 : i = o
    · subst h2
      rw [if_pos (by omega), if_neg h1, if_pos (by omega), List.getElem?_set_self (by omega), Nat.sub_self]
      rfl
    · rw [if_neg (by omega), if_neg h1]
      by_cases h3 : i < o + 1 + vs.length
      · rw [if_pos h3, if_pos (by omega), show i - o = (i - (o + 1)) + 1 by omega, List.getElem?_cons_succ]
      · rw [if_neg h3, if_neg (by omega), List.getElem?_set_ne (by omega)]
theorem setCells_blk (b : Nat) (E : TypeId) : ∀ (vs : List Value) (o : Nat) (w : World) (cs : List Value), Blk w b cs E → o + vs.length ≤ cs.length →
    Blk (w.setCells b o vs) b (spl cs o vs) E ∧ Ch [b] w (w.setCells b o vs) ∧ (w.setCells b o vs).heap.size = w.heap.size
  | [], o, w, cs, hb, hf => ⟨by simpa [spl, World.setCells] using hb, Ch.refl _ _, rfl⟩
  | v :: vs, o, w, cs, hb, hf => by
    have hb1 : Blk (w.setCell ⟨b, o, none⟩ v) b (cs.set o v) E := by
      have := heap_setCell_same w b o cs.toArray E v hb
      simpa [Blk] using this
    have hch : Ch [b] w (w.setCell ⟨b, o, none⟩ v) := ⟨rfl, rfl, rfl, by simp [World.setCell], fun k hk hn => heap_setCell_other w ⟨b, o, none⟩ k v (by simpa using hn)⟩
    obtain ⟨h1, h2, h3⟩ := setCells_blk b E vs (o + 1) (w.setCell ⟨b, o, none⟩ v) (cs.set o v) hb1 (by simp at hf ⊢; omega)
    rw [spl_cons hf] at h1
    exact ⟨h1, hch.then h2, h3.trans (by simp [World.setCell])⟩
theorem Blk.range {w : World} {b : Nat} {cells : List Value} {E : TypeId} (h : Blk w b cells E) (o n : Nat) : w.rangeAt b o ((cells.drop o).take n) := by
  intro j v hv
  rw [cell_of_row w b (o + j) cells.toArray E (0, 0) h]
  rw [List.getElem?_take] at hv
  split at hv
  · rw [List.getElem?_drop] at hv
    simpa using hv
  · cases hv
theorem Blk.cell {w : World} {b : Nat} {cells : List Value} {E : TypeId} (h : Blk w b cells E) {o : Nat} {v : Value} (hv : cells[o]? = some v) : w.cell? ⟨b, o, none⟩ = some v := by
  rw [cell_of_row w b o cells.toArray E (0, 0) h]
  simpa using hv
theorem Blk.there {w : World} {b : Nat} {cells : List Value} {E : TypeId} (h : Blk w b cells E) {o n : Nat} (hf : o + n ≤ cells.length) : w.there b o n := by
  intro j hj
  refine ⟨?_, frozen_of_row w b (o + j) cells.toArray E h⟩
  rw [cell_of_row w b (o + j) cells.toArray E (0, 0) h]
  simp
  omega
theorem Ch.rangeAt {S : List Nat} {w w' : World} (h : Ch S w w') {b o : Nat} {cs : List Value} (hr : w.rangeAt b o cs) (hb : b < w.heap.size) (hn : b ∉ S) : w'.rangeAt b o cs := fun j v hv =>
  (World.cell?_of_block (w := w) (a := ⟨b, o + j, none⟩) (h.block b hb hn)).trans (hr j v hv)

/-! ### What values read as -/
/-- How values that hold no address are written in cells. -/
structure En (α : Type) where
  f : α → List Value
  n : Nat
  hl : ∀ x, (f x).length = n
  h1 : ∀ x, ∀ u ∈ f x, u.oneCell' = true
structure Ty (α : Type) where
  n : Nat
  R : List Nat → World → α → List Value → Prop
  len : ∀ {S w x cs}, R S w x cs → cs.length = n
  one : ∀ {S w x cs}, R S w x cs → ∀ u ∈ cs, u.oneCell' = true
  mv : ∀ {S S' : List Nat} {w w' : World} {x cs}, Ch S' w w' → (∀ k, k < w.heap.size → k ∈ S' → k ∈ S) → R S w x cs → R S' w' x cs
namespace Ty
/-- A type whose values hold no address. -/
def enc {α : Type} (e : En α) : Ty α where
  n := e.n
  R := fun _ _ x cs => cs = e.f x
  len := fun h => h ▸ e.hl _
  one := fun h => h ▸ e.h1 _
  mv := fun _ _ h => h
/-- The address a holds x. -/
def At {α : Type} (t : Ty α) (S : List Nat) (w : World) (b o : Nat) (x : α) : Prop := b < w.heap.size ∧ b ∉ S ∧ ∃ cs, t.R S w x cs ∧ w.rangeAt b o cs
theorem At.mv {α : Type} {t : Ty α} {S S' : List Nat} {w w' : World} {b o : Nat} {x : α} (h : t.At S w b o x) (hc : Ch S' w w') (hs : ∀ k, k < w.heap.size → k ∈ S' → k ∈ S) : t.At S' w' b o x := by
  obtain ⟨hb, hn, cs, hR, hr⟩ := h
  have hn' : b ∉ S' := fun hx => hn (hs b hb hx)
  exact ⟨Nat.lt_of_lt_of_le hb hc.size, hn', cs, t.mv hc hs hR, hc.rangeAt hr hb hn'⟩
/-- A slice that reads as the list xs, off the blocks of S. -/
def Rd {α : Type} (t : Ty α) (S : List Nat) (w : World) (v : Value) (xs : List α) : Prop :=
  xs.length ≤ 9223372036854775807 ∧ ∃ A cap, v = .slice A xs.length cap ∧ xs.length ≤ cap ∧ (xs ≠ [] → ∃ b o, A = some ⟨b, o, none⟩ ∧ b < w.heap.size ∧ b ∉ S ∧ ∀ i x, xs[i]? = some x → t.At S w b (o + i * t.n) x)
theorem Rd.mv {α : Type} {t : Ty α} {S S' : List Nat} {w w' : World} {v : Value} {xs : List α} (h : t.Rd S w v xs) (hc : Ch S' w w') (hs : ∀ k, k < w.heap.size → k ∈ S' → k ∈ S) : t.Rd S' w' v xs := by
  obtain ⟨hl, A, cap, hv, hcap, hA⟩ := h
  refine ⟨hl, A, cap, hv, hcap, fun hne => ?_⟩
  obtain ⟨b, o, ha, hb, hn, he⟩ := hA hne
  exact ⟨b, o, ha, Nat.lt_of_lt_of_le hb hc.size, fun hx => hn (hs b hb hx), fun i x hx => (he i x hx).mv hc hs⟩
theorem Rd.ch {α : Type} {t : Ty α} {S : List Nat} {w w' : World} {v : Value} {xs : List α} (h : t.Rd S w v xs) (hc : Ch S w w') : t.Rd S w' v xs := h.mv hc fun _ _ h => h
theorem Rd.nil {α : Type} (t : Ty α) (S : List Nat) (w : World) (A : Option Addr) (c : Nat) : t.Rd S w (.slice A 0 c) [] := ⟨by simp, A, c, rfl, by simp, fun h => absurd rfl h⟩
theorem Rd.form {α : Type} {t : Ty α} {S : List Nat} {w : World} {v : Value} {xs : List α} (h : t.Rd S w v xs) : ∃ A cap, v = .slice A xs.length cap := let ⟨_, A, cap, hv, _, _⟩ := h; ⟨A, cap, hv⟩
theorem Rd.le {α : Type} {t : Ty α} {S : List Nat} {w : World} {v : Value} {xs : List α} (h : t.Rd S w v xs) : xs.length ≤ 9223372036854775807 := h.1
/-- Slices as elements and fields. -/
def sl {α : Type} (t : Ty α) : Ty (List α) where
  n := 1
  R := fun S w xs cs => ∃ v, cs = [v] ∧ t.Rd S w v xs
  len := fun ⟨v, h, _⟩ => by rw [h]; rfl
  one := fun ⟨v, h, _, A, c, hv, _, _⟩ => by subst h; subst hv; simp [Value.oneCell']
  mv := fun hc hs ⟨v, h, hr⟩ => ⟨v, h, hr.mv hc hs⟩
/-- Two side by side. -/
def prod {α β : Type} (s : Ty α) (t : Ty β) : Ty (α × β) where
  n := s.n + t.n
  R := fun S w x cs => ∃ c d, cs = c ++ d ∧ s.R S w x.1 c ∧ t.R S w x.2 d
  len := fun ⟨c, d, h, hc, hd⟩ => by rw [h, List.length_append, s.len hc, t.len hd]
  one := fun ⟨c, d, h, hc, hd⟩ u hu => by
    rw [h, List.mem_append] at hu
    exact hu.elim (s.one hc u) (t.one hd u)
  mv := fun hc hs ⟨c, d, h, h1, h2⟩ => ⟨c, d, h, s.mv hc hs h1, t.mv hc hs h2⟩
end Ty
def u8v (b : UInt8) : Value := .int .u8 (b.toNat : Int)
abbrev eInt (k : IntKind) : En Int := { f := fun n => [.int k n], n := 1, hl := fun _ => rfl, h1 := fun _ u hu => by simp at hu; subst hu; rfl }
abbrev eBool : En Bool := { f := fun b => [.bool b], n := 1, hl := fun _ => rfl, h1 := fun _ u hu => by simp at hu; subst hu; rfl }
abbrev eStr : En ByteArray := { f := fun s => [.string s], n := 1, hl := fun _ => rfl, h1 := fun _ u hu => by simp at hu; subst hu; rfl }
abbrev eU8 : En UInt8 := { f := fun b => [u8v b], n := 1, hl := fun _ => rfl, h1 := fun _ u hu => by simp at hu; subst hu; rfl }
abbrev tInt (k : IntKind) : Ty Int := Ty.enc (eInt k)
abbrev tBool : Ty Bool := Ty.enc eBool
abbrev tStr : Ty ByteArray := Ty.enc eStr
abbrev tU8 : Ty UInt8 := Ty.enc eU8

/-! ### The operations -/
section
variable {P : Program} {ops : Array Oper} {Q : Exit → Act → World → Prop} {rest : List Oper} {l : List Value} {w : World}
  {T : TypeId} {pos : String} {after : Array Edge}
theorem run_zero {E : TypeId} {z : Value} {n b : Nat} [hi : Inf P E z n b] : (zeroValue E).run P w = .ok z w := by
  obtain ⟨i, h1, h2⟩ := Option.map_eq_some_iff.1 hi.out
  simp only [Prod.mk.injEq] at h2
  simp [zeroValue, typeInfo, program, Sem.run, h1, h2.1]
theorem run_size {E : TypeId} {z : Value} {n b : Nat} [hi : Inf P E z n b] : (sizeOf E).run P w = .ok n w := by
  obtain ⟨i, h1, h2⟩ := Option.map_eq_some_iff.1 hi.out
  simp only [Prod.mk.injEq] at h2
  simp [sizeOf, typeInfo, program, Sem.run, h1, h2.2.1]
theorem info_size {E : TypeId} {z : Value} {n b : Nat} (hi : Inf P E z n b) : (P.info? E).map (·.size) = some n := by
  obtain ⟨i, h1, h2⟩ := Option.map_eq_some_iff.1 hi.out
  simp only [Prod.mk.injEq] at h2
  simp [h1, h2.2.1]
theorem r_alloc {E : TypeId} {z : Value} {n b : Nat} [hi : Inf P E z n b] : (exec (ev l) (.alloc E) T).run P w = .ok (.value (.pointer (some ⟨w.heap.size, 0, none⟩))) (w.alloc (.cells z.cells E)) := by
  have hz := run_zero (w := w) (hi := hi)
  simp [exec, execOp, Instr.alloc, newVar, newRow, newObj, hz, Sem.run]
theorem r_box {E : TypeId} {x : Operand} : (exec (ev l) (.box E x) T).run P w = .ok (.value (.pointer (some ⟨w.heap.size, 0, none⟩))) (w.alloc (.cells (ev l x).cells E)) := by
  simp [exec, execOp, Instr.box, newVar, newRow, newObj, Sem.run]
theorem wl_alloc {d : Nat} {E : TypeId} {z : Value} {n b : Nat} [hi : Inf P E z n b] (h : ∀ w' b, New w w' b z.cells.toList E → wpList P ops Q rest (fr (l.set d (.pointer (some ⟨b, 0, none⟩)))) w') :
    wpList P ops Q ({ dst := some d, op := .alloc E, type := T, pos := pos, after := after, guard := none } :: rest) (fr l) w :=
  wl_val r_alloc (h _ _ (New.mk' w _ E))
theorem wl_box {d : Nat} {E : TypeId} {x : Operand} {v : Value} (hx : ev l x = v) (h : ∀ w' b, New w w' b v.cells.toList E → wpList P ops Q rest (fr (l.set d (.pointer (some ⟨b, 0, none⟩)))) w') :
    wpList P ops Q ({ dst := some d, op := .box E x, type := T, pos := pos, after := after, guard := none } :: rest) (fr l) w := by
  subst hx
  exact wl_val r_box (h _ _ (New.mk' w _ E))
theorem run_isAgg_row {t : TypeId} [hr : Row P t] : (isAgg t).run P w = .ok true w := by
  obtain ⟨d, h1, h2⟩ := hr.out
  unfold isAgg
  rw [Sem.run_bind, run_underlying h1 w]
  cases d <;> simp_all
theorem run_isAgg_one {t : TypeId} [hr : One P t] : (isAgg t).run P w = .ok false w := by
  obtain ⟨d, h1, h2⟩ := hr.out
  unfold isAgg
  rw [Sem.run_bind, run_underlying h1 w]
  cases d <;> simp_all
theorem run_loadVar_one {t : TypeId} {b o : Nat} {v : Value} [hr : One P t] (hc : w.cell? ⟨b, o, none⟩ = some v) : (loadVar t ⟨b, o, none⟩).run P w = .ok v w := by
  unfold loadVar
  rw [Sem.run_bind, run_isAgg_one]
  simp [load, Sem.run, hc]
theorem r_load_one {x : Operand} {t : TypeId} {b o : Nat} {v : Value} [hr : One P t] (hx : ev l x = .pointer (some ⟨b, o, none⟩)) (hc : w.cell? ⟨b, o, none⟩ = some v) :
    (exec (ev l) (.load t x) T).run P w = .ok (.value v) w := by
  simp [exec, execOp, Instr.loadAt, Instr.sureAddr, hx, run_loadVar_one hc]
theorem r_load_row {x : Operand} {t : TypeId} {b o : Nat} {cs : List Value} {z : Value} {n by_ : Nat} [hr : Row P t] [hi : Inf P t z n by_] (hx : ev l x = .pointer (some ⟨b, o, none⟩)) (hc : w.rangeAt b o cs) (hn : cs.length = n) :
    (exec (ev l) (.load t x) T).run P w = .ok (.value (.agg cs.toArray)) w := by
  subst hn
  obtain ⟨d, h1, h2⟩ := hr.out
  simp [exec, execOp, Instr.loadAt, Instr.sureAddr, hx, run_loadVar_mid w b o t cs d hc h1 h2 (info_size hi)]
/-- A load of one cell, a load of a row, of what an address is known to hold. -/
theorem wl_load_one {α : Type} {t : Ty α} {S : List Nat} {d : Nat} {x : Operand} {E : TypeId} {b o : Nat} {z : α} [hr : One P E] (hx : ev l x = .pointer (some ⟨b, o, none⟩)) (hA : t.At S w b o z) (hn : t.n = 1)
    (h : ∀ v, t.R S w z [v] → wpList P ops Q rest (fr (l.set d v)) w) :
    wpList P ops Q ({ dst := some d, op := .load E x, type := T, pos := pos, after := after, guard := none } :: rest) (fr l) w := by
  obtain ⟨hb, hS, cs, hR, hc⟩ := hA
  have hl := t.len hR
  match cs, hl.trans hn with
  | [v], _ =>
    have := hc 0 v rfl
    exact wl_val (r_load_one hx this) (h v hR)
theorem wl_loade_one {α : Type} {en : En α} {S : List Nat} {d : Nat} {x : Operand} {E : TypeId} {b o : Nat} {z : α} {v : Value} [hr : One P E] (hx : ev l x = .pointer (some ⟨b, o, none⟩)) (hA : (Ty.enc en).At S w b o z) (hv : en.f z = [v])
    (h : wpList P ops Q rest (fr (l.set d v)) w) :
    wpList P ops Q ({ dst := some d, op := .load E x, type := T, pos := pos, after := after, guard := none } :: rest) (fr l) w := by
  obtain ⟨hb, hS, cs, hR, hc⟩ := hA
  have hR' : cs = en.f z := hR
  rw [hv] at hR'
  subst hR'
  exact wl_val (r_load_one hx (hc 0 v rfl)) h
theorem wl_loade_row {α : Type} {en : En α} {S : List Nat} {d : Nat} {x : Operand} {E : TypeId} {b o : Nat} {z : α} {zv : Value} {m by_ : Nat} [hr : Row P E] [hi : Inf P E zv m by_] (hx : ev l x = .pointer (some ⟨b, o, none⟩)) (hA : (Ty.enc en).At S w b o z) (hm : en.n = m)
    (h : wpList P ops Q rest (fr (l.set d (.agg (en.f z).toArray))) w) :
    wpList P ops Q ({ dst := some d, op := .load E x, type := T, pos := pos, after := after, guard := none } :: rest) (fr l) w := by
  obtain ⟨hb, hS, cs, hR, hc⟩ := hA
  have hR' : cs = en.f z := hR
  subst hR'
  exact wl_val (r_load_row hx hc ((en.hl z).trans hm)) h
/-- The address of an element. -/
theorem r_indexAddr {x y : Operand} {s e : TypeId} {b o n c : Nat} {k : IntKind} {i : Int} {z : Value} {m by_ : Nat} [hu : Und P s (.slice e)] [hi : Inf P e z m by_]
    (hx : ev l x = .slice (some ⟨b, o, none⟩) n c) (hy : ev l y = .int k i) (h0 : 0 ≤ i) (h1 : i < n) :
    (exec (ev l) (.indexAddr s x y) T).run P w = .ok (.value (.pointer (some ⟨b, o + i.toNat * m, none⟩))) w := by
  simp [exec, execOp, Instr.indexAt, hx, hy, asIntOf, run_underlying hu.out, run_size (hi := hi), h0, h1, Addr.add_mid]
theorem r_indexAddr_arr {x y : Operand} {s e : TypeId} {b o n : Nat} {k : IntKind} {i : Int} {z : Value} {m by_ : Nat} [hu : Und P s (.array n e)] [hi : Inf P e z m by_]
    (hx : ev l x = .pointer (some ⟨b, o, none⟩)) (hy : ev l y = .int k i) (h0 : 0 ≤ i) (h1 : i < n) :
    (exec (ev l) (.indexAddr s x y) T).run P w = .ok (.value (.pointer (some ⟨b, o + i.toNat * m, none⟩))) w := by
  simp [exec, execOp, Instr.indexAt, Instr.sureAddr, hx, hy, asIntOf, run_underlying hu.out, run_size (hi := hi), h0, h1, Addr.add_mid]
theorem wl_index {α : Type} {t : Ty α} {S : List Nat} {d : Nat} {x y : Operand} {s e : TypeId} {v : Value} {xs : List α} {k : IntKind} {i : Int} {z : Value} {m by_ : Nat} [hu : Und P s (.slice e)] [hi : Inf P e z m by_]
    (hx : ev l x = v) (hy : ev l y = .int k i) (hR : t.Rd S w v xs) (hn : t.n = m) (h0 : 0 ≤ i) (h1 : i.toNat < xs.length)
    (h : ∀ b o, t.At S w b o (xs[i.toNat]'h1) → wpList P ops Q rest (fr (l.set d (.pointer (some ⟨b, o, none⟩)))) w) :
    wpList P ops Q ({ dst := some d, op := .indexAddr s x y, type := T, pos := pos, after := after, guard := none } :: rest) (fr l) w := by
  subst hn
  obtain ⟨hl, A, cap, rfl, hcap, hA⟩ := hR
  obtain ⟨b, o, rfl, hb, hS, he⟩ := hA (fun h => by subst h; simp at h1)
  exact wl_val (r_indexAddr hx hy h0 (by omega)) (h _ _ (he _ _ (List.getElem?_eq_getElem h1)))
theorem r_fieldAddr {x : Operand} {s t : TypeId} {f off b o : Nat} {z : Value} {n by_ : Nat} [hf : Fld P s f off t] [hi : Inf P t z n by_] (hx : ev l x = .pointer (some ⟨b, o, none⟩)) (hn : n ≠ 0) :
    (exec (ev l) (.fieldAddr s x f) T).run P w = .ok (.value (.pointer (some ⟨b, o + off, none⟩))) w := by
  obtain ⟨fs, fd, h1, h2, rfl, rfl⟩ := hf.out
  simp [exec, execOp, Instr.fieldAt, Instr.sureAddr, hx, run_underlying h1, h2, fieldPlace, run_size (hi := hi), hn, Addr.add_mid]
/-- Stores into a block of one's own. -/
theorem run_storeVar_blk {E t : TypeId} {b o : Nat} {cells : List Value} {v : Value} {z : Value} {n by_ : Nat} [hi : Inf P t z n by_] (hB : Blk w b cells E) (hf : o + n ≤ cells.length) (hn : v.cells.size = n) (h1 : ∀ u ∈ v.cells.toList, u.oneCell' = true) :
    ∃ w', (storeVar t ⟨b, o, none⟩ v).run P w = .ok () w' ∧ Blk w' b (spl cells o v.cells.toList) E ∧ Ch [b] w w' ∧ w'.heap.size = w.heap.size := by
  obtain ⟨k1, k2, k3⟩ := setCells_blk b E v.cells.toList o w cells hB (by simp [hn]; exact hf)
  refine ⟨_, ?_, k1, k2, k3⟩
  have ht : w.there b o v.cells.toList.length := hB.there (by simp [hn]; exact hf)
  have := run_storeCells_cells (P := P) b o v.cells.toList 0 w (fun j hj => by simpa using (ht j hj).1) (fun j hj => by simpa using (ht j hj).2) (fun u hu => h1 u hu)
  have hs := run_size (P := P) (w := w) (hi := hi)
  simp only [Nat.add_zero] at this
  simp [storeVar, hs, hn, this]
theorem wl_store {E t : TypeId} {x y : Operand} {b o : Nat} {cells : List Value} {v : Value} {z : Value} {n by_ : Nat} [hi : Inf P t z n by_] (hx : ev l x = .pointer (some ⟨b, o, none⟩)) (hy : ev l y = v) (hB : Blk w b cells E) (hf : o + n ≤ cells.length) (hn : v.cells.size = n) (h1 : ∀ u ∈ v.cells.toList, u.oneCell' = true)
    (h : ∀ w', Blk w' b (spl cells o v.cells.toList) E → Ch [b] w w' → w'.heap.size = w.heap.size → wpList P ops Q rest (fr l) w') :
    wpList P ops Q ({ dst := none, op := .store t x y, type := T, pos := pos, after := after, guard := none } :: rest) (fr l) w := by
  obtain ⟨w', k1, k2, k3, k4⟩ := run_storeVar_blk (P := P) (t := t) (o := o) hB hf hn h1
  refine wl_skip (w' := w') ?_ (h w' k2 k3 k4)
  simp [exec, execOp, Instr.storeAt, Instr.sureAddr, hx, hy, k1]
end
/-- The way out, of one result that lies in a cell. -/
theorem outc {P : Program} {l : List Value} {w : World} {fn : Func} {t : Nat} {T : TypeId} {R : Value → World → Prop} {b o : Nat} {cs : List Value} {z : Value} {n by_ : Nat} [hr : Row P T] [hi : Inf P T z n by_] (hf : fn.results = #[.cell t T])
    (hx : ev l (.tmp t) = .pointer (some ⟨b, o, none⟩)) (hc : w.rangeAt b o cs) (hn : cs.length = n) (h : R (.agg cs.toArray) w) : bodyPost P fn (Ret R) .ret (fr l) w := by
  subst hn
  obtain ⟨d, h1, h2⟩ := hr.out
  refine ⟨rfl, .agg cs.toArray, ?_, _, rfl, h⟩
  have hx' : l.toArray.getD t undef = .pointer (some ⟨b, o, none⟩) := (ev_tmp l t).trans hx
  have hx2 : l[t]?.getD undef = .pointer (some ⟨b, o, none⟩) := by simpa [Array.getD_eq_getD_getElem?] using hx'
  simp [results, hf, fr, hx2, asAddr, run_loadVar_mid w b o T cs d hc h1 h2 (info_size hi)]
end Go.Proofs.E
set_option linter.unusedVariables false
set_option linter.unusedSimpArgs false
namespace Go.Proofs.E
open Go Go.RowKit

/-! ### Literals -/
theorem foldl_set (o : Nat) : ∀ (vs : List Value) (k : Nat) (cs : List Value), o + k + vs.length ≤ cs.length →
    (vs.zipIdx k).foldl (fun (a : Array Value) (x : Value × Nat) => a.setIfInBounds (o + x.2) x.1) cs.toArray = (spl cs (o + k) vs).toArray
  | [], k, cs, h => by simp [spl]
  | v :: vs, k, cs, h => by
    have h' : o + (k + 1) + vs.length ≤ (cs.set (o + k) v).length := by simp at h ⊢; omega
    have := foldl_set o vs (k + 1) (cs.set (o + k) v) h'
    simp only [List.zipIdx_cons, List.foldl_cons, List.setIfInBounds_toArray]
    rw [this, show o + (k + 1) = o + k + 1 by omega, spl_cons h]
theorem spl_at (A V Z : List Value) (h : V.length ≤ Z.length) : spl (A ++ Z) A.length V = (A ++ V) ++ Z.drop V.length := by
  simp [spl, List.drop_append]
theorem fill_go (m : Nat) : ∀ (vs : List Value) (k : Nat) (A Z : List Value), A.length = k * m → Z.length = vs.length * m → (∀ v ∈ vs, v.cells.size = m) →
    Instr.fill (fun i => some (i * m, m)) (A ++ Z).toArray ((vs.zipIdx k).map fun x => (x.2, x.1)) = some (A ++ vs.flatMap (fun v => v.cells.toList)).toArray
  | [], k, A, Z, hA, hZ, hm => by
    have : Z = [] := List.eq_nil_of_length_eq_zero (by simpa using hZ)
    subst this
    simp [Instr.fill]
  | v :: vs, k, A, Z, hA, hZ, hm => by
    have hv : v.cells.size = m := hm v (by simp)
    have hZ' : m ≤ Z.length := by rw [hZ, List.length_cons, Nat.succ_mul]; omega
    simp only [List.zipIdx_cons, List.map_cons, Instr.fill]
    rw [if_neg (by
      simp only [hv, ne_eq, not_true, decide_false, Bool.false_or, decide_eq_true_eq, List.size_toArray, List.length_append, hA]
      omega)]
    have hf := foldl_set (k * m) v.cells.toList 0 (A ++ Z) (by simp [hv, hA]; omega)
    have he : (v.cells.zipIdx.foldl (fun (cs : Array Value) (x : Value × Nat) => cs.setIfInBounds (k * m + x.2) x.1) (A ++ Z).toArray) = (spl (A ++ Z) (k * m + 0) v.cells.toList).toArray := by
      rw [← hf, ← Array.foldl_toList, Array.toList_zipIdx]
    simp only [Nat.add_zero] at he
    have hsp : spl (A ++ Z) (k * m) v.cells.toList = (A ++ v.cells.toList) ++ Z.drop m := by
      rw [← hA, spl_at A v.cells.toList Z (by simp [hv]; exact hZ')]
      simp [hv]
    rw [hsp] at he
    have ih := fill_go m vs (k + 1) (A ++ v.cells.toList) (Z.drop m) (by simp [hA, hv, Nat.succ_mul]) (by rw [List.length_drop, hZ, List.length_cons, Nat.succ_mul]; omega) (fun u hu => hm u (by simp [hu]))
    rw [List.flatMap_cons, ← List.append_assoc, ← ih]
    exact congrArg (fun a => Instr.fill (fun i => some (i * m, m)) a ((vs.zipIdx (k + 1)).map fun x => (x.2, x.1))) he
section
variable {P : Program} {ops : Array Oper} {Q : Exit → Act → World → Prop} {rest : List Oper} {l : List Value} {w : World}
  {T : TypeId} {pos : String} {after : Array Edge}
theorem inf_parts {E : TypeId} {z : Value} {n b : Nat} (hi : Inf P E z n b) : ∃ i : TypeInfo, P.info? E = some i ∧ i.zero = some z ∧ i.size = n ∧ i.bytes = b := by
  obtain ⟨i, h1, h2⟩ := Option.map_eq_some_iff.1 hi.out
  simp only [Prod.mk.injEq] at h2
  exact ⟨i, h1, h2.1, h2.2.1, h2.2.2⟩
theorem run_buildSlice' {t e : TypeId} {z : Value} {m by_ : Nat} [hu : Und P t (.slice e)] [hi : Inf P e z m by_] (vs : List Value) (hm : ∀ v ∈ vs, v.cells.size = m) (hsmall : vs.length * m ≤ 16777216) :
    (Instr.buildSlice t vs.length ((vs.zipIdx 0).map fun x => (x.2, x.1)).toArray).run P w = .ok (.slice (some ⟨w.heap.size, 0, none⟩) vs.length vs.length) (w.alloc (.cells (vs.flatMap (fun v => v.cells.toList)).toArray e)) := by
  obtain ⟨i, h1, h2, h3, h4⟩ := inf_parts hi
  by_cases h0 : vs.length * m = 0
  · have hf := fill_go m vs 0 [] [] (by simp) (by simp [h0]) hm
    simp only [List.nil_append] at hf
    have hr : (Array.range 0).map (fun x => (default : Value)) = #[] := by simp
    simp [Instr.buildSlice, run_underlying hu.out, run_size (hi := hi), h0, newRow, newObj, Sem.run, hf, hr]
  · have hz0 : ((Array.range (vs.length * m)).map (z.cells[· % z.cells.size]!)).toList.length = vs.length * m := by simp
    have hf := fill_go m vs 0 [] ((Array.range (vs.length * m)).map (z.cells[· % z.cells.size]!)).toList (by simp) hz0 hm
    simp only [List.nil_append, Array.toArray_toList] at hf
    simp [Instr.buildSlice, run_underlying hu.out, run_size (hi := hi), run_zero (hi := hi), h0, show ¬ 16777216 < vs.length * m by omega, newRow, newObj, Sem.run, hf]
theorem wl_buildSlice {d : Nat} {t e : TypeId} {n : Nat} {parts : List (Nat × Operand)} {vs : List Value} {z : Value} {m by_ : Nat} [hu : Und P t (.slice e)] [hi : Inf P e z m by_]
    (hp : (parts.map fun x => (x.1, ev l x.2)) = (vs.zipIdx 0).map fun x => (x.2, x.1)) (hn : vs.length = n) (hm : ∀ v ∈ vs, v.cells.size = m) (hsmall : n * m ≤ 16777216)
    (h : ∀ w' b, New w w' b (vs.flatMap (fun v => v.cells.toList)) e → wpList P ops Q rest (fr (l.set d (.slice (some ⟨b, 0, none⟩) n n))) w') :
    wpList P ops Q ({ dst := some d, op := .buildSlice t n parts.toArray, type := T, pos := pos, after := after, guard := none } :: rest) (fr l) w := by
  subst hn
  refine wl_val ?_ (h _ _ (New.mk_ w _ e))
  have := run_buildSlice' (P := P) (w := w) (t := t) vs hm hsmall
  rw [← hp] at this
  simp only [exec, execOp, List.map_toArray]
  rw [Sem.run_bind, this]
  rfl
end

/-! ### Cuts -/
section
variable {P : Program} {ops : Array Oper} {Q : Exit → Act → World → Prop} {rest : List Oper} {l : List Value} {w : World}
  {T : TypeId} {pos : String} {after : Array Edge}
theorem run_cut {t e : TypeId} {z : Value} {m by_ : Nat} [hu : Und P t (.slice e)] [hi : Inf P e z m by_] {A : Option Addr} {n c : Nat} {lo hi_ mx : Option Value} {L H M : Nat}
    (hb : (Instr.sliceBounds true n c lo hi_ mx).run P w = .ok (L, H, M) w) :
    (Instr.sliceAt t (.slice A n c) lo hi_ mx).run P w = .ok (.slice (if M = L then A else A.map (·.add (L * m))) (H - L) (M - L)) w := by
  simp [Instr.sliceAt, Instr.slice, run_underlying hu.out, hb, run_size (hi := hi)]
theorem bnd_none {n c : Nat} {b : Bool} : (Instr.sliceBounds b n c none none none).run P w = .ok (0, n, c) w := by simp [Instr.sliceBounds]
theorem bnd_lo {n c : Nat} {k : IntKind} {i : Int} {b : Bool} (h0 : 0 ≤ i) (h1 : i ≤ n) : (Instr.sliceBounds b n c (some (.int k i)) none none).run P w = .ok (i.toNat, n, c) w := by
  simp [Instr.sliceBounds, Instr.sliceBound, asIntOf, h0, h1]
theorem bnd_hi {n c : Nat} {k : IntKind} {j : Int} {b : Bool} (h0 : 0 ≤ j) (h1 : j ≤ c) : (Instr.sliceBounds b n c none (some (.int k j)) none).run P w = .ok (0, j.toNat, c) w := by
  simp [Instr.sliceBounds, Instr.sliceBound, asIntOf, h0, h1]
theorem bnd_lh {n c : Nat} {k k' : IntKind} {i j : Int} {b : Bool} (h0 : 0 ≤ i) (h2 : i ≤ j) (h1 : j ≤ c) : (Instr.sliceBounds b n c (some (.int k i)) (some (.int k' j)) none).run P w = .ok (i.toNat, j.toNat, c) w := by
  have hj : 0 ≤ j := by omega
  simp [Instr.sliceBounds, Instr.sliceBound, asIntOf, h0, h1, hj]
  intro hc
  omega
/-- What a cut of a slice that is read reads as. -/
theorem Ty.Rd.cut {α : Type} {t : Ty α} {S : List Nat} {A : Option Addr} {n c : Nat} {xs : List α} (h : t.Rd S w (.slice A n c) xs) {L H M : Nat} (hL : L ≤ H) (hH : H ≤ xs.length) (hM : H ≤ M) :
    t.Rd S w (.slice (if M = L then A else A.map (·.add (L * t.n))) (H - L) (M - L)) ((xs.take H).drop L) := by
  obtain ⟨hl, A', c', hv, hcap, hA⟩ := h
  injection hv with hv1 hv2 hv3
  subst hv1
  have hlen : ((xs.take H).drop L).length = H - L := by rw [List.length_drop, List.length_take]; omega
  refine ⟨by omega, _, _, by rw [hlen], by rw [hlen]; omega, fun hne => ?_⟩
  have hlt : L < H := by
    rcases Nat.lt_or_ge L H with h | h
    · exact h
    · exact absurd (List.eq_nil_of_length_eq_zero (by omega)) hne
  obtain ⟨b, o, rfl, hb, hS, he⟩ := hA (fun h => by subst h; simp at hH; omega)
  have hne' : M ≠ L := by omega
  refine ⟨b, o + L * t.n, by simp [hne', Addr.add_mid], hb, hS, fun i x hx => ?_⟩
  rw [List.getElem?_drop, List.getElem?_take] at hx
  split at hx
  · have := he (L + i) x hx
    rwa [Nat.add_mul, ← Nat.add_assoc] at this
  · cases hx
/-! The cuts x[i:], x[:j], x[i:j], x[:j:q] of a slice that is read. -/
section
variable {α : Type} {ty : Ty α} {S : List Nat} {d : Nat} {x : Operand} {t e : TypeId} {z : Value} {m by_ : Nat} [hu : Und P t (.slice e)] [hi : Inf P e z m by_] {v : Value} {xs : List α}
include hu hi
theorem wl_cut_lo {y : Operand} {k : IntKind} {i : Int} (hx : ev l x = v) (hR : ty.Rd S w v xs) (hm : ty.n = m) (hy : ev l y = .int k i) (h0 : 0 ≤ i) (h1 : i ≤ xs.length)
    (h : ∀ v', ty.Rd S w v' (xs.drop i.toNat) → wpList P ops Q rest (fr (l.set d v')) w) :
    wpList P ops Q ({ dst := some d, op := .slice t x (some y) none none, type := T, pos := pos, after := after, guard := none } :: rest) (fr l) w := by
  subst hm
  obtain ⟨A, c, rfl⟩ := hR.form
  have hc : xs.length ≤ c := by obtain ⟨_, _, _, hv, h, _⟩ := hR; injection hv; omega
  have := hR.cut (L := i.toNat) (H := xs.length) (M := c) (by omega) (Nat.le_refl _) hc
  rw [List.take_of_length_le (Nat.le_refl _)] at this
  refine wl_val ?_ (h _ this)
  simp [exec, execOp, hx, hy, run_cut (hi := hi) (bnd_lo (b := true) h0 h1)]
end
end

/-! ### Rows of one's own: append -/
section
variable {P : Program} {ops : Array Oper} {Q : Exit → Act → World → Prop} {rest : List Oper} {l : List Value} {w : World}
  {T : TypeId} {pos : String} {after : Array Edge}
theorem Ch.of_grown {w w' : World} {r : Option Nat} (h : w.grownBy w' r) : Ch r.toList w w' :=
  ⟨h.os, h.tape, h.output, h.size, fun k hk hn => h.block k hk (fun e => hn (by rw [← e]; simp))⟩
/-- A row that the call itself makes: its elements hold no address. -/
def Own {α : Type} (en : En α) (w : World) (base : Nat) (E : TypeId) (v : Value) (xs : List α) : Prop := w.ownsRow base E en.n v xs.length (xs.flatMap en.f)
theorem Own.nil {α : Type} (en : En α) (w : World) (base : Nat) (E : TypeId) : Own en w base E (.slice none 0 0) [] := ⟨by simp, .inl ⟨rfl, rfl⟩⟩
theorem Own.ch {α : Type} {en : En α} {w w' : World} {base : Nat} {E : TypeId} {v : Value} {xs : List α} {S : List Nat} (h : Own en w base E v xs) (hc : Ch S w w') (hn : ∀ k, v.ownBlock = some k → k ∉ S) : Own en w' base E v xs := by
  obtain ⟨h1, h2⟩ := h
  refine ⟨h1, ?_⟩
  rcases h2 with h2 | ⟨g, cap, cur, rfl, hg, hh, r⟩
  · exact .inl h2
  · exact .inr ⟨g, cap, cur, rfl, hg, (hc.block g (Array.getElem?_eq_some_iff.1 hh).1 (hn g rfl)).trans hh, r⟩
theorem Own.lt {α : Type} {en : En α} {w : World} {base : Nat} {E : TypeId} {v : Value} {xs : List α} (h : Own en w base E v xs) {k : Nat} (hk : v.ownBlock = some k) : base ≤ k ∧ k < w.heap.size := by
  rcases h.2 with ⟨rfl, _⟩ | ⟨g, cap, cur, rfl, hg, hh, r⟩
  · cases hk
  · have : g = k := by simpa [Value.ownBlock] using hk
    subst this
    exact ⟨hg, (Array.getElem?_eq_some_iff.1 hh).1⟩
theorem flatMap_at {α : Type} {f : α → List Value} {n : Nat} (hf : ∀ x, (f x).length = n) : ∀ (xs : List α) (i : Nat) (x : α), xs[i]? = some x → ∀ j v, (f x)[j]? = some v → (xs.flatMap f)[i * n + j]? = some v
  | [], i, x, h, _, _, _ => by simp at h
  | y :: xs, 0, x, h, j, v, hv => by
    simp only [List.getElem?_cons_zero, Option.some.injEq] at h
    subst h
    have hj := (List.getElem?_eq_some_iff.1 hv).1
    rw [List.flatMap_cons, Nat.zero_mul, Nat.zero_add, List.getElem?_append_left hj]
    exact hv
  | y :: xs, i + 1, x, h, j, v, hv => by
    rw [List.flatMap_cons, List.getElem?_append_right (by rw [hf, Nat.succ_mul]; omega), hf, show (i + 1) * n + j - n = i * n + j by rw [Nat.succ_mul]; omega]
    exact flatMap_at hf xs i x (by simpa using h) j v hv
theorem flatMap_len {α : Type} {f : α → List Value} {n : Nat} (hf : ∀ x, (f x).length = n) (xs : List α) : (xs.flatMap f).length = xs.length * n := by
  induction xs with
  | nil => simp
  | cons x xs ih => rw [List.flatMap_cons, List.length_append, hf, ih, List.length_cons, Nat.succ_mul, Nat.add_comm]
/-- What a row of one's own reads as. -/
theorem Own.rd {α : Type} {en : En α} {w : World} {base : Nat} {E : TypeId} {v : Value} {xs : List α} {S : List Nat} (h : Own en w base E v xs) (hS : ∀ k, v.ownBlock = some k → k ∉ S) (hb : xs.length ≤ 9223372036854775807) :
    (Ty.enc en).Rd S w v xs := by
  refine ⟨hb, ?_⟩
  rcases h.2 with ⟨rfl, h0⟩ | ⟨g, cap, cur, rfl, hg, hh, hc1, hc2, hc3, hc4⟩
  · have := List.eq_nil_of_length_eq_zero h0
    subst this
    exact ⟨none, 0, rfl, by simp, fun h => absurd rfl h⟩
  · refine ⟨_, cap, rfl, hc1, fun hne => ⟨g, 0, rfl, (Array.getElem?_eq_some_iff.1 hh).1, hS g rfl, fun i x hx => ⟨(Array.getElem?_eq_some_iff.1 hh).1, hS g rfl, en.f x, rfl, fun j u hu => ?_⟩⟩⟩
    have ht := flatMap_at en.hl xs i x hx j u hu
    rw [← hc4, List.getElem?_take] at ht
    split at ht
    · rw [cell_of_row w g _ cur E (0, 0) hh]
      simp only [Ty.enc] at *
      rw [Nat.zero_add]
      simpa using ht
    · cases ht
/-- append(v, ys...), ys somewhere in memory. -/
theorem wl_append {α : Type} {en : En α} {n by_ : Nat} {d : Nat} {x y : Operand} {t e : TypeId} {z : Value} [hu : Und P t (.slice e)] [hi : Inf P e z n by_] (hm : en.n = n) (hz : z.cells.size = n) (hn : 0 < n)
    {base : Nat} {v : Value} {xs ys : List α} {b o c : Nat} (hx : ev l x = v) (hO : Own en w base e v xs) (hbase : base ≤ w.heap.size) (hy : ev l y = .slice (some ⟨b, o, none⟩) ys.length c) (hr : w.rangeAt b o (ys.flatMap en.f)) (hb : (xs.length + ys.length) * by_ ≤ 140737488355328) (h63 : xs.length + ys.length ≤ 281474976710656)
    (h : ∀ v' w', Own en w' base e v' (xs ++ ys) → Ch v.ownBlock.toList w w' → (v'.ownBlock = v.ownBlock ∨ v'.ownBlock = some w.heap.size) → wpList P ops Q rest (fr (l.set d v')) w') :
    wpList P ops Q ({ dst := some d, op := .call { callee := .builtin .append, args := #[x, y], argTypes := #[t, t] }, type := T, pos := pos, after := after, guard := none } :: rest) (fr l) w := by
  subst hm
  obtain ⟨i, k1, k2, k3, k4⟩ := inf_parts hi
  obtain ⟨v', w', hrun, hown, hg, _, hat⟩ := run_append_own_at (P := P) w base t T e i z en.n by_ hu.out k1 k2 k3 k4 hz hn v xs.length (xs.flatMap en.f) hO ⟨b, o, none⟩ ys.length c (ys.flatMap en.f) (flatMap_len en.hl ys)
    (fun j u hu => by rw [Addr.add_mid]; exact hr j u hu) (fun u hu => by obtain ⟨q, _, hq⟩ := List.mem_flatMap.1 hu; exact en.h1 q u hq) (by simp only [maxLen]; omega) hb hbase
  refine wl_val ?_ (h v' w' (by unfold Own; rw [List.length_append, List.flatMap_append]; exact hown) (Ch.of_grown hg) hat)
  simp [exec, execOp, resolve, invoke, builtin, hx, hy, hrun]
/-- append(v, a): the literal of one element, and the append behind it. -/
theorem wl_push {α : Type} {en : En α} {n by_ : Nat} {d d1 : Nat} {x y : Operand} {t e : TypeId} {z : Value} [hu : Und P t (.slice e)] [hi : Inf P e z n by_] (hm : en.n = n) (hz : z.cells.size = n) (hn : 0 < n) (hn2 : n ≤ 16777216)
    {T' : TypeId} {pos' : String} {after' : Array Edge} {base : Nat} {v xv : Value} {xs : List α} {a : α} (hx : ev l x = xv) (hy : ∀ u, ev (l.set d1 u) y = v) (hd : ∀ u, ev (l.set d1 u) (.tmp d1) = u) (ha : xv.cells.toList = en.f a) (hO : Own en w base e v xs) (hbase : base ≤ w.heap.size) (hb : (xs.length + 1) * by_ ≤ 140737488355328) (h63 : xs.length + 1 ≤ 281474976710656)
    (h : ∀ u v' w', Own en w' base e v' (xs ++ [a]) → Ch v.ownBlock.toList w w' → (v'.ownBlock = v.ownBlock ∨ ∃ k, v'.ownBlock = some k ∧ w.heap.size ≤ k) → wpList P ops Q rest (fr ((l.set d1 u).set d v')) w') :
    wpList P ops Q ({ dst := some d1, op := .buildSlice t 1 #[(0, x)], type := T', pos := pos', after := after', guard := none } :: { dst := some d, op := .call { callee := .builtin .append, args := #[y, .tmp d1], argTypes := #[t, t] }, type := T, pos := pos, after := after, guard := none } :: rest) (fr l) w := by
  subst hm
  have hcs : xv.cells.size = en.n := by rw [← Array.length_toList, ha, en.hl]
  refine wl_buildSlice (parts := [(0, x)]) (vs := [xv]) (by simp [hx]) rfl (by simpa using hcs) (by omega) ?_
  intro w1 b hN
  have hblk := hN.blk.range 0 en.n
  have hr : w1.rangeAt b 0 ([a].flatMap en.f) := by
    have he : (List.drop 0 ([xv].flatMap (fun v => v.cells.toList))).take en.n = [a].flatMap en.f := by
      simp [ha]
      rw [List.take_of_length_le (by rw [en.hl]; exact Nat.le_refl _)]
    rw [he] at hblk
    exact hblk
  have hO1 : Own en w1 base e v xs := hO.ch hN.ch (by simp)
  refine wl_append rfl hz hn (hy _) hO1 (Nat.le_trans hbase hN.ch.size) (ys := [a]) (hd _) hr hb h63 ?_
  intro v' w' hO' hc hat
  refine h _ v' w' hO' (hN.ch.trans hc (by simp) (fun _ _ h => h)) ?_
  rcases hat with hat | hat
  · exact .inl hat
  · exact .inr ⟨_, hat, hN.ch.size⟩
/-! ### The same, looking for their own proofs -/
theorem ix {α : Type} {t : Ty α} {S : List Nat} {d : Nat} {x y : Operand} {s e : TypeId} {v : Value} {xs : List α} {k : IntKind} {i : Int} {z : Value} {m by_ : Nat} [hu : Und P s (.slice e)] [hi : Inf P e z m by_]
    (hR : t.Rd S w v xs) (h : ∀ b o a, xs[i.toNat]? = some a → t.At S w b o a → wpList P ops Q rest (fr (l.set d (.pointer (some ⟨b, o, none⟩)))) w)
    (hx : ev l x = v := by exact rfl) (hy : ev l y = .int k i := by exact rfl) (hn : t.n = m := by exact rfl) (h0 : 0 ≤ i := by first | omega | simp) (h1 : i.toNat < xs.length := by first | omega | simp | assumption) :
    wpList P ops Q ({ dst := some d, op := .indexAddr s x y, type := T, pos := pos, after := after, guard := none } :: rest) (fr l) w := wl_index hx hy hR hn h0 h1 fun b o hA => h b o _ (List.getElem?_eq_getElem h1) hA
theorem pu {α : Type} {en : En α} {n by_ : Nat} {d d1 : Nat} {x y : Operand} {t e : TypeId} {z : Value} [hu : Und P t (.slice e)] [hi : Inf P e z n by_]
    {T' : TypeId} {pos' : String} {after' : Array Edge} {base : Nat} {v xv : Value} {xs : List α} (a : α) (hO : Own en w base e v xs) (hbase : base ≤ w.heap.size)
    (h : ∀ u v' w', Own en w' base e v' (xs ++ [a]) → Ch v.ownBlock.toList w w' → (v'.ownBlock = v.ownBlock ∨ ∃ k, v'.ownBlock = some k ∧ w.heap.size ≤ k) → wpList P ops Q rest (fr ((l.set d1 u).set d v')) w')
    (hx : ev l x = xv := by exact rfl) (hy : ∀ u, ev (l.set d1 u) y = v := by exact fun _ => rfl) (hd : ∀ u, ev (l.set d1 u) (.tmp d1) = u := by exact fun _ => rfl) (ha : xv.cells.toList = en.f a := by exact rfl)
    (hm : en.n = n := by exact rfl) (hz : z.cells.size = n := by exact rfl) (hn : 0 < n := by decide) (hn2 : n ≤ 16777216 := by decide)
    (hb : (xs.length + 1) * by_ ≤ 140737488355328 := by omega) (h63 : xs.length + 1 ≤ 281474976710656 := by omega) :
    wpList P ops Q ({ dst := some d1, op := .buildSlice t 1 #[(0, x)], type := T', pos := pos', after := after', guard := none } :: { dst := some d, op := .call { callee := .builtin .append, args := #[y, .tmp d1], argTypes := #[t, t] }, type := T, pos := pos, after := after, guard := none } :: rest) (fr l) w :=
  wl_push hm hz hn hn2 hx hy hd ha hO hbase hb h63 h
end
end Go.Proofs.E
set_option linter.unusedVariables false
set_option linter.unusedSimpArgs false
namespace Go.Proofs.E
open Go Go.RowKit

section
variable {P : Program} {ops : Array Oper} {md : Region.Mode} {G : World → World → Prop} {Q : Exit → Act → World → Prop} {z : Nat}
/-- Whatever order is picked from here on, in whatever world has come of this one. -/
def wpAnyG (P : Program) (md : Region.Mode) (ops : Array Oper) (G : World → World → Prop) (Q : Exit → Act → World → Prop) (z : Nat) : Nat → Array Bool → Act → World → Prop
  | 0, listed, a, w => ∀ w1, G w w1 → Region.ready md ops listed = [] ∧ Q .normal a w1
  | fuel + 1, listed, a, w => ∀ w1, G w w1 →
    (Region.ready md ops listed = [] → Q .normal a w1) ∧
    ∀ i ∈ Region.ready md ops listed, wpOp P ops Q i (fun a' w' => (G w1 w' ∨ i = z) ∧ wpAnyG P md ops G Q z fuel (listed.setIfInBounds i true) a' w') a w1
/-- All that an operation waits for has come up. -/
def Dn (md : Region.Mode) (ops : Array Oper) (listed : Array Bool) : Prop := ∀ (m : Nat) om, ops[m]? = some om → listed.getD m true = true → ∀ e ∈ om.after, Region.binds md e = true → listed.getD e.on false = true
theorem Dn.set {md : Region.Mode} {ops : Array Oper} {listed : Array Bool} {i : Nat} (h : Dn md ops listed) (hi : i ∈ Region.ready md ops listed) : Dn md ops (listed.setIfInBounds i true) := by
  have up : ∀ x, listed.getD x false = true → (listed.setIfInBounds i true).getD x false = true := by
    intro x hx
    by_cases hix : i = x
    · subst hix
      rcases Nat.lt_or_ge i listed.size with h' | h'
      · simp [h']
      · simp [Array.getElem?_eq_none h'] at hx
    · rw [getD_set_ne false hix]; exact hx
  intro m om hm hl e he hb
  refine up _ ?_
  by_cases hmi : i = m
  · subst hmi
    obtain ⟨_, o, ho, hall⟩ := mem_ready.1 hi
    rw [hm] at ho
    cases ho
    exact hall e he hb
  · rw [getD_set_ne true hmi] at hl
    exact h m om hm hl e he hb
/-- Operation z comes up when all others have. -/
def Late (md : Region.Mode) (ops : Array Oper) (z : Nat) : Prop := ∀ listed i, Dn md ops listed → z ∈ Region.ready md ops listed → i ∈ Region.ready md ops listed → i = z
def waitsFor (ops : Array Oper) (m i : Nat) : Bool := match ops[m]? with | some om => om.after.any (fun e => Region.binds .any e && e.on == i) | none => false
theorem waitsFor_spec {ops : Array Oper} {m i : Nat} (h : waitsFor ops m i = true) : ∃ om e, ops[m]? = some om ∧ e ∈ om.after ∧ Region.binds .any e = true ∧ e.on = i := by
  unfold waitsFor at h
  split at h
  · rename_i om hom
    obtain ⟨e, he, h5⟩ := Array.any_eq_true'.1 h
    simp only [Bool.and_eq_true, beq_iff_eq] at h5
    exact ⟨om, e, hom, he, h5.1, h5.2⟩
  · cases h
def lateB (ops : Array Oper) (z : Nat) : Bool := ((List.range z).all fun i => (List.range (z + 1)).any fun m => decide (i < m) && waitsFor ops m i) && ((List.range ops.size).all fun i => decide (i ≤ z) || waitsFor ops i z)
theorem late_of {ops : Array Oper} {z : Nat} (h : lateB ops z = true) : Late .any ops z := by
  unfold lateB at h
  rw [Bool.and_eq_true] at h
  obtain ⟨h, hup⟩ := h
  intro listed i hD hz hi
  obtain ⟨hzu, oz, hoz, hzall⟩ := mem_ready.1 hz
  obtain ⟨hiu, oi, hoi, hiall⟩ := mem_ready.1 hi
  have tf : ∀ x, listed.getD x true = false → listed.getD x false = false := by
    intro x hx
    rcases Nat.lt_or_ge x listed.size with h' | h'
    · simp [h'] at hx ⊢; exact hx
    · simp [Array.getElem?_eq_none h']
  have key : ∀ n x, x + n = z → listed.getD x false = false → x = z := by
    intro n
    induction n using Nat.strongRecOn with
    | _ n ih =>
      intro x hx hux
      rcases Nat.lt_or_ge x z with hlt | hge
      · exfalso
        have := List.all_eq_true.1 h x (List.mem_range.2 hlt)
        obtain ⟨m, hm, h2⟩ := List.any_eq_true.1 this
        simp only [Bool.and_eq_true, decide_eq_true_eq] at h2
        obtain ⟨h3, h4⟩ := h2
        obtain ⟨om, e, h3', h4, h5, h6⟩ := waitsFor_spec h4
        have hmz' : m < z + 1 := List.mem_range.1 hm
        have hmu : listed.getD m true = false := by
          cases hm : listed.getD m true with
          | false => rfl
          | true =>
            have := hD m om h3' hm e h4 h5
            rw [h6, hux] at this
            cases this
        have hmz := ih (z - m) (by omega) m (by omega) (tf _ hmu)
        subst hmz
        rw [h3'] at hoz
        cases hoz
        have := hzall e h4 h5
        rw [h6, hux] at this
        cases this
      · omega
  rcases Nat.lt_or_ge z i with hgt | hle
  · exfalso
    have hlt := (Array.getElem?_eq_some_iff.1 hoi).1
    have := List.all_eq_true.1 hup i (List.mem_range.2 hlt)
    simp only [Bool.or_eq_true, decide_eq_true_eq] at this
    obtain ⟨om, e, h3, h4, h5, h6⟩ := waitsFor_spec (this.resolve_left (by omega))
    rw [h3] at hoi
    cases hoi
    have := hiall e h4 h5
    rw [h6, tf _ hzu] at this
    cases this
  · exact key (z - i) i (by omega) (tf _ hiu)
theorem late_none {md : Region.Mode} {ops : Array Oper} : Late md ops ops.size := by
  intro listed i _ hz _
  obtain ⟨_, o, ho, _⟩ := mem_ready.1 hz
  have := (Array.getElem?_eq_some_iff.1 ho).1
  omega
theorem wpAnyG_up (ht : ∀ a b c, G a b → G b c → G a c) : ∀ (fuel : Nat) (listed : Array Bool) (a : Act) (w w1 : World), G w w1 → wpAnyG P md ops G Q z fuel listed a w → wpAnyG P md ops G Q z fuel listed a w1
  | 0, _, _, _, _, hG, h => fun w2 h2 => h w2 (ht _ _ _ hG h2)
  | _ + 1, _, _, _, _, hG, h => fun w2 h2 => h w2 (ht _ _ _ hG h2)
theorem wpAny_of_G (hr : ∀ a, G a a) : ∀ (fuel : Nat) (listed : Array Bool) (a : Act) (w : World), wpAnyG P md ops G Q z fuel listed a w → wpAny P md ops Q fuel listed a w
  | 0, _, _, w, h => h w (hr w)
  | fuel + 1, _, _, w, h => ⟨(h w (hr w)).1, fun i hi => wpOp_mono (fun a' w' h' => wpAny_of_G hr fuel _ a' w' h'.2) ((h w (hr w)).2 i hi)⟩
/-- In state a, in every world that may have come of w, the operation leaves v in its temporary, and a world that may have come of that one. -/
def Steady (P : Program) (ops : Array Oper) (G : World → World → Prop) (w : World) (o : Oper) (v : Value) (a : Act) : Prop :=
  (Region.wanted o (yielded ops a.tmps) = true ∧ ∀ w1, G w w1 → o.quietAt P a (G w1) w1 v) ∨ (Region.wanted o (yielded ops a.tmps) = false ∧ v = undef)
theorem wp_of_quietAt {o : Oper} {a : Act} {v : Value} {C : World → Prop} {w1 : World} {K : Act → World → Prop} {Q' : Exit → Act → World → Prop} (hq : o.quietAt P a C w1 v) (hC : C w1) (h : ∀ w', C w' → K (a.put o.dst v) w') : o.wp P a w1 K Q' := by
  unfold Oper.quietAt at hq
  unfold Oper.wp
  generalize (execOp a.eval o).run P w1 = r at *
  cases r with
  | ok n w' =>
    cases n <;> simp only [Oper.quietUpon] at hq <;> simp only [Oper.upon]
    case value u =>
      obtain ⟨e1, e2⟩ := hq
      rw [e1, e2]
      exact h _ hC
    case skip =>
      obtain ⟨e1, e2⟩ := hq
      rw [e1, ← e2]
      exact h _ hC
    case enter f args =>
      obtain ⟨e1, hc⟩ := hq
      rw [e1]
      exact hc.mono fun e w'' ⟨he, hw''⟩ => by subst he; exact h _ hw''
  | halt x w' => exact hq.elim
theorem Steady.wpOp {i : Nat} {o : Oper} {v : Value} {a : Act} {w w1 : World} (hrefl : ∀ a, G a a) (hi : ops[i]? = some o) (hy : Steady P ops G w o v a) (hG : G w w1)
    {K : Act → World → Prop} (h : ∀ w', G w1 w' → K (a.put o.dst v) w') : wpOp P ops Q i K a w1 := by
  unfold Go.wpOp
  simp only [hi]
  rcases hy with ⟨hw, hv⟩ | ⟨hw, rfl⟩
  · simp only [hw, if_true]
    exact .inl (wp_of_quietAt (hv w1 hG) (hrefl w1) h)
  · simp only [hw, Bool.false_eq_true, if_false]
    exact h w1 (hrefl w1)
theorem Steady.up (ht : ∀ a b c, G a b → G b c → G a c) {o : Oper} {v : Value} {a : Act} {w w1 : World} (h : Steady P ops G w o v a) (hG : G w w1) : Steady P ops G w1 o v a :=
  h.imp (fun ⟨hw, hv⟩ => ⟨hw, fun w2 h2 => hv w2 (ht _ _ _ hG h2)⟩) id
theorem Steady.of_same {o : Oper} {v : Value} {a a' : Act} {w : World} (hy : Steady P ops G w o v a) (he : execOp a'.eval o = execOp a.eval o)
    (hw : Region.wanted o (yielded ops a'.tmps) = Region.wanted o (yielded ops a.tmps)) : Steady P ops G w o v a' := by
  unfold Steady Oper.quietAt at *
  rw [he, hw]
  exact hy
/-- One operation 'oj', apart from the steady 'oi': whether 'oi''s value is already there makes no difference to it, and it makes none to 'oi'. -/
theorem wpOp_putG {j : Nat} {oi oj : Oper} {v : Value} (hj : ops[j]? = some oj) (hap : oi.apart ops oj = true)
    (hsi : ∀ cs b, oi.op ≠ .select cs b) (hsj : ∀ cs b, oj.op ≠ .select cs b)
    (hQ : ∀ c a w, Q (.panic c) (a.put oi.dst v) w → Q (.panic c) a w) {K : Act → World → Prop} {a : Act} {w w1 : World}
    (hy : Steady P ops G w oi v a) (h : wpOp P ops Q j K (a.put oi.dst v) w1) :
    wpOp P ops Q j (fun a' w' => Steady P ops G w oi v a' ∧ K (a'.put oi.dst v) w') a w1 := by
  obtain ⟨h1, h2, h3⟩ := Oper.apart_spec hap
  have keep : ∀ (a : Act), Steady P ops G w oi v a → ∀ u, Steady P ops G w oi v (a.put oj.dst u) := fun a hy u =>
    hy.of_same (execOp_put oi hsi a oj.dst u h3) (wanted_put oi a oj.dst u h3)
  have keepD : ∀ d, Steady P ops G w oi v { a with defers := d :: a.defers } := fun d => hy.of_same rfl rfl
  unfold wpOp at *
  simp only [hj] at *
  rw [wanted_put oj a oi.dst v h1] at h
  split
  · rename_i hw
    simp only [hw, if_true] at h
    rcases h with h | ⟨hasks, hlets⟩
    case inr => exact .inr ⟨by unfold Oper.asks at *; rw [execOp_put oj hsj a oi.dst v h1] at hasks; exact hasks, hlets⟩
    refine .inl ?_
    unfold Oper.wp at *
    rw [execOp_put oj hsj a oi.dst v h1] at h
    generalize (execOp a.eval oj).run P w1 = r at *
    cases r with
    | ok n w' =>
      cases n <;> simp only [Oper.upon] at h ⊢
      case value u => exact ⟨keep a hy u, by rw [← Act.put_comm a v u h2]; exact h⟩
      case skip => exact ⟨keep a hy _, by rw [← Act.put_comm a v undef h2]; exact h⟩
      case defer d =>
        refine ⟨keep _ (keepD d) _, ?_⟩
        rw [← Act.put_comm _ v undef h2, ← Act.put_defers]
        exact h
      case enter f args =>
        refine Calls.mono h fun e w'' he => ?_
        cases e with
        | returned u => exact ⟨keep a hy u, by rw [← Act.put_comm a v u h2]; exact he⟩
        | panicked c => exact hQ _ _ _ he
        | outgrown => exact he
      case row row args => exact Rows.mono h fun u w'' he => ⟨keep a hy u, by rw [← Act.put_comm a v u h2]; exact he⟩
    | halt x w' =>
      cases x <;> simp only [Oper.upon] at h ⊢
      case panic u => exact hQ _ _ _ h
  · rename_i hw
    simp only [hw] at h
    exact ⟨keep a hy _, by rw [← Act.put_comm a v undef h2]; exact h⟩
/-- A steady operation that may come up now may be taken first. -/
theorem wpAnyG_first (hlate : Late md ops z) (hrefl : ∀ a, G a a) (ht : ∀ a b c, G a b → G b c → G a c) {i : Nat} {oi : Oper} {v : Value} (hi : ops[i]? = some oi) (hsel : ∀ (j : Nat) (o : Oper) cs b, ops[j]? = some o → o.op ≠ .select cs b)
    (hQ : ∀ c a w, Q (.panic c) (a.put oi.dst v) w → Q (.panic c) a w) :
    ∀ (fuel : Nat) (listed : Array Bool) (a : Act) (w : World),
      (∀ j oj, ops[j]? = some oj → j ≠ i → listed.getD j true = false → (∀ e ∈ oj.after, Region.binds md e = true → e.on ≠ i) → oi.apart ops oj = true) →
      Dn md ops listed → i ∈ Region.ready md ops listed → Steady P ops G w oi v a →
      wpAnyG P md ops G Q z fuel (listed.setIfInBounds i true) (a.put oi.dst v) w → wpAnyG P md ops G Q z (fuel + 1) listed a w := by
  intro fuel
  induction fuel with
  | zero =>
    intro listed a w _ hD hr hy H w1 hG
    refine ⟨fun h => (by rw [h] at hr; cases hr), fun j hj => ?_⟩
    by_cases hji : j = i
    · subst hji
      exact hy.wpOp hrefl hi hG fun w' hw' => ⟨.inl hw', wpAnyG_up ht 0 _ _ _ _ (ht _ _ _ hG hw') H⟩
    · have := ready_mono hj hji
      rw [(H w (hrefl w)).1] at this
      cases this
  | succ fuel ih =>
    intro listed a w hfree hD hr hy H w1 hG
    refine ⟨fun h => (by rw [h] at hr; cases hr), fun j hj => ?_⟩
    by_cases hji : j = i
    · subst hji
      exact hy.wpOp hrefl hi hG fun w' hw' => ⟨.inl hw', wpAnyG_up ht (fuel + 1) _ _ _ _ (ht _ _ _ hG hw') H⟩
    · have h1 := (H w1 hG).2 j (ready_mono hj hji)
      obtain ⟨hjun, oj, hoj, hall⟩ := mem_ready.1 hj
      have hnot : ∀ e ∈ oj.after, Region.binds md e = true → e.on ≠ i := fun e he hb heq => by
        have h1 := hall e he hb
        have h0 := (mem_ready.1 hr).1
        rw [heq] at h1
        rcases Nat.lt_or_ge i listed.size with h' | h'
        · simp [h'] at h0 h1; rw [h0] at h1; cases h1
        · simp [Array.getElem?_eq_none h'] at h1
      have h2 := wpOp_putG hoj (hfree j oj hoj hji hjun hnot) (fun cs b => hsel i oi cs b hi) (fun cs b => hsel j oj cs b hoj) hQ hy h1
      have hfree' : ∀ k ok, ops[k]? = some ok → k ≠ i → (listed.setIfInBounds j true).getD k true = false →
          (∀ e ∈ ok.after, Region.binds md e = true → e.on ≠ i) → oi.apart ops ok = true := fun k ok hk hki hun hno => by
        refine hfree k ok hk hki ?_ hno
        by_cases hjk : j = k
        · subst hjk; exact hjun
        · rw [getD_set_ne true hjk] at hun; exact hun
      have hg : ∀ {w'}, G w1 w' ∨ j = z → G w1 w' := fun h => h.resolve_right fun hjz => hji (by subst hjz; exact (hlate listed i hD hj hr).symm)
      refine wpOp_mono (fun a' w' h3 => ⟨h3.2.1, ih (listed.setIfInBounds j true) a' w' hfree' (hD.set hj) (ready_mono hr (Ne.symm hji)) (h3.1.up ht (ht _ _ _ hG (hg h3.2.1))) ?_⟩) h2
      rw [Array.setIfInBounds_comm _ _ hji]
      exact h3.2.2
/-- Whichever may come up. -/
theorem wpAnyG_all {rs : List Nat} {fuel : Nat} {listed : Array Bool} {a : Act} {w : World} (hr : Region.ready md ops listed = rs) (hne : rs ≠ [])
    (h : ∀ i ∈ rs, ∀ w1, G w w1 → wpOp P ops Q i (fun a' w' => (G w1 w' ∨ i = z) ∧ wpAnyG P md ops G Q z fuel (listed.setIfInBounds i true) a' w') a w1) : wpAnyG P md ops G Q z (fuel + 1) listed a w :=
  fun w1 hG => ⟨fun h0 => absurd (hr ▸ h0) hne, hr ▸ fun i hi => h i hi w1 hG⟩
theorem wpAnyG_done {listed : Array Bool} {a : Act} {w : World} (hr : Region.ready md ops listed = []) (h : ∀ w1, G w w1 → Q .normal a w1) : ∀ fuel, wpAnyG P md ops G Q z fuel listed a w
  | 0 => fun w1 hG => ⟨hr, h w1 hG⟩
  | _ + 1 => fun w1 hG => ⟨fun _ => h w1 hG, by rw [hr]; simp⟩

/-! ### The text's order -/
/-- The operations from number k on, in the text's order: each steady, or the only one that may come up. -/
def wpLexG (P : Program) (ops : Array Oper) (G : World → World → Prop) (Q : Exit → Act → World → Prop) (z : Nat) : List Oper → Nat → Array Bool → Act → World → Prop
  | [], _, _, a, w => ∀ w1, G w w1 → Q .normal a w1
  | o :: rest, k, listed, a, w =>
    (∃ v, Steady P ops G w o v a ∧ wpLexG P ops G Q z rest (k + 1) (listed.setIfInBounds k true) (a.put o.dst v) w) ∨
    (Region.ready .any ops listed = [k] ∧ ∀ w1, G w w1 → wpOp P ops Q k (fun a' w' => (G w1 w' ∨ k = z) ∧ wpLexG P ops G Q z rest (k + 1) (listed.setIfInBounds k true) a' w') a w1)
theorem wpLexG_sound (hlate : Late .any ops z) (hrefl : ∀ a, G a a) (ht : ∀ a b c, G a b → G b c → G a c) (hs : Region.noSelect ops = true) (hQ : ∀ c a w d v, Q (.panic c) (Act.put a d v) w → Q (.panic c) a w) :
    ∀ (l : List Oper) (k : Nat) (listed : Array Bool) (a : Act) (w : World), (∀ j, l[j]? = ops[k + j]?) → Dn .any ops listed → Region.lexFrom .any ops l.length k listed = true → wpLexG P ops G Q z l k listed a w → wpAnyG P .any ops G Q z l.length listed a w
  | [], _, _, _, _, _, _, hB, h => wpAnyG_done (by simpa [Region.lexFrom] using hB) h 0
  | o :: l, k, listed, a, w, hl, hD, hB, h => by
    have h0 : ops[k]? = some o := by simpa using (hl 0).symm
    simp only [List.length_cons, Region.lexFrom, Bool.and_eq_true] at hB
    obtain ⟨⟨hr, hf⟩, hB'⟩ := hB
    have hl' : ∀ j, l[j]? = ops[k + 1 + j]? := fun j => by have := hl (j + 1); simpa [Nat.add_assoc, Nat.add_comm 1 j] using this
    rcases h with ⟨v, hy, h⟩ | ⟨hone, h⟩
    · exact wpAnyG_first hlate hrefl ht h0 (Region.noSelect_spec hs) (fun c a w => hQ c a w _ _) l.length listed a w (Region.free_spec h0 hf) hD (by simpa using hr) hy
        (wpLexG_sound hlate hrefl ht hs hQ l (k + 1) _ _ w hl' (hD.set (by simpa using hr)) hB' h)
    · refine wpAnyG_all hone (by simp) fun i hi w1 hG => ?_
      have hik : i = k := by simpa using hi
      subst hik
      exact wpOp_mono (fun a' w' h' => ⟨h'.1, wpLexG_sound hlate hrefl ht hs hQ l (i + 1) _ _ w' hl' (hD.set (by simpa using hr)) hB' h'.2⟩) (h w1 hG)
end

/-! ### At frames that are lists, for worlds that differ in one's own blocks alone -/
section
variable {P : Program} {ops : Array Oper} {S : List Nat} {Q : Exit → Act → World → Prop} {rest : List Oper} {l : List Value} {w : World} {k zz : Nat} {listed : Array Bool}
  {op : Op} {T : TypeId} {pos : String} {after : Array Edge} {d : Option Nat}
/-- What is asked of the ways out by a panic. -/
def NoP (Q : Exit → Act → World → Prop) : Exit → Act → World → Prop
  | .panic _, _, _ => False
  | e, a, w => Q e a w
theorem dn0 {md : Region.Mode} {os : List Oper} : Dn md os.toArray (Array.replicate os.length false) := by
  intro m om hm hl
  have : m < os.length := by have := (Array.getElem?_eq_some_iff.1 hm).1; simpa using this
  simp [this] at hl
theorem c_drawz {id : Nat} {os : List Oper} (S : List Nat) (zz : Nat) (hlate : Late .any os.toArray zz) (hm : P.follows .mixedOrders = true) (hB : Region.lexB .any os.toArray = true)
    (h : ∀ w0, Ch S w w0 → w0.heap.size = w.heap.size → wpLexG P os.toArray (Ch S) (NoP Q) zz os 0 (Array.replicate os.length false) (fr l) w0) : (Code.region id os.toArray true).wp P Q (fr l) w := by
  refine Code.wp_mono (Q := NoP Q) (fun e a w h => by cases e <;> first | exact h | exact (h : False).elim) ?_
  simp only [Region.lexB, Bool.and_eq_true] at hB
  refine wp_region_any hm (wpAny_of_G (G := Ch S) (z := zz) (Ch.refl S) _ _ _ _ ?_)
  have := wpLexG_sound (P := P) (G := Ch S) (Q := NoP Q) hlate (Ch.refl S) (fun _ _ _ h k => h.then k) hB.1 (fun c a w d v h => (h : False).elim) os 0 (Array.replicate os.length false) (fr l) { w with drawn := w.drawn + 1 } (by simp) dn0 (by simpa using hB.2)
    (h _ ⟨rfl, rfl, rfl, Nat.le_refl _, fun _ _ _ => rfl⟩ rfl)
  simpa using this
theorem c_draw {id : Nat} {os : List Oper} (S : List Nat) (hm : P.follows .mixedOrders = true) (hB : Region.lexB .any os.toArray = true)
    (h : ∀ w0, Ch S w w0 → w0.heap.size = w.heap.size → wpLexG P os.toArray (Ch S) (NoP Q) os.toArray.size os 0 (Array.replicate os.length false) (fr l) w0) : (Code.region id os.toArray true).wp P Q (fr l) w :=
  c_drawz S _ late_none hm hB h
/-- Operation zz waits for all that others do not wait for it to do: it may write. -/
theorem c_drawl {id : Nat} {os : List Oper} (zz : Nat) (S : List Nat) (hm : P.follows .mixedOrders = true) (hB : Region.lexB .any os.toArray = true) (hL : lateB os.toArray zz = true)
    (h : ∀ w0, Ch S w w0 → w0.heap.size = w.heap.size → wpLexG P os.toArray (Ch S) (NoP Q) zz os 0 (Array.replicate os.length false) (fr l) w0) : (Code.region id os.toArray true).wp P Q (fr l) w :=
  c_drawz S _ (late_of hL) hm hB h
theorem wg_end {l' : List Value} (hl : l = l') (h : ∀ w1, Ch S w w1 → Q .normal (fr l') w1) : wpLexG P ops (Ch S) (NoP Q) zz [] k listed (fr l) w := by
  subst hl
  exact fun w1 hG => h w1 hG
/-- An operation that reads at most, and yields one value. -/
theorem wg_val {v : Value} (hr : ∀ w1, Ch S w w1 → (exec (ev l) op T).run P w1 = .ok (.value v) w1) (h : wpLexG P ops (Ch S) Q zz rest (k + 1) (listed.setIfInBounds k true) (fr (set1 l d v)) w) :
    wpLexG P ops (Ch S) Q zz ({ dst := d, op := op, type := T, pos := pos, after := after, guard := none } :: rest) k listed (fr l) w := by
  refine .inl ⟨v, .inl ⟨by simp [Region.wanted], fun w1 hG => ?_⟩, ?_⟩
  · unfold Oper.quietAt
    rw [exec_eq, eval_fr, hr w1 hG]
    exact ⟨rfl, rfl⟩
  · show wpLexG _ _ _ _ _ _ _ _ ((fr l).put d v) w
    rw [put_set1]
    exact h
theorem wg_valn {v : Value} {l' : List Value} (hr : ∀ w1, Ch S w w1 → (exec (ev l) op T).run P w1 = .ok (.value v) w1) (hl : set1 l d v = l') (h : wpLexG P ops (Ch S) Q zz rest (k + 1) (listed.setIfInBounds k true) (fr l') w) :
    wpLexG P ops (Ch S) Q zz ({ dst := d, op := op, type := T, pos := pos, after := after, guard := none } :: rest) k listed (fr l) w := by subst hl; exact wg_val hr h
/-- A call that hands back one value, whatever has come of the world. -/
theorem wg_call {f : FuncId} {fn : Func} {args : List Operand} {tys : Array TypeId} [hf : Fun P f fn] {vs : List Value} {v : Value}
    (ha : args.map (ev l) = vs) (hc : ∀ w1, Ch S w w1 → Calls P f vs.toArray w1 (Ret fun u w2 => u = v ∧ Ch S w1 w2))
    (h : wpLexG P ops (Ch S) Q zz rest (k + 1) (listed.setIfInBounds k true) (fr (set1 l d v)) w) :
    wpLexG P ops (Ch S) Q zz ({ dst := d, op := .call { callee := .value (.func f), args := args.toArray, argTypes := tys }, type := T, pos := pos, after := after, guard := none } :: rest) k listed (fr l) w := by
  subst ha
  refine .inl ⟨v, .inl ⟨by simp [Region.wanted], fun w1 hG => ?_⟩, ?_⟩
  · unfold Oper.quietAt
    rw [exec_eq, eval_fr, r_call]
    exact ⟨rfl, (hc w1 hG).mono fun e w2 ⟨u, h1, h2, h3⟩ => ⟨by rw [h1, h2], h3⟩⟩
  · show wpLexG _ _ _ _ _ _ _ _ ((fr l).put d v) w
    rw [put_set1]
    exact h
/-- The only operation that may come up. -/
theorem wg_one {o : Oper} (h0 : ops[k]? = some o) (hone : Region.ready .any ops listed = [k])
    (h : ∀ w1, Ch S w w1 → wpList P ops (Exit.then (fun a' w' => (Ch S w1 w' ∨ k = zz) ∧ wpLexG P ops (Ch S) Q zz rest (k + 1) (listed.setIfInBounds k true) a' w') Q) [o] (fr l) w1) :
    wpLexG P ops (Ch S) Q zz (o :: rest) k listed (fr l) w := by
  refine .inr ⟨hone, fun w1 hG => ?_⟩
  have h1 := h w1 hG
  unfold wpList at h1
  unfold wpOp
  simp only [h0]
  split at h1
  · rename_i hw
    simp only [hw, if_true]
    rcases h1 with h1 | ⟨h1, a0, w0, h2⟩
    · refine .inl ?_
      unfold Oper.wp at *
      generalize (execOp (fr l).eval o).run P w1 = r at *
      cases r with
      | ok n w' => cases n <;> first | exact h1 | (exact Calls.mono h1 fun e w'' he => by cases e <;> exact he)
      | halt x w' => cases x <;> exact h1
    · exact .inr ⟨h1, a0, w0, h2⟩
  · rename_i hw
    simp only [hw, if_false]
    exact h1
theorem yielded_fr {j t : Nat} {c : Bool} (hj : (ops[j]?).bind (·.dst) = some t) (hv : ev l (.tmp t) = .bool c) (hlt : t < l.length) : yielded ops (fr l).tmps j = some c := by
  unfold yielded
  rw [hj]
  have : l[t]? = some (.bool c) := by
    have h1 : nth l t = .bool c := hv
    rw [← nth_getD, List.getD_eq_getElem?_getD] at h1
    rw [List.getElem?_eq_getElem hlt] at h1 ⊢
    simpa using h1
  simp [fr, this]
theorem wg_on {j t : Nat} {b c : Bool} (hj : (ops[j]?).bind (·.dst) = some t) (hv : ev l (.tmp t) = .bool c) (hlt : t < l.length) (hc : c = b)
    (h : wpLexG P ops (Ch S) Q zz ({ dst := d, op := op, type := T, pos := pos, after := after, guard := none } :: rest) k listed (fr l) w) :
    wpLexG P ops (Ch S) Q zz ({ dst := d, op := op, type := T, pos := pos, after := after, guard := some (j, b) } :: rest) k listed (fr l) w := by
  subst hc
  have hy := yielded_fr hj hv hlt
  rcases h with ⟨v, hst, h⟩ | h
  · refine .inl ⟨v, .inl ⟨by simp [Region.wanted, hy], ?_⟩, h⟩
    rcases hst with ⟨_, hst⟩ | ⟨hw, _⟩
    · intro w1 hG
      have := hst w1 hG
      unfold Oper.quietAt at *
      rw [exec_eq] at *
      exact this
    · simp [Region.wanted] at hw
  · exact .inr h
theorem wg_off {j t : Nat} {b c : Bool} (hj : (ops[j]?).bind (·.dst) = some t) (hv : ev l (.tmp t) = .bool c) (hlt : t < l.length) (hn : c = !b)
    (h : wpLexG P ops (Ch S) Q zz rest (k + 1) (listed.setIfInBounds k true) (fr (set1 l d undef)) w) :
    wpLexG P ops (Ch S) Q zz ({ dst := d, op := op, type := T, pos := pos, after := after, guard := some (j, b) } :: rest) k listed (fr l) w := by
  refine .inl ⟨undef, .inr ⟨by simp [Region.wanted, yielded_fr hj hv hlt, hn], rfl⟩, ?_⟩
  show wpLexG _ _ _ _ _ _ _ _ ((fr l).put d undef) w
  rw [put_set1]
  exact h
theorem wg_off' {j t : Nat} {b : Bool} (hj : (ops[j]?).bind (·.dst) = some t) (hv : ev l (.tmp t) = undef) (hlt : t < l.length)
    (h : wpLexG P ops (Ch S) Q zz rest (k + 1) (listed.setIfInBounds k true) (fr (set1 l d undef)) w) :
    wpLexG P ops (Ch S) Q zz ({ dst := d, op := op, type := T, pos := pos, after := after, guard := some (j, b) } :: rest) k listed (fr l) w := by
  have hy : yielded ops (fr l).tmps j = none := by
    unfold yielded
    rw [hj]
    have : l[t]? = some undef := by
      have h1 : nth l t = undef := hv
      rw [← nth_getD, List.getD_eq_getElem?_getD] at h1
      rw [List.getElem?_eq_getElem hlt] at h1 ⊢
      simpa using h1
    simp [fr, this, undef]
  refine .inl ⟨undef, .inr ⟨by simp [Region.wanted, hy], rfl⟩, ?_⟩
  show wpLexG _ _ _ _ _ _ _ _ ((fr l).put d undef) w
  rw [put_set1]
  exact h
/-- What may have come of the world: nothing that an element's reading hangs on. -/
theorem wg_index {α : Type} {t : Ty α} {d : Nat} {x y : Operand} {s e : TypeId} {v : Value} {xs : List α} {q : IntKind} {i : Int} {z : Value} {m by_ : Nat} [hu : Und P s (.slice e)] [hi : Inf P e z m by_]
    (hx : ev l x = v) (hy : ev l y = .int q i) (hR : t.Rd S w v xs) (hn : t.n = m) (h0 : 0 ≤ i) (h1 : i.toNat < xs.length)
    (h : ∀ b o, t.At S w b o (xs[i.toNat]'h1) → wpLexG P ops (Ch S) Q zz rest (k + 1) (listed.setIfInBounds k true) (fr (l.set d (.pointer (some ⟨b, o, none⟩)))) w) :
    wpLexG P ops (Ch S) Q zz ({ dst := some d, op := .indexAddr s x y, type := T, pos := pos, after := after, guard := none } :: rest) k listed (fr l) w := by
  subst hn
  obtain ⟨hl, A, cap, rfl, hcap, hA⟩ := hR
  obtain ⟨b, o, rfl, hb, hS, he⟩ := hA (fun h => by subst h; simp at h1)
  exact wg_val (fun w1 _ => r_indexAddr hx hy h0 (by omega)) (h _ _ (he _ _ (List.getElem?_eq_getElem h1)))
/-- A load of what holds no address. -/
theorem wg_load_one {α : Type} {en : En α} {d : Nat} {x : Operand} {E : TypeId} {b o : Nat} {z : α} {v : Value} [hr : One P E] (hx : ev l x = .pointer (some ⟨b, o, none⟩)) (hA : (Ty.enc en).At S w b o z) (hv : en.f z = [v])
    (h : wpLexG P ops (Ch S) Q zz rest (k + 1) (listed.setIfInBounds k true) (fr (l.set d v)) w) :
    wpLexG P ops (Ch S) Q zz ({ dst := some d, op := .load E x, type := T, pos := pos, after := after, guard := none } :: rest) k listed (fr l) w := by
  refine wg_val (fun w1 hG => ?_) h
  obtain ⟨hb, hS, cs, hR, hc⟩ := hA.mv hG (fun _ _ h => h)
  have hR' : cs = en.f z := hR
  rw [hv] at hR'
  subst hR'
  exact r_load_one hx (hc 0 v rfl)
theorem wg_load_row {α : Type} {en : En α} {d : Nat} {x : Operand} {E : TypeId} {b o : Nat} {z : α} {zv : Value} {m by_ : Nat} [hr : Row P E] [hi : Inf P E zv m by_] (hx : ev l x = .pointer (some ⟨b, o, none⟩)) (hA : (Ty.enc en).At S w b o z) (hm : en.n = m)
    (h : wpLexG P ops (Ch S) Q zz rest (k + 1) (listed.setIfInBounds k true) (fr (l.set d (.agg (en.f z).toArray))) w) :
    wpLexG P ops (Ch S) Q zz ({ dst := some d, op := .load E x, type := T, pos := pos, after := after, guard := none } :: rest) k listed (fr l) w := by
  refine wg_val (fun w1 hG => ?_) h
  obtain ⟨hb, hS, cs, hR, hc⟩ := hA.mv hG (fun _ _ h => h)
  have hR' : cs = en.f z := hR
  subst hR'
  exact r_load_row hx hc ((en.hl z).trans hm)
/-! ### The same, looking for their own proofs -/
theorem is_sg (h : wpLexG P ops (Ch S) Q zz ({ dst := d, op := op, type := T, pos := pos, after := after, guard := none } :: rest) k listed (fr l) w) : wpLexG P ops (Ch S) Q zz ({ dst := d, op := op, type := T, pos := pos, after := after, guard := none } :: rest) k listed (fr l) w := h
theorem is_gg {g : Nat × Bool} (h : wpLexG P ops (Ch S) Q zz ({ dst := d, op := op, type := T, pos := pos, after := after, guard := some g } :: rest) k listed (fr l) w) : wpLexG P ops (Ch S) Q zz ({ dst := d, op := op, type := T, pos := pos, after := after, guard := some g } :: rest) k listed (fr l) w := h
theorem is_eg (h : wpLexG P ops (Ch S) Q zz [] k listed (fr l) w) : wpLexG P ops (Ch S) Q zz [] k listed (fr l) w := h
theorem eg {l' : List Value} (h : ∀ w1, Ch S w w1 → Q .normal (fr l') w1) (hl : l = l' := by first | (dsimp only [List.set, Go.Proofs.E.set1, Go.Proofs.E.ev, Go.Proofs.E.nth]; done) | exact rfl) : wpLexG P ops (Ch S) (NoP Q) zz [] k listed (fr l) w := wg_end hl h
theorem gtg {j t : Nat} {b c : Bool} (h : wpLexG P ops (Ch S) Q zz ({ dst := d, op := op, type := T, pos := pos, after := after, guard := none } :: rest) k listed (fr l) w)
    (hj : (ops[j]?).bind (·.dst) = some t := by exact rfl) (hv : ev l (.tmp t) = .bool c := by exact rfl) (hlt : t < l.length := by exact Nat.le_of_ble_eq_true rfl) (hc : c = b := by first | exact rfl | exact decide_eq_true (by omega) | exact decide_eq_false (by omega) | assumption | exact decide_eq_true (by assumption) | exact decide_eq_false (by assumption)) :
    wpLexG P ops (Ch S) Q zz ({ dst := d, op := op, type := T, pos := pos, after := after, guard := some (j, b) } :: rest) k listed (fr l) w := wg_on hj hv hlt hc h
theorem gfg {j t : Nat} {b c nb : Bool} {l' : List Value} (h : wpLexG P ops (Ch S) Q zz rest (k + 1) (listed.setIfInBounds k true) (fr l') w)
    (hj : (ops[j]?).bind (·.dst) = some t := by exact rfl) (hv : ev l (.tmp t) = .bool c := by exact rfl) (hlt : t < l.length := by exact Nat.le_of_ble_eq_true rfl) (hb : (!b) = nb := by exact rfl) (hc : c = nb := by first | exact rfl | exact decide_eq_true (by omega) | exact decide_eq_false (by omega) | assumption | exact decide_eq_true (by assumption) | exact decide_eq_false (by assumption)) (hl : set1 l d undef = l' := by first | (dsimp only [List.set, Go.Proofs.E.set1, Go.Proofs.E.ev, Go.Proofs.E.nth]; done) | exact rfl) :
    wpLexG P ops (Ch S) Q zz ({ dst := d, op := op, type := T, pos := pos, after := after, guard := some (j, b) } :: rest) k listed (fr l) w := by subst hl; exact wg_off hj hv hlt (hc.trans hb.symm) h
theorem gug {j t : Nat} {b : Bool} {l' : List Value} (h : wpLexG P ops (Ch S) Q zz rest (k + 1) (listed.setIfInBounds k true) (fr l') w)
    (hj : (ops[j]?).bind (·.dst) = some t := by exact rfl) (hv : ev l (.tmp t) = undef := by exact rfl) (hlt : t < l.length := by exact Nat.le_of_ble_eq_true rfl) (hl : set1 l d undef = l' := by first | (dsimp only [List.set, Go.Proofs.E.set1, Go.Proofs.E.ev, Go.Proofs.E.nth]; done) | exact rfl) :
    wpLexG P ops (Ch S) Q zz ({ dst := d, op := op, type := T, pos := pos, after := after, guard := some (j, b) } :: rest) k listed (fr l) w := by subst hl; exact wg_off' hj hv hlt h
theorem ixg {α : Type} {t : Ty α} {d : Nat} {x y : Operand} {s e : TypeId} {v : Value} {xs : List α} {q : IntKind} {i : Int} {z : Value} {m by_ : Nat} [hu : Und P s (.slice e)] [hi : Inf P e z m by_]
    (hR : t.Rd S w v xs) (h : ∀ b o a, xs[i.toNat]? = some a → t.At S w b o a → wpLexG P ops (Ch S) Q zz rest (k + 1) (listed.setIfInBounds k true) (fr (l.set d (.pointer (some ⟨b, o, none⟩)))) w)
    (hx : ev l x = v := by exact rfl) (hy : ev l y = .int q i := by exact rfl) (hn : t.n = m := by exact rfl) (h0 : 0 ≤ i := by first | omega | simp) (h1 : i.toNat < xs.length := by first | omega | simp | assumption) :
    wpLexG P ops (Ch S) Q zz ({ dst := some d, op := .indexAddr s x y, type := T, pos := pos, after := after, guard := none } :: rest) k listed (fr l) w := wg_index hx hy hR hn h0 h1 fun b o hA => h b o _ (List.getElem?_eq_getElem h1) hA
theorem ldg {α : Type} {en : En α} {d : Nat} {x : Operand} {E : TypeId} {b o : Nat} {z : α} {v : Value} [hr : One P E] (hA : (Ty.enc en).At S w b o z)
    (h : wpLexG P ops (Ch S) Q zz rest (k + 1) (listed.setIfInBounds k true) (fr (l.set d v)) w) (hx : ev l x = .pointer (some ⟨b, o, none⟩) := by exact rfl) (hv : en.f z = [v] := by exact rfl) :
    wpLexG P ops (Ch S) Q zz ({ dst := some d, op := .load E x, type := T, pos := pos, after := after, guard := none } :: rest) k listed (fr l) w := wg_load_one hx hA hv h
theorem ldrg {α : Type} {en : En α} {d : Nat} {x : Operand} {E : TypeId} {b o : Nat} {z : α} {zv : Value} {m by_ : Nat} [hr : Row P E] [hi : Inf P E zv m by_] (hA : (Ty.enc en).At S w b o z)
    (h : wpLexG P ops (Ch S) Q zz rest (k + 1) (listed.setIfInBounds k true) (fr (l.set d (.agg (en.f z).toArray))) w) (hx : ev l x = .pointer (some ⟨b, o, none⟩) := by exact rfl) (hm : en.n = m := by exact rfl) :
    wpLexG P ops (Ch S) Q zz ({ dst := some d, op := .load E x, type := T, pos := pos, after := after, guard := none } :: rest) k listed (fr l) w := wg_load_row hx hA hm h
/-- A call that hands back one value, whatever has come of the world. -/
theorem cag {f : FuncId} {fn : Func} {args : List Operand} {tys : Array TypeId} {vs : List Value} {v : Value}
    (hc : ∀ w1, Ch S w w1 → Calls P f vs.toArray w1 (Ret fun u w2 => u = v ∧ Ch S w1 w2))
    (h : wpLexG P ops (Ch S) Q zz rest (k + 1) (listed.setIfInBounds k true) (fr (set1 l d v)) w) [hf : Fun P f fn]
    (ha : args.map (ev l) = vs := by first | (dsimp only [List.map, List.set, Go.Proofs.E.set1, Go.Proofs.E.ev, Go.Proofs.E.nth]; done) | exact rfl) :
    wpLexG P ops (Ch S) Q zz ({ dst := d, op := .call { callee := .value (.func f), args := args.toArray, argTypes := tys }, type := T, pos := pos, after := after, guard := none } :: rest) k listed (fr l) w := wg_call ha hc h
end
end Go.Proofs.E
set_option linter.unusedVariables false
set_option linter.unusedSimpArgs false
namespace Go.Proofs.E
open Go Go.RowKit
theorem inBlock_mono {i : Nat} {Q Q' : Exit → Act → World → Prop} (h : ∀ e a w, Q e a w → Q' e a w) {e : Exit} {a : Act} {w : World} (hq : Exit.inBlock i Q e a w) : Exit.inBlock i Q' e a w := by
  cases e with
  | exit id =>
    unfold Exit.inBlock at hq ⊢
    by_cases hc : id = i
    · simp only [hc, if_true] at hq ⊢
      exact h _ _ _ hq
    · simp only [hc, if_false] at hq ⊢
      exact h _ _ _ hq
  | _ => exact h _ _ _ hq
def OutJ (J : List Value → World → Prop) : Exit → Act → World → Prop := fun e a w => e = .normal ∧ ∃ l, a = fr l ∧ J l w
theorem outJ {J : List Value → World → Prop} {l : List Value} {w : World} (h : J l w) : OutJ J .normal (fr l) w := ⟨rfl, l, rfl, h⟩
theorem c_loopJ {P : Program} {c : Code} {i : Nat} {K : Act → World → Prop} {Q : Exit → Act → World → Prop} {l : List Value} {w : World} (I : Nat → List Value → World → Prop) (J : List Value → World → Prop) (n : Nat) (h0 : I n l w)
    (hr : ∀ (k : Nat) (l : List Value) (w : World), I k l w → c.wp P (Exit.then (Goes I k) (Exit.inBlock i (OutJ J))) (fr l) w) (hk : ∀ l w, J l w → K (fr l) w) : (Code.loop c).wp P (Exit.inBlock i (Exit.then K Q)) (fr l) w :=
  wp_mono (c_loop I n h0 hr) fun e a w h => inBlock_mono (fun e a w h => by
    obtain ⟨rfl, l, rfl, hj⟩ := h
    exact hk l w hj) h
/-- The same for any code. -/
theorem c_cutJ {P : Program} {c : Code} {K : Act → World → Prop} {Q : Exit → Act → World → Prop} {l : List Value} {w : World} (J : List Value → World → Prop) (h : c.wp P (OutJ J) (fr l) w) (hk : ∀ l w, J l w → K (fr l) w) : c.wp P (Exit.then K Q) (fr l) w :=
  wp_mono h fun e a w h => by
    obtain ⟨rfl, l, rfl, hj⟩ := h
    exact hk l w hj
end Go.Proofs.E

/- The engine: one lemma for each operation of the model, said over a world of which facts alone are known; frames are lists of values.
   A loop whose ways out all come to the same: what holds behind it is said once. -/
import Derived.WalkKit
import Derived.WalkSpells
import Derived.Deep.MidRow
import Derived.OrdersHeld
import Derived.Laws.BitsLemmas
import Derived.KernelRfl
set_option linter.unusedVariables false
set_option linter.unusedSimpArgs false
namespace Go.Proofs.E
open Go Go.RowKit

/-! ### Frames -/
def nth : List Value → Nat → Value
  | [], _ => undef
  | v :: _, 0 => v
  | _ :: l, n + 1 => nth l n
theorem nth_getD : ∀ (l : List Value) (n : Nat), l.getD n undef = nth l n
  | [], _ => by simp [nth]
  | _ :: _, 0 => by simp [nth]
  | _ :: l, n + 1 => by simpa [nth] using nth_getD l n
def ev (l : List Value) : Operand → Value
  | .tmp t => nth l t
  | .const v => v
  | .global g => .pointer (some ⟨g, 0, none⟩)
  | .func f => .func (.func f) #[] #[]
def fr (l : List Value) : Act := { tmps := l.toArray, defers := [] }
theorem eval_fr (l : List Value) : (fr l).eval = ev l := by
  funext x
  cases x with
  | tmp t =>
    show l.toArray.getD t undef = nth l t
    rw [← nth_getD]
    simp [Array.getD_eq_getD_getElem?, List.getD_eq_getElem?_getD]
  | _ => rfl
theorem put_fr (l : List Value) (d : Nat) (v : Value) : (fr l).put (some d) v = fr (l.set d v) := by
  simp [Act.put, fr]
def set1 (l : List Value) : Option Nat → Value → List Value
  | some d, v => l.set d v
  | none, _ => l
theorem put_set1 (l : List Value) (d : Option Nat) (v : Value) : (fr l).put d v = fr (set1 l d v) := by
  cases d
  · rfl
  · exact put_fr l _ v

/-- What an operation does, with its operands' values. -/
def exec (ρ : Operand → Value) (op : Op) (T : TypeId) : Sem Next := execOp ρ { dst := none, op := op, type := T, pos := "", after := #[], guard := none }
theorem exec_eq (ρ : Operand → Value) (o : Oper) : execOp ρ o = exec ρ o.op o.type := by
  cases o; rfl

section
variable {P : Program} {ops : Array Oper} {Q : Exit → Act → World → Prop} {rest : List Oper} {l : List Value} {w : World}
  {op : Op} {T : TypeId} {pos : String} {after : Array Edge}

theorem wl_any {o : Oper} (hg : o.guard = none) (h : o.wp P (fr l) w (wpList P ops Q rest) Q) : wpList P ops Q (o :: rest) (fr l) w := by
  unfold wpList
  rw [if_pos (by simp [Region.wanted, hg])]
  exact .inl h
theorem wl_val {d : Nat} {v : Value} {w' : World} (hr : (exec (ev l) op T).run P w = .ok (.value v) w') (h : wpList P ops Q rest (fr (l.set d v)) w') :
    wpList P ops Q ({ dst := some d, op := op, type := T, pos := pos, after := after, guard := none } :: rest) (fr l) w := by
  refine wl_any rfl ?_
  unfold Oper.wp
  rw [exec_eq, eval_fr, hr, Oper.upon_value, put_fr]
  exact h
theorem wl_skip {w' : World} (hr : (exec (ev l) op T).run P w = .ok .skip w') (h : wpList P ops Q rest (fr l) w') :
    wpList P ops Q ({ dst := none, op := op, type := T, pos := pos, after := after, guard := none } :: rest) (fr l) w := by
  refine wl_any rfl ?_
  unfold Oper.wp
  rw [exec_eq, eval_fr, hr, Oper.upon_skip]
  exact h
/-- A call that hands something back. -/
def Ret (R : Value → World → Prop) : Ending → World → Prop := fun e w' => ∃ v, e = .returned v ∧ R v w'
theorem wl_call {d : Option Nat} {f : FuncId} {args : Array Value} {w' : World} {R : Value → World → Prop} (hr : (exec (ev l) op T).run P w = .ok (.enter f args) w')
    (hc : Calls P f args w' (Ret R)) (h : ∀ v w'', R v w'' → wpList P ops Q rest (fr (set1 l d v)) w'') :
    wpList P ops Q ({ dst := d, op := op, type := T, pos := pos, after := after, guard := none } :: rest) (fr l) w := by
  refine wl_any rfl ?_
  unfold Oper.wp
  rw [exec_eq, eval_fr, hr, Oper.upon_enter]
  refine hc.mono fun e w'' he => ?_
  obtain ⟨v, rfl, hv⟩ := he
  show wpList P ops Q rest ((fr l).put d v) w''
  rw [put_set1]
  exact h v w'' hv
theorem wl_nil (h : Q .normal (fr l) w) : wpList P ops Q [] (fr l) w := h
/-- A guarded operation: its guard's value is known. -/
theorem wl_on {d : Option Nat} {j t : Nat} {b c : Bool} (hj : (ops[j]?).bind (·.dst) = some t) (hv : ev l (.tmp t) = .bool c) (hlt : t < l.length) (hc : c = b)
    (h : wpList P ops Q ({ dst := d, op := op, type := T, pos := pos, after := after, guard := none } :: rest) (fr l) w) :
    wpList P ops Q ({ dst := d, op := op, type := T, pos := pos, after := after, guard := some (j, b) } :: rest) (fr l) w := by
  subst hc
  have hy : yielded ops (fr l).tmps j = some c := by
    unfold yielded
    rw [hj]
    have : l[t]? = some (.bool c) := by
      have h1 : nth l t = .bool c := hv
      rw [← nth_getD, List.getD_eq_getElem?_getD] at h1
      rw [List.getElem?_eq_getElem hlt] at h1 ⊢
      simpa using h1
    simp [fr, this]
  unfold wpList at h ⊢
  rw [if_pos (by simp [Region.wanted])] at h
  rw [if_pos (by simp [Region.wanted, hy])]
  exact h
theorem wl_off {d : Option Nat} {j t : Nat} {b c : Bool} (hj : (ops[j]?).bind (·.dst) = some t) (hv : ev l (.tmp t) = .bool c) (hlt : t < l.length) (hn : c = !b)
    (h : wpList P ops Q rest (fr (set1 l d undef)) w) :
    wpList P ops Q ({ dst := d, op := op, type := T, pos := pos, after := after, guard := some (j, b) } :: rest) (fr l) w := by
  have hy : yielded ops (fr l).tmps j = some c := by
    unfold yielded
    rw [hj]
    have : l[t]? = some (.bool c) := by
      have h1 : nth l t = .bool c := hv
      rw [← nth_getD, List.getD_eq_getElem?_getD] at h1
      rw [List.getElem?_eq_getElem hlt] at h1 ⊢
      simpa using h1
    simp [fr, this]
  unfold wpList
  rw [if_neg (by simp [Region.wanted, hy, hn])]
  show wpList P ops Q rest ((fr l).put d undef) w
  rw [put_set1]
  exact h
/-- The guard's operation was itself not wanted. -/
theorem wl_off' {d : Option Nat} {j t : Nat} {b : Bool} (hj : (ops[j]?).bind (·.dst) = some t) (hv : ev l (.tmp t) = undef) (hlt : t < l.length)
    (h : wpList P ops Q rest (fr (set1 l d undef)) w) :
    wpList P ops Q ({ dst := d, op := op, type := T, pos := pos, after := after, guard := some (j, b) } :: rest) (fr l) w := by
  have hy : yielded ops (fr l).tmps j = none := by
    unfold yielded
    rw [hj]
    have : l[t]? = some undef := by
      have h1 : nth l t = undef := hv
      rw [← nth_getD, List.getD_eq_getElem?_getD] at h1
      rw [List.getElem?_eq_getElem hlt] at h1 ⊢
      simpa using h1
    simp [fr, this, undef]
  unfold wpList
  rw [if_neg (by simp [Region.wanted, hy])]
  show wpList P ops Q rest ((fr l).put d undef) w
  rw [put_set1]
  exact h
end

/-! ### Code -/
section
variable {P : Program} {Q : Exit → Act → World → Prop} {l : List Value} {w : World}
theorem c_region {id : Nat} {os : List Oper} (h : wpList P os.toArray Q os (fr l) w) : (Code.region id os.toArray false).wp P Q (fr l) w := wp_region_lit h
theorem c_cond {c : Operand} {x y : Code} {p : Prop} [Decidable p] (hc : ev l c = .bool (decide p)) (ht : p → x.wp P Q (fr l) w) (hf : ¬ p → y.wp P Q (fr l) w) : (Code.cond c x y).wp P Q (fr l) w := by
  by_cases hp : p
  · exact wp_cond (t := true) (by rw [eval_fr, hc, decide_eq_true hp]) (ht hp)
  · exact wp_cond (t := false) (by rw [eval_fr, hc, decide_eq_false hp]) (hf hp)
theorem c_condb {c : Operand} {x y : Code} {b : Bool} (hc : ev l c = .bool b) (ht : b = true → x.wp P Q (fr l) w) (hf : b = false → y.wp P Q (fr l) w) : (Code.cond c x y).wp P Q (fr l) w := by
  cases b
  · exact wp_cond (t := false) (by rw [eval_fr, hc]) (hf rfl)
  · exact wp_cond (t := true) (by rw [eval_fr, hc]) (ht rfl)
theorem x_then {K : Act → World → Prop} {a : Act} (h : K a w) : Exit.then K Q .normal a w := h
theorem x_block_exit {a : Act} {i : Nat} (h : Q .normal a w) : Exit.inBlock i Q (.exit i) a w := by
  unfold Exit.inBlock
  simp
  exact h
theorem x_block_other {a : Act} {i j : Nat} (hj : j ≠ i) (h : Q (.exit j) a w) : Exit.inBlock i Q (.exit j) a w := by
  unfold Exit.inBlock
  simp [hj]
  exact h
/-- A loop whose rounds are counted down by a number that no slot holds. -/
def Goes (I : Nat → List Value → World → Prop) (k : Nat) (a : Act) (w : World) : Prop := ∃ (k' : Nat) (l' : List Value), k' < k ∧ a = fr l' ∧ I k' l' w
theorem c_loop {c : Code} (I : Nat → List Value → World → Prop) (n : Nat) (h0 : I n l w)
    (hr : ∀ (k : Nat) (l : List Value) (w : World), I k l w → c.wp P (Exit.then (Goes I k) Q) (fr l) w) : (Code.loop c).wp P Q (fr l) w := by
  have hdec : ∀ (a : Act) (w : World) (h : ∃ k, ∃ l, a = fr l ∧ I k l w), ∃ m, (∃ l, a = fr l ∧ I m l w) ∧ ∀ j, (∃ l, a = fr l ∧ I j l w) → m ≤ j := by
    intro a w h
    obtain ⟨k, hk⟩ := h
    induction k using Nat.strongRecOn with
    | _ k ih =>
      by_cases hex : ∃ j, j < k ∧ ∃ l, a = fr l ∧ I j l w
      · obtain ⟨j, hj, hjl⟩ := hex
        exact ih j hj hjl
      · exact ⟨k, hk, fun j hj => Nat.le_of_not_lt fun hlt => hex ⟨j, hlt, hj⟩⟩
  let μ : Act → World → Nat := fun a w => @dite _ (∃ k, ∃ l, a = fr l ∧ I k l w) (Classical.propDecidable _) (fun h => (hdec a w h).choose) (fun _ => 0)
  refine wp_loop (fun a w => ∃ k, ∃ l, a = fr l ∧ I k l w) μ ⟨n, l, rfl, h0⟩ ?_
  intro a w h
  have hμ : μ a w = (hdec a w h).choose := by simp only [μ]; rw [dif_pos h]
  obtain ⟨⟨l', rfl, hl'⟩, hmin⟩ := (hdec a w h).choose_spec
  rw [← hμ] at hl'
  refine wp_mono (hr _ l' w hl') ?_
  intro e a' w' he
  cases e with
  | normal =>
    obtain ⟨k', l'', hk', rfl, hI'⟩ := he
    have h' : ∃ k, ∃ l, fr l'' = fr l ∧ I k l w' := ⟨k', l'', rfl, hI'⟩
    refine ⟨h', ?_⟩
    have hμ' : μ (fr l'') w' = (hdec _ w' h').choose := by simp only [μ]; rw [dif_pos h']
    rw [hμ']
    exact Nat.lt_of_le_of_lt ((hdec _ w' h').choose_spec.2 k' ⟨l'', rfl, hI'⟩) hk'
  | _ => exact he
/-- A round's end. -/
theorem x_goes {I : Nat → List Value → World → Prop} {k : Nat} (k' : Nat) {l' : List Value} (hl : l = l') (hk : k' < k) (h : I k' l' w) : Goes I k (fr l) w := ⟨k', l', hk, by rw [hl], h⟩
/-- The way in. -/
theorem enter {f : FuncId} {fn : Func} {c : Code} {args : Array Value} {R : Ending → World → Prop} (l : List Value)
    (hf : P.funcs[f]? = some fn) (hb : fn.body = some c) (hl : args.toList ++ List.replicate (fn.ntmps - args.size) undef = l)
    (h : c.wp P (bodyPost P fn R) (fr l) w) : Calls P f args w R := by
  refine calls_of_wp hf hb ?_
  have : (args ++ Array.replicate (fn.ntmps - args.size) undef : Array Value) = l.toArray := by
    rw [← hl]
    apply Array.ext'
    simp
  rw [this]
  exact h
/-- The ways out. -/
theorem ev_tmp (l : List Value) (t : Nat) : l.toArray.getD t undef = ev l (.tmp t) := congrFun (eval_fr l) (.tmp t)
theorem out1 {fn : Func} {t : Nat} {R : Value → World → Prop} (hr : fn.results = #[.tmp t]) (h : R (ev l (.tmp t)) w) : bodyPost P fn (Ret R) .ret (fr l) w := by
  refine ⟨rfl, ev l (.tmp t), ?_, _, rfl, h⟩
  have := results_tmp hr l.toArray P w
  rw [ev_tmp] at this
  exact this
theorem out2 {fn : Func} {t u : Nat} {R : Value → World → Prop} (hr : fn.results = #[.tmp t, .tmp u]) (h : R (.tuple #[ev l (.tmp t), ev l (.tmp u)]) w) : bodyPost P fn (Ret R) .ret (fr l) w := by
  refine ⟨rfl, _, ?_, _, rfl, h⟩
  have := results_tmp2 hr l.toArray P w
  rw [ev_tmp, ev_tmp] at this
  exact this
theorem out0 {fn : Func} {R : Value → World → Prop} (hr : fn.results = #[]) (h : R (.tuple #[]) w) : bodyPost P fn (Ret R) .normal (fr l) w :=
  ⟨rfl, _, results_none hr l.toArray P w, _, rfl, h⟩
end

/-! ### What is known of a program's tables -/
class Und (P : Program) (t : TypeId) (d : outParam TypeDesc) : Prop where
  out : P.underlying t = some d
/-- A type whose values are rows of cells. -/
class Row (P : Program) (t : TypeId) : Prop where
  out : ∃ d, P.underlying t = some d ∧ d.isRow = true
/-- A type whose values are one cell. -/
class One (P : Program) (t : TypeId) : Prop where
  out : ∃ d, P.underlying t = some d ∧ d.isRow = false
class Inf (P : Program) (t : TypeId) (z : outParam Value) (n b : outParam Nat) : Prop where
  out : (P.info? t).map (fun i => (i.zero, i.size, i.bytes)) = some (some z, n, b)
class Fun (P : Program) (f : FuncId) (fn : outParam Func) : Prop where
  out : P.funcs[f]? = some fn
  body : fn.body.isNone = false
  name : (fn.name == "runtime.NumGoroutine") = false
class Fld (P : Program) (s : TypeId) (i : Nat) (off : outParam Nat) (t : outParam TypeId) : Prop where
  out : ∃ (fs : Array Field) (f : Field), P.underlying s = some (.struct fs) ∧ fs[i]? = some f ∧ f.offset = off ∧ f.type = t

/-! ### Operations that only reckon -/
section
variable {P : Program} {l : List Value} {w : World} {T : TypeId}
theorem r_move (x : Operand) : (exec (ev l) (.move x) T).run P w = .ok (.value (ev l x)) w := rfl
theorem r_assign (x : Operand) : (exec (ev l) (.assign x) T).run P w = .ok (.value (ev l x)) w := rfl
theorem r_pick {c a b : Operand} {t : Bool} (hc : ev l c = .bool t) : (exec (ev l) (.pick c a b) T).run P w = .ok (.value (if t then ev l a else ev l b)) w := by
  simp [exec, execOp, hc, asBool]
theorem r_pick_t {c a b : Operand} {t : Bool} (hc : ev l c = .bool t) (ht : t = true) : (exec (ev l) (.pick c a b) T).run P w = .ok (.value (ev l a)) w := by subst ht; exact r_pick hc
theorem r_pick_f {c a b : Operand} {t : Bool} (hc : ev l c = .bool t) (ht : t = false) : (exec (ev l) (.pick c a b) T).run P w = .ok (.value (ev l b)) w := by subst ht; exact r_pick hc
section
variable {x y : Operand} {t u : TypeId} {k : IntKind} {a b : Int} (hx : ev l x = .int k a) (hy : ev l y = .int k b)
include hx hy
theorem r_add : (exec (ev l) (.binOp .add t x y u) T).run P w = .ok (.value (.int k (k.wrap (a + b)))) w := by
  simp [exec, execOp, hx, hy, eqGuard, binOp, Op.intArith]
theorem r_sub : (exec (ev l) (.binOp .sub t x y u) T).run P w = .ok (.value (.int k (k.wrap (a - b)))) w := by
  simp [exec, execOp, hx, hy, eqGuard, binOp, Op.intArith]
theorem r_mul : (exec (ev l) (.binOp .mul t x y u) T).run P w = .ok (.value (.int k (k.wrap (a * b)))) w := by
  simp [exec, execOp, hx, hy, eqGuard, binOp, Op.intArith]
theorem r_quo (h0 : b ≠ 0) : (exec (ev l) (.binOp .quo t x y u) T).run P w = .ok (.value (.int k (k.wrap (a.tdiv b)))) w := by
  simp [exec, execOp, hx, hy, eqGuard, binOp, Op.intDiv, h0]
theorem r_rem (h0 : b ≠ 0) : (exec (ev l) (.binOp .rem t x y u) T).run P w = .ok (.value (.int k (a.tmod b))) w := by
  simp [exec, execOp, hx, hy, eqGuard, binOp, Op.intDiv, h0]
theorem r_and : (exec (ev l) (.binOp .and t x y u) T).run P w = .ok (.value (.int k (k.wrap (BitVec.ofInt k.bits a &&& BitVec.ofInt k.bits b).toNat))) w := by
  simp [exec, execOp, hx, hy, eqGuard, binOp, Op.intBits]
theorem r_or : (exec (ev l) (.binOp .or t x y u) T).run P w = .ok (.value (.int k (k.wrap (BitVec.ofInt k.bits a ||| BitVec.ofInt k.bits b).toNat))) w := by
  simp [exec, execOp, hx, hy, eqGuard, binOp, Op.intBits]
theorem r_xor : (exec (ev l) (.binOp .xor t x y u) T).run P w = .ok (.value (.int k (k.wrap (BitVec.ofInt k.bits a ^^^ BitVec.ofInt k.bits b).toNat))) w := by
  simp [exec, execOp, hx, hy, eqGuard, binOp, Op.intBits]
theorem r_eql : (exec (ev l) (.binOp .eql t x y u) T).run P w = .ok (.value (.bool (decide (a = b)))) w := by
  simp [exec, execOp, hx, hy, eqGuard, binOp, Op.intCmp]; rfl
theorem r_neq : (exec (ev l) (.binOp .neq t x y u) T).run P w = .ok (.value (.bool (decide (a ≠ b)))) w := by
  simp [exec, execOp, hx, hy, eqGuard, binOp, Op.intCmp]; rfl
theorem r_lss : (exec (ev l) (.binOp .lss t x y u) T).run P w = .ok (.value (.bool (decide (a < b)))) w := by
  simp [exec, execOp, hx, hy, eqGuard, binOp, Op.intCmp]
theorem r_leq : (exec (ev l) (.binOp .leq t x y u) T).run P w = .ok (.value (.bool (decide (a ≤ b)))) w := by
  simp [exec, execOp, hx, hy, eqGuard, binOp, Op.intCmp]
theorem r_gtr : (exec (ev l) (.binOp .gtr t x y u) T).run P w = .ok (.value (.bool (decide (b < a)))) w := by
  simp [exec, execOp, hx, hy, eqGuard, binOp, Op.intCmp]
theorem r_geq : (exec (ev l) (.binOp .geq t x y u) T).run P w = .ok (.value (.bool (decide (b ≤ a)))) w := by
  simp [exec, execOp, hx, hy, eqGuard, binOp, Op.intCmp]
end
section
variable {x y : Operand} {t u : TypeId} {k q : IntKind} {a b : Int} (hx : ev l x = .int k a) (hy : ev l y = .int q b) (h0 : 0 ≤ b)
include hx hy h0
theorem r_shl : (exec (ev l) (.binOp .shl t x y u) T).run P w = .ok (.value (.int k (k.wrap (a * 2 ^ min b.toNat k.bits)))) w := by
  simp [exec, execOp, hx, hy, eqGuard, binOp, Op.shift, show ¬ b < 0 by omega]
theorem r_shr : (exec (ev l) (.binOp .shr t x y u) T).run P w = .ok (.value (.int k (a.fdiv (2 ^ min b.toNat k.bits)))) w := by
  simp [exec, execOp, hx, hy, eqGuard, binOp, Op.shift, show ¬ b < 0 by omega]
end
/-- A result whose number is known to be another spelling. -/
theorem r_to {op : Op} {k : IntKind} {a b : Int} {w' : World} (h : (exec (ev l) op T).run P w = .ok (.value (.int k a)) w') (e : a = b) : (exec (ev l) op T).run P w = .ok (.value (.int k b)) w' := e ▸ h
theorem r_not {x : Operand} {a : Bool} {t : TypeId} (hx : ev l x = .bool a) : (exec (ev l) (.unOp .not t x) T).run P w = .ok (.value (.bool (!a))) w := by
  simp [exec, execOp, hx, Op.unary]
theorem r_neg {x : Operand} {a : Int} {k : IntKind} {t : TypeId} (hx : ev l x = .int k a) : (exec (ev l) (.unOp .neg t x) T).run P w = .ok (.value (.int k (k.wrap (-a)))) w := by
  simp [exec, execOp, hx, Op.unary, Op.intArith]
theorem r_compl {x : Operand} {a : Int} {k : IntKind} {t : TypeId} (hx : ev l x = .int k a) : (exec (ev l) (.unOp .xor t x) T).run P w = .ok (.value (.int k (k.wrap (BitVec.ofInt k.bits (if k.signed = true then -1 else k.max) ^^^ BitVec.ofInt k.bits a).toNat))) w := by
  simp [exec, execOp, hx, Op.unary, Op.intBits]
theorem r_conv {x : Operand} {a : Int} {k q : IntKind} {s t : TypeId} {d : TypeDesc} [hs : Und P s d] [ht : Und P t (.int k)] (hx : ev l x = .int q a) : (exec (ev l) (.convert s t x) T).run P w = .ok (.value (.int k (k.wrap a))) w := by
  simp [exec, execOp, hx, convert, run_underlying hs.out, run_underlying ht.out, Conv.intToInt]
theorem r_call {f : FuncId} {fn : Func} {args : List Operand} {tys : Array TypeId} [hf : Fun P f fn] :
    (exec (ev l) (.call { callee := .value (.func f), args := args.toArray, argTypes := tys }) T).run P w = .ok (.enter f (args.map (ev l)).toArray) w := by
  have h1 := hf.body
  have h2 := hf.name
  cases h : fn.body with
  | none => rw [h] at h1; cases h1
  | some c => simp [exec, execOp, resolve, Deferred.ofValue, ev, invoke, callFunc, program, Sem.run, hf.out, h, by simpa using h2]
/-- A call of a function of the program. -/
theorem wl_callf {ops : Array Oper} {Q : Exit → Act → World → Prop} {rest : List Oper} {pos : String} {after : Array Edge} {d : Option Nat} {f : FuncId} {fn : Func} {args : List Operand} {tys : Array TypeId} [hf : Fun P f fn] {vs : List Value} {R : Value → World → Prop}
    (ha : args.map (ev l) = vs) (hc : Calls P f vs.toArray w (Ret R)) (h : ∀ v w', R v w' → wpList P ops Q rest (fr (set1 l d v)) w') :
    wpList P ops Q ({ dst := d, op := .call { callee := .value (.func f), args := args.toArray, argTypes := tys }, type := T, pos := pos, after := after, guard := none } :: rest) (fr l) w := by
  subst ha
  exact wl_call r_call hc h
theorem r_len {x : Operand} {A : Option Addr} {n c : Nat} {t e : TypeId} [ht : Und P t (.slice e)] (hx : ev l x = .slice A n c) : (exec (ev l) (.call { callee := .builtin .len, args := #[x], argTypes := #[t] }) T).run P w = .ok (.value (.int .i64 n)) w := by
  simp [exec, execOp, resolve, invoke, builtin, Builtin.len_, hx, run_underlying ht.out, goInt]
theorem r_lens {x : Operand} {s : ByteArray} {t : TypeId} [ht : Und P t .string] (hx : ev l x = .string s) : (exec (ev l) (.call { callee := .builtin .len, args := #[x], argTypes := #[t] }) T).run P w = .ok (.value (.int .i64 s.size)) w := by
  simp [exec, execOp, resolve, invoke, builtin, Builtin.len_, hx, run_underlying ht.out, goInt]
theorem r_extract {x : Operand} {vs : Array Value} {i : Nat} {v : Value} (hx : ev l x = .tuple vs) (hv : vs[i]? = some v) : (exec (ev l) (.extract x i) T).run P w = .ok (.value v) w := by
  simp [exec, execOp, Instr.extract, hx, hv]
theorem r_nilCheck {x : Operand} {a : Addr} (hx : ev l x = .pointer (some a)) : (exec (ev l) (.nilCheck x) T).run P w = .ok (.value (.pointer (some a))) w := by
  simp [exec, execOp, hx]
end

/-! ### One step, by lemmas that look for their own proofs -/
section
def rng : IntKind → Int × Int
  | .i8 => (-128, 127) | .i16 => (-32768, 32767) | .i32 => (-2147483648, 2147483647) | .i64 => (-9223372036854775808, 9223372036854775807)
  | .u8 => (0, 255) | .u16 => (0, 65535) | .u32 => (0, 4294967295) | .u64 => (0, 18446744073709551615)
theorem wrap_rng {k : IntKind} {a lo hi : Int} (h : rng k = (lo, hi)) (h1 : lo ≤ a) (h2 : a ≤ hi) : k.wrap a = a := by
  cases k <;> simp only [rng, Prod.mk.injEq] at h <;> obtain ⟨rfl, rfl⟩ := h <;> simp [IntKind.wrap, IntKind.signed, IntKind.bits] <;> omega
variable {P : Program} {ops : Array Oper} {Q : Exit → Act → World → Prop} {rest : List Oper} {l : List Value} {w : World} {op : Op} {T : TypeId} {pos : String} {after : Array Edge}
/-- What stands at the goal's head: cheap to ask. -/
theorem is_st {d : Nat} (h : wpList P ops Q ({ dst := some d, op := op, type := T, pos := pos, after := after, guard := none } :: rest) (fr l) w) : wpList P ops Q ({ dst := some d, op := op, type := T, pos := pos, after := after, guard := none } :: rest) (fr l) w := h
theorem is_gd {d : Option Nat} {g : Nat × Bool} (h : wpList P ops Q ({ dst := d, op := op, type := T, pos := pos, after := after, guard := some g } :: rest) (fr l) w) : wpList P ops Q ({ dst := d, op := op, type := T, pos := pos, after := after, guard := some g } :: rest) (fr l) w := h
theorem is_en (h : wpList P ops Q [] (fr l) w) : wpList P ops Q [] (fr l) w := h
/-- One operation that only reckons. -/
theorem st {d : Nat} {v : Value} {l' : List Value} (h : wpList P ops Q rest (fr l') w)
    (hr : (exec (ev l) op T).run P w = .ok (.value v) w := by
      first
      | (with_reducible apply Go.Proofs.E.r_move)
      | (with_reducible apply Go.Proofs.E.r_assign)
      | ((with_reducible apply Go.Proofs.E.r_to (Go.Proofs.E.r_add ?hx ?hy) ?hw); (case hx => exact rfl); (case hy => exact rfl); (case hw => exact Go.Proofs.E.wrap_rng (by exact rfl) (by omega) (by omega)))
      | ((with_reducible apply Go.Proofs.E.r_add ?hx ?hy); (case hx => exact rfl); (case hy => exact rfl))
      | ((with_reducible apply Go.Proofs.E.r_to (Go.Proofs.E.r_sub ?hx ?hy) ?hw); (case hx => exact rfl); (case hy => exact rfl); (case hw => exact Go.Proofs.E.wrap_rng (by exact rfl) (by omega) (by omega)))
      | ((with_reducible apply Go.Proofs.E.r_sub ?hx ?hy); (case hx => exact rfl); (case hy => exact rfl))
      | ((with_reducible apply Go.Proofs.E.r_to (Go.Proofs.E.r_mul ?hx ?hy) ?hw); (case hx => exact rfl); (case hy => exact rfl); (case hw => exact Go.Proofs.E.wrap_rng (by exact rfl) (by omega) (by omega)))
      | ((with_reducible apply Go.Proofs.E.r_mul ?hx ?hy); (case hx => exact rfl); (case hy => exact rfl))
      | ((with_reducible apply Go.Proofs.E.r_lss ?hx ?hy); (case hx => exact rfl); (case hy => exact rfl))
      | ((with_reducible apply Go.Proofs.E.r_leq ?hx ?hy); (case hx => exact rfl); (case hy => exact rfl))
      | ((with_reducible apply Go.Proofs.E.r_gtr ?hx ?hy); (case hx => exact rfl); (case hy => exact rfl))
      | ((with_reducible apply Go.Proofs.E.r_geq ?hx ?hy); (case hx => exact rfl); (case hy => exact rfl))
      | ((with_reducible apply Go.Proofs.E.r_eql ?hx ?hy); (case hx => exact rfl); (case hy => exact rfl))
      | ((with_reducible apply Go.Proofs.E.r_neq ?hx ?hy); (case hx => exact rfl); (case hy => exact rfl))
      | ((with_reducible apply Go.Proofs.E.r_not ?hx); (case hx => exact rfl))
      | ((with_reducible apply Go.Proofs.E.r_len ?hx); (case hx => exact rfl))
      | ((with_reducible apply Go.Proofs.E.r_lens ?hx); (case hx => exact rfl))
      | ((with_reducible apply Go.Proofs.E.r_nilCheck ?hx); (case hx => exact rfl))
      | ((with_reducible apply Go.Proofs.E.r_extract ?hx ?hy); (case hx => exact rfl); (case hy => exact rfl))
      | ((with_reducible apply Go.Proofs.E.r_to (Go.Proofs.E.r_conv ?hx) ?hw); (case hx => exact rfl); (case hw => exact Go.Proofs.E.wrap_rng (by exact rfl) (by omega) (by omega)))
      | ((with_reducible apply Go.Proofs.E.r_conv ?hx); (case hx => exact rfl))
      | ((with_reducible apply Go.Proofs.E.r_pick_t ?hx ?hb); (case hx => exact rfl); (case hb => first | exact rfl | exact decide_eq_true (by omega) | exact decide_eq_false (by omega) | assumption | exact decide_eq_true (by assumption) | exact decide_eq_false (by assumption)))
      | ((with_reducible apply Go.Proofs.E.r_pick_f ?hx ?hb); (case hx => exact rfl); (case hb => first | exact rfl | exact decide_eq_true (by omega) | exact decide_eq_false (by omega) | assumption | exact decide_eq_true (by assumption) | exact decide_eq_false (by assumption)))
      | ((with_reducible apply Go.Proofs.E.r_neg ?hx); (case hx => exact rfl))
      | ((with_reducible apply Go.Proofs.E.r_shl ?hx ?hy ?h0); (case hx => exact rfl); (case hy => exact rfl); (case h0 => omega))
      | ((with_reducible apply Go.Proofs.E.r_shr ?hx ?hy ?h0); (case hx => exact rfl); (case hy => exact rfl); (case h0 => omega))
      | ((with_reducible apply Go.Proofs.E.r_quo ?hx ?hy ?h0); (case hx => exact rfl); (case hy => exact rfl); (case h0 => omega))
      | ((with_reducible apply Go.Proofs.E.r_rem ?hx ?hy ?h0); (case hx => exact rfl); (case hy => exact rfl); (case h0 => omega)))
    (hl : l.set d v = l' := by first | (dsimp only [List.set, Go.Proofs.E.set1, Go.Proofs.E.ev, Go.Proofs.E.nth]; done) | exact rfl) :
    wpList P ops Q ({ dst := some d, op := op, type := T, pos := pos, after := after, guard := none } :: rest) (fr l) w := by subst hl; exact wl_val hr h
theorem en {l' : List Value} (h : Q .normal (fr l') w) (hl : l = l' := by first | (dsimp only [List.set, Go.Proofs.E.set1, Go.Proofs.E.ev, Go.Proofs.E.nth]; done) | exact rfl) : wpList P ops Q [] (fr l) w := by subst hl; exact h
theorem gt {d : Option Nat} {j t : Nat} {b c : Bool} (h : wpList P ops Q ({ dst := d, op := op, type := T, pos := pos, after := after, guard := none } :: rest) (fr l) w)
    (hj : (ops[j]?).bind (·.dst) = some t := by exact rfl) (hv : ev l (.tmp t) = .bool c := by exact rfl) (hlt : t < l.length := by exact Nat.le_of_ble_eq_true rfl)
    (hc : c = b := by first | exact rfl | exact decide_eq_true (by omega) | exact decide_eq_false (by omega) | assumption | exact decide_eq_true (by assumption) | exact decide_eq_false (by assumption)) :
    wpList P ops Q ({ dst := d, op := op, type := T, pos := pos, after := after, guard := some (j, b) } :: rest) (fr l) w := wl_on hj hv hlt hc h
theorem gf {d : Option Nat} {j t : Nat} {b c nb : Bool} {l' : List Value} (h : wpList P ops Q rest (fr l') w)
    (hj : (ops[j]?).bind (·.dst) = some t := by exact rfl) (hv : ev l (.tmp t) = .bool c := by exact rfl) (hlt : t < l.length := by exact Nat.le_of_ble_eq_true rfl)
    (hb : (!b) = nb := by exact rfl) (hc : c = nb := by first | exact rfl | exact decide_eq_true (by omega) | exact decide_eq_false (by omega) | assumption | exact decide_eq_true (by assumption) | exact decide_eq_false (by assumption)) (hl : set1 l d undef = l' := by first | (dsimp only [List.set, Go.Proofs.E.set1, Go.Proofs.E.ev, Go.Proofs.E.nth]; done) | exact rfl) :
    wpList P ops Q ({ dst := d, op := op, type := T, pos := pos, after := after, guard := some (j, b) } :: rest) (fr l) w := by subst hl; exact wl_off hj hv hlt (hc.trans hb.symm) h
theorem gu {d : Option Nat} {j t : Nat} {b : Bool} {l' : List Value} (h : wpList P ops Q rest (fr l') w)
    (hj : (ops[j]?).bind (·.dst) = some t := by exact rfl) (hv : ev l (.tmp t) = undef := by exact rfl) (hlt : t < l.length := by exact Nat.le_of_ble_eq_true rfl) (hl : set1 l d undef = l' := by first | (dsimp only [List.set, Go.Proofs.E.set1, Go.Proofs.E.ev, Go.Proofs.E.nth]; done) | exact rfl) :
    wpList P ops Q ({ dst := d, op := op, type := T, pos := pos, after := after, guard := some (j, b) } :: rest) (fr l) w := by subst hl; exact wl_off' hj hv hlt h
/-- A call, its contract at hand. -/
theorem ca {d : Option Nat} {f : FuncId} {fn : Func} {args : List Operand} {tys : Array TypeId} {vs : List Value} {R : Value → World → Prop}
    (hc : Calls P f vs.toArray w (Ret R)) (h : ∀ v w', R v w' → wpList P ops Q rest (fr (set1 l d v)) w') [hf : Fun P f fn]
    (ha : args.map (ev l) = vs := by first | (dsimp only [List.map, List.set, Go.Proofs.E.set1, Go.Proofs.E.ev, Go.Proofs.E.nth]; done) | exact rfl) :
    wpList P ops Q ({ dst := d, op := .call { callee := .value (.func f), args := args.toArray, argTypes := tys }, type := T, pos := pos, after := after, guard := none } :: rest) (fr l) w := wl_callf ha hc h
/-- What a frame's other slots hold. -/
theorem exj {l : List Value} {F : (Nat → Value) → List Value} (h : l = F (nth l)) : ∃ j, l = F j := ⟨nth l, h⟩
end
/-! ### Short steps: the code's own -/
class Stp (G : Prop) (H : outParam Prop) : Prop where
  out : H → G
theorem ws {G H : Prop} [s : Stp G H] (h : H) : G := s.out h
section
variable {P : Program} {Q : Exit → Act → World → Prop} {K : Act → World → Prop} {a : Act} {w : World}
instance stp_then : Stp (Exit.then K Q .normal a w) (K a w) := ⟨fun h => h⟩
instance stp_then_ret : Stp (Exit.then K Q .ret a w) (Q .ret a w) := ⟨fun h => h⟩
instance stp_then_exit {i : Nat} : Stp (Exit.then K Q (.exit i) a w) (Q (.exit i) a w) := ⟨fun h => h⟩
instance stp_seq {x y : Code} : Stp ((Code.seq x y).wp P Q a w) (x.wp P (Exit.then (y.wp P Q) Q) a w) := ⟨fun h => wp_seq h⟩
instance stp_block {id : Nat} {c : Code} : Stp ((Code.block id c).wp P Q a w) (c.wp P (Exit.inBlock id Q) a w) := ⟨fun h => wp_block h⟩
instance stp_skip : Stp (Code.skip.wp P Q a w) (Q .normal a w) := ⟨fun h => wp_skip h⟩
instance stp_label {l : Nat} : Stp ((Code.label l).wp P Q a w) (Q .normal a w) := ⟨fun h => wp_label h⟩
instance stp_exit {id : Nat} : Stp ((Code.exit id).wp P Q a w) (Q (.exit id) a w) := ⟨fun h => wp_exit h⟩
instance stp_ret : Stp (Code.ret.wp P Q a w) (Q .ret a w) := ⟨fun h => wp_ret h⟩
instance stp_blk {i : Nat} : Stp (Exit.inBlock i Q .normal a w) (Q .normal a w) := ⟨fun h => h⟩
instance stp_blk_ret {i : Nat} : Stp (Exit.inBlock i Q .ret a w) (Q .ret a w) := ⟨fun h => h⟩
instance stp_blk_exit {i : Nat} : Stp (Exit.inBlock i Q (.exit i) a w) (Q .normal a w) := ⟨fun h => x_block_exit h⟩
end
end Go.Proofs.E
set_option linter.unusedVariables false
set_option linter.unusedSimpArgs false
namespace Go.Proofs.E
open Go Go.RowKit
def OutJ (J : List Value → World → Prop) : Exit → Act → World → Prop := fun e a w => e = .normal ∧ ∃ l, a = fr l ∧ J l w
theorem outJ {J : List Value → World → Prop} {l : List Value} {w : World} (h : J l w) : OutJ J .normal (fr l) w := ⟨rfl, l, rfl, h⟩
/-- The same for any code. -/
theorem c_cutJ {P : Program} {c : Code} {K : Act → World → Prop} {Q : Exit → Act → World → Prop} {l : List Value} {w : World} (J : List Value → World → Prop) (h : c.wp P (OutJ J) (fr l) w) (hk : ∀ l w, J l w → K (fr l) w) : c.wp P (Exit.then K Q) (fr l) w :=
  wp_mono h fun e a w h => by
    obtain ⟨rfl, l, rfl, hj⟩ := h
    exact hk l w hj
end Go.Proofs.E

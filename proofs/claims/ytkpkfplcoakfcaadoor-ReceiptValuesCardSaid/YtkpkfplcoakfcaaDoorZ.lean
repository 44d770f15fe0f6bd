/- Regions that draw their order, walked in an order of one's own choice: steady operations first, the others by whatever may come up; what a writer has brought about is kept (F).
   Regions that draw their order, with several writers: each operation of the list z comes up alone. -/
import Derived.Test.YtkpkfplcoakfcaaDoorU
set_option linter.unusedVariables false
set_option linter.unusedSimpArgs false
namespace Go.Proofs.E
open Go Go.RowKit
/-- What may come of a world within a region: S's blocks alone turn; and what F says, once it holds, holds on. -/
structure Gr (S : List Nat) (F : Nat → World → Prop) (w w' : World) : Prop where
  ch : Ch S w w'
  fin : ∀ i, F i w → F i w'
theorem Gr.refl (S : List Nat) (F : Nat → World → Prop) (w : World) : Gr S F w w := ⟨Ch.refl S w, fun _ h => h⟩
theorem Gr.then {S : List Nat} {F : Nat → World → Prop} {a b c : World} (h : Gr S F a b) (k : Gr S F b c) : Gr S F a c := ⟨h.ch.then k.ch, fun i x => k.fin i (h.fin i x)⟩
/-- A fact that new blocks leave. -/
def Stab (F : Nat → World → Prop) : Prop := ∀ i a b, Ch [] a b → F i a → F i b
theorem Gr.new {S : List Nat} {F : Nat → World → Prop} (hF : Stab F) {w w' : World} (h : Ch [] w w') : Gr S F w w' := ⟨h.some, fun i => hF i _ _ h⟩
section
variable {P : Program} {ops : Array Oper} {S : List Nat} {F : Nat → World → Prop} {Q : Exit → Act → World → Prop} {z fuel : Nat} {listed : Array Bool} {a : Act} {l l' : List Value} {w : World}
  {op : Op} {T : TypeId} {pos : String} {after : Array Edge} {d : Option Nat}
/-- Where a walk stands: some operations have come up. -/
def WA (P : Program) (ops : Array Oper) (S : List Nat) (F : Nat → World → Prop) (Q : Exit → Act → World → Prop) (z fuel : Nat) (listed : Array Bool) (a : Act) (w : World) : Prop :=
  Region.noSelect ops = true → Late .any ops z → Dn .any ops listed → wpAnyG P .any ops (Gr S F) (NoP Q) z fuel listed a w
/-- A steady operation is taken first. -/
theorem wa_first {k : Nat} {o : Oper} {v : Value} (ho : ops[k]? = some o) (hr : (Region.ready .any ops listed).contains k = true) (hf : Region.free .any ops listed k = true) (hs : Steady P ops (Gr S F) w o v a)
    (h : WA P ops S F Q z fuel (listed.setIfInBounds k true) (a.put o.dst v) w) : WA P ops S F Q z (fuel + 1) listed a w := fun h1 h2 h3 =>
  have hr' : k ∈ Region.ready .any ops listed := by simpa using hr
  wpAnyG_first h2 (Gr.refl S F) (fun _ _ _ h k => h.then k) ho (Region.noSelect_spec h1) (fun c a w h => (h : False).elim) fuel listed a w (Region.free_spec ho hf) h3 hr' hs (h h1 h2 (h3.set hr'))
theorem onv {v : Value} (k : Nat) (ho : ops[k]? = some { dst := d, op := op, type := T, pos := pos, after := after, guard := none }) (hr : (Region.ready .any ops listed).contains k = true) (hf : Region.free .any ops listed k = true)
    (hs : ∀ w1, Gr S F w w1 → (exec (ev l) op T).run P w1 = .ok (.value v) w1) (hl : set1 l d v = l') (h : WA P ops S F Q z fuel (listed.setIfInBounds k true) (fr l') w) : WA P ops S F Q z (fuel + 1) listed (fr l) w := by
  subst hl
  refine wa_first ho hr hf (.inl ⟨by simp [Region.wanted], fun w1 hG => ?_⟩) ?_ (v := v)
  · unfold Oper.quietAt
    rw [exec_eq, eval_fr, hs w1 hG]
    exact ⟨rfl, rfl⟩
  · show WA _ _ _ _ _ _ _ _ ((fr l).put d v) w
    rw [put_set1]
    exact h
/-! ### The same, looking for their own proofs -/
theorem on {v : Value} (k : Nat) (ho : ops[k]? = some { dst := d, op := op, type := T, pos := pos, after := after, guard := none }) (h : WA P ops S F Q z fuel (listed.setIfInBounds k true) (fr l') w)
    (hs : ∀ w1 : World, (exec (ev l) op T).run P w1 = .ok (.value v) w1 := by
      intro _
      first
      | (with_reducible apply Go.Proofs.E.r_move)
      | (with_reducible apply Go.Proofs.E.r_assign)
      | ((with_reducible apply Go.Proofs.E.r_add32 ?hx ?hy); (case hx => exact rfl); (case hy => exact rfl))
      | ((with_reducible apply Go.Proofs.E.r_xor32 ?hx ?hy); (case hx => exact rfl); (case hy => exact rfl))
      | ((with_reducible apply Go.Proofs.E.r_and32 ?hx ?hy); (case hx => exact rfl); (case hy => exact rfl))
      | ((with_reducible apply Go.Proofs.E.r_or32 ?hx ?hy); (case hx => exact rfl); (case hy => exact rfl))
      | ((with_reducible apply Go.Proofs.E.r_compl32 ?hx); (case hx => exact rfl))
      | ((with_reducible apply Go.Proofs.E.r_shl32 ?hx ?hy ?hn ?hc); (case hx => exact rfl); (case hy => exact rfl); (case hn => first | exact rfl | exact (Int.toNat_of_nonneg (by omega)).symm); (case hc => first | decide | omega))
      | ((with_reducible apply Go.Proofs.E.r_shr32 ?hx ?hy ?hn ?hc); (case hx => exact rfl); (case hy => exact rfl); (case hn => first | exact rfl | exact (Int.toNat_of_nonneg (by omega)).symm); (case hc => first | decide | omega))
      | ((with_reducible apply Go.Proofs.E.r_c8to32 ?hx); (case hx => exact rfl))
      | ((with_reducible apply Go.Proofs.E.r_c32to8 ?hx); (case hx => exact rfl))
      | ((with_reducible apply Go.Proofs.E.r_indexAddr_arr ?hx ?hy ?h0 ?h1); (case hx => exact rfl); (case hy => exact rfl); (case h0 => first | decide | omega); (case h1 => first | decide | omega))
      | ((with_reducible apply Go.Proofs.E.r_fieldAddr ?hx ?hn); (case hx => exact rfl); (case hn => decide))
      | ((with_reducible apply Go.Proofs.E.r_to (Go.Proofs.E.r_add ?hx ?hy) ?hw); (case hx => exact rfl); (case hy => exact rfl); (case hw => exact Go.Proofs.E.wrap_rng (by exact rfl) (by omega) (by omega)))
      | ((with_reducible apply Go.Proofs.E.r_add ?hx ?hy); (case hx => exact rfl); (case hy => exact rfl))
      | ((with_reducible apply Go.Proofs.E.r_to (Go.Proofs.E.r_sub ?hx ?hy) ?hw); (case hx => exact rfl); (case hy => exact rfl); (case hw => exact Go.Proofs.E.wrap_rng (by exact rfl) (by omega) (by omega)))
      | ((with_reducible apply Go.Proofs.E.r_sub ?hx ?hy); (case hx => exact rfl); (case hy => exact rfl))
      | ((with_reducible apply Go.Proofs.E.r_to (Go.Proofs.E.r_mul ?hx ?hy) ?hw); (case hx => exact rfl); (case hy => exact rfl); (case hw => exact Go.Proofs.E.wrap_rng (by exact rfl) (by omega) (by omega)))
      | ((with_reducible apply Go.Proofs.E.r_mul ?hx ?hy); (case hx => exact rfl); (case hy => exact rfl))
      | ((with_reducible apply Go.Proofs.E.r_lss ?hx ?hy); (case hx => exact rfl); (case hy => exact rfl))
      | ((with_reducible apply Go.Proofs.E.r_leq ?hx ?hy); (case hx => exact rfl); (case hy => exact rfl))
      | ((with_reducible apply Go.Proofs.E.r_gtr ?hx ?hy); (case hx => exact rfl); (case hy => exact rfl))
      | ((with_reducible apply Go.Proofs.E.r_geq ?hx ?hy); (case hx => exact rfl); (case hy => exact rfl))
      | ((with_reducible apply Go.Proofs.E.r_eql ?hx ?hy); (case hx => exact rfl); (case hy => exact rfl))
      | ((with_reducible apply Go.Proofs.E.r_neq ?hx ?hy); (case hx => exact rfl); (case hy => exact rfl))
      | ((with_reducible apply Go.Proofs.E.r_not ?hx); (case hx => exact rfl))
      | ((with_reducible apply Go.Proofs.E.r_len ?hx); (case hx => exact rfl))
      | ((with_reducible apply Go.Proofs.E.r_lens ?hx); (case hx => exact rfl))
      | ((with_reducible apply Go.Proofs.E.r_nilCheck ?hx); (case hx => exact rfl))
      | ((with_reducible apply Go.Proofs.E.r_extract ?hx ?hy); (case hx => exact rfl); (case hy => exact rfl))
      | ((with_reducible apply Go.Proofs.E.r_to (Go.Proofs.E.r_conv ?hx) ?hw); (case hx => exact rfl); (case hw => exact Go.Proofs.E.wrap_rng (by exact rfl) (by omega) (by omega)))
      | ((with_reducible apply Go.Proofs.E.r_conv ?hx); (case hx => exact rfl))
      | ((with_reducible apply Go.Proofs.E.r_pick_t ?hx ?hb); (case hx => exact rfl); (case hb => first | exact rfl | exact decide_eq_true (by omega) | exact decide_eq_false (by omega) | assumption | exact decide_eq_true (by assumption) | exact decide_eq_false (by assumption)))
      | ((with_reducible apply Go.Proofs.E.r_pick_f ?hx ?hb); (case hx => exact rfl); (case hb => first | exact rfl | exact decide_eq_true (by omega) | exact decide_eq_false (by omega) | assumption | exact decide_eq_true (by assumption) | exact decide_eq_false (by assumption)))
      | ((with_reducible apply Go.Proofs.E.r_neg ?hx); (case hx => exact rfl))
      | ((with_reducible apply Go.Proofs.E.r_shl ?hx ?hy ?h0); (case hx => exact rfl); (case hy => exact rfl); (case h0 => omega))
      | ((with_reducible apply Go.Proofs.E.r_shr ?hx ?hy ?h0); (case hx => exact rfl); (case hy => exact rfl); (case h0 => omega))
      | ((with_reducible apply Go.Proofs.E.r_quo ?hx ?hy ?h0); (case hx => exact rfl); (case hy => exact rfl); (case h0 => omega))
      | ((with_reducible apply Go.Proofs.E.r_rem ?hx ?hy ?h0); (case hx => exact rfl); (case hy => exact rfl); (case h0 => omega)))
    (hl : set1 l d v = l' := by first | (dsimp only [List.set, Go.Proofs.E.set1, Go.Proofs.E.ev, Go.Proofs.E.nth]; done) | exact rfl) (hr : (Region.ready .any ops listed).contains k = true := by kernel_rfl) (hf : Region.free .any ops listed k = true := by kernel_rfl) : WA P ops S F Q z (fuel + 1) listed (fr l) w := onv k ho hr hf (fun w1 _ => hs w1) hl h
end
end Go.Proofs.E
set_option linter.unusedVariables false
set_option linter.unusedSimpArgs false
namespace Go.Proofs.E
open Go Go.RowKit
section
variable {P : Program} {ops : Array Oper} {md : Region.Mode} {G : World → World → Prop} {Q : Exit → Act → World → Prop} {z : List Nat × List Nat}
/-- Each of z's operations comes up alone. -/
def LateZ (md : Region.Mode) (ops : Array Oper) (z : List Nat × List Nat) : Prop := ∀ listed j, j ∈ z.1 → ∀ i, i ∉ z.2 → Dn md ops listed → j ∈ Region.ready md ops listed → i ∈ Region.ready md ops listed → i = j
def depsOf (ops : Array Oper) (m : Nat) : List Nat := match ops[m]? with | some o => (o.after.toList.filter fun e => Region.binds .any e).map (·.on) | none => []
def depsAll (ops : Array Oper) : Nat → List Nat → List Nat
  | 0, l => l
  | f + 1, l => depsAll ops f (l ++ (l.flatMap (depsOf ops))).eraseDups
def lateC (ops : Array Oper) (fr : List Nat) (z : Nat) : Bool := let b := depsAll ops 5 (depsOf ops z); (List.range ops.size).all fun i => fr.contains i || i == z || b.contains i || (depsAll ops 5 (depsOf ops i)).contains z
theorem depsOf_listed {ops : Array Oper} {listed : Array Bool} {m : Nat} (hD : Dn .any ops listed) (hm : listed.getD m true = true) (hlt : m < ops.size) : ∀ x ∈ depsOf ops m, listed.getD x false = true := by
  intro x hx
  unfold depsOf at hx
  rw [Array.getElem?_eq_getElem hlt] at hx
  simp only [List.mem_map, List.mem_filter] at hx
  obtain ⟨e, ⟨he, hb⟩, rfl⟩ := hx
  exact hD m _ (Array.getElem?_eq_getElem hlt) hm e (by simpa using he) hb
theorem getD_ft {listed : Array Bool} {x : Nat} (h : listed.getD x false = true) : listed.getD x true = true := by
  rcases Nat.lt_or_ge x listed.size with h' | h'
  · simp [h'] at h ⊢; exact h
  · simp [Array.getElem?_eq_none h'] at h
theorem depsAll_listed {ops : Array Oper} {listed : Array Bool} (hD : Dn .any ops listed) : ∀ (f : Nat) (l : List Nat), (∀ x ∈ l, listed.getD x false = true) → ∀ x ∈ depsAll ops f l, listed.getD x false = true
  | 0, l, h => h
  | f + 1, l, h => depsAll_listed hD f _ fun x hx => by
    have hx' : x ∈ l ++ l.flatMap (depsOf ops) := by simpa [List.mem_eraseDups] using hx
    rcases List.mem_append.1 hx' with hx | hx
    · exact h x hx
    · obtain ⟨m, hm, hmx⟩ := List.mem_flatMap.1 hx
      rcases Nat.lt_or_ge m ops.size with hlt | hge
      · exact depsOf_listed hD (getD_ft (h m hm)) hlt x hmx
      · unfold depsOf at hmx
        rw [Array.getElem?_eq_none hge] at hmx
        cases hmx
theorem ready_deps {ops : Array Oper} {listed : Array Bool} {j : Nat} (hj : j ∈ Region.ready .any ops listed) : ∀ x ∈ depsOf ops j, listed.getD x false = true := by
  obtain ⟨_, o, ho, hall⟩ := mem_ready.1 hj
  intro x hx
  unfold depsOf at hx
  rw [ho] at hx
  simp only [List.mem_map, List.mem_filter] at hx
  obtain ⟨e, ⟨he, hb⟩, rfl⟩ := hx
  exact hall e (by simpa using he) hb
theorem lateZ_of {ops : Array Oper} {z : List Nat × List Nat} (h : z.1.all (lateC ops z.2) = true) : LateZ .any ops z := by
  intro listed j hjz i hfr hD hj hi
  have hc := List.all_eq_true.1 h j hjz
  unfold lateC at hc
  have hlt : i < ops.size := by
    obtain ⟨_, o, ho, _⟩ := mem_ready.1 hi
    exact (Array.getElem?_eq_some_iff.1 ho).1
  have h1 := List.all_eq_true.1 hc i (List.mem_range.2 hlt)
  simp only [Bool.or_eq_true, beq_iff_eq, List.contains_iff_mem] at h1
  rcases h1 with ((h1 | h1) | h1) | h1
  · exact absurd h1 hfr
  · exact h1
  · exfalso
    have := getD_ft (depsAll_listed hD 5 _ (ready_deps hj) i h1)
    rw [(mem_ready.1 hi).1] at this
    cases this
  · exfalso
    have := getD_ft (depsAll_listed hD 5 _ (ready_deps hi) j h1)
    rw [(mem_ready.1 hj).1] at this
    cases this
/-- An operation that only reckons, whatever the world. -/
def Pure (P : Program) (ops : Array Oper) (o : Oper) (v : Value) (a : Act) : Prop :=
  (Region.wanted o (yielded ops a.tmps) = true ∧ ∀ w1, (execOp a.eval o).run P w1 = .ok (.value v) w1) ∨ (Region.wanted o (yielded ops a.tmps) = false ∧ v = undef)
theorem Pure.wpOp {i : Nat} {o : Oper} {v : Value} {a : Act} {w1 : World} (hi : ops[i]? = some o) (hy : Pure P ops o v a) {K : Act → World → Prop} (h : K (a.put o.dst v) w1) : wpOp P ops Q i K a w1 := by
  unfold Go.wpOp
  simp only [hi]
  rcases hy with ⟨hw, hv⟩ | ⟨hw, rfl⟩
  · simp only [hw, if_true]
    refine .inl ?_
    unfold Oper.wp
    rw [hv w1]
    exact h
  · simp only [hw, Bool.false_eq_true, if_false]
    exact h
theorem Pure.of_same {o : Oper} {v : Value} {a a' : Act} (hy : Pure P ops o v a) (he : execOp a'.eval o = execOp a.eval o) (hw : Region.wanted o (yielded ops a'.tmps) = Region.wanted o (yielded ops a.tmps)) : Pure P ops o v a' := by
  unfold Pure at *
  rw [he, hw]
  exact hy
theorem wpOp_putP {j : Nat} {oi oj : Oper} {v : Value} (hj : ops[j]? = some oj) (hap : oi.apart ops oj = true)
    (hsi : ∀ cs b, oi.op ≠ .select cs b) (hsj : ∀ cs b, oj.op ≠ .select cs b)
    (hQ : ∀ c a w, Q (.panic c) (a.put oi.dst v) w → Q (.panic c) a w) {K : Act → World → Prop} {a : Act} {w1 : World}
    (hy : Pure P ops oi v a) (h : wpOp P ops Q j K (a.put oi.dst v) w1) :
    wpOp P ops Q j (fun a' w' => Pure P ops oi v a' ∧ K (a'.put oi.dst v) w') a w1 := by
  obtain ⟨h1, h2, h3⟩ := Oper.apart_spec hap
  have keep : ∀ (a : Act), Pure P ops oi v a → ∀ u, Pure P ops oi v (a.put oj.dst u) := fun a hy u =>
    hy.of_same (execOp_put oi hsi a oj.dst u h3) (wanted_put oi a oj.dst u h3)
  have keepD : ∀ d, Pure P ops oi v { a with defers := d :: a.defers } := fun d => hy.of_same rfl rfl
  unfold wpOp at *
  simp only [hj] at *
  rw [wanted_put oj a oi.dst v h1] at h
  split
  · rename_i hw
    simp only [hw, if_true] at h
    rcases h with h | ⟨hasks, hlets⟩
    case inr => exact .inr ⟨by unfold Oper.asks at *; rw [execOp_put oj hsj a oi.dst v h1] at hasks; exact hasks, hlets⟩
    refine .inl ?_
    unfold Oper.wp at *
    rw [execOp_put oj hsj a oi.dst v h1] at h
    generalize (execOp a.eval oj).run P w1 = r at *
    cases r with
    | ok n w' =>
      cases n <;> simp only [Oper.upon] at h ⊢
      case value u => exact ⟨keep a hy u, by rw [← Act.put_comm a v u h2]; exact h⟩
      case skip => exact ⟨keep a hy _, by rw [← Act.put_comm a v undef h2]; exact h⟩
      case defer d =>
        refine ⟨keep _ (keepD d) _, ?_⟩
        rw [← Act.put_comm _ v undef h2, ← Act.put_defers]
        exact h
      case enter f args =>
        refine Calls.mono h fun e w'' he => ?_
        cases e with
        | returned u => exact ⟨keep a hy u, by rw [← Act.put_comm a v u h2]; exact he⟩
        | panicked c => exact hQ _ _ _ he
        | outgrown => exact he
      case row row args => exact Rows.mono h fun u w'' he => ⟨keep a hy u, by rw [← Act.put_comm a v u h2]; exact he⟩
    | halt x w' =>
      cases x <;> simp only [Oper.upon] at h ⊢
      case panic u => exact hQ _ _ _ h
  · rename_i hw
    simp only [hw] at h
    exact ⟨keep a hy _, by rw [← Act.put_comm a v undef h2]; exact h⟩
end
section
variable {P : Program} {ops : Array Oper} {S : List Nat} {F : Nat → World → Prop} {Q : Exit → Act → World → Prop} {z : List Nat × List Nat} {fuel : Nat} {listed : Array Bool} {a : Act} {l l' : List Value} {w : World}
  {op : Op} {T : TypeId} {pos : String} {after : Array Edge} {d : Option Nat}
/-! ### The same, looking for their own proofs -/
end
end Go.Proofs.E

/- Regions that draw their order, walked in an order of one's own choice: steady operations first, the others by whatever may come up; what a writer has brought about is kept (F). -/
import Derived.Test.YtbecfcnbgeeghaaDoorW
import Derived.Test.YtbecfcnbgeeghaaDoorEq
set_option linter.unusedVariables false
set_option linter.unusedSimpArgs false
namespace Go.Proofs.E
open Go Go.RowKit
/-- What may come of a world within a region: S's blocks alone turn; and what F says, once it holds, holds on. -/
structure Gr (S : List Nat) (F : Nat → World → Prop) (w w' : World) : Prop where
  ch : Ch S w w'
  fin : ∀ i, F i w → F i w'
def Tru : Nat → World → Prop := fun _ _ => True
theorem Gr.refl (S : List Nat) (F : Nat → World → Prop) (w : World) : Gr S F w w := ⟨Ch.refl S w, fun _ h => h⟩
theorem Gr.then {S : List Nat} {F : Nat → World → Prop} {a b c : World} (h : Gr S F a b) (k : Gr S F b c) : Gr S F a c := ⟨h.ch.then k.ch, fun i x => k.fin i (h.fin i x)⟩
theorem Gr.tru {S : List Nat} {w w' : World} (h : Ch S w w') : Gr S Tru w w' := ⟨h, fun _ h => h⟩
theorem Gr.of {S : List Nat} {F : Nat → World → Prop} {w w' : World} (h : Ch S w w') (hf : ∀ i, F i w') : Gr S F w w' := ⟨h, fun i _ => hf i⟩
/-- A fact that new blocks leave. -/
def Stab (F : Nat → World → Prop) : Prop := ∀ i a b, Ch [] a b → F i a → F i b
theorem stab_tru : Stab Tru := fun _ _ _ _ h => h
theorem stab_blk {b : Nat} {cs : List Value} {E : TypeId} : Stab (fun _ w => Blk w b cs E) := fun _ _ _ h hb => hb.ch h (by simp)
theorem Gr.new {S : List Nat} {F : Nat → World → Prop} (hF : Stab F) {w w' : World} (h : Ch [] w w') : Gr S F w w' := ⟨h.some, fun i => hF i _ _ h⟩
section
variable {P : Program} {ops : Array Oper} {S : List Nat} {F : Nat → World → Prop} {Q : Exit → Act → World → Prop} {z fuel : Nat} {listed : Array Bool} {a : Act} {l l' : List Value} {w : World}
  {op : Op} {T : TypeId} {pos : String} {after : Array Edge} {d : Option Nat}
/-- Where a walk stands: some operations have come up. -/
def WA (P : Program) (ops : Array Oper) (S : List Nat) (F : Nat → World → Prop) (Q : Exit → Act → World → Prop) (z fuel : Nat) (listed : Array Bool) (a : Act) (w : World) : Prop :=
  Region.noSelect ops = true → Late .any ops z → Dn .any ops listed → wpAnyG P .any ops (Gr S F) (NoP Q) z fuel listed a w
theorem c_ordz {id : Nat} {os : List Oper} (S : List Nat) (F : Nat → World → Prop) (zz : Nat) (hlate : Late .any os.toArray zz) (hm : P.follows .mixedOrders = true) (hB : Region.noSelect os.toArray = true)
    (h : ∀ w0, Ch [] w w0 → w0.heap.size = w.heap.size → WA P os.toArray S F Q zz os.length (Array.replicate os.length false) (fr l) w0) : (Code.region id os.toArray true).wp P Q (fr l) w := by
  refine Code.wp_mono (Q := NoP Q) (fun e a w h => by cases e <;> first | exact h | exact (h : False).elim) ?_
  refine wp_region_any hm (wpAny_of_G (G := Gr S F) (z := zz) (Gr.refl S F) _ _ _ _ ?_)
  have := h { w with drawn := w.drawn + 1 } ⟨rfl, rfl, rfl, Nat.le_refl _, fun _ _ _ => rfl⟩ rfl hB hlate dn0
  simpa using this
/-- No operation is told from the others. -/
theorem c_ord {id : Nat} {os : List Oper} (S : List Nat) (F : Nat → World → Prop) (hm : P.follows .mixedOrders = true) (hB : Region.noSelect os.toArray = true)
    (h : ∀ w0, Ch [] w w0 → w0.heap.size = w.heap.size → WA P os.toArray S F Q os.toArray.size os.length (Array.replicate os.length false) (fr l) w0) : (Code.region id os.toArray true).wp P Q (fr l) w := c_ordz S F _ late_none hm hB h
/-- Operation zz waits for all that does not wait for it. -/
theorem c_ordl {id : Nat} {os : List Oper} (zz : Nat) (S : List Nat) (F : Nat → World → Prop) (hm : P.follows .mixedOrders = true) (hB : Region.noSelect os.toArray = true) (hL : lateB os.toArray zz = true)
    (h : ∀ w0, Ch [] w w0 → w0.heap.size = w.heap.size → WA P os.toArray S F Q zz os.length (Array.replicate os.length false) (fr l) w0) : (Code.region id os.toArray true).wp P Q (fr l) w := c_ordz S F _ (late_of hL) hm hB h
theorem wa_done (hr : Region.ready .any ops listed = []) (h : ∀ w1, Gr S F w w1 → Q .normal (fr l) w1) : WA P ops S F Q z fuel listed (fr l) w := fun _ _ _ => wpAnyG_done (Q := NoP Q) hr (fun w1 h1 => h w1 h1) fuel
theorem wa_up {w1 : World} (hG : Gr S F w w1) (h : WA P ops S F Q z fuel listed a w) : WA P ops S F Q z fuel listed a w1 := fun h1 h2 h3 => wpAnyG_up (fun _ _ _ h k => h.then k) _ _ _ _ _ hG (h h1 h2 h3)
/-- A steady operation is taken first. -/
theorem wa_first {k : Nat} {o : Oper} {v : Value} (ho : ops[k]? = some o) (hr : (Region.ready .any ops listed).contains k = true) (hf : Region.free .any ops listed k = true) (hs : Steady P ops (Gr S F) w o v a)
    (h : WA P ops S F Q z fuel (listed.setIfInBounds k true) (a.put o.dst v) w) : WA P ops S F Q z (fuel + 1) listed a w := fun h1 h2 h3 =>
  have hr' : k ∈ Region.ready .any ops listed := by simpa using hr
  wpAnyG_first h2 (Gr.refl S F) (fun _ _ _ h k => h.then k) ho (Region.noSelect_spec h1) (fun c a w h => (h : False).elim) fuel listed a w (Region.free_spec ho hf) h3 hr' hs (h h1 h2 (h3.set hr'))
theorem onv {v : Value} (k : Nat) (ho : ops[k]? = some { dst := d, op := op, type := T, pos := pos, after := after, guard := none }) (hr : (Region.ready .any ops listed).contains k = true) (hf : Region.free .any ops listed k = true)
    (hs : ∀ w1, Gr S F w w1 → (exec (ev l) op T).run P w1 = .ok (.value v) w1) (hl : set1 l d v = l') (h : WA P ops S F Q z fuel (listed.setIfInBounds k true) (fr l') w) : WA P ops S F Q z (fuel + 1) listed (fr l) w := by
  subst hl
  refine wa_first ho hr hf (.inl ⟨by simp [Region.wanted], fun w1 hG => ?_⟩) ?_ (v := v)
  · unfold Oper.quietAt
    rw [exec_eq, eval_fr, hs w1 hG]
    exact ⟨rfl, rfl⟩
  · show WA _ _ _ _ _ _ _ _ ((fr l).put d v) w
    rw [put_set1]
    exact h
/-- With a guard that holds. -/
theorem onvt {v : Value} {j t : Nat} {b c : Bool} (k : Nat) (ho : ops[k]? = some { dst := d, op := op, type := T, pos := pos, after := after, guard := some (j, b) }) (hr : (Region.ready .any ops listed).contains k = true) (hf : Region.free .any ops listed k = true)
    (hj : (ops[j]?).bind (·.dst) = some t) (hv : ev l (.tmp t) = .bool c) (hlt : t < l.length) (hc : c = b)
    (hs : ∀ w1, Gr S F w w1 → (exec (ev l) op T).run P w1 = .ok (.value v) w1) (hl : set1 l d v = l') (h : WA P ops S F Q z fuel (listed.setIfInBounds k true) (fr l') w) : WA P ops S F Q z (fuel + 1) listed (fr l) w := by
  subst hl hc
  refine wa_first ho hr hf (.inl ⟨by simp [Region.wanted, yielded_fr hj hv hlt], fun w1 hG => ?_⟩) ?_ (v := v)
  · unfold Oper.quietAt
    rw [exec_eq, eval_fr, hs w1 hG]
    exact ⟨rfl, rfl⟩
  · show WA _ _ _ _ _ _ _ _ ((fr l).put d v) w
    rw [put_set1]
    exact h
/-- With a guard that does not. -/
theorem onf {j t : Nat} {b c : Bool} (k : Nat) (ho : ops[k]? = some { dst := d, op := op, type := T, pos := pos, after := after, guard := some (j, b) }) (hr : (Region.ready .any ops listed).contains k = true) (hf : Region.free .any ops listed k = true)
    (hj : (ops[j]?).bind (·.dst) = some t) (hv : ev l (.tmp t) = .bool c) (hlt : t < l.length) (hc : c = !b) (hl : set1 l d undef = l') (h : WA P ops S F Q z fuel (listed.setIfInBounds k true) (fr l') w) : WA P ops S F Q z (fuel + 1) listed (fr l) w := by
  subst hl
  refine wa_first ho hr hf (.inr ⟨by simp [Region.wanted, yielded_fr hj hv hlt, hc], rfl⟩) ?_
  show WA _ _ _ _ _ _ _ _ ((fr l).put d undef) w
  rw [put_set1]
  exact h
/-- A call that is steady. -/
theorem onc {f : FuncId} {fn : Func} {args : List Operand} {tys : Array TypeId} {vs : List Value} {v : Value} (hF : Stab F) (k : Nat) [hf : Fun P f fn] (ho : ops[k]? = some { dst := d, op := .call { callee := .value (.func f), args := args.toArray, argTypes := tys }, type := T, pos := pos, after := after, guard := none })
    (hr : (Region.ready .any ops listed).contains k = true) (hfr : Region.free .any ops listed k = true) (ha : args.map (ev l) = vs) (hc : ∀ w1, Ch S w w1 → Calls P f vs.toArray w1 (Ret fun u w2 => u = v ∧ Ch [] w1 w2)) (hl : set1 l d v = l')
    (h : WA P ops S F Q z fuel (listed.setIfInBounds k true) (fr l') w) : WA P ops S F Q z (fuel + 1) listed (fr l) w := by
  subst hl ha
  refine wa_first ho hr hfr (.inl ⟨by simp [Region.wanted], fun w1 hG => ?_⟩) ?_ (v := v)
  · unfold Oper.quietAt
    rw [exec_eq, eval_fr, r_call]
    exact ⟨rfl, (hc w1 hG.ch).mono fun e w2 ⟨u, h1, h2, h3⟩ => ⟨by rw [h1, h2], Gr.new hF h3⟩⟩
  · show WA _ _ _ _ _ _ _ _ ((fr l).put d v) w
    rw [put_set1]
    exact h
/-- Whichever may come up: one, two. -/
theorem wa_op {k : Nat} {o : Oper} {w1 : World} (ho : ops[k]? = some o)
    (h : wpList P ops (Exit.then (fun a' w' => (Gr S F w1 w' ∨ k = z) ∧ WA P ops S F Q z fuel (listed.setIfInBounds k true) a' w') (NoP Q)) [o] (fr l) w1) (h1 : Region.noSelect ops = true) (h2 : Late .any ops z) (h3 : Dn .any ops listed) (hk : k ∈ Region.ready .any ops listed) :
    wpOp P ops (NoP Q) k (fun a' w' => (Gr S F w1 w' ∨ k = z) ∧ wpAnyG P .any ops (Gr S F) (NoP Q) z fuel (listed.setIfInBounds k true) a' w') (fr l) w1 := by
  refine wpOp_mono (K := fun a' w' => (Gr S F w1 w' ∨ k = z) ∧ WA P ops S F Q z fuel (listed.setIfInBounds k true) a' w') (fun a' w' h' => ⟨h'.1, h'.2 h1 h2 (h3.set hk)⟩) ?_
  unfold wpList at h
  unfold wpOp
  simp only [ho]
  split at h
  · rename_i hw
    simp only [hw, if_true]
    rcases h with h | ⟨h, a0, w0, hx⟩
    · refine .inl ?_
      unfold Oper.wp at *
      generalize (execOp (fr l).eval o).run P w1 = r at *
      cases r with
      | ok n w' => cases n <;> first | exact h | (exact Calls.mono h fun e w'' he => by cases e <;> exact he)
      | halt x w' => cases x <;> exact h
    · exact .inr ⟨h, a0, w0, hx⟩
  · rename_i hw
    simp only [hw, if_false]
    exact h
theorem on1 {o : Oper} (k : Nat) (hr : Region.ready .any ops listed = [k]) (ho : ops[k]? = some o)
    (h : ∀ w1, Gr S F w w1 → wpList P ops (Exit.then (fun a' w' => (Gr S F w1 w' ∨ k = z) ∧ WA P ops S F Q z fuel (listed.setIfInBounds k true) a' w') (NoP Q)) [o] (fr l) w1) : WA P ops S F Q z (fuel + 1) listed (fr l) w := fun h1 h2 h3 =>
  wpAnyG_all hr (by simp) fun i hi w1 hG => by
    have : i = k := by simpa using hi
    subst this
    exact wa_op ho (h w1 hG) h1 h2 h3 (by rw [hr]; simp)
theorem on2 {o o' : Oper} (k k' : Nat) (hr : Region.ready .any ops listed = [k, k']) (ho : ops[k]? = some o) (ho' : ops[k']? = some o')
    (h : ∀ w1, Gr S F w w1 → wpList P ops (Exit.then (fun a' w' => (Gr S F w1 w' ∨ k = z) ∧ WA P ops S F Q z fuel (listed.setIfInBounds k true) a' w') (NoP Q)) [o] (fr l) w1)
    (h' : ∀ w1, Gr S F w w1 → wpList P ops (Exit.then (fun a' w' => (Gr S F w1 w' ∨ k' = z) ∧ WA P ops S F Q z fuel (listed.setIfInBounds k' true) a' w') (NoP Q)) [o'] (fr l) w1) : WA P ops S F Q z (fuel + 1) listed (fr l) w := fun h1 h2 h3 =>
  wpAnyG_all hr (by simp) fun i hi w1 hG => by
    have : i = k ∨ i = k' := by simpa using hi
    rcases this with rfl | rfl
    · exact wa_op ho (h w1 hG) h1 h2 h3 (by rw [hr]; simp)
    · exact wa_op ho' (h' w1 hG) h1 h2 h3 (by rw [hr]; simp)
/-- It has come up. -/
theorem x_wa {k k2 : Nat} {w1 w' : World} (hG : Gr S F w1 w' ∨ k = k2) (hl : l = l') (h : WA P ops S F Q z fuel listed (fr l') w') : wpList P ops (Exit.then (fun a' w' => (Gr S F w1 w' ∨ k = k2) ∧ WA P ops S F Q z fuel listed a' w') (NoP Q)) [] (fr l) w' := by
  subst hl
  exact wl_nil (x_then ⟨hG, h⟩)
/-! ### The same, looking for their own proofs -/
theorem on {v : Value} (k : Nat) (ho : ops[k]? = some { dst := d, op := op, type := T, pos := pos, after := after, guard := none }) (h : WA P ops S F Q z fuel (listed.setIfInBounds k true) (fr l') w)
    (hs : ∀ w1 : World, (exec (ev l) op T).run P w1 = .ok (.value v) w1 := by
      intro _
      first
      | (with_reducible apply Go.Proofs.E.r_move)
      | (with_reducible apply Go.Proofs.E.r_assign)
      | ((with_reducible apply Go.Proofs.E.r_add32 ?hx ?hy); (case hx => exact rfl); (case hy => exact rfl))
      | ((with_reducible apply Go.Proofs.E.r_xor32 ?hx ?hy); (case hx => exact rfl); (case hy => exact rfl))
      | ((with_reducible apply Go.Proofs.E.r_and32 ?hx ?hy); (case hx => exact rfl); (case hy => exact rfl))
      | ((with_reducible apply Go.Proofs.E.r_or32 ?hx ?hy); (case hx => exact rfl); (case hy => exact rfl))
      | ((with_reducible apply Go.Proofs.E.r_compl32 ?hx); (case hx => exact rfl))
      | ((with_reducible apply Go.Proofs.E.r_shl32 ?hx ?hy ?hn ?hc); (case hx => exact rfl); (case hy => exact rfl); (case hn => first | exact rfl | exact (Int.toNat_of_nonneg (by omega)).symm); (case hc => first | decide | omega))
      | ((with_reducible apply Go.Proofs.E.r_shr32 ?hx ?hy ?hn ?hc); (case hx => exact rfl); (case hy => exact rfl); (case hn => first | exact rfl | exact (Int.toNat_of_nonneg (by omega)).symm); (case hc => first | decide | omega))
      | ((with_reducible apply Go.Proofs.E.r_c8to32 ?hx); (case hx => exact rfl))
      | ((with_reducible apply Go.Proofs.E.r_c32to8 ?hx); (case hx => exact rfl))
      | ((with_reducible apply Go.Proofs.E.r_indexAddr_arr ?hx ?hy ?h0 ?h1); (case hx => exact rfl); (case hy => exact rfl); (case h0 => first | decide | omega); (case h1 => first | decide | omega))
      | ((with_reducible apply Go.Proofs.E.r_fieldAddr ?hx ?hn); (case hx => exact rfl); (case hn => decide))
      | ((with_reducible apply Go.Proofs.E.r_to (Go.Proofs.E.r_add ?hx ?hy) ?hw); (case hx => exact rfl); (case hy => exact rfl); (case hw => exact Go.Proofs.E.wrap_rng (by exact rfl) (by omega) (by omega)))
      | ((with_reducible apply Go.Proofs.E.r_add ?hx ?hy); (case hx => exact rfl); (case hy => exact rfl))
      | ((with_reducible apply Go.Proofs.E.r_to (Go.Proofs.E.r_sub ?hx ?hy) ?hw); (case hx => exact rfl); (case hy => exact rfl); (case hw => exact Go.Proofs.E.wrap_rng (by exact rfl) (by omega) (by omega)))
      | ((with_reducible apply Go.Proofs.E.r_sub ?hx ?hy); (case hx => exact rfl); (case hy => exact rfl))
      | ((with_reducible apply Go.Proofs.E.r_to (Go.Proofs.E.r_mul ?hx ?hy) ?hw); (case hx => exact rfl); (case hy => exact rfl); (case hw => exact Go.Proofs.E.wrap_rng (by exact rfl) (by omega) (by omega)))
      | ((with_reducible apply Go.Proofs.E.r_mul ?hx ?hy); (case hx => exact rfl); (case hy => exact rfl))
      | ((with_reducible apply Go.Proofs.E.r_lss ?hx ?hy); (case hx => exact rfl); (case hy => exact rfl))
      | ((with_reducible apply Go.Proofs.E.r_leq ?hx ?hy); (case hx => exact rfl); (case hy => exact rfl))
      | ((with_reducible apply Go.Proofs.E.r_gtr ?hx ?hy); (case hx => exact rfl); (case hy => exact rfl))
      | ((with_reducible apply Go.Proofs.E.r_geq ?hx ?hy); (case hx => exact rfl); (case hy => exact rfl))
      | ((with_reducible apply Go.Proofs.E.r_eql ?hx ?hy); (case hx => exact rfl); (case hy => exact rfl))
      | ((with_reducible apply Go.Proofs.E.r_neq ?hx ?hy); (case hx => exact rfl); (case hy => exact rfl))
      | ((with_reducible apply Go.Proofs.E.r_not ?hx); (case hx => exact rfl))
      | ((with_reducible apply Go.Proofs.E.r_len ?hx); (case hx => exact rfl))
      | ((with_reducible apply Go.Proofs.E.r_lens ?hx); (case hx => exact rfl))
      | ((with_reducible apply Go.Proofs.E.r_nilCheck ?hx); (case hx => exact rfl))
      | ((with_reducible apply Go.Proofs.E.r_extract ?hx ?hy); (case hx => exact rfl); (case hy => exact rfl))
      | ((with_reducible apply Go.Proofs.E.r_to (Go.Proofs.E.r_conv ?hx) ?hw); (case hx => exact rfl); (case hw => exact Go.Proofs.E.wrap_rng (by exact rfl) (by omega) (by omega)))
      | ((with_reducible apply Go.Proofs.E.r_conv ?hx); (case hx => exact rfl))
      | ((with_reducible apply Go.Proofs.E.r_pick_t ?hx ?hb); (case hx => exact rfl); (case hb => first | exact rfl | exact decide_eq_true (by omega) | exact decide_eq_false (by omega) | assumption | exact decide_eq_true (by assumption) | exact decide_eq_false (by assumption)))
      | ((with_reducible apply Go.Proofs.E.r_pick_f ?hx ?hb); (case hx => exact rfl); (case hb => first | exact rfl | exact decide_eq_true (by omega) | exact decide_eq_false (by omega) | assumption | exact decide_eq_true (by assumption) | exact decide_eq_false (by assumption)))
      | ((with_reducible apply Go.Proofs.E.r_neg ?hx); (case hx => exact rfl))
      | ((with_reducible apply Go.Proofs.E.r_shl ?hx ?hy ?h0); (case hx => exact rfl); (case hy => exact rfl); (case h0 => omega))
      | ((with_reducible apply Go.Proofs.E.r_shr ?hx ?hy ?h0); (case hx => exact rfl); (case hy => exact rfl); (case h0 => omega))
      | ((with_reducible apply Go.Proofs.E.r_quo ?hx ?hy ?h0); (case hx => exact rfl); (case hy => exact rfl); (case h0 => omega))
      | ((with_reducible apply Go.Proofs.E.r_rem ?hx ?hy ?h0); (case hx => exact rfl); (case hy => exact rfl); (case h0 => omega)))
    (hl : set1 l d v = l' := by first | (dsimp only [List.set, Go.Proofs.E.set1, Go.Proofs.E.ev, Go.Proofs.E.nth]; done) | exact rfl) (hr : (Region.ready .any ops listed).contains k = true := by kernel_rfl) (hf : Region.free .any ops listed k = true := by kernel_rfl) : WA P ops S F Q z (fuel + 1) listed (fr l) w := onv k ho hr hf (fun w1 _ => hs w1) hl h
theorem ont {v : Value} {j t : Nat} {b c : Bool} (k : Nat) (ho : ops[k]? = some { dst := d, op := op, type := T, pos := pos, after := after, guard := some (j, b) }) (h : WA P ops S F Q z fuel (listed.setIfInBounds k true) (fr l') w)
    (hs : ∀ w1 : World, (exec (ev l) op T).run P w1 = .ok (.value v) w1 := by
      intro _
      first
      | (with_reducible apply Go.Proofs.E.r_move)
      | (with_reducible apply Go.Proofs.E.r_assign)
      | ((with_reducible apply Go.Proofs.E.r_add32 ?hx ?hy); (case hx => exact rfl); (case hy => exact rfl))
      | ((with_reducible apply Go.Proofs.E.r_xor32 ?hx ?hy); (case hx => exact rfl); (case hy => exact rfl))
      | ((with_reducible apply Go.Proofs.E.r_and32 ?hx ?hy); (case hx => exact rfl); (case hy => exact rfl))
      | ((with_reducible apply Go.Proofs.E.r_or32 ?hx ?hy); (case hx => exact rfl); (case hy => exact rfl))
      | ((with_reducible apply Go.Proofs.E.r_compl32 ?hx); (case hx => exact rfl))
      | ((with_reducible apply Go.Proofs.E.r_shl32 ?hx ?hy ?hn ?hc); (case hx => exact rfl); (case hy => exact rfl); (case hn => first | exact rfl | exact (Int.toNat_of_nonneg (by omega)).symm); (case hc => first | decide | omega))
      | ((with_reducible apply Go.Proofs.E.r_shr32 ?hx ?hy ?hn ?hc); (case hx => exact rfl); (case hy => exact rfl); (case hn => first | exact rfl | exact (Int.toNat_of_nonneg (by omega)).symm); (case hc => first | decide | omega))
      | ((with_reducible apply Go.Proofs.E.r_c8to32 ?hx); (case hx => exact rfl))
      | ((with_reducible apply Go.Proofs.E.r_c32to8 ?hx); (case hx => exact rfl))
      | ((with_reducible apply Go.Proofs.E.r_indexAddr_arr ?hx ?hy ?h0 ?h1); (case hx => exact rfl); (case hy => exact rfl); (case h0 => first | decide | omega); (case h1 => first | decide | omega))
      | ((with_reducible apply Go.Proofs.E.r_fieldAddr ?hx ?hn); (case hx => exact rfl); (case hn => decide))
      | ((with_reducible apply Go.Proofs.E.r_to (Go.Proofs.E.r_add ?hx ?hy) ?hw); (case hx => exact rfl); (case hy => exact rfl); (case hw => exact Go.Proofs.E.wrap_rng (by exact rfl) (by omega) (by omega)))
      | ((with_reducible apply Go.Proofs.E.r_add ?hx ?hy); (case hx => exact rfl); (case hy => exact rfl))
      | ((with_reducible apply Go.Proofs.E.r_to (Go.Proofs.E.r_sub ?hx ?hy) ?hw); (case hx => exact rfl); (case hy => exact rfl); (case hw => exact Go.Proofs.E.wrap_rng (by exact rfl) (by omega) (by omega)))
      | ((with_reducible apply Go.Proofs.E.r_sub ?hx ?hy); (case hx => exact rfl); (case hy => exact rfl))
      | ((with_reducible apply Go.Proofs.E.r_to (Go.Proofs.E.r_mul ?hx ?hy) ?hw); (case hx => exact rfl); (case hy => exact rfl); (case hw => exact Go.Proofs.E.wrap_rng (by exact rfl) (by omega) (by omega)))
      | ((with_reducible apply Go.Proofs.E.r_mul ?hx ?hy); (case hx => exact rfl); (case hy => exact rfl))
      | ((with_reducible apply Go.Proofs.E.r_lss ?hx ?hy); (case hx => exact rfl); (case hy => exact rfl))
      | ((with_reducible apply Go.Proofs.E.r_leq ?hx ?hy); (case hx => exact rfl); (case hy => exact rfl))
      | ((with_reducible apply Go.Proofs.E.r_gtr ?hx ?hy); (case hx => exact rfl); (case hy => exact rfl))
      | ((with_reducible apply Go.Proofs.E.r_geq ?hx ?hy); (case hx => exact rfl); (case hy => exact rfl))
      | ((with_reducible apply Go.Proofs.E.r_eql ?hx ?hy); (case hx => exact rfl); (case hy => exact rfl))
      | ((with_reducible apply Go.Proofs.E.r_neq ?hx ?hy); (case hx => exact rfl); (case hy => exact rfl))
      | ((with_reducible apply Go.Proofs.E.r_not ?hx); (case hx => exact rfl))
      | ((with_reducible apply Go.Proofs.E.r_len ?hx); (case hx => exact rfl))
      | ((with_reducible apply Go.Proofs.E.r_lens ?hx); (case hx => exact rfl))
      | ((with_reducible apply Go.Proofs.E.r_nilCheck ?hx); (case hx => exact rfl))
      | ((with_reducible apply Go.Proofs.E.r_extract ?hx ?hy); (case hx => exact rfl); (case hy => exact rfl))
      | ((with_reducible apply Go.Proofs.E.r_to (Go.Proofs.E.r_conv ?hx) ?hw); (case hx => exact rfl); (case hw => exact Go.Proofs.E.wrap_rng (by exact rfl) (by omega) (by omega)))
      | ((with_reducible apply Go.Proofs.E.r_conv ?hx); (case hx => exact rfl))
      | ((with_reducible apply Go.Proofs.E.r_pick_t ?hx ?hb); (case hx => exact rfl); (case hb => first | exact rfl | exact decide_eq_true (by omega) | exact decide_eq_false (by omega) | assumption | exact decide_eq_true (by assumption) | exact decide_eq_false (by assumption)))
      | ((with_reducible apply Go.Proofs.E.r_pick_f ?hx ?hb); (case hx => exact rfl); (case hb => first | exact rfl | exact decide_eq_true (by omega) | exact decide_eq_false (by omega) | assumption | exact decide_eq_true (by assumption) | exact decide_eq_false (by assumption)))
      | ((with_reducible apply Go.Proofs.E.r_neg ?hx); (case hx => exact rfl))
      | ((with_reducible apply Go.Proofs.E.r_shl ?hx ?hy ?h0); (case hx => exact rfl); (case hy => exact rfl); (case h0 => omega))
      | ((with_reducible apply Go.Proofs.E.r_shr ?hx ?hy ?h0); (case hx => exact rfl); (case hy => exact rfl); (case h0 => omega))
      | ((with_reducible apply Go.Proofs.E.r_quo ?hx ?hy ?h0); (case hx => exact rfl); (case hy => exact rfl); (case h0 => omega))
      | ((with_reducible apply Go.Proofs.E.r_rem ?hx ?hy ?h0); (case hx => exact rfl); (case hy => exact rfl); (case h0 => omega)))
    (hl : set1 l d v = l' := by first | (dsimp only [List.set, Go.Proofs.E.set1, Go.Proofs.E.ev, Go.Proofs.E.nth]; done) | exact rfl) (hr : (Region.ready .any ops listed).contains k = true := by kernel_rfl) (hf : Region.free .any ops listed k = true := by kernel_rfl)
    (hj : (ops[j]?).bind (·.dst) = some t := by exact rfl) (hv : ev l (.tmp t) = .bool c := by exact rfl) (hlt : t < l.length := by exact Nat.le_of_ble_eq_true rfl) (hc : c = b := by first | exact rfl | exact decide_eq_true (by omega) | exact decide_eq_false (by omega) | assumption | exact decide_eq_true (by assumption) | exact decide_eq_false (by assumption)) : WA P ops S F Q z (fuel + 1) listed (fr l) w := onvt k ho hr hf hj hv hlt hc (fun w1 _ => hs w1) hl h
theorem onff {j t : Nat} {b c : Bool} (k : Nat) (ho : ops[k]? = some { dst := d, op := op, type := T, pos := pos, after := after, guard := some (j, b) }) (h : WA P ops S F Q z fuel (listed.setIfInBounds k true) (fr l') w)
    (hl : set1 l d undef = l' := by first | (dsimp only [List.set, Go.Proofs.E.set1, Go.Proofs.E.ev, Go.Proofs.E.nth]; done) | exact rfl) (hr : (Region.ready .any ops listed).contains k = true := by kernel_rfl) (hf : Region.free .any ops listed k = true := by kernel_rfl)
    (hj : (ops[j]?).bind (·.dst) = some t := by exact rfl) (hv : ev l (.tmp t) = .bool c := by exact rfl) (hlt : t < l.length := by exact Nat.le_of_ble_eq_true rfl) (hc : c = !b := by first | exact rfl | exact decide_eq_true (by omega) | exact decide_eq_false (by omega) | assumption | exact decide_eq_true (by assumption) | exact decide_eq_false (by assumption)) : WA P ops S F Q z (fuel + 1) listed (fr l) w := onf k ho hr hf hj hv hlt hc hl h
/-- Loads of one's own blocks. -/
theorem onl {x : Operand} {E E' : TypeId} {b o d : Nat} {cs : List Value} {v : Value} [hr1 : One P E] (k : Nat) (ho : ops[k]? = some { dst := some d, op := .load E x, type := T, pos := pos, after := after, guard := none }) (hB : Blk w b cs E') (hS : b ∉ S) (hx : ev l x = .pointer (some ⟨b, o, none⟩)) (hv : cs[o]? = some v)
    (h : WA P ops S F Q z fuel (listed.setIfInBounds k true) (fr (l.set d v)) w) (hr : (Region.ready .any ops listed).contains k = true := by kernel_rfl) (hf : Region.free .any ops listed k = true := by kernel_rfl) : WA P ops S F Q z (fuel + 1) listed (fr l) w := onv k ho hr hf (fun w1 hG => r_load_one hx ((hB.ch hG.ch hS).cell hv)) rfl h
theorem onlr {x : Operand} {E E' : TypeId} {b o d n by_ : Nat} {cs ds : List Value} {zv : Value} [hr1 : Row P E] [hi : Inf P E zv n by_] (k : Nat) (ho : ops[k]? = some { dst := some d, op := .load E x, type := T, pos := pos, after := after, guard := none }) (hB : Blk w b cs E') (hS : b ∉ S) (hx : ev l x = .pointer (some ⟨b, o, none⟩)) (hd : (cs.drop o).take n = ds) (hn : ds.length = n)
    (h : WA P ops S F Q z fuel (listed.setIfInBounds k true) (fr (l.set d (.agg ds.toArray))) w) (hr : (Region.ready .any ops listed).contains k = true := by kernel_rfl) (hf : Region.free .any ops listed k = true := by kernel_rfl) : WA P ops S F Q z (fuel + 1) listed (fr l) w := onv k ho hr hf (fun w1 hG => r_load_row hx ((hB.ch hG.ch hS).row hd) hn) rfl h
/-- An element's address; a load there. -/
theorem onx {α : Type} {t : Ty α} {d : Nat} {x y : Operand} {s e : TypeId} {v : Value} {xs : List α} {q : IntKind} {i : Int} {zv : Value} {m by_ : Nat} [hu : Und P s (.slice e)] [hi : Inf P e zv m by_] (k : Nat) (ho : ops[k]? = some { dst := some d, op := .indexAddr s x y, type := T, pos := pos, after := after, guard := none })
    (hR : t.Rd S w v xs) (hx : ev l x = v) (hy : ev l y = .int q i) (hn : t.n = m) (h0 : 0 ≤ i) (h1 : i.toNat < xs.length)
    (h : ∀ b o a, xs[i.toNat]? = some a → t.At S w b o a → WA P ops S F Q z fuel (listed.setIfInBounds k true) (fr (l.set d (.pointer (some ⟨b, o, none⟩)))) w) (hr : (Region.ready .any ops listed).contains k = true := by kernel_rfl) (hf : Region.free .any ops listed k = true := by kernel_rfl) : WA P ops S F Q z (fuel + 1) listed (fr l) w := by
  subst hn
  obtain ⟨hl, A, cap, rfl, hcap, hA⟩ := hR
  obtain ⟨b, o, rfl, hb, hS, he⟩ := hA (fun h => by subst h; simp at h1)
  exact onv k ho hr hf (fun w1 _ => r_indexAddr hx hy h0 (by omega)) rfl (h _ _ _ (List.getElem?_eq_getElem h1) (he _ _ (List.getElem?_eq_getElem h1)))
theorem onxl {α : Type} {en : En α} {d : Nat} {x : Operand} {E : TypeId} {b o : Nat} {a : α} {zv : Value} {m by_ : Nat} [hr1 : Row P E] [hi : Inf P E zv m by_] (k : Nat) (ho : ops[k]? = some { dst := some d, op := .load E x, type := T, pos := pos, after := after, guard := none }) (hA : (Ty.enc en).At S w b o a) (hx : ev l x = .pointer (some ⟨b, o, none⟩)) (hm : en.n = m)
    (h : WA P ops S F Q z fuel (listed.setIfInBounds k true) (fr (l.set d (.agg (en.f a).toArray))) w) (hr : (Region.ready .any ops listed).contains k = true := by kernel_rfl) (hf : Region.free .any ops listed k = true := by kernel_rfl) : WA P ops S F Q z (fuel + 1) listed (fr l) w := by
  refine onv k ho hr hf (fun w1 hG => ?_) rfl h
  obtain ⟨hb, hS, cs, hR, hc⟩ := hA.mv hG.ch (fun _ _ h => h)
  have hR' : cs = en.f a := hR
  subst hR'
  exact r_load_row hx hc ((en.hl a).trans hm)
end
end Go.Proofs.E

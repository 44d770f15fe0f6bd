/- Walks inside the rounds of a range over a function.
   Regions that draw their order, where operations that read float past stores into what is new: steady operations hold where only blocks from N on and S's have turned; between two operations only new blocks come. -/
import Derived.Test.YtoimhmphhffelaaDoorQQueryBack03
import Derived.RangeFuncNested
import Derived.RangeFuncBound
import Derived.RangeFuncCalls
import Derived.RangeFuncLeaves
import Derived.TacticsIn
import Derived.OrdersIn
set_option linter.unusedVariables false
set_option linter.unusedSimpArgs false
namespace Go.Proofs.E
open Go Go.RowKit
section
variable {P : Program} {Q : Exit → Act → World → Prop} {r n : Nat} {ops : Array Oper}
variable {l : List Value} {w : World}
/-! ### At the wide fence: a call of yield -/
variable {op : Op} {T : TypeId} {pos : String} {after : Array Edge} {rest : List Oper}
/-! ### With deferred calls at hand -/
theorem put_defers (a : Act) (d : Option Tmp) (v : Value) (ds : List Deferred) : ({ a with defers := ds } : Act).put d v = { a.put d v with defers := ds } := by
  cases d <;> rfl
end
end Go.Proofs.E
namespace Go.Proofs.E
open Go Go.RowKit
/-- Blocks below n lie as they lay, but S's. -/
structure Bw (n : Nat) (S : List Nat) (w w' : World) : Prop where
  os : w'.os = w.os
  tape : w'.tape = w.tape
  output : w'.output = w.output
  size : w.heap.size ≤ w'.heap.size
  block : ∀ k, k < n → k ∉ S → w'.heap[k]? = w.heap[k]?
theorem Bw.then {n : Nat} {S : List Nat} {a b c : World} (h : Bw n S a b) (k : Bw n S b c) : Bw n S a c :=
  ⟨k.os.trans h.os, k.tape.trans h.tape, k.output.trans h.output, Nat.le_trans h.size k.size, fun i hi hS => (k.block i hi hS).trans (h.block i hi hS)⟩
theorem Bw.ch {S : List Nat} {w w' : World} (h : Bw w.heap.size S w w') : Ch S w w' := ⟨h.os, h.tape, h.output, h.size, h.block⟩
theorem Ch.bw {n : Nat} {S : List Nat} {w w' : World} (h : Ch S w w') (hn : n ≤ w.heap.size) : Bw n S w w' := ⟨h.os, h.tape, h.output, h.size, fun k hk hS => h.block k (Nat.lt_of_lt_of_le hk hn) hS⟩
theorem Bw.of_below {n : Nat} {S : List Nat} {w w' : World} (h : Below n w w') : Bw n S w w' := ⟨h.os, h.tape, h.output, h.size, fun k hk _ => h.block k hk⟩
theorem Bw.putObj {n : Nat} {S : List Nat} {w : World} {l : Nat} (o : Obj) (h : n ≤ l) : Bw n S w (w.putObj l o) :=
  ⟨rfl, rfl, rfl, by simp [World.putObj], fun k hk _ => by simp [World.putObj]; exact Array.getElem?_setIfInBounds_ne (by omega)⟩
end Go.Proofs.E
namespace Go.Proofs.E
open Go Go.RowKit
section
variable {P : Program} {l : List Value} {w : World} {T : TypeId}
theorem r_makeFunc {f : Fn} {cs : List Operand} : (exec (ev l) (.makeFunc f #[] cs.toArray) T).run P w = .ok (.value (.func f #[] (cs.map (ev l)).toArray)) w := by
  simp [exec, execOp, Instr.makeFunc]
theorem Blk.put {w : World} {b D : Nat} {cs : List Value} {E : TypeId} (h : Blk w b cs E) (hn : b ≠ D) (o : Obj) : Blk (w.putObj D o) b cs E := by
  unfold Blk at *
  simp [World.putObj]
  rw [Array.getElem?_setIfInBounds_ne (fun e => hn e.symm)]
  exact h
theorem Ch.put (w : World) (D : Nat) (o : Obj) : Ch [D] w (w.putObj D o) := ⟨rfl, rfl, rfl, by simp [World.putObj], fun k hk hn => by
  simp at hn
  simp [World.putObj]
  exact Array.getElem?_setIfInBounds_ne (fun e => hn e.symm)⟩
end
end Go.Proofs.E
set_option linter.unusedVariables false
set_option linter.unusedSimpArgs false
namespace Go.Proofs.E
open Go Go.RowKit
theorem Blk.bw {N : Nat} {S : List Nat} {w w' : World} {b : Nat} {cs : List Value} {E : TypeId} (h : Blk w b cs E) (hb : Bw N S w w') (hlt : b < N) (hS : b ∉ S) : Blk w' b cs E := (hb.block b hlt hS).trans h
section
variable {P : Program} {ops : Array Oper} {md : Region.Mode} {G H : World → World → Prop} {Q : Exit → Act → World → Prop} {z : List Nat × List Nat}
def SteadyY (P : Program) (ops : Array Oper) (G H : World → World → Prop) (w : World) (o : Oper) (v : Value) (a : Act) : Prop :=
  (Region.wanted o (yielded ops a.tmps) = true ∧ ∀ w1, G w w1 → o.quietAt P a (H w1) w1 v) ∨ (Region.wanted o (yielded ops a.tmps) = false ∧ v = undef)
theorem SteadyY.wpOp {i : Nat} {o : Oper} {v : Value} {a : Act} {w w1 : World} (hrefl : ∀ a, H a a) (hi : ops[i]? = some o) (hy : SteadyY P ops G H w o v a) (hG : G w w1)
    {K : Act → World → Prop} (h : ∀ w', H w1 w' → K (a.put o.dst v) w') : wpOp P ops Q i K a w1 := by
  unfold Go.wpOp
  simp only [hi]
  rcases hy with ⟨hw, hv⟩ | ⟨hw, rfl⟩
  · simp only [hw, if_true]
    exact .inl (wp_of_quietAt (hv w1 hG) (hrefl w1) h)
  · simp only [hw, Bool.false_eq_true, if_false]
    exact h w1 (hrefl w1)
theorem SteadyY.up (ht : ∀ a b c, G a b → G b c → G a c) {o : Oper} {v : Value} {a : Act} {w w1 : World} (h : SteadyY P ops G H w o v a) (hG : G w w1) : SteadyY P ops G H w1 o v a :=
  h.imp (fun ⟨hw, hv⟩ => ⟨hw, fun w2 h2 => hv w2 (ht _ _ _ hG h2)⟩) id
theorem SteadyY.of_same {o : Oper} {v : Value} {a a' : Act} {w : World} (hy : SteadyY P ops G H w o v a) (he : execOp a'.eval o = execOp a.eval o)
    (hw : Region.wanted o (yielded ops a'.tmps) = Region.wanted o (yielded ops a.tmps)) : SteadyY P ops G H w o v a' := by
  unfold SteadyY Oper.quietAt at *
  rw [he, hw]
  exact hy
theorem wpOp_putY {j : Nat} {oi oj : Oper} {v : Value} (hj : ops[j]? = some oj) (hap : oi.apart ops oj = true)
    (hsi : ∀ cs b, oi.op ≠ .select cs b) (hsj : ∀ cs b, oj.op ≠ .select cs b)
    (hQ : ∀ c a w, Q (.panic c) (a.put oi.dst v) w → Q (.panic c) a w) {K : Act → World → Prop} {a : Act} {w w1 : World}
    (hy : SteadyY P ops G H w oi v a) (h : wpOp P ops Q j K (a.put oi.dst v) w1) :
    wpOp P ops Q j (fun a' w' => SteadyY P ops G H w oi v a' ∧ K (a'.put oi.dst v) w') a w1 := by
  obtain ⟨h1, h2, h3⟩ := Oper.apart_spec hap
  have keep : ∀ (a : Act), SteadyY P ops G H w oi v a → ∀ u, SteadyY P ops G H w oi v (a.put oj.dst u) := fun a hy u =>
    hy.of_same (execOp_put oi hsi a oj.dst u h3) (wanted_put oi a oj.dst u h3)
  have keepD : ∀ d, SteadyY P ops G H w oi v { a with defers := d :: a.defers } := fun d => hy.of_same rfl rfl
  unfold wpOp at *
  simp only [hj] at *
  rw [wanted_put oj a oi.dst v h1] at h
  split
  · rename_i hw
    simp only [hw, if_true] at h
    rcases h with h | ⟨hasks, hlets⟩
    case inr => exact .inr ⟨by unfold Oper.asks at *; rw [execOp_put oj hsj a oi.dst v h1] at hasks; exact hasks, hlets⟩
    refine .inl ?_
    unfold Oper.wp at *
    rw [execOp_put oj hsj a oi.dst v h1] at h
    generalize (execOp a.eval oj).run P w1 = r at *
    cases r with
    | ok n w' =>
      cases n <;> simp only [Oper.upon] at h ⊢
      case value u => exact ⟨keep a hy u, by rw [← Act.put_comm a v u h2]; exact h⟩
      case skip => exact ⟨keep a hy _, by rw [← Act.put_comm a v undef h2]; exact h⟩
      case defer d =>
        refine ⟨keep _ (keepD d) _, ?_⟩
        rw [← Act.put_comm _ v undef h2, ← Act.put_defers]
        exact h
      case enter f args =>
        refine Calls.mono h fun e w'' he => ?_
        cases e with
        | returned u => exact ⟨keep a hy u, by rw [← Act.put_comm a v u h2]; exact he⟩
        | panicked c => exact hQ _ _ _ he
        | outgrown => exact he
      case row row args => exact Rows.mono h fun u w'' he => ⟨keep a hy u, by rw [← Act.put_comm a v u h2]; exact he⟩
    | halt x w' =>
      cases x <;> simp only [Oper.upon] at h ⊢
      case panic u => exact hQ _ _ _ h
  · rename_i hw
    simp only [hw] at h
    exact ⟨keep a hy _, by rw [← Act.put_comm a v undef h2]; exact h⟩
/-- Whatever order is picked from here on, in whatever world has come of this one. -/
def wpAnyY (P : Program) (md : Region.Mode) (ops : Array Oper) (G H : World → World → Prop) (Q : Exit → Act → World → Prop) (z : List Nat × List Nat) : Nat → Array Bool → Act → World → Prop
  | 0, listed, a, w => ∀ w1, H w w1 → Region.ready md ops listed = [] ∧ Q .normal a w1
  | fuel + 1, listed, a, w => ∀ w1, H w w1 →
    (Region.ready md ops listed = [] → Q .normal a w1) ∧
    ∀ i ∈ Region.ready md ops listed, wpOp P ops Q i (fun a' w' => (G w1 w' ∨ i ∈ z.1) ∧ wpAnyY P md ops G H Q z fuel (listed.setIfInBounds i true) a' w') a w1

theorem wpAnyY_up (ht : ∀ a b c, H a b → H b c → H a c) : ∀ (fuel : Nat) (listed : Array Bool) (a : Act) (w w1 : World), H w w1 → wpAnyY P md ops G H Q z fuel listed a w → wpAnyY P md ops G H Q z fuel listed a w1
  | 0, _, _, _, _, hG, h => fun w2 h2 => h w2 (ht _ _ _ hG h2)
  | _ + 1, _, _, _, _, hG, h => fun w2 h2 => h w2 (ht _ _ _ hG h2)

theorem wpAny_of_Y (hr : ∀ a, H a a) : ∀ (fuel : Nat) (listed : Array Bool) (a : Act) (w : World), wpAnyY P md ops G H Q z fuel listed a w → wpAny P md ops Q fuel listed a w
  | 0, _, _, w, h => h w (hr w)
  | fuel + 1, _, _, w, h => ⟨(h w (hr w)).1, fun i hi => wpOp_mono (fun a' w' h' => wpAny_of_Y hr fuel _ a' w' h'.2) ((h w (hr w)).2 i hi)⟩

theorem wpAnyY_first (hlate : LateZ md ops z) (hrefl : ∀ a, H a a) (hreflG : ∀ a, G a a) (htH : ∀ a b c, H a b → H b c → H a c) (ht : ∀ a b c, G a b → G b c → G a c) (hHG : ∀ a b, H a b → G a b) {i : Nat} {oi : Oper} {v : Value} (hnf : i ∉ z.2) (hi : ops[i]? = some oi) (hsel : ∀ (j : Nat) (o : Oper) cs b, ops[j]? = some o → o.op ≠ .select cs b)
    (hQ : ∀ c a w, Q (.panic c) (a.put oi.dst v) w → Q (.panic c) a w) :
    ∀ (fuel : Nat) (listed : Array Bool) (a : Act) (w : World),
      (∀ j oj, ops[j]? = some oj → j ≠ i → listed.getD j true = false → (∀ e ∈ oj.after, Region.binds md e = true → e.on ≠ i) → oi.apart ops oj = true) →
      Dn md ops listed → i ∈ Region.ready md ops listed → SteadyY P ops G H w oi v a →
      wpAnyY P md ops G H Q z fuel (listed.setIfInBounds i true) (a.put oi.dst v) w → wpAnyY P md ops G H Q z (fuel + 1) listed a w := by
  intro fuel
  induction fuel with
  | zero =>
    intro listed a w _ hD hr hy HH w1 hG
    refine ⟨fun h => (by rw [h] at hr; cases hr), fun j hj => ?_⟩
    by_cases hji : j = i
    · subst hji
      exact hy.wpOp hrefl hi (hHG _ _ hG) fun w' hw' => ⟨.inl (hHG _ _ hw'), wpAnyY_up htH 0 _ _ _ _ (htH _ _ _ hG hw') HH⟩
    · have := ready_mono hj hji
      rw [(HH w (hrefl w)).1] at this
      cases this
  | succ fuel ih =>
    intro listed a w hfree hD hr hy HH w1 hG
    refine ⟨fun h => (by rw [h] at hr; cases hr), fun j hj => ?_⟩
    by_cases hji : j = i
    · subst hji
      exact hy.wpOp hrefl hi (hHG _ _ hG) fun w' hw' => ⟨.inl (hHG _ _ hw'), wpAnyY_up htH (fuel + 1) _ _ _ _ (htH _ _ _ hG hw') HH⟩
    · have h1 := (HH w1 hG).2 j (ready_mono hj hji)
      obtain ⟨hjun, oj, hoj, hall⟩ := mem_ready.1 hj
      have hnot : ∀ e ∈ oj.after, Region.binds md e = true → e.on ≠ i := fun e he hb heq => by
        have h1 := hall e he hb
        have h0 := (mem_ready.1 hr).1
        rw [heq] at h1
        rcases Nat.lt_or_ge i listed.size with h' | h'
        · simp [h'] at h0 h1; rw [h0] at h1; cases h1
        · simp [Array.getElem?_eq_none h'] at h1
      have h2 := wpOp_putY hoj (hfree j oj hoj hji hjun hnot) (fun cs b => hsel i oi cs b hi) (fun cs b => hsel j oj cs b hoj) hQ hy h1
      have hfree' : ∀ k ok, ops[k]? = some ok → k ≠ i → (listed.setIfInBounds j true).getD k true = false →
          (∀ e ∈ ok.after, Region.binds md e = true → e.on ≠ i) → oi.apart ops ok = true := fun k ok hk hki hun hno => by
        refine hfree k ok hk hki ?_ hno
        by_cases hjk : j = k
        · subst hjk; exact hjun
        · rw [getD_set_ne true hjk] at hun; exact hun
      have hg : ∀ {w'}, G w1 w' ∨ j ∈ z.1 → G w1 w' := fun h => h.resolve_right fun hjz => hji (hlate listed j hjz i hnf hD hj hr).symm
      refine wpOp_mono (fun a' w' h3 => ⟨h3.2.1, ih (listed.setIfInBounds j true) a' w' hfree' (hD.set hj) (ready_mono hr (Ne.symm hji)) (h3.1.up ht (ht _ _ _ (hHG _ _ hG) (hg h3.2.1))) ?_⟩) h2
      rw [Array.setIfInBounds_comm _ _ hji]
      exact h3.2.2

theorem wpAnyY_firstP (hrefl : ∀ a, H a a) (htH : ∀ a b c, H a b → H b c → H a c) (hHG : ∀ a b, H a b → G a b) {i : Nat} {oi : Oper} {v : Value} (hi : ops[i]? = some oi) (hsel : ∀ (j : Nat) (o : Oper) cs b, ops[j]? = some o → o.op ≠ .select cs b)
    (hQ : ∀ c a w, Q (.panic c) (a.put oi.dst v) w → Q (.panic c) a w) :
    ∀ (fuel : Nat) (listed : Array Bool) (a : Act) (w : World),
      (∀ j oj, ops[j]? = some oj → j ≠ i → listed.getD j true = false → (∀ e ∈ oj.after, Region.binds md e = true → e.on ≠ i) → oi.apart ops oj = true) →
      i ∈ Region.ready md ops listed → Pure P ops oi v a →
      wpAnyY P md ops G H Q z fuel (listed.setIfInBounds i true) (a.put oi.dst v) w → wpAnyY P md ops G H Q z (fuel + 1) listed a w := by
  intro fuel
  induction fuel with
  | zero =>
    intro listed a w _ hr hy HH w1 hG
    refine ⟨fun h => (by rw [h] at hr; cases hr), fun j hj => ?_⟩
    by_cases hji : j = i
    · subst hji
      exact hy.wpOp hi ⟨.inl (hHG _ _ (hrefl w1)), wpAnyY_up htH 0 _ _ _ _ hG HH⟩
    · have := ready_mono hj hji
      rw [(HH w (hrefl w)).1] at this
      cases this
  | succ fuel ih =>
    intro listed a w hfree hr hy HH w1 hG
    refine ⟨fun h => (by rw [h] at hr; cases hr), fun j hj => ?_⟩
    by_cases hji : j = i
    · subst hji
      exact hy.wpOp hi ⟨.inl (hHG _ _ (hrefl w1)), wpAnyY_up htH (fuel + 1) _ _ _ _ hG HH⟩
    · have h1 := (HH w1 hG).2 j (ready_mono hj hji)
      obtain ⟨hjun, oj, hoj, hall⟩ := mem_ready.1 hj
      have hnot : ∀ e ∈ oj.after, Region.binds md e = true → e.on ≠ i := fun e he hb heq => by
        have h1 := hall e he hb
        have h0 := (mem_ready.1 hr).1
        rw [heq] at h1
        rcases Nat.lt_or_ge i listed.size with h' | h'
        · simp [h'] at h0 h1; rw [h0] at h1; cases h1
        · simp [Array.getElem?_eq_none h'] at h1
      have h2 := wpOp_putP hoj (hfree j oj hoj hji hjun hnot) (fun cs b => hsel i oi cs b hi) (fun cs b => hsel j oj cs b hoj) hQ hy h1
      have hfree' : ∀ k ok, ops[k]? = some ok → k ≠ i → (listed.setIfInBounds j true).getD k true = false →
          (∀ e ∈ ok.after, Region.binds md e = true → e.on ≠ i) → oi.apart ops ok = true := fun k ok hk hki hun hno => by
        refine hfree k ok hk hki ?_ hno
        by_cases hjk : j = k
        · subst hjk; exact hjun
        · rw [getD_set_ne true hjk] at hun; exact hun
      refine wpOp_mono (fun a' w' h3 => ⟨h3.2.1, ih (listed.setIfInBounds j true) a' w' hfree' (ready_mono hr (Ne.symm hji)) h3.1 ?_⟩) h2
      rw [Array.setIfInBounds_comm _ _ hji]
      exact h3.2.2
/-- Whichever may come up. -/
theorem wpAnyY_all {rs : List Nat} {fuel : Nat} {listed : Array Bool} {a : Act} {w : World} (hr : Region.ready md ops listed = rs) (hne : rs ≠ [])
    (h : ∀ i ∈ rs, ∀ w1, H w w1 → wpOp P ops Q i (fun a' w' => (G w1 w' ∨ i ∈ z.1) ∧ wpAnyY P md ops G H Q z fuel (listed.setIfInBounds i true) a' w') a w1) : wpAnyY P md ops G H Q z (fuel + 1) listed a w :=
  fun w1 hG => ⟨fun h0 => absurd (hr ▸ h0) hne, hr ▸ fun i hi => h i hi w1 hG⟩

theorem wpAnyY_done {listed : Array Bool} {a : Act} {w : World} (hr : Region.ready md ops listed = []) (h : ∀ w1, H w w1 → Q .normal a w1) : ∀ fuel, wpAnyY P md ops G H Q z fuel listed a w
  | 0 => fun w1 hG => ⟨hr, h w1 hG⟩
  | _ + 1 => fun w1 hG => ⟨fun _ => h w1 hG, by rw [hr]; simp⟩

end
section
variable {N : Nat} {S : List Nat} {w w' : World}
def Gy (N : Nat) (S : List Nat) (w w' : World) : Prop := N ≤ w.heap.size → Bw N S w w'
theorem Bw.refl : Bw N S w w := ⟨rfl, rfl, rfl, Nat.le_refl _, fun _ _ _ => rfl⟩
theorem Gy.refl (w : World) : Gy N S w w := fun _ => Bw.refl
theorem Gy.then {a b c : World} (h : Gy N S a b) (k : Gy N S b c) : Gy N S a c := fun hn => (h hn).then (k (Nat.le_trans hn (h hn).size))
theorem Ch.gy (h : Ch [] w w') : Gy N S w w' := fun hn => (h.some (S := S)).bw hn
/-- What changes one block from N on. -/
theorem Ch.bwn {b : Nat} (h : Ch [b] w w') (hn : N ≤ w.heap.size) (hb : N ≤ b ∨ b ∈ S) : Bw N S w w' := ⟨h.os, h.tape, h.output, h.size, fun k hk hS => h.block k (Nat.lt_of_lt_of_le hk hn) (by
  simp
  rintro rfl
  rcases hb with hb | hb
  · omega
  · exact hS hb)⟩
theorem At.bw {α : Type} {en : En α} {b o : Nat} {a : α} (hA : (Ty.enc en).At S w b o a) (hb : Bw N S w w') (hlt : b < N) : b < w'.heap.size ∧ b ∉ S ∧ ∃ cs, (Ty.enc en).R S w' a cs ∧ w'.rangeAt b o cs := by
  obtain ⟨h1, h2, cs, hR, hr⟩ := hA
  exact ⟨Nat.lt_of_lt_of_le h1 hb.size, h2, cs, hR, fun j v hv => (World.cell?_of_block (w := w) (a := ⟨b, o + j, none⟩) (hb.block b hlt h2)).trans (hr j v hv)⟩
end
section
variable {P : Program} {ops : Array Oper} {N : Nat} {S : List Nat} {Q : Exit → Act → World → Prop} {z : List Nat × List Nat} {fuel : Nat} {listed : Array Bool} {a : Act} {l l' : List Value} {w : World}
  {op : Op} {T : TypeId} {pos : String} {after : Array Edge} {d : Option Nat}
/-- Where a walk stands: some operations have come up. -/
def WY (P : Program) (ops : Array Oper) (N : Nat) (S : List Nat) (Q : Exit → Act → World → Prop) (z : List Nat × List Nat) (fuel : Nat) (listed : Array Bool) (a : Act) (w : World) : Prop :=
  N ≤ w.heap.size → Region.noSelect ops = true → LateZ .any ops z → Dn .any ops listed → wpAnyY P .any ops (Gy N S) (Ch []) (NoP Q) z fuel listed a w
theorem c_ordY {id : Nat} {os : List Oper} (zz : List Nat × List Nat) (S : List Nat) (hm : P.follows .mixedOrders = true) (hB : Region.noSelect os.toArray = true) (hL : zz.1.all (lateC os.toArray zz.2) = true)
    (h : ∀ w0, Ch [] w w0 → w0.heap.size = w.heap.size → WY P os.toArray w.heap.size S Q zz os.length (Array.replicate os.length false) (fr l) w0) : (Code.region id os.toArray true).wp P Q (fr l) w := by
  refine Code.wp_mono (Q := NoP Q) (fun e a w h => by cases e <;> first | exact h | exact (h : False).elim) ?_
  refine wp_region_any hm (wpAny_of_Y (G := Gy w.heap.size S) (H := Ch []) (z := zz) (Ch.refl []) _ _ _ _ ?_)
  have := h { w with drawn := w.drawn + 1 } ⟨rfl, rfl, rfl, Nat.le_refl _, fun _ _ _ => rfl⟩ rfl (Nat.le_refl _) hB (lateZ_of hL) dn0
  simpa using this
theorem wy_done (hr : Region.ready .any ops listed = []) (h : ∀ w1, Ch [] w w1 → Q .normal (fr l) w1) : WY P ops N S Q z fuel listed (fr l) w := fun _ _ _ _ => wpAnyY_done (Q := NoP Q) hr (fun w1 h1 => h w1 h1) fuel
/-- A steady operation is taken first. -/
theorem wy_first {k : Nat} {o : Oper} {v : Value} (hnf : k ∉ z.2) (ho : ops[k]? = some o) (hr : (Region.ready .any ops listed).contains k = true) (hf : Region.free .any ops listed k = true) (hs : N ≤ w.heap.size → SteadyY P ops (Gy N S) (Ch []) w o v a)
    (h : WY P ops N S Q z fuel (listed.setIfInBounds k true) (a.put o.dst v) w) : WY P ops N S Q z (fuel + 1) listed a w := fun h0 h1 h2 h3 =>
  have hr' : k ∈ Region.ready .any ops listed := by simpa using hr
  wpAnyY_first h2 (Ch.refl []) Gy.refl (fun _ _ _ h k => h.then k) (fun _ _ _ h k => h.then k) (fun _ _ h => h.gy) hnf ho (Region.noSelect_spec h1) (fun c a w h => (h : False).elim) fuel listed a w (Region.free_spec ho hf) h3 hr' (hs h0) (h h0 h1 h2 (h3.set hr'))
theorem wy_firstP {k : Nat} {o : Oper} {v : Value} (ho : ops[k]? = some o) (hr : (Region.ready .any ops listed).contains k = true) (hf : Region.free .any ops listed k = true) (hs : Pure P ops o v a)
    (h : WY P ops N S Q z fuel (listed.setIfInBounds k true) (a.put o.dst v) w) : WY P ops N S Q z (fuel + 1) listed a w := fun h0 h1 h2 h3 =>
  have hr' : k ∈ Region.ready .any ops listed := by simpa using hr
  wpAnyY_firstP (Ch.refl []) (fun _ _ _ h k => h.then k) (fun _ _ h => h.gy) ho (Region.noSelect_spec h1) (fun c a w h => (h : False).elim) fuel listed a w (Region.free_spec ho hf) hr' hs (h h0 h1 h2 (h3.set hr'))
theorem ynp {v : Value} (k : Nat) (ho : ops[k]? = some { dst := d, op := op, type := T, pos := pos, after := after, guard := none }) (hr : (Region.ready .any ops listed).contains k = true) (hf : Region.free .any ops listed k = true)
    (hs : ∀ w1 : World, (exec (ev l) op T).run P w1 = .ok (.value v) w1) (hl : set1 l d v = l') (h : WY P ops N S Q z fuel (listed.setIfInBounds k true) (fr l') w) : WY P ops N S Q z (fuel + 1) listed (fr l) w := by
  subst hl
  refine wy_firstP ho hr hf (.inl ⟨by simp [Region.wanted], fun w1 => ?_⟩) ?_ (v := v)
  · rw [exec_eq, eval_fr, hs w1]
  · show WY _ _ _ _ _ _ _ _ ((fr l).put d v) w
    rw [put_set1]
    exact h
theorem ynpt {v : Value} {j t : Nat} {b c : Bool} (k : Nat) (ho : ops[k]? = some { dst := d, op := op, type := T, pos := pos, after := after, guard := some (j, b) }) (hr : (Region.ready .any ops listed).contains k = true) (hf : Region.free .any ops listed k = true)
    (hj : (ops[j]?).bind (·.dst) = some t) (hv : ev l (.tmp t) = .bool c) (hlt : t < l.length) (hc : c = b)
    (hs : ∀ w1 : World, (exec (ev l) op T).run P w1 = .ok (.value v) w1) (hl : set1 l d v = l') (h : WY P ops N S Q z fuel (listed.setIfInBounds k true) (fr l') w) : WY P ops N S Q z (fuel + 1) listed (fr l) w := by
  subst hl hc
  refine wy_firstP ho hr hf (.inl ⟨by simp [Region.wanted, yielded_fr hj hv hlt], fun w1 => ?_⟩) ?_ (v := v)
  · rw [exec_eq, eval_fr, hs w1]
  · show WY _ _ _ _ _ _ _ _ ((fr l).put d v) w
    rw [put_set1]
    exact h
theorem ynv {v : Value} (k : Nat) (ho : ops[k]? = some { dst := d, op := op, type := T, pos := pos, after := after, guard := none }) (hr : (Region.ready .any ops listed).contains k = true) (hf : Region.free .any ops listed k = true)
    (hs : ∀ w1, Bw N S w w1 → (exec (ev l) op T).run P w1 = .ok (.value v) w1) (hl : set1 l d v = l') (h : WY P ops N S Q z fuel (listed.setIfInBounds k true) (fr l') w) (hnf : k ∉ z.2 := by decide) : WY P ops N S Q z (fuel + 1) listed (fr l) w := by
  subst hl
  refine wy_first hnf ho hr hf (fun h0 => .inl ⟨by simp [Region.wanted], fun w1 hG => ?_⟩) ?_ (v := v)
  · unfold Oper.quietAt
    rw [exec_eq, eval_fr, hs w1 (hG h0)]
    exact ⟨rfl, rfl⟩
  · show WY _ _ _ _ _ _ _ _ ((fr l).put d v) w
    rw [put_set1]
    exact h
/-- With a guard that does not. -/
theorem ynf {j t : Nat} {b c : Bool} (k : Nat) (ho : ops[k]? = some { dst := d, op := op, type := T, pos := pos, after := after, guard := some (j, b) }) (hr : (Region.ready .any ops listed).contains k = true) (hf : Region.free .any ops listed k = true)
    (hj : (ops[j]?).bind (·.dst) = some t) (hv : ev l (.tmp t) = .bool c) (hlt : t < l.length) (hc : c = !b) (hl : set1 l d undef = l') (h : WY P ops N S Q z fuel (listed.setIfInBounds k true) (fr l') w) : WY P ops N S Q z (fuel + 1) listed (fr l) w := by
  subst hl
  refine wy_firstP ho hr hf (.inr ⟨by simp [Region.wanted, yielded_fr hj hv hlt, hc], rfl⟩) ?_
  show WY _ _ _ _ _ _ _ _ ((fr l).put d undef) w
  rw [put_set1]
  exact h
/-- Whichever may come up: one, two. -/
theorem wy_op {k : Nat} {o : Oper} {w1 : World} (ho : ops[k]? = some o)
    (h : wpList P ops (Exit.then (fun a' w' => (Bw N S w1 w' ∨ (k ∈ z.1 ∧ N ≤ w'.heap.size)) ∧ WY P ops N S Q z fuel (listed.setIfInBounds k true) a' w') (NoP Q)) [o] (fr l) w1) (h0 : N ≤ w1.heap.size) (h1 : Region.noSelect ops = true) (h2 : LateZ .any ops z) (h3 : Dn .any ops listed) (hk : k ∈ Region.ready .any ops listed) :
    wpOp P ops (NoP Q) k (fun a' w' => (Gy N S w1 w' ∨ k ∈ z.1) ∧ wpAnyY P .any ops (Gy N S) (Ch []) (NoP Q) z fuel (listed.setIfInBounds k true) a' w') (fr l) w1 := by
  refine wpOp_mono (K := fun a' w' => (Bw N S w1 w' ∨ (k ∈ z.1 ∧ N ≤ w'.heap.size)) ∧ WY P ops N S Q z fuel (listed.setIfInBounds k true) a' w') (fun a' w' h' => ⟨h'.1.imp (fun hb _ => hb) And.left, h'.2 (h'.1.elim (fun hb => Nat.le_trans h0 hb.size) And.right) h1 h2 (h3.set hk)⟩) ?_
  unfold wpList at h
  unfold wpOp
  simp only [ho]
  split at h
  · rename_i hw
    simp only [hw, if_true]
    rcases h with h | ⟨h, a0, w0, hx⟩
    · refine .inl ?_
      unfold Oper.wp at *
      generalize (execOp (fr l).eval o).run P w1 = r at *
      cases r with
      | ok n w' => cases n <;> first | exact h | (exact Calls.mono h fun e w'' he => by cases e <;> exact he)
      | halt x w' => cases x <;> exact h
    · exact .inr ⟨h, a0, w0, hx⟩
  · rename_i hw
    simp only [hw, if_false]
    exact h
theorem yn1 {o : Oper} (k : Nat) (hr : Region.ready .any ops listed = [k]) (ho : ops[k]? = some o)
    (h : ∀ w1, Ch [] w w1 → wpList P ops (Exit.then (fun a' w' => (Bw N S w1 w' ∨ (k ∈ z.1 ∧ N ≤ w'.heap.size)) ∧ WY P ops N S Q z fuel (listed.setIfInBounds k true) a' w') (NoP Q)) [o] (fr l) w1) : WY P ops N S Q z (fuel + 1) listed (fr l) w := fun h0 h1 h2 h3 =>
  wpAnyY_all hr (by simp) fun i hi w1 hG => by
    have : i = k := by simpa using hi
    subst this
    exact wy_op ho (h w1 hG) (Nat.le_trans h0 hG.size) h1 h2 h3 (by rw [hr]; simp)
/-- It has come up. -/
theorem x_wy {k : Nat} {w1 w' : World} (hG : Bw N S w1 w' ∨ (k ∈ z.1 ∧ N ≤ w'.heap.size)) (hl : l = l') (h : WY P ops N S Q z fuel listed (fr l') w') : wpList P ops (Exit.then (fun a' w' => (Bw N S w1 w' ∨ (k ∈ z.1 ∧ N ≤ w'.heap.size)) ∧ WY P ops N S Q z fuel listed a' w') (NoP Q)) [] (fr l) w' := by
  subst hl
  exact wl_nil (x_then ⟨hG, h⟩)
/-! ### The same, looking for their own proofs -/
theorem yn {v : Value} (k : Nat) (ho : ops[k]? = some { dst := d, op := op, type := T, pos := pos, after := after, guard := none }) (h : WY P ops N S Q z fuel (listed.setIfInBounds k true) (fr l') w)
    (hs : ∀ w1 : World, (exec (ev l) op T).run P w1 = .ok (.value v) w1 := by
      intro _
      first
      | (with_reducible apply Go.Proofs.E.r_move)
      | (with_reducible apply Go.Proofs.E.r_assign)
      | ((with_reducible apply Go.Proofs.E.r_add32 ?hx ?hy); (case hx => exact rfl); (case hy => exact rfl))
      | ((with_reducible apply Go.Proofs.E.r_xor32 ?hx ?hy); (case hx => exact rfl); (case hy => exact rfl))
      | ((with_reducible apply Go.Proofs.E.r_and32 ?hx ?hy); (case hx => exact rfl); (case hy => exact rfl))
      | ((with_reducible apply Go.Proofs.E.r_or32 ?hx ?hy); (case hx => exact rfl); (case hy => exact rfl))
      | ((with_reducible apply Go.Proofs.E.r_compl32 ?hx); (case hx => exact rfl))
      | ((with_reducible apply Go.Proofs.E.r_shl32 ?hx ?hy ?hn ?hc); (case hx => exact rfl); (case hy => exact rfl); (case hn => first | exact rfl | exact (Int.toNat_of_nonneg (by omega)).symm); (case hc => first | decide | omega))
      | ((with_reducible apply Go.Proofs.E.r_shr32 ?hx ?hy ?hn ?hc); (case hx => exact rfl); (case hy => exact rfl); (case hn => first | exact rfl | exact (Int.toNat_of_nonneg (by omega)).symm); (case hc => first | decide | omega))
      | ((with_reducible apply Go.Proofs.E.r_c8to32 ?hx); (case hx => exact rfl))
      | ((with_reducible apply Go.Proofs.E.r_c32to8 ?hx); (case hx => exact rfl))
      | ((with_reducible apply Go.Proofs.E.r_indexAddr_arr ?hx ?hy ?h0 ?h1); (case hx => exact rfl); (case hy => exact rfl); (case h0 => first | decide | omega); (case h1 => first | decide | omega))
      | ((with_reducible apply Go.Proofs.E.r_fieldAddr ?hx ?hn); (case hx => exact rfl); (case hn => decide))
      | ((with_reducible apply Go.Proofs.E.r_to (Go.Proofs.E.r_add ?hx ?hy) ?hw); (case hx => exact rfl); (case hy => exact rfl); (case hw => exact Go.Proofs.E.wrap_rng (by exact rfl) (by omega) (by omega)))
      | ((with_reducible apply Go.Proofs.E.r_add ?hx ?hy); (case hx => exact rfl); (case hy => exact rfl))
      | ((with_reducible apply Go.Proofs.E.r_to (Go.Proofs.E.r_sub ?hx ?hy) ?hw); (case hx => exact rfl); (case hy => exact rfl); (case hw => exact Go.Proofs.E.wrap_rng (by exact rfl) (by omega) (by omega)))
      | ((with_reducible apply Go.Proofs.E.r_sub ?hx ?hy); (case hx => exact rfl); (case hy => exact rfl))
      | ((with_reducible apply Go.Proofs.E.r_to (Go.Proofs.E.r_mul ?hx ?hy) ?hw); (case hx => exact rfl); (case hy => exact rfl); (case hw => exact Go.Proofs.E.wrap_rng (by exact rfl) (by omega) (by omega)))
      | ((with_reducible apply Go.Proofs.E.r_mul ?hx ?hy); (case hx => exact rfl); (case hy => exact rfl))
      | ((with_reducible apply Go.Proofs.E.r_lss ?hx ?hy); (case hx => exact rfl); (case hy => exact rfl))
      | ((with_reducible apply Go.Proofs.E.r_leq ?hx ?hy); (case hx => exact rfl); (case hy => exact rfl))
      | ((with_reducible apply Go.Proofs.E.r_gtr ?hx ?hy); (case hx => exact rfl); (case hy => exact rfl))
      | ((with_reducible apply Go.Proofs.E.r_geq ?hx ?hy); (case hx => exact rfl); (case hy => exact rfl))
      | ((with_reducible apply Go.Proofs.E.r_eql ?hx ?hy); (case hx => exact rfl); (case hy => exact rfl))
      | ((with_reducible apply Go.Proofs.E.r_neq ?hx ?hy); (case hx => exact rfl); (case hy => exact rfl))
      | ((with_reducible apply Go.Proofs.E.r_not ?hx); (case hx => exact rfl))
      | ((with_reducible apply Go.Proofs.E.r_len ?hx); (case hx => exact rfl))
      | ((with_reducible apply Go.Proofs.E.r_lens ?hx); (case hx => exact rfl))
      | ((with_reducible apply Go.Proofs.E.r_nilCheck ?hx); (case hx => exact rfl))
      | ((with_reducible apply Go.Proofs.E.r_extract ?hx ?hy); (case hx => exact rfl); (case hy => exact rfl))
      | ((with_reducible apply Go.Proofs.E.r_to (Go.Proofs.E.r_conv ?hx) ?hw); (case hx => exact rfl); (case hw => exact Go.Proofs.E.wrap_rng (by exact rfl) (by omega) (by omega)))
      | ((with_reducible apply Go.Proofs.E.r_conv ?hx); (case hx => exact rfl))
      | ((with_reducible apply Go.Proofs.E.r_pick_t ?hx ?hb); (case hx => exact rfl); (case hb => first | exact rfl | exact decide_eq_true (by omega) | exact decide_eq_false (by omega) | assumption | exact decide_eq_true (by assumption) | exact decide_eq_false (by assumption)))
      | ((with_reducible apply Go.Proofs.E.r_pick_f ?hx ?hb); (case hx => exact rfl); (case hb => first | exact rfl | exact decide_eq_true (by omega) | exact decide_eq_false (by omega) | assumption | exact decide_eq_true (by assumption) | exact decide_eq_false (by assumption)))
      | ((with_reducible apply Go.Proofs.E.r_neg ?hx); (case hx => exact rfl))
      | ((with_reducible apply Go.Proofs.E.r_shl ?hx ?hy ?h0); (case hx => exact rfl); (case hy => exact rfl); (case h0 => omega))
      | ((with_reducible apply Go.Proofs.E.r_shr ?hx ?hy ?h0); (case hx => exact rfl); (case hy => exact rfl); (case h0 => omega))
      | ((with_reducible apply Go.Proofs.E.r_quo ?hx ?hy ?h0); (case hx => exact rfl); (case hy => exact rfl); (case h0 => omega))
      | ((with_reducible apply Go.Proofs.E.r_rem ?hx ?hy ?h0); (case hx => exact rfl); (case hy => exact rfl); (case h0 => omega)))
    (hl : set1 l d v = l' := by first | (dsimp only [List.set, Go.Proofs.E.set1, Go.Proofs.E.ev, Go.Proofs.E.nth]; done) | exact rfl) (hr : (Region.ready .any ops listed).contains k = true := by kernel_rfl) (hf : Region.free .any ops listed k = true := by kernel_rfl) : WY P ops N S Q z (fuel + 1) listed (fr l) w := ynp k ho hr hf hs hl h
theorem ynt {v : Value} {j t : Nat} {b c : Bool} (k : Nat) (ho : ops[k]? = some { dst := d, op := op, type := T, pos := pos, after := after, guard := some (j, b) }) (h : WY P ops N S Q z fuel (listed.setIfInBounds k true) (fr l') w)
    (hs : ∀ w1 : World, (exec (ev l) op T).run P w1 = .ok (.value v) w1 := by
      intro _
      first
      | (with_reducible apply Go.Proofs.E.r_move)
      | (with_reducible apply Go.Proofs.E.r_assign)
      | ((with_reducible apply Go.Proofs.E.r_add32 ?hx ?hy); (case hx => exact rfl); (case hy => exact rfl))
      | ((with_reducible apply Go.Proofs.E.r_xor32 ?hx ?hy); (case hx => exact rfl); (case hy => exact rfl))
      | ((with_reducible apply Go.Proofs.E.r_and32 ?hx ?hy); (case hx => exact rfl); (case hy => exact rfl))
      | ((with_reducible apply Go.Proofs.E.r_or32 ?hx ?hy); (case hx => exact rfl); (case hy => exact rfl))
      | ((with_reducible apply Go.Proofs.E.r_compl32 ?hx); (case hx => exact rfl))
      | ((with_reducible apply Go.Proofs.E.r_shl32 ?hx ?hy ?hn ?hc); (case hx => exact rfl); (case hy => exact rfl); (case hn => first | exact rfl | exact (Int.toNat_of_nonneg (by omega)).symm); (case hc => first | decide | omega))
      | ((with_reducible apply Go.Proofs.E.r_shr32 ?hx ?hy ?hn ?hc); (case hx => exact rfl); (case hy => exact rfl); (case hn => first | exact rfl | exact (Int.toNat_of_nonneg (by omega)).symm); (case hc => first | decide | omega))
      | ((with_reducible apply Go.Proofs.E.r_c8to32 ?hx); (case hx => exact rfl))
      | ((with_reducible apply Go.Proofs.E.r_c32to8 ?hx); (case hx => exact rfl))
      | ((with_reducible apply Go.Proofs.E.r_indexAddr_arr ?hx ?hy ?h0 ?h1); (case hx => exact rfl); (case hy => exact rfl); (case h0 => first | decide | omega); (case h1 => first | decide | omega))
      | ((with_reducible apply Go.Proofs.E.r_fieldAddr ?hx ?hn); (case hx => exact rfl); (case hn => decide))
      | ((with_reducible apply Go.Proofs.E.r_to (Go.Proofs.E.r_add ?hx ?hy) ?hw); (case hx => exact rfl); (case hy => exact rfl); (case hw => exact Go.Proofs.E.wrap_rng (by exact rfl) (by omega) (by omega)))
      | ((with_reducible apply Go.Proofs.E.r_add ?hx ?hy); (case hx => exact rfl); (case hy => exact rfl))
      | ((with_reducible apply Go.Proofs.E.r_to (Go.Proofs.E.r_sub ?hx ?hy) ?hw); (case hx => exact rfl); (case hy => exact rfl); (case hw => exact Go.Proofs.E.wrap_rng (by exact rfl) (by omega) (by omega)))
      | ((with_reducible apply Go.Proofs.E.r_sub ?hx ?hy); (case hx => exact rfl); (case hy => exact rfl))
      | ((with_reducible apply Go.Proofs.E.r_to (Go.Proofs.E.r_mul ?hx ?hy) ?hw); (case hx => exact rfl); (case hy => exact rfl); (case hw => exact Go.Proofs.E.wrap_rng (by exact rfl) (by omega) (by omega)))
      | ((with_reducible apply Go.Proofs.E.r_mul ?hx ?hy); (case hx => exact rfl); (case hy => exact rfl))
      | ((with_reducible apply Go.Proofs.E.r_lss ?hx ?hy); (case hx => exact rfl); (case hy => exact rfl))
      | ((with_reducible apply Go.Proofs.E.r_leq ?hx ?hy); (case hx => exact rfl); (case hy => exact rfl))
      | ((with_reducible apply Go.Proofs.E.r_gtr ?hx ?hy); (case hx => exact rfl); (case hy => exact rfl))
      | ((with_reducible apply Go.Proofs.E.r_geq ?hx ?hy); (case hx => exact rfl); (case hy => exact rfl))
      | ((with_reducible apply Go.Proofs.E.r_eql ?hx ?hy); (case hx => exact rfl); (case hy => exact rfl))
      | ((with_reducible apply Go.Proofs.E.r_neq ?hx ?hy); (case hx => exact rfl); (case hy => exact rfl))
      | ((with_reducible apply Go.Proofs.E.r_not ?hx); (case hx => exact rfl))
      | ((with_reducible apply Go.Proofs.E.r_len ?hx); (case hx => exact rfl))
      | ((with_reducible apply Go.Proofs.E.r_lens ?hx); (case hx => exact rfl))
      | ((with_reducible apply Go.Proofs.E.r_nilCheck ?hx); (case hx => exact rfl))
      | ((with_reducible apply Go.Proofs.E.r_extract ?hx ?hy); (case hx => exact rfl); (case hy => exact rfl))
      | ((with_reducible apply Go.Proofs.E.r_to (Go.Proofs.E.r_conv ?hx) ?hw); (case hx => exact rfl); (case hw => exact Go.Proofs.E.wrap_rng (by exact rfl) (by omega) (by omega)))
      | ((with_reducible apply Go.Proofs.E.r_conv ?hx); (case hx => exact rfl))
      | ((with_reducible apply Go.Proofs.E.r_pick_t ?hx ?hb); (case hx => exact rfl); (case hb => first | exact rfl | exact decide_eq_true (by omega) | exact decide_eq_false (by omega) | assumption | exact decide_eq_true (by assumption) | exact decide_eq_false (by assumption)))
      | ((with_reducible apply Go.Proofs.E.r_pick_f ?hx ?hb); (case hx => exact rfl); (case hb => first | exact rfl | exact decide_eq_true (by omega) | exact decide_eq_false (by omega) | assumption | exact decide_eq_true (by assumption) | exact decide_eq_false (by assumption)))
      | ((with_reducible apply Go.Proofs.E.r_neg ?hx); (case hx => exact rfl))
      | ((with_reducible apply Go.Proofs.E.r_shl ?hx ?hy ?h0); (case hx => exact rfl); (case hy => exact rfl); (case h0 => omega))
      | ((with_reducible apply Go.Proofs.E.r_shr ?hx ?hy ?h0); (case hx => exact rfl); (case hy => exact rfl); (case h0 => omega))
      | ((with_reducible apply Go.Proofs.E.r_quo ?hx ?hy ?h0); (case hx => exact rfl); (case hy => exact rfl); (case h0 => omega))
      | ((with_reducible apply Go.Proofs.E.r_rem ?hx ?hy ?h0); (case hx => exact rfl); (case hy => exact rfl); (case h0 => omega)))
    (hl : set1 l d v = l' := by first | (dsimp only [List.set, Go.Proofs.E.set1, Go.Proofs.E.ev, Go.Proofs.E.nth]; done) | exact rfl) (hr : (Region.ready .any ops listed).contains k = true := by kernel_rfl) (hf : Region.free .any ops listed k = true := by kernel_rfl)
    (hj : (ops[j]?).bind (·.dst) = some t := by exact rfl) (hv : ev l (.tmp t) = .bool c := by exact rfl) (hlt : t < l.length := by exact Nat.le_of_ble_eq_true rfl) (hc : c = b := by first | exact rfl | exact decide_eq_true (by omega) | exact decide_eq_false (by omega) | assumption | exact decide_eq_true (by assumption) | exact decide_eq_false (by assumption)) : WY P ops N S Q z (fuel + 1) listed (fr l) w := ynpt k ho hr hf hj hv hlt hc hs hl h
theorem ynff {j t : Nat} {b c : Bool} (k : Nat) (ho : ops[k]? = some { dst := d, op := op, type := T, pos := pos, after := after, guard := some (j, b) }) (h : WY P ops N S Q z fuel (listed.setIfInBounds k true) (fr l') w)
    (hl : set1 l d undef = l' := by first | (dsimp only [List.set, Go.Proofs.E.set1, Go.Proofs.E.ev, Go.Proofs.E.nth]; done) | exact rfl) (hr : (Region.ready .any ops listed).contains k = true := by kernel_rfl) (hf : Region.free .any ops listed k = true := by kernel_rfl)
    (hj : (ops[j]?).bind (·.dst) = some t := by exact rfl) (hv : ev l (.tmp t) = .bool c := by exact rfl) (hlt : t < l.length := by exact Nat.le_of_ble_eq_true rfl) (hc : c = !b := by first | exact rfl | exact decide_eq_true (by omega) | exact decide_eq_false (by omega) | assumption | exact decide_eq_true (by assumption) | exact decide_eq_false (by assumption)) : WY P ops N S Q z (fuel + 1) listed (fr l) w := ynf k ho hr hf hj hv hlt hc hl h
/-- Loads of one's own blocks. -/
theorem ynl {x : Operand} {E E' : TypeId} {b o d : Nat} {cs : List Value} {v : Value} [hr1 : One P E] (k : Nat) (ho : ops[k]? = some { dst := some d, op := .load E x, type := T, pos := pos, after := after, guard := none }) (hB : Blk w b cs E') (hlt : b < N) (hS : b ∉ S) (hx : ev l x = .pointer (some ⟨b, o, none⟩)) (hv : cs[o]? = some v)
    (h : WY P ops N S Q z fuel (listed.setIfInBounds k true) (fr (l.set d v)) w) (hr : (Region.ready .any ops listed).contains k = true := by kernel_rfl) (hf : Region.free .any ops listed k = true := by kernel_rfl) (hnf : k ∉ z.2 := by decide) : WY P ops N S Q z (fuel + 1) listed (fr l) w := ynv (hnf := hnf) k ho hr hf (fun w1 hG => r_load_one hx ((hB.bw hG hlt hS).cell hv)) rfl h
end
end Go.Proofs.E

/- A region that draws its order and calls yield: all that only reads in any order, then the call alone, then one operation more. -/
import Derived.Test.YtnkkeehoejmcnaaSl
set_option linter.unusedVariables false
set_option linter.unusedSimpArgs false
namespace Go.Proofs.E
open Go Go.RowKit
section
variable {P : Program} {ops : Array Oper} {G : World → World → Prop} {Z : Act → World → Prop} {full : Array Bool} {z : Nat}
def QZ (Z : Act → World → Prop) : Exit → Act → World → Prop := fun e a w => e = .normal ∧ Z a w
theorem noOut_QZ : ¬ LetsOut (QZ Z) := fun ⟨a, w, h, _⟩ => by cases h
def wpAnyGS (P : Program) (ops : Array Oper) (G : World → World → Prop) (Z : Act → World → Prop) (full : Array Bool) : Nat → Array Bool → Act → World → Prop
  | 0, listed, a, w => listed = full ∧ ∀ w1, G w w1 → Z a w1
  | fuel + 1, listed, a, w => ∀ w1, G w w1 → Region.ready .any ops listed ≠ [] ∧ ∀ i ∈ Region.ready .any ops listed, wpOp P ops (QZ Z) i (fun a' w' => G w1 w' ∧ wpAnyGS P ops G Z full fuel (listed.setIfInBounds i true) a' w') a w1
theorem wpAnyGS_up (ht : ∀ a b c, G a b → G b c → G a c) : ∀ (fuel : Nat) (listed : Array Bool) (a : Act) (w w1 : World), G w w1 → wpAnyGS P ops G Z full fuel listed a w → wpAnyGS P ops G Z full fuel listed a w1
  | 0, _, _, _, _, hG, h => ⟨h.1, fun w2 h2 => h.2 w2 (ht _ _ _ hG h2)⟩
  | _ + 1, _, _, _, _, hG, h => fun w2 h2 => h w2 (ht _ _ _ hG h2)
theorem wpAnyGS_first (hlate : Late .any ops z) (hz : Region.ready .any ops full = [z]) (hrefl : ∀ a, G a a) (ht : ∀ a b c, G a b → G b c → G a c) {i : Nat} {oi : Oper} {v : Value} (hi : ops[i]? = some oi) (hiz : i ≠ z) (hsel : ∀ (j : Nat) (o : Oper) cs b, ops[j]? = some o → o.op ≠ .select cs b) :
    ∀ (fuel : Nat) (listed : Array Bool) (a : Act) (w : World),
      (∀ j oj, ops[j]? = some oj → j ≠ i → listed.getD j true = false → (∀ e ∈ oj.after, Region.binds .any e = true → e.on ≠ i) → oi.apart ops oj = true) →
      Dn .any ops listed → i ∈ Region.ready .any ops listed → Steady P ops G w oi v a →
      wpAnyGS P ops G Z full fuel (listed.setIfInBounds i true) (a.put oi.dst v) w → wpAnyGS P ops G Z full (fuel + 1) listed a w := by
  intro fuel
  induction fuel with
  | zero =>
    intro listed a w _ hD hr hy H w1 hG
    refine ⟨fun h => (by rw [h] at hr; cases hr), fun j hj => ?_⟩
    by_cases hji : j = i
    · subst hji
      exact hy.wpOp hrefl hi hG fun w' hw' => ⟨hw', wpAnyGS_up ht 0 _ _ _ _ (ht _ _ _ hG hw') H⟩
    · have := ready_mono hj hji
      rw [H.1, hz] at this
      have hjz : j = z := by simpa using this
      subst hjz
      exact absurd (hlate listed i hD hj hr) hiz
  | succ fuel ih =>
    intro listed a w hfree hD hr hy H w1 hG
    refine ⟨fun h => (by rw [h] at hr; cases hr), fun j hj => ?_⟩
    by_cases hji : j = i
    · subst hji
      exact hy.wpOp hrefl hi hG fun w' hw' => ⟨hw', wpAnyGS_up ht (fuel + 1) _ _ _ _ (ht _ _ _ hG hw') H⟩
    · have h1 := (H w1 hG).2 j (ready_mono hj hji)
      obtain ⟨hjun, oj, hoj, hall⟩ := mem_ready.1 hj
      have hnot : ∀ e ∈ oj.after, Region.binds .any e = true → e.on ≠ i := fun e he hb heq => by
        have h1 := hall e he hb
        have h0 := (mem_ready.1 hr).1
        rw [heq] at h1
        rcases Nat.lt_or_ge i listed.size with h' | h'
        · simp [h'] at h0 h1; rw [h0] at h1; cases h1
        · simp [Array.getElem?_eq_none h'] at h1
      have h2 := wpOp_putG hoj (hfree j oj hoj hji hjun hnot) (fun cs b => hsel i oi cs b hi) (fun cs b => hsel j oj cs b hoj) (fun c a w h => by cases h.1) hy h1
      have hfree' : ∀ k ok, ops[k]? = some ok → k ≠ i → (listed.setIfInBounds j true).getD k true = false →
          (∀ e ∈ ok.after, Region.binds .any e = true → e.on ≠ i) → oi.apart ops ok = true := fun k ok hk hki hun hno => by
        refine hfree k ok hk hki ?_ hno
        by_cases hjk : j = k
        · subst hjk; exact hjun
        · rw [getD_set_ne true hjk] at hun; exact hun
      refine wpOp_mono (fun a' w' h3 => ⟨h3.2.1, ih (listed.setIfInBounds j true) a' w' hfree' (hD.set hj) (ready_mono hr (Ne.symm hji)) (h3.1.up ht (ht _ _ _ hG h3.2.1)) ?_⟩) h2
      rw [Array.setIfInBounds_comm _ _ hji]
      exact h3.2.2
def setAll (listed : Array Bool) (k n : Nat) : Array Bool := (List.range' k n).foldl (fun a i => a.setIfInBounds i true) listed
theorem preG_sound (hlate : Late .any ops z) (hz : Region.ready .any ops full = [z]) (hrefl : ∀ a, G a a) (ht : ∀ a b c, G a b → G b c → G a c) (hs : Region.noSelect ops = true) (m : Nat) :
    ∀ (l : List Oper) (k : Nat) (listed : Array Bool) (a : Act) (w : World), (∀ j, j < l.length → l[j]? = ops[k + j]?) → k + l.length = z → setAll listed k l.length = full → Dn .any ops listed → Region.lexFrom .any ops (l.length + m) k listed = true → wpLexG P ops G (QZ Z) z l k listed a w → wpAnyGS P ops G Z full l.length listed a w
  | [], k, listed, a, w, _, _, hf, _, hB, h => ⟨by simpa [setAll] using hf, fun w1 h1 => (h w1 h1).2⟩
  | o :: l, k, listed, a, w, hl, hkz, hf, hD, hB, h => by
    have h0 : ops[k]? = some o := by have := hl 0 (by simp); simpa using this.symm
    have hkz' : k ≠ z := by simp at hkz; omega
    rw [List.length_cons, show l.length + 1 + m = (l.length + m) + 1 by omega] at hB
    simp only [Region.lexFrom, Bool.and_eq_true] at hB
    obtain ⟨⟨hr, hfr⟩, hB'⟩ := hB
    have hl' : ∀ j, j < l.length → l[j]? = ops[k + 1 + j]? := fun j hj => by have := hl (j + 1) (by simp; omega); simpa [Nat.add_assoc, Nat.add_comm 1 j] using this
    have hf' : setAll (listed.setIfInBounds k true) (k + 1) l.length = full := by rw [← hf]; rfl
    have hkl : k + 1 + l.length = z := by simp at hkz; omega
    rcases h with ⟨v, hy, h⟩ | ⟨hone, h⟩
    · exact wpAnyGS_first hlate hz hrefl ht h0 hkz' (Region.noSelect_spec hs) l.length listed a w (Region.free_spec h0 hfr) hD (by simpa using hr) hy
        (preG_sound hlate hz hrefl ht hs m l (k + 1) _ _ w hl' hkl hf' (hD.set (by simpa using hr)) hB' h)
    · intro w1 hG
      refine ⟨by rw [hone]; simp, fun i hi => ?_⟩
      have hik : i = k := by rw [hone] at hi; simpa using hi
      subst hik
      exact wpOp_mono (fun a' w' h' => ⟨h'.1.resolve_right hkz', preG_sound hlate hz hrefl ht hs m l (i + 1) _ _ w' hl' hkl hf' (hD.set (by simpa using hr)) hB' h'.2⟩) (h w1 hG)
variable {Q : Exit → Act → World → Prop} {n : Nat}
theorem op_wide {o : Oper} {a : Act} {w : World} {K : Act → World → Prop} {Q Q' : Exit → Act → World → Prop} (hno : ¬ LetsOut Q) (hp : ∀ c a w, ¬ Q (.panic c) a w) (h : o.wp P a w K Q ∨ (o.asks P a w ∧ LetsOut Q)) : o.wpIn Fence.wide n P a w K Q' := by
  rcases h with h | ⟨_, h⟩
  · unfold Oper.wpIn
    refine ⟨fun f _ => trivial, ?_⟩
    rw [show Fence.wide.round = none from rfl, Oper.semAt_none]
    unfold Oper.wp at h
    generalize (execOp a.eval o).run P w = res at *
    cases res with
    | ok x w' =>
      cases x <;> simp only [Oper.upon] at h <;> simp only [Oper.uponIn]
      case value u => exact h
      case skip => exact h
      case defer d => exact h
      case enter f args =>
        refine ⟨fun h => (by cases h), ?_⟩
        exact ((callsIn_wide (n := n - 1)).2 h).mono fun e w'' he => by
          cases e with
          | returned v => exact he
          | panicked c => exact absurd he (hp _ _ _)
          | outgrown => exact absurd he hno
      case row row args =>
        refine ⟨fun h => (by cases h), fun c cs hroom => ?_⟩
        obtain ⟨v, w', hr, hs⟩ := h c cs
        exact ⟨v, w', hr, stepsIn_wide.2 hs⟩
    | halt x w' =>
      cases x <;> simp only [Oper.upon] at h <;> simp only [Oper.uponIn] <;> exact absurd h (hp _ _ _)
  · exact absurd h hno
theorem opn_wide {i : Nat} {a : Act} {w : World} {K : Act → World → Prop} (h : wpOp P ops (QZ Z) i K a w) : wpOpIn Fence.wide n P ops Q i K a w := by
  unfold wpOp at h
  unfold wpOpIn
  cases ho : ops[i]? with
  | none =>
    simp only [ho] at h
    exact h
  | some o =>
    simp only [ho] at h ⊢
    split at h
    · rename_i hw
      rw [if_pos hw]
      exact op_wide noOut_QZ (fun c a w h => by cases h.1) h
    · rename_i hw
      rw [if_neg hw]
      exact ⟨fun f _ => trivial, h⟩
theorem anyGS_in (hrefl : ∀ a, G a a) (m : Nat) (hZ : ∀ a w, Z a w → wpAnyIn Fence.wide n P .any ops Q m full a w) : ∀ (fuel : Nat) (listed : Array Bool) (a : Act) (w : World), wpAnyGS P ops G Z full fuel listed a w → wpAnyIn Fence.wide n P .any ops Q (fuel + m) listed a w
  | 0, listed, a, w, h => by
    rw [Nat.zero_add, h.1]
    exact hZ a w (h.2 w (hrefl w))
  | fuel + 1, listed, a, w, h => by
    rw [show fuel + 1 + m = (fuel + m) + 1 by omega]
    exact ⟨fun h0 => absurd h0 (h w (hrefl w)).1, fun i hi => opn_wide (wpOp_mono (fun a' w' h' => anyGS_in hrefl m hZ fuel _ a' w' h'.2) ((h w (hrefl w)).2 i hi))⟩
end
section
variable {P : Program} {Q : Exit → Act → World → Prop} {n : Nat} {O : List Nat} {w0 w : World} {L : List As} {l : List Value}
theorem wq_end {ops : Array Oper} {Z : Act → World → Prop} {z k : Nat} {listed : Array Bool} (hM : Mem O w0 w L) (h : ∀ w, Mem O w0 w L → Z (fr l) w) : wpLexG P ops (Ch []) (QZ Z) z [] k listed (fr l) w := fun w1 hc => ⟨rfl, h w1 (hM.call hc)⟩
theorem c_drawY {id : Nat} {os : List Oper} (z : Nat) (y r : Oper) (hM : Mem O w0 w L) (hm : P.follows .mixedOrders = true) (hB : Region.lexB .any os.toArray = true) (hL : lateB os.toArray z = true) (hos : os.drop z = [y, r])
    (h1 : Region.ready .any os.toArray (setAll (Array.replicate os.length false) 0 z) = [z]) (h2 : Region.ready .any os.toArray (setAll (Array.replicate os.length false) 0 (z + 1)) = [z + 1]) (h3 : Region.ready .any os.toArray (setAll (Array.replicate os.length false) 0 (z + 2)) = [])
    (h : ∀ w, Mem O w0 w L → wpLexG P os.toArray (Ch []) (QZ fun a w => wpListIn Fence.wide n P os.toArray Q [y, r] a w) z (os.take z) 0 (Array.replicate os.length false) (fr l) w) : (Code.region id os.toArray true).wpIn Fence.wide n P Q (fr l) w := by
  simp only [Region.lexB, Bool.and_eq_true] at hB
  have hlen : os.length = z + 2 := by
    have := congrArg List.length hos
    rw [List.length_drop] at this
    simp at this
    omega
  have hty : os[z]? = some y := by have := congrArg (fun q => q[0]?) hos; simpa using this
  have htr : os[z + 1]? = some r := by have := congrArg (fun q => q[1]?) hos; simpa using this
  have hset : ∀ k, setAll (Array.replicate os.length false) 0 (k + 1) = (setAll (Array.replicate os.length false) 0 k).setIfInBounds k true := fun k => by
    unfold setAll
    rw [List.range'_1_concat, List.foldl_append]
    simp
  refine wpIn_region_any hm ?_
  have hw : Mem O w0 { w with drawn := w.drawn + 1 } L := hM.call ⟨rfl, rfl, rfl, Nat.le_refl _, fun _ _ _ => rfl⟩
  have hpre := preG_sound (P := P) (G := Ch []) (Z := fun a w => wpListIn Fence.wide n P os.toArray Q [y, r] a w) (late_of hL) h1 (Ch.refl []) (fun _ _ _ h k => h.then k) hB.1 2 (os.take z) 0 (Array.replicate os.length false) (fr l) { w with drawn := w.drawn + 1 }
    (fun j hj => by rw [List.getElem?_take, if_pos (by simp at hj; omega)]; simp) (by simp; omega) (by rw [List.length_take, Nat.min_eq_left (by omega)]) dn0 (by rw [List.length_take, Nat.min_eq_left (by omega)]; simpa [hlen] using hB.2) (h _ hw)
  have := anyGS_in (Q := Q) (n := n) (Ch.refl []) 2 (fun a w hz => ?_) _ _ _ _ hpre
  · rw [List.length_take, Nat.min_eq_left (by omega), ← hlen] at this
    simpa using this
  · refine ⟨fun h0 => absurd (h1 ▸ h0) (by simp), fun i hi => ?_⟩
    rw [h1] at hi
    have hi : i = z := by simpa using hi
    subst hi
    unfold wpListIn at hz
    unfold wpOpIn
    simp only [List.getElem?_toArray, hty]
    have key : ∀ a w, wpListIn Fence.wide n P os.toArray Q [r] a w → wpAnyIn Fence.wide n P .any os.toArray Q 1 ((setAll (Array.replicate os.length false) 0 i).setIfInBounds i true) a w := by
      intro a w hz
      rw [← hset i]
      refine ⟨fun h0 => absurd (h2 ▸ h0) (by simp), fun j hj => ?_⟩
      rw [h2] at hj
      have hj : j = i + 1 := by simpa using hj
      subst hj
      unfold wpListIn at hz
      unfold wpOpIn
      simp only [List.getElem?_toArray, htr]
      have key2 : ∀ a w, wpListIn Fence.wide n P os.toArray Q [] a w → wpAnyIn Fence.wide n P .any os.toArray Q 0 ((setAll (Array.replicate os.length false) 0 (i + 1)).setIfInBounds (i + 1) true) a w := fun a w hz => by
        rw [← hset (i + 1)]
        exact ⟨h3, hz⟩
      split at hz
      · rename_i hw
        rw [if_pos hw]
        exact Oper.wpIn_mono key2 hz
      · rename_i hw
        rw [if_neg hw]
        exact ⟨hz.1, key2 _ _ hz.2⟩
    split at hz
    · rename_i hw
      rw [if_pos hw]
      exact Oper.wpIn_mono key hz
    · rename_i hw
      rw [if_neg hw]
      exact ⟨hz.1, key _ _ hz.2⟩
end
end Go.Proofs.E

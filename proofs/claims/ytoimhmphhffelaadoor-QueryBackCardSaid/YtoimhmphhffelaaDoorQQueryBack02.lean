/- The engine's regions that draw their order: one walk in the text's order serves every order, if each operation is steady (one value in whatever world may have come of this one) or is the only one that may come up. -/
import Derived.Test.YtoimhmphhffelaaDoorQQueryBack01
import Derived.Deep.Quiet
set_option linter.unusedVariables false
set_option linter.unusedSimpArgs false
namespace Go.Proofs.E
open Go Go.RowKit

section
variable {P : Program} {ops : Array Oper} {md : Region.Mode} {G : World → World → Prop} {Q : Exit → Act → World → Prop} {z : Nat}
/-- Whatever order is picked from here on, in whatever world has come of this one. -/
def wpAnyG (P : Program) (md : Region.Mode) (ops : Array Oper) (G : World → World → Prop) (Q : Exit → Act → World → Prop) (z : Nat) : Nat → Array Bool → Act → World → Prop
  | 0, listed, a, w => ∀ w1, G w w1 → Region.ready md ops listed = [] ∧ Q .normal a w1
  | fuel + 1, listed, a, w => ∀ w1, G w w1 →
    (Region.ready md ops listed = [] → Q .normal a w1) ∧
    ∀ i ∈ Region.ready md ops listed, wpOp P ops Q i (fun a' w' => (G w1 w' ∨ i = z) ∧ wpAnyG P md ops G Q z fuel (listed.setIfInBounds i true) a' w') a w1
/-- All that an operation waits for has come up. -/
def Dn (md : Region.Mode) (ops : Array Oper) (listed : Array Bool) : Prop := ∀ (m : Nat) om, ops[m]? = some om → listed.getD m true = true → ∀ e ∈ om.after, Region.binds md e = true → listed.getD e.on false = true
theorem Dn.set {md : Region.Mode} {ops : Array Oper} {listed : Array Bool} {i : Nat} (h : Dn md ops listed) (hi : i ∈ Region.ready md ops listed) : Dn md ops (listed.setIfInBounds i true) := by
  have up : ∀ x, listed.getD x false = true → (listed.setIfInBounds i true).getD x false = true := by
    intro x hx
    by_cases hix : i = x
    · subst hix
      rcases Nat.lt_or_ge i listed.size with h' | h'
      · simp [h']
      · simp [Array.getElem?_eq_none h'] at hx
    · rw [getD_set_ne false hix]; exact hx
  intro m om hm hl e he hb
  refine up _ ?_
  by_cases hmi : i = m
  · subst hmi
    obtain ⟨_, o, ho, hall⟩ := mem_ready.1 hi
    rw [hm] at ho
    cases ho
    exact hall e he hb
  · rw [getD_set_ne true hmi] at hl
    exact h m om hm hl e he hb
/-- Operation z comes up when all others have. -/
def Late (md : Region.Mode) (ops : Array Oper) (z : Nat) : Prop := ∀ listed i, Dn md ops listed → z ∈ Region.ready md ops listed → i ∈ Region.ready md ops listed → i = z
def waitsFor (ops : Array Oper) (m i : Nat) : Bool := match ops[m]? with | some om => om.after.any (fun e => Region.binds .any e && e.on == i) | none => false
theorem waitsFor_spec {ops : Array Oper} {m i : Nat} (h : waitsFor ops m i = true) : ∃ om e, ops[m]? = some om ∧ e ∈ om.after ∧ Region.binds .any e = true ∧ e.on = i := by
  unfold waitsFor at h
  split at h
  · rename_i om hom
    obtain ⟨e, he, h5⟩ := Array.any_eq_true'.1 h
    simp only [Bool.and_eq_true, beq_iff_eq] at h5
    exact ⟨om, e, hom, he, h5.1, h5.2⟩
  · cases h
def lateB (ops : Array Oper) (z : Nat) : Bool := ((List.range z).all fun i => (List.range (z + 1)).any fun m => decide (i < m) && waitsFor ops m i) && ((List.range ops.size).all fun i => decide (i ≤ z) || waitsFor ops i z)
theorem late_of {ops : Array Oper} {z : Nat} (h : lateB ops z = true) : Late .any ops z := by
  unfold lateB at h
  rw [Bool.and_eq_true] at h
  obtain ⟨h, hup⟩ := h
  intro listed i hD hz hi
  obtain ⟨hzu, oz, hoz, hzall⟩ := mem_ready.1 hz
  obtain ⟨hiu, oi, hoi, hiall⟩ := mem_ready.1 hi
  have tf : ∀ x, listed.getD x true = false → listed.getD x false = false := by
    intro x hx
    rcases Nat.lt_or_ge x listed.size with h' | h'
    · simp [h'] at hx ⊢; exact hx
    · simp [Array.getElem?_eq_none h']
  have key : ∀ n x, x + n = z → listed.getD x false = false → x = z := by
    intro n
    induction n using Nat.strongRecOn with
    | _ n ih =>
      intro x hx hux
      rcases Nat.lt_or_ge x z with hlt | hge
      · exfalso
        have := List.all_eq_true.1 h x (List.mem_range.2 hlt)
        obtain ⟨m, hm, h2⟩ := List.any_eq_true.1 this
        simp only [Bool.and_eq_true, decide_eq_true_eq] at h2
        obtain ⟨h3, h4⟩ := h2
        obtain ⟨om, e, h3', h4, h5, h6⟩ := waitsFor_spec h4
        have hmz' : m < z + 1 := List.mem_range.1 hm
        have hmu : listed.getD m true = false := by
          cases hm : listed.getD m true with
          | false => rfl
          | true =>
            have := hD m om h3' hm e h4 h5
            rw [h6, hux] at this
            cases this
        have hmz := ih (z - m) (by omega) m (by omega) (tf _ hmu)
        subst hmz
        rw [h3'] at hoz
        cases hoz
        have := hzall e h4 h5
        rw [h6, hux] at this
        cases this
      · omega
  rcases Nat.lt_or_ge z i with hgt | hle
  · exfalso
    have hlt := (Array.getElem?_eq_some_iff.1 hoi).1
    have := List.all_eq_true.1 hup i (List.mem_range.2 hlt)
    simp only [Bool.or_eq_true, decide_eq_true_eq] at this
    obtain ⟨om, e, h3, h4, h5, h6⟩ := waitsFor_spec (this.resolve_left (by omega))
    rw [h3] at hoi
    cases hoi
    have := hiall e h4 h5
    rw [h6, tf _ hzu] at this
    cases this
  · exact key (z - i) i (by omega) (tf _ hiu)
theorem late_none {md : Region.Mode} {ops : Array Oper} : Late md ops ops.size := by
  intro listed i _ hz _
  obtain ⟨_, o, ho, _⟩ := mem_ready.1 hz
  have := (Array.getElem?_eq_some_iff.1 ho).1
  omega
theorem wpAnyG_up (ht : ∀ a b c, G a b → G b c → G a c) : ∀ (fuel : Nat) (listed : Array Bool) (a : Act) (w w1 : World), G w w1 → wpAnyG P md ops G Q z fuel listed a w → wpAnyG P md ops G Q z fuel listed a w1
  | 0, _, _, _, _, hG, h => fun w2 h2 => h w2 (ht _ _ _ hG h2)
  | _ + 1, _, _, _, _, hG, h => fun w2 h2 => h w2 (ht _ _ _ hG h2)
theorem wpAny_of_G (hr : ∀ a, G a a) : ∀ (fuel : Nat) (listed : Array Bool) (a : Act) (w : World), wpAnyG P md ops G Q z fuel listed a w → wpAny P md ops Q fuel listed a w
  | 0, _, _, w, h => h w (hr w)
  | fuel + 1, _, _, w, h => ⟨(h w (hr w)).1, fun i hi => wpOp_mono (fun a' w' h' => wpAny_of_G hr fuel _ a' w' h'.2) ((h w (hr w)).2 i hi)⟩
/-- In state a, in every world that may have come of w, the operation leaves v in its temporary, and a world that may have come of that one. -/
def Steady (P : Program) (ops : Array Oper) (G : World → World → Prop) (w : World) (o : Oper) (v : Value) (a : Act) : Prop :=
  (Region.wanted o (yielded ops a.tmps) = true ∧ ∀ w1, G w w1 → o.quietAt P a (G w1) w1 v) ∨ (Region.wanted o (yielded ops a.tmps) = false ∧ v = undef)
theorem wp_of_quietAt {o : Oper} {a : Act} {v : Value} {C : World → Prop} {w1 : World} {K : Act → World → Prop} {Q' : Exit → Act → World → Prop} (hq : o.quietAt P a C w1 v) (hC : C w1) (h : ∀ w', C w' → K (a.put o.dst v) w') : o.wp P a w1 K Q' := by
  unfold Oper.quietAt at hq
  unfold Oper.wp
  generalize (execOp a.eval o).run P w1 = r at *
  cases r with
  | ok n w' =>
    cases n <;> simp only [Oper.quietUpon] at hq <;> simp only [Oper.upon]
    case value u =>
      obtain ⟨e1, e2⟩ := hq
      rw [e1, e2]
      exact h _ hC
    case skip =>
      obtain ⟨e1, e2⟩ := hq
      rw [e1, ← e2]
      exact h _ hC
    case enter f args =>
      obtain ⟨e1, hc⟩ := hq
      rw [e1]
      exact hc.mono fun e w'' ⟨he, hw''⟩ => by subst he; exact h _ hw''
  | halt x w' => exact hq.elim
theorem Steady.wpOp {i : Nat} {o : Oper} {v : Value} {a : Act} {w w1 : World} (hrefl : ∀ a, G a a) (hi : ops[i]? = some o) (hy : Steady P ops G w o v a) (hG : G w w1)
    {K : Act → World → Prop} (h : ∀ w', G w1 w' → K (a.put o.dst v) w') : wpOp P ops Q i K a w1 := by
  unfold Go.wpOp
  simp only [hi]
  rcases hy with ⟨hw, hv⟩ | ⟨hw, rfl⟩
  · simp only [hw, if_true]
    exact .inl (wp_of_quietAt (hv w1 hG) (hrefl w1) h)
  · simp only [hw, Bool.false_eq_true, if_false]
    exact h w1 (hrefl w1)
theorem Steady.up (ht : ∀ a b c, G a b → G b c → G a c) {o : Oper} {v : Value} {a : Act} {w w1 : World} (h : Steady P ops G w o v a) (hG : G w w1) : Steady P ops G w1 o v a :=
  h.imp (fun ⟨hw, hv⟩ => ⟨hw, fun w2 h2 => hv w2 (ht _ _ _ hG h2)⟩) id
theorem Steady.of_same {o : Oper} {v : Value} {a a' : Act} {w : World} (hy : Steady P ops G w o v a) (he : execOp a'.eval o = execOp a.eval o)
    (hw : Region.wanted o (yielded ops a'.tmps) = Region.wanted o (yielded ops a.tmps)) : Steady P ops G w o v a' := by
  unfold Steady Oper.quietAt at *
  rw [he, hw]
  exact hy
/-- One operation 'oj', apart from the steady 'oi': whether 'oi''s value is already there makes no difference to it, and it makes none to 'oi'. -/
theorem wpOp_putG {j : Nat} {oi oj : Oper} {v : Value} (hj : ops[j]? = some oj) (hap : oi.apart ops oj = true)
    (hsi : ∀ cs b, oi.op ≠ .select cs b) (hsj : ∀ cs b, oj.op ≠ .select cs b)
    (hQ : ∀ c a w, Q (.panic c) (a.put oi.dst v) w → Q (.panic c) a w) {K : Act → World → Prop} {a : Act} {w w1 : World}
    (hy : Steady P ops G w oi v a) (h : wpOp P ops Q j K (a.put oi.dst v) w1) :
    wpOp P ops Q j (fun a' w' => Steady P ops G w oi v a' ∧ K (a'.put oi.dst v) w') a w1 := by
  obtain ⟨h1, h2, h3⟩ := Oper.apart_spec hap
  have keep : ∀ (a : Act), Steady P ops G w oi v a → ∀ u, Steady P ops G w oi v (a.put oj.dst u) := fun a hy u =>
    hy.of_same (execOp_put oi hsi a oj.dst u h3) (wanted_put oi a oj.dst u h3)
  have keepD : ∀ d, Steady P ops G w oi v { a with defers := d :: a.defers } := fun d => hy.of_same rfl rfl
  unfold wpOp at *
  simp only [hj] at *
  rw [wanted_put oj a oi.dst v h1] at h
  split
  · rename_i hw
    simp only [hw, if_true] at h
    rcases h with h | ⟨hasks, hlets⟩
    case inr => exact .inr ⟨by unfold Oper.asks at *; rw [execOp_put oj hsj a oi.dst v h1] at hasks; exact hasks, hlets⟩
    refine .inl ?_
    unfold Oper.wp at *
    rw [execOp_put oj hsj a oi.dst v h1] at h
    generalize (execOp a.eval oj).run P w1 = r at *
    cases r with
    | ok n w' =>
      cases n <;> simp only [Oper.upon] at h ⊢
      case value u => exact ⟨keep a hy u, by rw [← Act.put_comm a v u h2]; exact h⟩
      case skip => exact ⟨keep a hy _, by rw [← Act.put_comm a v undef h2]; exact h⟩
      case defer d =>
        refine ⟨keep _ (keepD d) _, ?_⟩
        rw [← Act.put_comm _ v undef h2, ← Act.put_defers]
        exact h
      case enter f args =>
        refine Calls.mono h fun e w'' he => ?_
        cases e with
        | returned u => exact ⟨keep a hy u, by rw [← Act.put_comm a v u h2]; exact he⟩
        | panicked c => exact hQ _ _ _ he
        | outgrown => exact he
      case row row args => exact Rows.mono h fun u w'' he => ⟨keep a hy u, by rw [← Act.put_comm a v u h2]; exact he⟩
    | halt x w' =>
      cases x <;> simp only [Oper.upon] at h ⊢
      case panic u => exact hQ _ _ _ h
  · rename_i hw
    simp only [hw] at h
    exact ⟨keep a hy _, by rw [← Act.put_comm a v undef h2]; exact h⟩
/-- A steady operation that may come up now may be taken first. -/
theorem wpAnyG_first (hlate : Late md ops z) (hrefl : ∀ a, G a a) (ht : ∀ a b c, G a b → G b c → G a c) {i : Nat} {oi : Oper} {v : Value} (hi : ops[i]? = some oi) (hsel : ∀ (j : Nat) (o : Oper) cs b, ops[j]? = some o → o.op ≠ .select cs b)
    (hQ : ∀ c a w, Q (.panic c) (a.put oi.dst v) w → Q (.panic c) a w) :
    ∀ (fuel : Nat) (listed : Array Bool) (a : Act) (w : World),
      (∀ j oj, ops[j]? = some oj → j ≠ i → listed.getD j true = false → (∀ e ∈ oj.after, Region.binds md e = true → e.on ≠ i) → oi.apart ops oj = true) →
      Dn md ops listed → i ∈ Region.ready md ops listed → Steady P ops G w oi v a →
      wpAnyG P md ops G Q z fuel (listed.setIfInBounds i true) (a.put oi.dst v) w → wpAnyG P md ops G Q z (fuel + 1) listed a w := by
  intro fuel
  induction fuel with
  | zero =>
    intro listed a w _ hD hr hy H w1 hG
    refine ⟨fun h => (by rw [h] at hr; cases hr), fun j hj => ?_⟩
    by_cases hji : j = i
    · subst hji
      exact hy.wpOp hrefl hi hG fun w' hw' => ⟨.inl hw', wpAnyG_up ht 0 _ _ _ _ (ht _ _ _ hG hw') H⟩
    · have := ready_mono hj hji
      rw [(H w (hrefl w)).1] at this
      cases this
  | succ fuel ih =>
    intro listed a w hfree hD hr hy H w1 hG
    refine ⟨fun h => (by rw [h] at hr; cases hr), fun j hj => ?_⟩
    by_cases hji : j = i
    · subst hji
      exact hy.wpOp hrefl hi hG fun w' hw' => ⟨.inl hw', wpAnyG_up ht (fuel + 1) _ _ _ _ (ht _ _ _ hG hw') H⟩
    · have h1 := (H w1 hG).2 j (ready_mono hj hji)
      obtain ⟨hjun, oj, hoj, hall⟩ := mem_ready.1 hj
      have hnot : ∀ e ∈ oj.after, Region.binds md e = true → e.on ≠ i := fun e he hb heq => by
        have h1 := hall e he hb
        have h0 := (mem_ready.1 hr).1
        rw [heq] at h1
        rcases Nat.lt_or_ge i listed.size with h' | h'
        · simp [h'] at h0 h1; rw [h0] at h1; cases h1
        · simp [Array.getElem?_eq_none h'] at h1
      have h2 := wpOp_putG hoj (hfree j oj hoj hji hjun hnot) (fun cs b => hsel i oi cs b hi) (fun cs b => hsel j oj cs b hoj) hQ hy h1
      have hfree' : ∀ k ok, ops[k]? = some ok → k ≠ i → (listed.setIfInBounds j true).getD k true = false →
          (∀ e ∈ ok.after, Region.binds md e = true → e.on ≠ i) → oi.apart ops ok = true := fun k ok hk hki hun hno => by
        refine hfree k ok hk hki ?_ hno
        by_cases hjk : j = k
        · subst hjk; exact hjun
        · rw [getD_set_ne true hjk] at hun; exact hun
      have hg : ∀ {w'}, G w1 w' ∨ j = z → G w1 w' := fun h => h.resolve_right fun hjz => hji (by subst hjz; exact (hlate listed i hD hj hr).symm)
      refine wpOp_mono (fun a' w' h3 => ⟨h3.2.1, ih (listed.setIfInBounds j true) a' w' hfree' (hD.set hj) (ready_mono hr (Ne.symm hji)) (h3.1.up ht (ht _ _ _ hG (hg h3.2.1))) ?_⟩) h2
      rw [Array.setIfInBounds_comm _ _ hji]
      exact h3.2.2
/-- Whichever may come up. -/
theorem wpAnyG_all {rs : List Nat} {fuel : Nat} {listed : Array Bool} {a : Act} {w : World} (hr : Region.ready md ops listed = rs) (hne : rs ≠ [])
    (h : ∀ i ∈ rs, ∀ w1, G w w1 → wpOp P ops Q i (fun a' w' => (G w1 w' ∨ i = z) ∧ wpAnyG P md ops G Q z fuel (listed.setIfInBounds i true) a' w') a w1) : wpAnyG P md ops G Q z (fuel + 1) listed a w :=
  fun w1 hG => ⟨fun h0 => absurd (hr ▸ h0) hne, hr ▸ fun i hi => h i hi w1 hG⟩
theorem wpAnyG_done {listed : Array Bool} {a : Act} {w : World} (hr : Region.ready md ops listed = []) (h : ∀ w1, G w w1 → Q .normal a w1) : ∀ fuel, wpAnyG P md ops G Q z fuel listed a w
  | 0 => fun w1 hG => ⟨hr, h w1 hG⟩
  | _ + 1 => fun w1 hG => ⟨fun _ => h w1 hG, by rw [hr]; simp⟩

/-! ### The text's order -/
/-- The operations from number k on, in the text's order: each steady, or the only one that may come up. -/
def wpLexG (P : Program) (ops : Array Oper) (G : World → World → Prop) (Q : Exit → Act → World → Prop) (z : Nat) : List Oper → Nat → Array Bool → Act → World → Prop
  | [], _, _, a, w => ∀ w1, G w w1 → Q .normal a w1
  | o :: rest, k, listed, a, w =>
    (∃ v, Steady P ops G w o v a ∧ wpLexG P ops G Q z rest (k + 1) (listed.setIfInBounds k true) (a.put o.dst v) w) ∨
    (Region.ready .any ops listed = [k] ∧ ∀ w1, G w w1 → wpOp P ops Q k (fun a' w' => (G w1 w' ∨ k = z) ∧ wpLexG P ops G Q z rest (k + 1) (listed.setIfInBounds k true) a' w') a w1)
theorem wpLexG_sound (hlate : Late .any ops z) (hrefl : ∀ a, G a a) (ht : ∀ a b c, G a b → G b c → G a c) (hs : Region.noSelect ops = true) (hQ : ∀ c a w d v, Q (.panic c) (Act.put a d v) w → Q (.panic c) a w) :
    ∀ (l : List Oper) (k : Nat) (listed : Array Bool) (a : Act) (w : World), (∀ j, l[j]? = ops[k + j]?) → Dn .any ops listed → Region.lexFrom .any ops l.length k listed = true → wpLexG P ops G Q z l k listed a w → wpAnyG P .any ops G Q z l.length listed a w
  | [], _, _, _, _, _, _, hB, h => wpAnyG_done (by simpa [Region.lexFrom] using hB) h 0
  | o :: l, k, listed, a, w, hl, hD, hB, h => by
    have h0 : ops[k]? = some o := by simpa using (hl 0).symm
    simp only [List.length_cons, Region.lexFrom, Bool.and_eq_true] at hB
    obtain ⟨⟨hr, hf⟩, hB'⟩ := hB
    have hl' : ∀ j, l[j]? = ops[k + 1 + j]? := fun j => by have := hl (j + 1); simpa [Nat.add_assoc, Nat.add_comm 1 j] using this
    rcases h with ⟨v, hy, h⟩ | ⟨hone, h⟩
    · exact wpAnyG_first hlate hrefl ht h0 (Region.noSelect_spec hs) (fun c a w => hQ c a w _ _) l.length listed a w (Region.free_spec h0 hf) hD (by simpa using hr) hy
        (wpLexG_sound hlate hrefl ht hs hQ l (k + 1) _ _ w hl' (hD.set (by simpa using hr)) hB' h)
    · refine wpAnyG_all hone (by simp) fun i hi w1 hG => ?_
      have hik : i = k := by simpa using hi
      subst hik
      exact wpOp_mono (fun a' w' h' => ⟨h'.1, wpLexG_sound hlate hrefl ht hs hQ l (i + 1) _ _ w' hl' (hD.set (by simpa using hr)) hB' h'.2⟩) (h w1 hG)
end

/-! ### At frames that are lists, for worlds that differ in one's own blocks alone -/
section
variable {P : Program} {ops : Array Oper} {S : List Nat} {Q : Exit → Act → World → Prop} {rest : List Oper} {l : List Value} {w : World} {k zz : Nat} {listed : Array Bool}
  {op : Op} {T : TypeId} {pos : String} {after : Array Edge} {d : Option Nat}
/-- What is asked of the ways out by a panic. -/
def NoP (Q : Exit → Act → World → Prop) : Exit → Act → World → Prop
  | .panic _, _, _ => False
  | e, a, w => Q e a w
theorem dn0 {md : Region.Mode} {os : List Oper} : Dn md os.toArray (Array.replicate os.length false) := by
  intro m om hm hl
  have : m < os.length := by have := (Array.getElem?_eq_some_iff.1 hm).1; simpa using this
  simp [this] at hl
theorem c_drawz {id : Nat} {os : List Oper} (S : List Nat) (zz : Nat) (hlate : Late .any os.toArray zz) (hm : P.follows .mixedOrders = true) (hB : Region.lexB .any os.toArray = true)
    (h : ∀ w0, Ch S w w0 → w0.heap.size = w.heap.size → wpLexG P os.toArray (Ch S) (NoP Q) zz os 0 (Array.replicate os.length false) (fr l) w0) : (Code.region id os.toArray true).wp P Q (fr l) w := by
  refine Code.wp_mono (Q := NoP Q) (fun e a w h => by cases e <;> first | exact h | exact (h : False).elim) ?_
  simp only [Region.lexB, Bool.and_eq_true] at hB
  refine wp_region_any hm (wpAny_of_G (G := Ch S) (z := zz) (Ch.refl S) _ _ _ _ ?_)
  have := wpLexG_sound (P := P) (G := Ch S) (Q := NoP Q) hlate (Ch.refl S) (fun _ _ _ h k => h.then k) hB.1 (fun c a w d v h => (h : False).elim) os 0 (Array.replicate os.length false) (fr l) { w with drawn := w.drawn + 1 } (by simp) dn0 (by simpa using hB.2)
    (h _ ⟨rfl, rfl, rfl, Nat.le_refl _, fun _ _ _ => rfl⟩ rfl)
  simpa using this
theorem c_draw {id : Nat} {os : List Oper} (S : List Nat) (hm : P.follows .mixedOrders = true) (hB : Region.lexB .any os.toArray = true)
    (h : ∀ w0, Ch S w w0 → w0.heap.size = w.heap.size → wpLexG P os.toArray (Ch S) (NoP Q) os.toArray.size os 0 (Array.replicate os.length false) (fr l) w0) : (Code.region id os.toArray true).wp P Q (fr l) w :=
  c_drawz S _ late_none hm hB h
/-- Operation zz waits for all that others do not wait for it to do: it may write. -/
theorem c_drawl {id : Nat} {os : List Oper} (zz : Nat) (S : List Nat) (hm : P.follows .mixedOrders = true) (hB : Region.lexB .any os.toArray = true) (hL : lateB os.toArray zz = true)
    (h : ∀ w0, Ch S w w0 → w0.heap.size = w.heap.size → wpLexG P os.toArray (Ch S) (NoP Q) zz os 0 (Array.replicate os.length false) (fr l) w0) : (Code.region id os.toArray true).wp P Q (fr l) w :=
  c_drawz S _ (late_of hL) hm hB h
theorem wg_end {l' : List Value} (hl : l = l') (h : ∀ w1, Ch S w w1 → Q .normal (fr l') w1) : wpLexG P ops (Ch S) (NoP Q) zz [] k listed (fr l) w := by
  subst hl
  exact fun w1 hG => h w1 hG
/-- An operation that reads at most, and yields one value. -/
theorem wg_val {v : Value} (hr : ∀ w1, Ch S w w1 → (exec (ev l) op T).run P w1 = .ok (.value v) w1) (h : wpLexG P ops (Ch S) Q zz rest (k + 1) (listed.setIfInBounds k true) (fr (set1 l d v)) w) :
    wpLexG P ops (Ch S) Q zz ({ dst := d, op := op, type := T, pos := pos, after := after, guard := none } :: rest) k listed (fr l) w := by
  refine .inl ⟨v, .inl ⟨by simp [Region.wanted], fun w1 hG => ?_⟩, ?_⟩
  · unfold Oper.quietAt
    rw [exec_eq, eval_fr, hr w1 hG]
    exact ⟨rfl, rfl⟩
  · show wpLexG _ _ _ _ _ _ _ _ ((fr l).put d v) w
    rw [put_set1]
    exact h
theorem wg_valn {v : Value} {l' : List Value} (hr : ∀ w1, Ch S w w1 → (exec (ev l) op T).run P w1 = .ok (.value v) w1) (hl : set1 l d v = l') (h : wpLexG P ops (Ch S) Q zz rest (k + 1) (listed.setIfInBounds k true) (fr l') w) :
    wpLexG P ops (Ch S) Q zz ({ dst := d, op := op, type := T, pos := pos, after := after, guard := none } :: rest) k listed (fr l) w := by subst hl; exact wg_val hr h
/-- A call that hands back one value, whatever has come of the world. -/
theorem wg_call {f : FuncId} {fn : Func} {args : List Operand} {tys : Array TypeId} [hf : Fun P f fn] {vs : List Value} {v : Value}
    (ha : args.map (ev l) = vs) (hc : ∀ w1, Ch S w w1 → Calls P f vs.toArray w1 (Ret fun u w2 => u = v ∧ Ch S w1 w2))
    (h : wpLexG P ops (Ch S) Q zz rest (k + 1) (listed.setIfInBounds k true) (fr (set1 l d v)) w) :
    wpLexG P ops (Ch S) Q zz ({ dst := d, op := .call { callee := .value (.func f), args := args.toArray, argTypes := tys }, type := T, pos := pos, after := after, guard := none } :: rest) k listed (fr l) w := by
  subst ha
  refine .inl ⟨v, .inl ⟨by simp [Region.wanted], fun w1 hG => ?_⟩, ?_⟩
  · unfold Oper.quietAt
    rw [exec_eq, eval_fr, r_call]
    exact ⟨rfl, (hc w1 hG).mono fun e w2 ⟨u, h1, h2, h3⟩ => ⟨by rw [h1, h2], h3⟩⟩
  · show wpLexG _ _ _ _ _ _ _ _ ((fr l).put d v) w
    rw [put_set1]
    exact h
/-- The only operation that may come up. -/
theorem wg_one {o : Oper} (h0 : ops[k]? = some o) (hone : Region.ready .any ops listed = [k])
    (h : ∀ w1, Ch S w w1 → wpList P ops (Exit.then (fun a' w' => (Ch S w1 w' ∨ k = zz) ∧ wpLexG P ops (Ch S) Q zz rest (k + 1) (listed.setIfInBounds k true) a' w') Q) [o] (fr l) w1) :
    wpLexG P ops (Ch S) Q zz (o :: rest) k listed (fr l) w := by
  refine .inr ⟨hone, fun w1 hG => ?_⟩
  have h1 := h w1 hG
  unfold wpList at h1
  unfold wpOp
  simp only [h0]
  split at h1
  · rename_i hw
    simp only [hw, if_true]
    rcases h1 with h1 | ⟨h1, a0, w0, h2⟩
    · refine .inl ?_
      unfold Oper.wp at *
      generalize (execOp (fr l).eval o).run P w1 = r at *
      cases r with
      | ok n w' => cases n <;> first | exact h1 | (exact Calls.mono h1 fun e w'' he => by cases e <;> exact he)
      | halt x w' => cases x <;> exact h1
    · exact .inr ⟨h1, a0, w0, h2⟩
  · rename_i hw
    simp only [hw, if_false]
    exact h1
theorem yielded_fr {j t : Nat} {c : Bool} (hj : (ops[j]?).bind (·.dst) = some t) (hv : ev l (.tmp t) = .bool c) (hlt : t < l.length) : yielded ops (fr l).tmps j = some c := by
  unfold yielded
  rw [hj]
  have : l[t]? = some (.bool c) := by
    have h1 : nth l t = .bool c := hv
    rw [← nth_getD, List.getD_eq_getElem?_getD] at h1
    rw [List.getElem?_eq_getElem hlt] at h1 ⊢
    simpa using h1
  simp [fr, this]
theorem wg_on {j t : Nat} {b c : Bool} (hj : (ops[j]?).bind (·.dst) = some t) (hv : ev l (.tmp t) = .bool c) (hlt : t < l.length) (hc : c = b)
    (h : wpLexG P ops (Ch S) Q zz ({ dst := d, op := op, type := T, pos := pos, after := after, guard := none } :: rest) k listed (fr l) w) :
    wpLexG P ops (Ch S) Q zz ({ dst := d, op := op, type := T, pos := pos, after := after, guard := some (j, b) } :: rest) k listed (fr l) w := by
  subst hc
  have hy := yielded_fr hj hv hlt
  rcases h with ⟨v, hst, h⟩ | h
  · refine .inl ⟨v, .inl ⟨by simp [Region.wanted, hy], ?_⟩, h⟩
    rcases hst with ⟨_, hst⟩ | ⟨hw, _⟩
    · intro w1 hG
      have := hst w1 hG
      unfold Oper.quietAt at *
      rw [exec_eq] at *
      exact this
    · simp [Region.wanted] at hw
  · exact .inr h
theorem wg_off {j t : Nat} {b c : Bool} (hj : (ops[j]?).bind (·.dst) = some t) (hv : ev l (.tmp t) = .bool c) (hlt : t < l.length) (hn : c = !b)
    (h : wpLexG P ops (Ch S) Q zz rest (k + 1) (listed.setIfInBounds k true) (fr (set1 l d undef)) w) :
    wpLexG P ops (Ch S) Q zz ({ dst := d, op := op, type := T, pos := pos, after := after, guard := some (j, b) } :: rest) k listed (fr l) w := by
  refine .inl ⟨undef, .inr ⟨by simp [Region.wanted, yielded_fr hj hv hlt, hn], rfl⟩, ?_⟩
  show wpLexG _ _ _ _ _ _ _ _ ((fr l).put d undef) w
  rw [put_set1]
  exact h
theorem wg_off' {j t : Nat} {b : Bool} (hj : (ops[j]?).bind (·.dst) = some t) (hv : ev l (.tmp t) = undef) (hlt : t < l.length)
    (h : wpLexG P ops (Ch S) Q zz rest (k + 1) (listed.setIfInBounds k true) (fr (set1 l d undef)) w) :
    wpLexG P ops (Ch S) Q zz ({ dst := d, op := op, type := T, pos := pos, after := after, guard := some (j, b) } :: rest) k listed (fr l) w := by
  have hy : yielded ops (fr l).tmps j = none := by
    unfold yielded
    rw [hj]
    have : l[t]? = some undef := by
      have h1 : nth l t = undef := hv
      rw [← nth_getD, List.getD_eq_getElem?_getD] at h1
      rw [List.getElem?_eq_getElem hlt] at h1 ⊢
      simpa using h1
    simp [fr, this, undef]
  refine .inl ⟨undef, .inr ⟨by simp [Region.wanted, hy], rfl⟩, ?_⟩
  show wpLexG _ _ _ _ _ _ _ _ ((fr l).put d undef) w
  rw [put_set1]
  exact h
/-- A load of what holds no address. -/
theorem wg_load_one {α : Type} {en : En α} {d : Nat} {x : Operand} {E : TypeId} {b o : Nat} {z : α} {v : Value} [hr : One P E] (hx : ev l x = .pointer (some ⟨b, o, none⟩)) (hA : (Ty.enc en).At S w b o z) (hv : en.f z = [v])
    (h : wpLexG P ops (Ch S) Q zz rest (k + 1) (listed.setIfInBounds k true) (fr (l.set d v)) w) :
    wpLexG P ops (Ch S) Q zz ({ dst := some d, op := .load E x, type := T, pos := pos, after := after, guard := none } :: rest) k listed (fr l) w := by
  refine wg_val (fun w1 hG => ?_) h
  obtain ⟨hb, hS, cs, hR, hc⟩ := hA.mv hG (fun _ _ h => h)
  have hR' : cs = en.f z := hR
  rw [hv] at hR'
  subst hR'
  exact r_load_one hx (hc 0 v rfl)
theorem wg_load_row {α : Type} {en : En α} {d : Nat} {x : Operand} {E : TypeId} {b o : Nat} {z : α} {zv : Value} {m by_ : Nat} [hr : Row P E] [hi : Inf P E zv m by_] (hx : ev l x = .pointer (some ⟨b, o, none⟩)) (hA : (Ty.enc en).At S w b o z) (hm : en.n = m)
    (h : wpLexG P ops (Ch S) Q zz rest (k + 1) (listed.setIfInBounds k true) (fr (l.set d (.agg (en.f z).toArray))) w) :
    wpLexG P ops (Ch S) Q zz ({ dst := some d, op := .load E x, type := T, pos := pos, after := after, guard := none } :: rest) k listed (fr l) w := by
  refine wg_val (fun w1 hG => ?_) h
  obtain ⟨hb, hS, cs, hR, hc⟩ := hA.mv hG (fun _ _ h => h)
  have hR' : cs = en.f z := hR
  subst hR'
  exact r_load_row hx hc ((en.hl z).trans hm)
/-! ### The same, looking for their own proofs -/
theorem is_sg (h : wpLexG P ops (Ch S) Q zz ({ dst := d, op := op, type := T, pos := pos, after := after, guard := none } :: rest) k listed (fr l) w) : wpLexG P ops (Ch S) Q zz ({ dst := d, op := op, type := T, pos := pos, after := after, guard := none } :: rest) k listed (fr l) w := h
theorem is_gg {g : Nat × Bool} (h : wpLexG P ops (Ch S) Q zz ({ dst := d, op := op, type := T, pos := pos, after := after, guard := some g } :: rest) k listed (fr l) w) : wpLexG P ops (Ch S) Q zz ({ dst := d, op := op, type := T, pos := pos, after := after, guard := some g } :: rest) k listed (fr l) w := h
theorem is_eg (h : wpLexG P ops (Ch S) Q zz [] k listed (fr l) w) : wpLexG P ops (Ch S) Q zz [] k listed (fr l) w := h
theorem eg {l' : List Value} (h : ∀ w1, Ch S w w1 → Q .normal (fr l') w1) (hl : l = l' := by first | (dsimp only [List.set, Go.Proofs.E.set1, Go.Proofs.E.ev, Go.Proofs.E.nth]; done) | exact rfl) : wpLexG P ops (Ch S) (NoP Q) zz [] k listed (fr l) w := wg_end hl h
theorem gtg {j t : Nat} {b c : Bool} (h : wpLexG P ops (Ch S) Q zz ({ dst := d, op := op, type := T, pos := pos, after := after, guard := none } :: rest) k listed (fr l) w)
    (hj : (ops[j]?).bind (·.dst) = some t := by exact rfl) (hv : ev l (.tmp t) = .bool c := by exact rfl) (hlt : t < l.length := by exact Nat.le_of_ble_eq_true rfl) (hc : c = b := by first | exact rfl | exact decide_eq_true (by omega) | exact decide_eq_false (by omega) | assumption | exact decide_eq_true (by assumption) | exact decide_eq_false (by assumption)) :
    wpLexG P ops (Ch S) Q zz ({ dst := d, op := op, type := T, pos := pos, after := after, guard := some (j, b) } :: rest) k listed (fr l) w := wg_on hj hv hlt hc h
theorem gfg {j t : Nat} {b c nb : Bool} {l' : List Value} (h : wpLexG P ops (Ch S) Q zz rest (k + 1) (listed.setIfInBounds k true) (fr l') w)
    (hj : (ops[j]?).bind (·.dst) = some t := by exact rfl) (hv : ev l (.tmp t) = .bool c := by exact rfl) (hlt : t < l.length := by exact Nat.le_of_ble_eq_true rfl) (hb : (!b) = nb := by exact rfl) (hc : c = nb := by first | exact rfl | exact decide_eq_true (by omega) | exact decide_eq_false (by omega) | assumption | exact decide_eq_true (by assumption) | exact decide_eq_false (by assumption)) (hl : set1 l d undef = l' := by first | (dsimp only [List.set, Go.Proofs.E.set1, Go.Proofs.E.ev, Go.Proofs.E.nth]; done) | exact rfl) :
    wpLexG P ops (Ch S) Q zz ({ dst := d, op := op, type := T, pos := pos, after := after, guard := some (j, b) } :: rest) k listed (fr l) w := by subst hl; exact wg_off hj hv hlt (hc.trans hb.symm) h
theorem gug {j t : Nat} {b : Bool} {l' : List Value} (h : wpLexG P ops (Ch S) Q zz rest (k + 1) (listed.setIfInBounds k true) (fr l') w)
    (hj : (ops[j]?).bind (·.dst) = some t := by exact rfl) (hv : ev l (.tmp t) = undef := by exact rfl) (hlt : t < l.length := by exact Nat.le_of_ble_eq_true rfl) (hl : set1 l d undef = l' := by first | (dsimp only [List.set, Go.Proofs.E.set1, Go.Proofs.E.ev, Go.Proofs.E.nth]; done) | exact rfl) :
    wpLexG P ops (Ch S) Q zz ({ dst := d, op := op, type := T, pos := pos, after := after, guard := some (j, b) } :: rest) k listed (fr l) w := by subst hl; exact wg_off' hj hv hlt h
end
end Go.Proofs.E

/- More of memory: appends of byte rows that are read, structs of parts. -/
import Derived.Test.YtbecfcnbgeeghaaDoorU
set_option linter.unusedVariables false
set_option linter.unusedSimpArgs false
namespace Go.Proofs.E
open Go Go.RowKit
section
variable {P : Program} {ops : Array Oper} {Q : Exit → Act → World → Prop} {rest : List Oper} {l : List Value} {w : World} {op : Op} {T : TypeId} {pos : String} {after : Array Edge}
theorem Own.form {α : Type} {en : En α} {base : Nat} {E : TypeId} {v : Value} {xs : List α} (h : Own en w base E v xs) : ∃ A c, v = .slice A xs.length c ∧ xs.length ≤ c := by
  rcases h.2 with ⟨rfl, h0⟩ | ⟨g, cap, cur, rfl, hg, hh, hc1, hc2, hc3, hc4⟩
  · exact ⟨none, 0, by rw [h0], by omega⟩
  · exact ⟨_, cap, rfl, hc1⟩
/-- append(v, nothing...). -/
theorem wl_append0 {α : Type} {en : En α} {n by_ : Nat} {d : Nat} {x y : Operand} {t e : TypeId} {z : Value} [hu : Und P t (.slice e)] [hi : Inf P e z n by_]
    {base : Nat} {v : Value} {xs : List α} {A : Option Addr} {c : Nat} (hx : ev l x = v) (hO : Own en w base e v xs) (hy : ev l y = .slice A 0 c) (h : wpList P ops Q rest (fr (l.set d v)) w) :
    wpList P ops Q ({ dst := some d, op := .call { callee := .builtin .append, args := #[x, y], argTypes := #[t, t] }, type := T, pos := pos, after := after, guard := none } :: rest) (fr l) w := by
  obtain ⟨i, k1, k2, k3, k4⟩ := inf_parts hi
  obtain ⟨B, cap, rfl, hle⟩ := hO.form
  refine wl_val ?_ h
  have hl : ∀ (x : Addr), (loadCells x 0).run P w = .ok #[] w := fun x => by simpa using run_loadCells_list (P := P) w x [] (by simp)
  cases A <;> cases B <;> simp [exec, execOp, resolve, invoke, builtin, Builtin.append_, run_underlying hu.out, sizeOf, typeInfo, k1, Builtin.lenOf, Builtin.firstCells, hle, storeCells, hx, hy, hl]
theorem flat8 (bs : List UInt8) : bs.flatMap eU8.f = bs.map u8v := by
  induction bs with
  | nil => rfl
  | cons x bs ih => rw [List.flatMap_cons, ih]; rfl
/-- append(v, bs...) of bytes. -/
theorem apb {d by_ : Nat} {x y : Operand} {t e : TypeId} {z : Value} [hu : Und P t (.slice e)] [hi : Inf P e z 1 by_] (hz : z.cells.size = 1)
    {base : Nat} {v yv : Value} {xs ys : List UInt8} {S : List Nat} (hx : ev l x = v) (hO : Own eU8 w base e v xs) (hbase : base ≤ w.heap.size) (hy : ev l y = yv) (hR : (Ty.enc eU8).Rd S w yv ys) (hb : (xs.length + ys.length) * by_ ≤ 140737488355328) (h63 : xs.length + ys.length ≤ 281474976710656)
    (h : ∀ v' w', Own eU8 w' base e v' (xs ++ ys) → Ch v.ownBlock.toList w w' → (v'.ownBlock = v.ownBlock ∨ v'.ownBlock = some w.heap.size) → wpList P ops Q rest (fr (l.set d v')) w') :
    wpList P ops Q ({ dst := some d, op := .call { callee := .builtin .append, args := #[x, y], argTypes := #[t, t] }, type := T, pos := pos, after := after, guard := none } :: rest) (fr l) w := by
  by_cases hne : ys = []
  · subst hne
    obtain ⟨A, c, rfl⟩ := hR.form
    refine wl_append0 hx hO hy ?_
    have := h v w (by simpa using hO) (Ch.refl _ _) (.inl rfl)
    exact this
  · obtain ⟨b, o, cap, rfl, hb1, hS, hrow⟩ := row8 hR hne
    exact wl_append (en := eU8) rfl hz (by decide) hx hO hbase hy (by rw [flat8]; exact hrow) hb h63 h
end
/-- What a slice is, of a row of one's own. -/
theorem Own.of_new {α : Type} {en : En α} {w w' : World} {b n : Nat} {cs : List Value} {E : TypeId} {bs : List α} {base : Nat} (h : New w w' b cs E) (hc : cs = bs.flatMap en.f) (hb : base ≤ w.heap.size) (hl : bs.length ≤ 281474976710656) (hn : bs.length = n) : Own en w' base E (.slice (some ⟨b, 0, none⟩) n n) bs := by
  subst hc hn
  have hfl := flatMap_len en.hl bs
  exact ⟨hfl, .inr ⟨b, bs.length, _, rfl, by rw [h.at_]; exact hb, h.blk, Nat.le_refl _, by simp only [maxLen]; omega, by simpa using hfl, by rw [List.take_of_length_le (by simpa using Nat.le_of_eq hfl)]⟩⟩
/-- A row of values of one cell each reads as a list. -/
theorem Rd.of_blk1 {α : Type} {t : Ty α} {w : World} {S : List Nat} {d n : Nat} {cs : List Value} {E : TypeId} {xs : List α} (hB : Blk w d cs E) (hS : d ∉ S) (h1 : t.n = 1) (hn : xs.length = n) (hb : n ≤ 9223372036854775807)
    (h : ∀ (i : Nat) x, xs[i]? = some x → ∃ c, cs[i]? = some c ∧ t.R S w x [c]) : t.Rd S w (.slice (some ⟨d, 0, none⟩) n n) xs := by
  subst hn
  refine ⟨hb, _, _, rfl, Nat.le_refl _, fun _ => ⟨d, 0, rfl, hB.lt, hS, fun i x hx => ⟨hB.lt, hS, ?_⟩⟩⟩
  obtain ⟨c, hc, hR⟩ := h i x hx
  refine ⟨[c], hR, fun j v hv => ?_⟩
  match j, hv with
  | 0, hv =>
    simp only [List.getElem?_cons_zero, Option.some.injEq] at hv
    subst hv
    have h3 : cs[0 + i * t.n + 0]? = some c := by
      rw [h1, show 0 + i * 1 + 0 = i by omega]
      exact hc
    exact hB.cell h3
section
variable {P : Program} {ops : Array Oper} {Q : Exit → Act → World → Prop} {rest : List Oper} {l : List Value} {w : World} {op : Op} {T : TypeId} {pos : String} {after : Array Edge} {S : List Nat} {k zz : Nat} {listed : Array Bool}
theorem wg_cut_lh {α : Type} {ty : Ty α} {d : Nat} {x : Operand} {t e : TypeId} {z : Value} {m by_ : Nat} [hu : Und P t (.slice e)] [hi : Inf P e z m by_] {v : Value} {xs : List α} {y q : Operand} {k1 k2 : IntKind} {i j : Int} (hx : ev l x = v) (hR : ty.Rd S w v xs) (hm : ty.n = m) (hy : ev l y = .int k1 i) (hq : ev l q = .int k2 j) (h0 : 0 ≤ i) (h2 : i ≤ j) (h1 : j ≤ xs.length)
    (h : ∀ v', ty.Rd S w v' ((xs.take j.toNat).drop i.toNat) → wpLexG P ops (Ch S) Q zz rest (k + 1) (listed.setIfInBounds k true) (fr (l.set d v')) w) :
    wpLexG P ops (Ch S) Q zz ({ dst := some d, op := .slice t x (some y) (some q) none, type := T, pos := pos, after := after, guard := none } :: rest) k listed (fr l) w := by
  subst hm
  obtain ⟨A, c, rfl⟩ := hR.form
  have hc : xs.length ≤ c := by obtain ⟨_, _, _, hv, h, _⟩ := hR; injection hv; omega
  have := hR.cut (L := i.toNat) (H := j.toNat) (M := c) (by omega) (by omega) (by omega)
  refine wg_val (fun w1 _ => ?_) (h _ this)
  simp [exec, execOp, hx, hy, hq, run_cut (hi := hi) (bnd_lh (b := true) (n := xs.length) h0 h2 (show j ≤ c by omega))]
theorem wg_cut_lo {α : Type} {ty : Ty α} {d : Nat} {x : Operand} {t e : TypeId} {z : Value} {m by_ : Nat} [hu : Und P t (.slice e)] [hi : Inf P e z m by_] {v : Value} {xs : List α} {y : Operand} {k1 : IntKind} {i : Int} (hx : ev l x = v) (hR : ty.Rd S w v xs) (hm : ty.n = m) (hy : ev l y = .int k1 i) (h0 : 0 ≤ i) (h1 : i ≤ xs.length)
    (h : ∀ v', ty.Rd S w v' (xs.drop i.toNat) → wpLexG P ops (Ch S) Q zz rest (k + 1) (listed.setIfInBounds k true) (fr (l.set d v')) w) :
    wpLexG P ops (Ch S) Q zz ({ dst := some d, op := .slice t x (some y) none none, type := T, pos := pos, after := after, guard := none } :: rest) k listed (fr l) w := by
  subst hm
  obtain ⟨A, c, rfl⟩ := hR.form
  have hc : xs.length ≤ c := by obtain ⟨_, _, _, hv, h, _⟩ := hR; injection hv; omega
  have := hR.cut (L := i.toNat) (H := xs.length) (M := c) (by omega) (Nat.le_refl _) hc
  rw [List.take_of_length_le (Nat.le_refl _)] at this
  refine wg_val (fun w1 _ => ?_) (h _ this)
  simp [exec, execOp, hx, hy, run_cut (hi := hi) (bnd_lo (b := true) (n := xs.length) h0 h1)]
theorem wg_cut_hi {α : Type} {ty : Ty α} {d : Nat} {x : Operand} {t e : TypeId} {z : Value} {m by_ : Nat} [hu : Und P t (.slice e)] [hi : Inf P e z m by_] {v : Value} {xs : List α} {q : Operand} {k2 : IntKind} {j : Int} (hx : ev l x = v) (hR : ty.Rd S w v xs) (hm : ty.n = m) (hq : ev l q = .int k2 j) (h0 : 0 ≤ j) (h1 : j ≤ xs.length)
    (h : ∀ v', ty.Rd S w v' (xs.take j.toNat) → wpLexG P ops (Ch S) Q zz rest (k + 1) (listed.setIfInBounds k true) (fr (l.set d v')) w) :
    wpLexG P ops (Ch S) Q zz ({ dst := some d, op := .slice t x none (some q) none, type := T, pos := pos, after := after, guard := none } :: rest) k listed (fr l) w := by
  subst hm
  obtain ⟨A, c, rfl⟩ := hR.form
  have hc : xs.length ≤ c := by obtain ⟨_, _, _, hv, h, _⟩ := hR; injection hv; omega
  have := hR.cut (L := 0) (H := j.toNat) (M := c) (by omega) (by omega) (by omega)
  rw [List.drop_zero] at this
  refine wg_val (fun w1 _ => ?_) (h _ this)
  simp [exec, execOp, hx, hq, run_cut (hi := hi) (bnd_hi (b := true) (n := xs.length) h0 (show j ≤ c by omega))]
end
end Go.Proofs.E

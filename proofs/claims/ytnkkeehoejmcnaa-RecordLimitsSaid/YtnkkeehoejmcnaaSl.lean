/- Slices of slices: their raw view; strings of bytes; what is new and read. -/
import Derived.Test.YtnkkeehoejmcnaaRM
import Derived.Laws.BytesString
set_option linter.unusedVariables false
set_option linter.unusedSimpArgs false
namespace Go.Proofs.E
open Go Go.RowKit
abbrev SlV := Option Addr × Nat × Nat
def slv (x : SlV) : Value := .slice x.1 x.2.1 x.2.2
@[simp] theorem slv_cells (x : SlV) : (slv x).cells = #[slv x] := rfl
@[simp] theorem slv_one (x : SlV) : (slv x).oneCell' = true := rfl
abbrev eSl : En SlV := { f := fun x => [slv x], n := 1, hl := fun _ => rfl, h1 := fun _ u hu => by simp at hu; subst hu; rfl }
theorem Ty.Rd.slv {α : Type} {t : Ty α} {S : List Nat} {w : World} {v : Value} {xs : List α} (h : t.Rd S w v xs) : ∃ u : SlV, v = E.slv u := let ⟨_, A, cap, hv, _, _⟩ := h; ⟨(A, xs.length, cap), hv⟩
theorem list_ofS {α : Type} {p : Nat → α → Prop} : ∀ {n : Nat}, (∀ i, i < n → ∃ x, p i x) → ∃ xs : List α, xs.length = n ∧ ∀ (i : Nat) x, xs[i]? = some x → p i x
  | 0, _ => ⟨[], rfl, fun i x hx => by simp at hx⟩
  | n + 1, h => by
    obtain ⟨xs, hl, hxs⟩ := list_ofS (n := n) fun i hi => h i (by omega)
    obtain ⟨x, hx⟩ := h n (by omega)
    refine ⟨xs ++ [x], by simp [hl], fun i y hy => ?_⟩
    rcases Nat.lt_or_ge i n with hlt | hge
    · rw [List.getElem?_append_left (by omega)] at hy
      exact hxs i y hy
    · rw [List.getElem?_append_right (by omega)] at hy
      have : i = n := by
        have := (List.getElem?_eq_some_iff.1 hy).1
        simp at this
        omega
      subst this
      rw [hl, Nat.sub_self] at hy
      simp only [List.getElem?_cons_zero, Option.some.injEq] at hy
      subst hy
      exact hx
/-- The elements' own values. -/
theorem Ty.Rd.raw {α : Type} {t : Ty α} {S : List Nat} {w : World} {v : Value} {xss : List (List α)} (h : (Ty.sl t).Rd S w v xss) :
    ∃ ps : List (SlV × List α), ps.map (·.2) = xss ∧ (Ty.enc eSl).Rd S w v (ps.map (·.1)) ∧ ∀ p ∈ ps, t.Rd S w (E.slv p.1) p.2 := by
  obtain ⟨hl, A, cap, rfl, hcap, hA⟩ := h
  by_cases hne : xss = []
  · subst hne
    exact ⟨[], rfl, ⟨by simp, A, cap, rfl, by simp, fun h => absurd rfl h⟩, by simp⟩
  · obtain ⟨b, o, rfl, hb, hn, he⟩ := hA hne
    obtain ⟨ps, hpl, hps⟩ : ∃ ps : List (SlV × List α), ps.length = xss.length ∧ ∀ (i : Nat) p, ps[i]? = some p → xss[i]? = some p.2 ∧ t.Rd S w (E.slv p.1) p.2 ∧ w.rangeAt b (o + i * 1) [E.slv p.1] := list_ofS fun i hi => by
      obtain ⟨_, _, cs, ⟨v, rfl, hR⟩, hr⟩ := he i _ (List.getElem?_eq_getElem hi)
      obtain ⟨u, rfl⟩ := hR.slv
      exact ⟨(u, xss[i]), List.getElem?_eq_getElem hi, hR, hr⟩
    refine ⟨ps, List.ext_getElem? fun i => ?_, ⟨by simpa [hpl] using hl, some ⟨b, o, none⟩, cap, by simp [hpl], by simpa [hpl] using hcap, fun _ => ⟨b, o, rfl, hb, hn, fun i x hx => ?_⟩⟩, fun p hp => ?_⟩
    · rw [List.getElem?_map]
      by_cases hi : i < xss.length
      · rw [List.getElem?_eq_getElem (l := ps) (by omega), (hps i _ (List.getElem?_eq_getElem (by omega))).1]
        rfl
      · rw [List.getElem?_eq_none (by omega), List.getElem?_eq_none (by omega)]
        rfl
    · rw [List.getElem?_map] at hx
      obtain ⟨p, hp, rfl⟩ := Option.map_eq_some_iff.1 hx
      exact ⟨hb, hn, _, rfl, (hps i p hp).2.2⟩
    · obtain ⟨i, hi⟩ := List.getElem?_of_mem hp
      exact (hps i p hi).2.1
theorem Ty.Rd.unraw {α : Type} {t : Ty α} {S : List Nat} {w : World} {v : Value} {ps : List (SlV × List α)} (h : (Ty.enc eSl).Rd S w v (ps.map (·.1))) (hp : ∀ p ∈ ps, t.Rd S w (E.slv p.1) p.2) : (Ty.sl t).Rd S w v (ps.map (·.2)) := by
  obtain ⟨hl, A, cap, rfl, hcap, hA⟩ := h
  refine ⟨by simpa using hl, A, cap, by simp, by simpa using hcap, fun hne => ?_⟩
  obtain ⟨b, o, rfl, hb, hn, he⟩ := hA (by simpa using hne)
  refine ⟨b, o, rfl, hb, hn, fun i x hx => ?_⟩
  rw [List.getElem?_map] at hx
  obtain ⟨p, hpi, rfl⟩ := Option.map_eq_some_iff.1 hx
  obtain ⟨_, _, cs, rfl, hr⟩ := he i p.1 (by rw [List.getElem?_map, hpi]; rfl)
  exact ⟨hb, hn, _, ⟨_, rfl, hp p (List.mem_of_getElem? hpi)⟩, hr⟩
/-! ### What is new and read -/
abbrev As.many {α : Type} (t : Ty α) (B : Nat → Prop) (ps : List (SlV × List α)) : As := .gen B (fun S w => ∀ p ∈ ps, t.Rd S w (slv p.1) p.2) (fun hc hs h p hp => (h p hp).mv hc hs)
abbrev As.frd {α : Type} (t : Ty α) (B : Nat → Prop) (v : Value) (xs : List α) : As := .gen B (fun S w => t.Rd S w v xs) (fun hc hs h => h.mv hc hs)
def As.plain : As → Prop
  | .rd .. => False
  | _ => True
theorem As.free {O O' : List Nat} {n0 n1 : Nat} : ∀ (a : As) {w : World}, a.plain → a.P O n0 w → a.P O' n1 w
  | .cell .., w, _, h => h
  | .row .., w, _, h => h
  | .obj .., w, _, h => h
  | .gen .., w, _, h => h
  | .rd .., w, h, _ => h.elim
section
variable {O : List Nat} {w0 w w' : World} {L L' M : List As} {a c d : As}
theorem Mem.turn (h : Mem O w0 w (a :: L)) (hd : a.P O w0.heap.size w → d.P O w0.heap.size w) (ho : ∀ k, d.own k → a.own k) : Mem O w0 w (d :: L) :=
  h.put (S := []) (Ch.refl _ _) (by simp) (hd h.head) (fun k hk => .inl (ho k hk))
theorem Mem.fuse (h : Mem O w0 w (a :: c :: L)) (hd : a.P O w0.heap.size w → c.P O w0.heap.size w → d.P O w0.heap.size w) (ho : ∀ k, d.own k → a.own k ∨ c.own k) : Mem O w0 w (d :: L) := by
  have hac := List.pairwise_cons.1 h.dis
  have hc := List.pairwise_cons.1 hac.2
  refine ⟨h.ch, fun x hx => ?_, fun x hx k hk => ?_, List.pairwise_cons.2 ⟨fun x hx k hk hxk => ?_, hc.2⟩⟩
  · rcases List.mem_cons.1 hx with rfl | hx
    · exact hd h.head (h.drop).head
    · exact h.all x (by simp [hx])
  · rcases List.mem_cons.1 hx with rfl | hx
    · exact (ho k hk).elim (h.new a (by simp) k) (h.new c (by simp) k)
    · exact h.new x (by simp [hx]) k hk
  · exact (ho k hk).elim (fun hk => hac.1 x (by simp [hx]) k hk hxk) (fun hk => hc.1 x hx k hk hxk)
/-- What a call handed back, all of it new. -/
theorem Mem.join (h : Mem O w0 w L) (k : Mem [] w w' M) (hp : ∀ a ∈ M, a.plain) : Mem O w0 w' (M ++ L) := by
  have h1 := h.call k.ch
  have hn : ∀ a ∈ M, ∀ j, a.own j → w.heap.size ≤ j := fun a ha j hj => (k.new a ha j hj).resolve_right (by simp)
  refine ⟨h1.ch, fun a ha => ?_, fun a ha j hj => ?_, List.pairwise_append.2 ⟨k.dis, h1.dis, fun a ha c hc j hj hj' => ?_⟩⟩
  · rcases List.mem_append.1 ha with ha | ha
    · exact a.free (hp a ha) (k.all a ha)
    · exact h1.all a ha
  · rcases List.mem_append.1 ha with ha | ha
    · exact .inl (Nat.le_trans h.ch.size (hn a ha j hj))
    · exact h1.new a ha j hj
  · have h2 := hn a ha j hj
    have h3 := c.lt (h.all c hc) j hj'
    omega
variable {α : Type} {t : Ty α} {en : En α} {B B2 : Nat → Prop} {E : TypeId} {v : Value} {u : SlV} {xs : List α} {ps : List (SlV × List α)}
theorem Mem.many0 (t : Ty α) (h : Mem O w0 w L) : Mem O w0 w (.many t (fun _ => False) [] :: L) :=
  h.res (Ch.refl _ _) ⟨fun k hk => hk.elim, fun S _ p hp => by simp at hp⟩ (fun k hk => hk.elim)
theorem Mem.frd0 (t : Ty α) (h : Mem O w0 w L) (A : Option Addr) (c : Nat) : Mem O w0 w (.frd t (fun _ => False) (.slice A 0 c) [] :: L) :=
  h.res (Ch.refl _ _) ⟨fun k hk => hk.elim, fun S _ => Ty.Rd.nil _ _ _ _ _⟩ (fun k hk => hk.elim)
theorem Mem.rowFrd (h : Mem O w0 w (.row en E v xs :: L)) (hb : xs.length ≤ 9223372036854775807) : Mem O w0 w (.frd (Ty.enc en) (fun k => v.ownBlock = some k) v xs :: L) :=
  h.turn (fun hO => ⟨fun k hk => (Own.lt hO hk).2, fun S hS => Own.rd hO (fun k hk hm => hS k hm hk) hb⟩) (fun k hk => hk)
theorem Mem.manyPut (h : Mem O w0 w (.many t B ps :: .frd t B2 (slv u) xs :: L)) : Mem O w0 w (.many t (fun k => B k ∨ B2 k) (ps ++ [(u, xs)]) :: L) :=
  h.fuse (fun h1 h2 => ⟨fun k hk => hk.elim (h1.1 k) (h2.1 k), fun S hS p hp => by
    rcases List.mem_append.1 hp with hp | hp
    · exact h1.2 S (fun k hk hb => hS k hk (.inl hb)) p hp
    · simp only [List.mem_singleton] at hp
      subst hp
      exact h2.2 S (fun k hk hb => hS k hk (.inr hb))⟩) (fun k hk => hk)
theorem Mem.manyFrd (h : Mem O w0 w (.row eSl E v (ps.map (·.1)) :: .many t B ps :: L)) (hb : ps.length ≤ 9223372036854775807) : Mem O w0 w (.frd (Ty.sl t) (fun k => v.ownBlock = some k ∨ B k) v (ps.map (·.2)) :: L) :=
  h.fuse (fun h1 h2 => ⟨fun k hk => hk.elim (fun hk => (Own.lt h1 hk).2) (h2.1 k), fun S hS =>
    (Own.rd h1 (fun k hk hm => hS k hm (.inl hk)) (by simpa using hb)).unraw (h2.2 S (fun k hk hb => hS k hk (.inr hb)))⟩) (fun k hk => hk)
theorem Mem.frdRd (h : Mem O w0 w L) (hp : Pick L (.frd t B v xs) L') : t.Rd [] w v xs := (h.pick hp).head.2 [] (by simp)
theorem Mem.manyRd (h : Mem O w0 w L) (hp : Pick L (.many t B ps) L') : ∀ p ∈ ps, t.Rd [] w (slv p.1) p.2 := (h.pick hp).head.2 [] (by simp)
end
theorem Own.le {α : Type} {en : En α} {w : World} {b : Nat} {E : TypeId} {v : Value} {xs : List α} (h : Own en w b E v xs) : xs.length ≤ 9223372036854775807 := by
  rcases h.2 with ⟨_, h0⟩ | ⟨g, cap, cur, rfl, hg, hh, h1, h2, _⟩
  · omega
  · simp only [maxLen] at h2
    omega
theorem Mem.rowRdO {O : List Nat} {w0 w : World} {L L' : List As} {α : Type} {en : En α} {E : TypeId} {v : Value} {xs : List α} (h : Mem O w0 w L) (hp : Pick L (.row en E v xs) L') : (Ty.enc en).Rd [] w v xs := h.rowRd hp (h.row0 hp).le
/-! ### Strings -/
def bst (bs : List UInt8) : ByteArray := ⟨bs.toArray⟩
theorem bst_inj {a b : List UInt8} : bst a = bst b ↔ a = b := ⟨fun h => by simpa [bst] using h, fun h => by rw [h]⟩
theorem bst_fold : ∀ (bs : List UInt8) (s : ByteArray), (bs.map fun b => (b.toNat : Int)).foldl (fun r n => r.push (UInt8.ofNat n.toNat)) s = ⟨s.data ++ bs.toArray⟩
  | [], s => by simp
  | b :: bs, s => by
    rw [List.map_cons, List.foldl_cons, bst_fold bs]
    simp [ByteArray.push]
theorem bst_loop (a : List UInt8) : ∀ (k i : Nat) (r : List UInt8), a.length - i = k → ByteArray.toList.loop (bst a) i r = r.reverse ++ a.drop i := by
  intro k
  induction k with
  | zero =>
    intro i r h
    rw [ByteArray.toList.loop, if_neg (by show ¬ i < a.toArray.size; simp; omega), List.drop_eq_nil_of_le (by omega), List.append_nil]
  | succ k ih =>
    intro i r h
    have hi : i < a.length := by omega
    rw [ByteArray.toList.loop, if_pos (show i < (bst a).size from (by simpa using hi : i < a.toArray.size)), ih (i + 1) _ (by omega), List.drop_eq_getElem_cons hi]
    have : (bst a).get! i = a[i] := by
      show a.toArray[i]! = a[i]
      simp [hi]
    rw [this]
    simp
theorem bst_list (a : List UInt8) : (bst a).toList = a := by
  have := bst_loop a _ 0 [] rfl
  simpa [ByteArray.toList] using this
section
variable {P : Program} {l : List Value} {w : World} {T : TypeId}
theorem r_b2s {x : Operand} {t u e : TypeId} {v : Value} {bs : List UInt8} {S : List Nat} [ht : Und P t (.slice e)] [he : Und P e (.int .u8)] [hu : Und P u .string] (hR : tU8.Rd S w v bs) (hx : ev l x = v := by exact rfl) :
    (exec (ev l) (.convert t u x) T).run P w = .ok (.value (.string (bst bs))) w := by
  have key : (Conv.bytesToString v).run P w = .ok (.string (bst bs)) w := by
    by_cases hne : bs = []
    · subst hne
      obtain ⟨A, cap, rfl⟩ := hR.form
      cases A with
      | none => simp [Conv.bytesToString, bst, Sem.run_pure]; rfl
      | some a =>
        have hl : (loadCells a 0).run P w = .ok #[] w := by simpa using run_loadCells_list (P := P) w a [] (by simp)
        have := run_bytesToString (P := P) w a 0 cap [] (by simpa using hl)
        exact this
    · obtain ⟨b, o, cap, rfl, hb, hS, hr⟩ := rowE hR hne
      have hl := run_loadCells_list (P := P) w ⟨b, o, none⟩ (bs.flatMap eU8.f) (fun j v hj => by by_cases hj0 : j = 0 <;> simpa [Addr.add, hj0] using hr j v hj)
      have hf : bs.flatMap eU8.f = (bs.map fun b => (b.toNat : Int)).map (Value.int .u8) := by
        rw [List.map_map]
        exact List.map_eq_flatMap.symm
      rw [hf, List.length_map, List.length_map] at hl
      rw [run_bytesToString (P := P) w ⟨b, o, none⟩ bs.length cap _ hl, bst_fold]
      simp [bst]
  obtain ⟨A, cap, rfl⟩ := hR.form
  have := run_convert_bytes_string (P := P) w t u e A bs.length cap ht.out he.out hu.out
  simp [exec, execOp, hx, this, key]
theorem r_minI {x y : Operand} {ts : Array TypeId} {k : IntKind} {a b : Int} (c : Int) (hx : ev l x = .int k a := by exact rfl) (hy : ev l y = .int k b := by exact rfl) (hc : c = min a b := by omega) : (exec (ev l) (.call { callee := .builtin .min, args := #[x, y], argTypes := ts }) T).run P w = .ok (.value (.int k c)) w := by
  have h : c = (if b < a then b else a) := by rw [hc]; omega
  subst h
  simp [exec, execOp, resolve, invoke, builtin, hx, hy, run_min_int2]
theorem r_eqst {x y : Operand} {t u : TypeId} {a b : List UInt8} [hU : Und P t .string] (hx : ev l x = .string (bst a) := by exact rfl) (hy : ev l y = .string (bst b) := by exact rfl) : (exec (ev l) (.binOp .eql t x y u) T).run P w = .ok (.value (.bool (decide (a = b)))) w := by
  have : (a == b) = decide (a = b) := by rw [Bool.eq_iff_iff, beq_iff_eq, decide_eq_true_eq]
  simp [exec, execOp, hx, hy, eqGuard, binOp, Op.stringOp, bst_list, this]
theorem r_eqsts {x y : Operand} {t u : TypeId} {a : List UInt8} [hU : Und P t .string] (hx : ev l x = .string (bst a) := by exact rfl) (hy : ev l y = .string (bst a) := by exact rfl) : (exec (ev l) (.binOp .eql t x y u) T).run P w = .ok (.value (.bool true)) w := by
  have := r_eqst (P := P) (w := w) (t := t) (u := u) (T := T) hx hy
  rwa [decide_eq_true rfl] at this
theorem r_neqst {x y : Operand} {t u : TypeId} {a b : List UInt8} [hU : Und P t .string] (hx : ev l x = .string (bst a) := by exact rfl) (hy : ev l y = .string (bst b) := by exact rfl) : (exec (ev l) (.binOp .neq t x y u) T).run P w = .ok (.value (.bool (!decide (a = b)))) w := by
  have : (a == b) = decide (a = b) := by rw [Bool.eq_iff_iff, beq_iff_eq, decide_eq_true_eq]
  simp [exec, execOp, hx, hy, eqGuard, binOp, Op.stringOp, bst_list, this]
end
end Go.Proofs.E

/- The engine's further parts: regions with operations that no edge orders, structs compared, values built of parts, bytes in blocks. -/
import Derived.Test.YtoimhmphhffelaaDoorQQueryBack07
import Derived.Test.YtoimhmphhffelaaDoorQQueryBack06
import Derived.Laws.StructEq
set_option linter.unusedVariables false
set_option linter.unusedSimpArgs false
namespace Go.Proofs.E
open Go Go.RowKit
theorem kbsC {P : Program} {ops : Array Oper} {Q : Exit → Act → World → Prop} {rest : List Oper} {l : List Value} {O : List Nat} {w0 w : World} {L : List As} {T : TypeId} {pos : String} {after : Array Edge} {α : Type} {en : En α} {d n : Nat} {t e : TypeId} {parts : List (Nat × Operand)} {vs : List Value} {z : Value} {m by_ : Nat} [hu : Und P t (.slice e)] [hi : Inf P e z m by_] (xs : List α) (hM : Mem O w0 w L)
    (h : ∀ w' b, Ch [] w w' → Mem O w0 w' (.row en e (.slice (some ⟨b, 0, none⟩) n n) xs :: L) → wpList P ops Q rest (fr (l.set d (.slice (some ⟨b, 0, none⟩) n n))) w')
    (hp : (parts.map fun x => (x.1, ev l x.2)) = (vs.zipIdx 0).map fun x => (x.2, x.1) := by exact rfl) (hn : vs.length = n := by exact rfl) (hxs : vs.flatMap (fun v => v.cells.toList) = xs.flatMap en.f := by first | exact rfl | simp) (hm : ∀ v ∈ vs, v.cells.size = m := by first | (simp [Value.cells]; done) | (simp; done)) (hl : xs.length = n := by exact rfl) (hsmall : n * m ≤ 16777216 := by decide) (h63 : n ≤ 281474976710656 := by decide) :
    wpList P ops Q ({ dst := some d, op := .buildSlice t n parts.toArray, type := T, pos := pos, after := after, guard := none } :: rest) (fr l) w :=
  wl_buildSlice hp hn hm hsmall fun w' b hN => h w' b hN.ch (hM.got hN.ch (Own.of_new hN hxs (Nat.le_refl _) (by rw [hl]; exact h63) hl))
section
variable {P : Program} {F : Fence} {n : Nat} {Q : Exit → Act → World → Prop} {a : Act} {w : World}
instance stpi_seq {x y : Code} : Stp ((Code.seq x y).wpIn F n P Q a w) (x.wpIn F n P (Exit.then (y.wpIn F n P Q) Q) a w) := ⟨fun h => wpIn_seq h⟩
instance stpi_block {id : Nat} {c : Code} : Stp ((Code.block id c).wpIn F n P Q a w) (c.wpIn F n P (Exit.inBlock id Q) a w) := ⟨fun h => wpIn_block h⟩
instance stpi_skip : Stp (Code.skip.wpIn F n P Q a w) (Q .normal a w) := ⟨fun h => wpIn_skip h⟩
instance stpi_exit {id : Nat} : Stp ((Code.exit id).wpIn F n P Q a w) (Q (.exit id) a w) := ⟨fun h => wpIn_exit h⟩
instance stpi_ret : Stp (Code.ret.wpIn F n P Q a w) (Q .ret a w) := ⟨fun h => wpIn_ret h⟩
end
/-! ### Structs compared -/
def Cmp (P : Program) (d : Nat) (t : TypeId) (n : Nat) (a b : List Value) (r : Bool) : Prop :=
  ∀ (w : World) (xs ys : Array Value) (o : Nat), (xs.toList.drop o).take n = a → (ys.toList.drop o).take n = b → ∃ va vb, (part t xs o).run P w = .ok va w ∧ (part t ys o).run P w = .ok vb w ∧ (Op.equalIn d t va vb).run P w = .ok r w
inductive CmpFs (P : Program) (d : Nat) (xs ys : List Value) : List Field → Bool → Prop
  | nil : CmpFs P d xs ys [] true
  | cons {f : Field} {fs : List Field} {n : Nat} {a b : List Value} {r s : Bool} : f.name ≠ "_" → Cmp P d f.type n a b r → (xs.drop f.offset).take n = a → (ys.drop f.offset).take n = b → CmpFs P d xs ys fs s → CmpFs P d xs ys (f :: fs) (r && s)
theorem run_cmpFs {P : Program} {d : Nat} {xs ys : Array Value} {fs : List Field} {r : Bool} (h : CmpFs P d xs.toList ys.toList fs r) (w : World) : (Op.eqFields d xs ys fs).run P w = .ok r w := by
  induction h with
  | nil => simp [Op.eqFields]
  | cons hn hc ha hb _ ih =>
    rename_i f fs n a b r s h1
    obtain ⟨va, vb, p1, p2, p3⟩ := hc w xs ys f.offset ha hb
    cases r <;> simp [Op.eqFields, hn, p1, p2, p3, ih]
section
variable {P : Program}
theorem get_of_chunk {xs : Array Value} {o : Nat} {v : Value} (h : (xs.toList.drop o).take 1 = [v]) : xs[o]? = some v := by
  have h1 : ((xs.toList.drop o).take 1)[0]? = some v := by rw [h]; rfl
  rw [List.getElem?_take, if_pos (by omega), List.getElem?_drop] at h1
  simpa using h1
theorem run_part_one {t : TypeId} [ho : One P t] {xs : Array Value} {o : Nat} {v : Value} (w : World) (h : (xs.toList.drop o).take 1 = [v]) : (part t xs o).run P w = .ok v w := by
  have hag := run_isAgg_one (P := P) (w := w) (t := t)
  have := get_of_chunk h
  simp [part, hag, this]
theorem cmp_int {d : Nat} {t : TypeId} {k : IntKind} {a b : Int} [hu : Und P t (.int k)] [ho : One P t] : Cmp P (d + 1) t 1 [.int k a] [.int k b] (a == b) := fun w xs ys o hx hy =>
  ⟨_, _, run_part_one w hx, run_part_one w hy, run_equalIn_int (P := P) w d t k k a b hu.out⟩
theorem cmp_str {d : Nat} {t : TypeId} {a b : ByteArray} [hu : Und P t .string] [ho : One P t] : Cmp P (d + 1) t 1 [.string a] [.string b] (a == b) := fun w xs ys o hx hy =>
  ⟨_, _, run_part_one w hx, run_part_one w hy, by unfold Op.equalIn; rw [Sem.run_bind, run_underlying hu.out w]; rfl⟩
variable {l : List Value} {w : World} {T : TypeId}
theorem r_neqS {x y : Operand} {t u : TypeId} {xs ys : List Value} {r : Bool} (hg : P.eqGuardType P.depth t = false) (ht : P.underlying t = some (.struct (P.fieldsOf t))) (hs : P.stoodInHeld t = false) (hx : ev l x = .agg xs.toArray) (hy : ev l y = .agg ys.toArray)
    (h : CmpFs P 9999 xs ys (P.fieldsOf t).toList r) : (exec (ev l) (.binOp .neq t x y u) T).run P w = .ok (.value (.bool (!r))) w := by
  have h1 := run_equalIn_struct (P := P) w 9999 t xs.toArray ys.toArray ht hs
  rw [run_cmpFs (by simpa using h)] at h1
  have h2 := run_neq_struct (P := P) w t xs.toArray ys.toArray
  rw [h1] at h2
  have h3 := run_eqGuard_agg (P := P) w .neq t x y xs.toArray ys.toArray hg
  simp [exec, execOp, hx, hy, h3, h2]
end
/-! ### Bytes in a block -/
/-- An operation that comes up alone. -/
theorem yk1 {P : Program} {ops : Array Oper} {N : Nat} {S : List Nat} {Q : Exit → Act → World → Prop} {z : List Nat × List Nat} {fuel : Nat} {listed : Array Bool} {l : List Value} {w w0 : World} {O : List Nat} {L : List As} {o : Oper} (k : Nat) (hM : Mem O w0 w L) (hr : Region.ready .any ops listed = [k]) (ho : ops[k]? = some o)
    (h : ∀ w1, N ≤ w1.heap.size → Mem O w0 w1 L → wpList P ops (Exit.then (fun a' w' => (Bw N S w1 w' ∨ (k ∈ z.1 ∧ N ≤ w'.heap.size)) ∧ WY P ops N S Q z fuel (listed.setIfInBounds k true) a' w') (NoP Q)) [o] (fr l) w1) : WY P ops N S Q z (fuel + 1) listed (fr l) w := fun h0 =>
  yn1 k hr ho (fun w1 hc => h w1 (Nat.le_trans h0 hc.size) (hM.call hc)) h0
/-! ### Values built of parts -/
inductive Fl (place : Nat → Option (Nat × Nat)) : List Value → List (Nat × Value) → List Value → Prop
  | nil {z out : List Value} : z = out → Fl place z [] out
  | cons {i off n : Nat} {v : Value} {z out : List Value} {rest : List (Nat × Value)} : place i = some (off, n) → v.cells.size = n → off + n ≤ z.length → Fl place (spl z off v.cells.toList) rest out → Fl place z ((i, v) :: rest) out
theorem Fl.run {place : Nat → Option (Nat × Nat)} {z out : List Value} {vs : List (Nat × Value)} (h : Fl place z vs out) : Instr.fill place z.toArray vs = some out.toArray := by
  induction h with
  | nil h => simp [Instr.fill, h]
  | cons hp hv hz _ ih =>
    rename_i i off n v z out rest _
    have hf := foldl_set off v.cells.toList 0 z (by simp [hv]; omega)
    rw [← Array.toList_zipIdx, Array.foldl_toList] at hf
    simp only [Nat.add_zero] at hf
    simp only [Instr.fill, hp, hv]
    rw [if_neg (by simp; omega), hf]
    exact ih
theorem r_bldS {P : Program} {l : List Value} {w : World} {T t : TypeId} {parts : List (Nat × Operand)} {vs : List (Nat × Value)} {place : Nat → Option (Nat × Nat)} {z : List Value} (out : List Value) (hpl : ∀ ps, P.built t ps = Instr.fill place z.toArray ps) (hp : (parts.map fun x => (x.1, ev l x.2)) = vs) (h : Fl place z vs out) :
    (exec (ev l) (.build t parts.toArray) T).run P w = .ok (.value (.agg out.toArray)) w := r_bld hp ((hpl _).trans h.run)
theorem Sub.tail {a : As} {M L : List As} (h : Sub M L) : Sub M (a :: L) := by
  induction h with
  | nil => exact .nil
  | cons hp _ ih => exact .cons (.there hp) ih
theorem Sub.refl : ∀ L : List As, Sub L L
  | [] => .nil
  | a :: L => .cons .here (Sub.refl L)
section
variable {P : Program} {ops : Array Oper} {N : Nat} {S : List Nat} {Q : Exit → Act → World → Prop} {z : List Nat × List Nat} {fuel : Nat} {listed : Array Bool} {l : List Value} {w w0 : World} {O : List Nat} {L : List As} {T : TypeId} {pos : String} {after : Array Edge}
/-- append(v, ys...), with the size. -/
theorem kapC {ops : Array Oper} {Q : Exit → Act → World → Prop} {rest : List Oper} {L' : List As} {α : Type} {en : En α} {n by_ : Nat} {d : Nat} {x y : Operand} {t e : TypeId} {zv : Value} [hu : Und P t (.slice e)] [hi : Inf P e zv n by_]
    {v yv : Value} {xs ys : List α} (hM : Mem O w0 w L) (hR : (Ty.enc en).Rd [] w yv ys)
    (h : ∀ v' w', w.heap.size ≤ w'.heap.size → Mem O w0 w' (.row en e v' (xs ++ ys) :: L') → wpList P ops Q rest (fr (l.set d v')) w')
    (hx : ev l x = v := by exact rfl) (hp : Pick L (.row en e v xs) L' := by (repeat (first | exact Go.Proofs.E.Pick.here | apply Go.Proofs.E.Pick.there))) (hy : ev l y = yv := by exact rfl)
    (hm : en.n = n := by exact rfl) (hz : zv.cells.size = n := by exact rfl) (hn : 0 < n := by decide)
    (hb : (xs.length + ys.length) * by_ ≤ 140737488355328 := by omega) (h63 : xs.length + ys.length ≤ 281474976710656 := by omega) :
    wpList P ops Q ({ dst := some d, op := .call { callee := .builtin .append, args := #[x, y], argTypes := #[t, t] }, type := T, pos := pos, after := after, guard := none } :: rest) (fr l) w := by
  have hO := (hM.pick hp).head
  by_cases hne : ys = []
  · subst hne
    obtain ⟨A, c, rfl⟩ := hR.form
    refine wl_append0 hx hO hy (h v w (Nat.le_refl _) ?_)
    rw [List.append_nil]
    exact hM.pick hp
  · obtain ⟨b, o, cap, rfl, hb1, hS, hrow⟩ := rowE hR hne
    exact wl_append (en := en) hm hz hn hx hO (Nat.zero_le _) hy hrow hb h63 fun v' w' hO' hc hat => h v' w' hc.size ((hM.pick hp).put hc (fun k hk => show v.ownBlock = some k by simpa using hk) hO' (fun k hk => by
      rcases hat with e | e
      · exact .inl (e.symm.trans hk)
      · have : w.heap.size = k := Option.some.inj (e.symm.trans hk)
        exact .inr (this ▸ Nat.le_refl _)))
end
theorem koc12 {P : Program} {l : List Value} {O : List Nat} {w0 w : World} {L L' : List As} {fn : Func} {R : Value → World → Prop} {t s1 s2 b n by_ : Nat} {E E' : TypeId} {cs : List Value} {z : Value} [hr : Row P E] [hi : Inf P E z n by_] (hM : Mem O w0 w L) (hf : fn.results = #[.cell t E, .tmp s1, .tmp s2]) (h : R (.tuple #[.agg cs.toArray, ev l (.tmp s1), ev l (.tmp s2)]) w)
    (hx : ev l (.tmp t) = .pointer (some ⟨b, 0, none⟩) := by exact rfl) (hp : Pick L (.cell b cs E') L' := by (repeat (first | exact Go.Proofs.E.Pick.here | apply Go.Proofs.E.Pick.there))) (hn : cs.length = n := by (first | exact rfl | (simp; done) | (simp only [List.length_map]; exact Subtype.property (p := fun a : List UInt8 => a.length = 32) _))) : bodyPost P fn (Ret R) .ret (fr l) w := by
  obtain ⟨d, h1, h2⟩ := hr.out
  refine ⟨rfl, .tuple #[.agg cs.toArray, ev l (.tmp s1), ev l (.tmp s2)], ?_, _, rfl, h⟩
  have e1 : l[t]?.getD undef = .pointer (some ⟨b, 0, none⟩) := by simpa [Array.getD_eq_getD_getElem?] using (ev_tmp l t).trans hx
  have e2 : l[s1]?.getD undef = ev l (.tmp s1) := by simpa [Array.getD_eq_getD_getElem?] using (ev_tmp l s1)
  have e3 : l[s2]?.getD undef = ev l (.tmp s2) := by simpa [Array.getD_eq_getD_getElem?] using (ev_tmp l s2)
  simp [results, hf, fr, e1, e2, e3, asAddr, run_loadVar_mid w b 0 E cs d ((hM.blk hp).row (n := n) (by rw [List.drop_zero, List.take_of_length_le (by omega)])) h1 h2 (by rw [hn]; exact info_size hi)]
end Go.Proofs.E

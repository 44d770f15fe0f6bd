/- Strings in the engine: lengths, comparisons, sums, appends. -/
import Derived.Test.YtoimhmphhffelaaGreatDoorQReceiptBytes09
import Derived.Lib.AppendStr
import Derived.Laws.Strings
import Derived.Lib.SliceRun
set_option linter.unusedVariables false
set_option linter.unusedSimpArgs false
namespace Go.Proofs.E
open Go Go.RowKit
abbrev eBs : En (List UInt8) := { f := fun s => [.string (bst s)], n := 1, hl := fun _ => rfl, h1 := fun _ u hu => by simp at hu; subst hu; rfl }
@[simp] theorem bst_size (s : List UInt8) : (bst s).size = s.length := by simp [bst, ByteArray.size]
theorem bst_of (s : ByteArray) : bst s.data.toList = s := by simp [bst]
theorem bst_beq (a b : List UInt8) : (bst a == bst b) = decide (a = b) := by
  show (a.toArray == b.toArray) = decide (a = b)
  rw [Bool.eq_iff_iff, beq_iff_eq, decide_eq_true_eq]
  simp
/-- The order of strings. -/
def ltB (a b : List UInt8) : Bool := Op.bytesLess a b
theorem ltB_cons (a b : UInt8) (x y : List UInt8) : ltB (a :: x) (b :: y) = (decide (a < b) || (decide (a = b) && ltB x y)) := by
  unfold ltB
  rw [Op.bytesLess]
  by_cases h1 : a < b
  · simp [h1]
  · by_cases h2 : a = b <;> simp [h1, h2]
theorem ltB_nil (b : List UInt8) : ltB b [] = false := by cases b <;> rfl
theorem ltB_irr : ∀ a : List UInt8, ltB a a = false
  | [] => rfl
  | a :: x => by rw [ltB_cons, ltB_irr x]; simp
theorem ltB_trans : ∀ {a b c : List UInt8}, ltB a b = true → ltB b c = true → ltB a c = true
  | _, [], _, h, _ => by rw [ltB_nil] at h; cases h
  | _, _ :: _, [], _, h => by rw [ltB_nil] at h; cases h
  | [], _ :: _, _ :: _, _, _ => rfl
  | a :: x, b :: y, c :: z, h1, h2 => by
    rw [ltB_cons] at h1 h2 ⊢
    simp only [Bool.or_eq_true, Bool.and_eq_true, decide_eq_true_eq] at h1 h2 ⊢
    rcases h1 with h1 | ⟨rfl, h1⟩
    · rcases h2 with h2 | ⟨rfl, h2⟩
      · exact .inl (UInt8.lt_trans h1 h2)
      · exact .inl h1
    · rcases h2 with h2 | ⟨rfl, h2⟩
      · exact .inl h2
      · exact .inr ⟨rfl, ltB_trans h1 h2⟩
theorem ltB_total : ∀ a b : List UInt8, ltB a b = true ∨ a = b ∨ ltB b a = true
  | [], [] => .inr (.inl rfl)
  | [], _ :: _ => .inl rfl
  | _ :: _, [] => .inr (.inr rfl)
  | a :: x, b :: y => by
    rw [ltB_cons, ltB_cons]
    simp only [Bool.or_eq_true, Bool.and_eq_true, decide_eq_true_eq, List.cons.injEq]
    by_cases h : a = b
    · subst h
      rcases ltB_total x y with h | h | h
      · exact .inl (.inr ⟨rfl, h⟩)
      · exact .inr (.inl ⟨rfl, h⟩)
      · exact .inr (.inr (.inr ⟨rfl, h⟩))
    · have : a < b ∨ b < a := by
        rcases Nat.lt_or_ge a.toNat b.toNat with h1 | h1
        · exact .inl (UInt8.lt_iff_toNat_lt.2 h1)
        · exact .inr (UInt8.lt_iff_toNat_lt.2 (Nat.lt_of_le_of_ne h1 (fun e => h (UInt8.toNat_inj.1 e.symm))))
      exact this.elim (fun h => .inl (.inl h)) (fun h => .inr (.inr (.inl h)))
theorem ltB_anti {a b : List UInt8} (h : ltB a b = true) : ltB b a = false := by
  cases hb : ltB b a with
  | false => rfl
  | true => rw [← ltB_irr a, ltB_trans h hb]
section
variable {P : Program} {l : List Value} {w : World} {T : TypeId}
theorem r_eqnil {x : Operand} {t u e : TypeId} {A : Option Addr} {n c : Nat} [hu : Und P t (.slice e)] (hx : ev l x = .slice A n c := by exact rfl) : (exec (ev l) (.binOp .eql t x (.const (.slice none 0 0)) u) T).run P w = .ok (.value (.bool A.isNone)) w := by
  have := Lib.run_eql_slice_nil (P := P) w t e A n c 0 0 hu.out
  have hy : ev l (.const (.slice none 0 0)) = .slice none 0 0 := rfl
  simp [exec, execOp, hx, hy, eqGuard, this]
theorem r_ltS {x y : Operand} {t u : TypeId} {a b : List UInt8} [hU : Und P t .string] (hx : ev l x = .string (bst a) := by exact rfl) (hy : ev l y = .string (bst b) := by exact rfl) : (exec (ev l) (.binOp .lss t x y u) T).run P w = .ok (.value (.bool (ltB a b))) w := by
  simp [exec, execOp, hx, hy, eqGuard, binOp, Op.stringOp, bst_list, ltB]
theorem r_geS {x y : Operand} {t u : TypeId} {a b : List UInt8} [hU : Und P t .string] (hx : ev l x = .string (bst a) := by exact rfl) (hy : ev l y = .string (bst b) := by exact rfl) : (exec (ev l) (.binOp .geq t x y u) T).run P w = .ok (.value (.bool (!ltB a b))) w := by
  simp [exec, execOp, hx, hy, eqGuard, binOp, Op.stringOp, bst_list, ltB]
theorem r_leS {x y : Operand} {t u : TypeId} {a b : List UInt8} [hU : Und P t .string] (hx : ev l x = .string (bst a) := by exact rfl) (hy : ev l y = .string (bst b) := by exact rfl) : (exec (ev l) (.binOp .leq t x y u) T).run P w = .ok (.value (.bool (ltB a b || decide (a = b)))) w := by
  have : (a == b) = decide (a = b) := by rw [Bool.eq_iff_iff, beq_iff_eq, decide_eq_true_eq]
  simp [exec, execOp, hx, hy, eqGuard, binOp, Op.stringOp, bst_list, ltB, this]
end
section
variable {P : Program} {ops : Array Oper} {Q : Exit → Act → World → Prop} {rest : List Oper} {l l' : List Value} {O : List Nat} {w0 w : World} {L L' : List As} {T : TypeId} {pos : String} {after : Array Edge}
/-- append(v, s...), s a string. -/
theorem kapS {by_ : Nat} {d : Nat} {x y : Operand} {t u e : TypeId} [hu : Und P t (.slice e)] [hs : Und P u .string] [hi : Inf P e (.int .u8 0) 1 by_]
    {v : Value} {xs s : List UInt8} (hM : Mem O w0 w L)
    (h : ∀ v' w', w.heap.size ≤ w'.heap.size → Mem O w0 w' (.row eU8 e v' (xs ++ s) :: L') → wpList P ops Q rest (fr (l.set d v')) w')
    (hx : ev l x = v := by exact rfl) (hp : Pick L (.row eU8 e v xs) L' := by (repeat (first | exact Go.Proofs.E.Pick.here | apply Go.Proofs.E.Pick.there))) (hy : ev l y = .string (bst s) := by exact rfl)
    (hb : xs.length + s.length ≤ 140737488355328 := by omega) (h1 : by_ = 1 := by exact rfl) :
    wpList P ops Q ({ dst := some d, op := .call { callee := .builtin .append, args := #[x, y], argTypes := #[t, u] }, type := T, pos := pos, after := after, guard := none } :: rest) (fr l) w := by
  subst h1
  have hO := (hM.pick hp).head
  obtain ⟨i, k1, k2, k3, k4⟩ := inf_parts hi
  have hfl : xs.flatMap eU8.f = xs.map u8v := List.map_eq_flatMap.symm
  have hfs : s.flatMap eU8.f = Lib.strCells (bst s) := by
    rw [show s.flatMap eU8.f = s.map u8v from List.map_eq_flatMap.symm]
    simp [Lib.strCells, bst, u8v]
  have hO' : w.ownsRow 0 e 1 v xs.length (xs.flatMap eU8.f) := hO
  obtain ⟨v', w', hrun, hown, hg, _⟩ := Lib.run_append_own_string (P := P) w 0 t u T e i hu.out hs.out k1 k2 k3 k4 v xs.length (xs.flatMap eU8.f) hO' (bst s) (by simp only [maxLen, bst_size]; omega) (by rw [bst_size]; omega) (Nat.zero_le _)
  have hat : v'.ownBlock = v.ownBlock ∨ v'.ownBlock = some w.heap.size := by
    rcases hO'.2 with ⟨rfl, hn⟩ | ⟨g, cap, cur, rfl, hbg, hg', hnc, hcm, hcs, htake⟩
    · by_cases h0 : s.length = 0
      · have he : s = [] := List.eq_nil_of_length_eq_zero h0
        subst he
        have : (Builtin.append_ #[t, u] T #[.slice none 0 0, .string (bst [])]).run P w = .ok (.slice none 0 0) w := by
          have hf := Lib.run_firstCells_string (P := P) w 1 (bst [])
          simp at hf
          simp [Builtin.append_, run_underlying hu.out, run_underlying hs.out, sizeOf, typeInfo, k1, k3, Builtin.lenOf, hf]
        rw [this] at hrun
        injection hrun with e1 e2
        exact .inl (by rw [← e1])
      · have := run_append_nil_string (P := P) w t u T e i _ hu.out hs.out k1 k2 (bst s) (by rw [bst_size]; omega) (by rw [bst_size]; omega) (by rw [bst_size, k4]; omega)
        rw [this] at hrun
        injection hrun with e1 e2
        exact .inr (by rw [← e1]; rfl)
    · by_cases hroom : xs.length + s.length ≤ cap
      · have := Lib.run_append_room_string (P := P) w t u T e i hu.out hs.out k1 k3 g xs.length cap cur hg' (bst s) (by rw [bst_size]; exact hroom) (by rw [bst_size]; simp at hcs; omega)
        rw [this] at hrun
        injection hrun with e1 e2
        exact .inl (by rw [← e1]; rfl)
      · have := Lib.run_append_grow_string (P := P) w t u T e i _ hu.out hs.out k1 k2 ⟨g, 0, none⟩ xs.length cap (xs.flatMap eU8.f) (by rw [flatMap_len eU8.hl, k3]) (hO'.cells (g := g) rfl) (bst s) (by rw [bst_size]; omega) (by rw [bst_size]; omega) (by rw [k4]; exact growslice_fits (by rw [bst_size]; omega) (by rw [bst_size]; omega))
        rw [this] at hrun
        injection hrun with e1 e2
        exact .inr (by rw [← e1]; rfl)
  have hc : Ch v.ownBlock.toList w w' := Ch.of_grown hg
  refine wl_val ?_ (h v' w' hc.size ((hM.pick hp).put hc (fun k hk => show v.ownBlock = some k by simpa using hk) ?_ (fun k hk => ?_)))
  · simp [exec, execOp, resolve, invoke, builtin, hx, hy, hrun]
  · show Own eU8 w' 0 e v' (xs ++ s)
    unfold Own
    rw [List.length_append, List.flatMap_append, hfs]
    rw [bst_size] at hown
    exact hown
  · rcases hat with e | e
    · exact .inl (e.symm.trans hk)
    · have : w.heap.size = k := Option.some.inj (e.symm.trans hk)
      exact .inr (this ▸ Nat.le_refl _)
end
end Go.Proofs.E

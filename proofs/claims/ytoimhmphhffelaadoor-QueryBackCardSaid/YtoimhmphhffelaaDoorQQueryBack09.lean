/- Strings in the engine: lengths, comparisons, sums, appends. -/
import Derived.Test.YtoimhmphhffelaaDoorQQueryBack08
import Derived.Lib.AppendStr
import Derived.Laws.Strings
import Derived.Lib.SliceRun
set_option linter.unusedVariables false
set_option linter.unusedSimpArgs false
namespace Go.Proofs.E
open Go Go.RowKit
abbrev eBs : En (List UInt8) := { f := fun s => [.string (bst s)], n := 1, hl := fun _ => rfl, h1 := fun _ u hu => by simp at hu; subst hu; rfl }
@[simp] theorem bst_size (s : List UInt8) : (bst s).size = s.length := by simp [bst, ByteArray.size]
theorem bst_of (s : ByteArray) : bst s.data.toList = s := by simp [bst]
theorem bst_beq (a b : List UInt8) : (bst a == bst b) = decide (a = b) := by
  show (a.toArray == b.toArray) = decide (a = b)
  rw [Bool.eq_iff_iff, beq_iff_eq, decide_eq_true_eq]
  simp
/-- The order of strings. -/
def ltB (a b : List UInt8) : Bool := Op.bytesLess a b
theorem ltB_cons (a b : UInt8) (x y : List UInt8) : ltB (a :: x) (b :: y) = (decide (a < b) || (decide (a = b) && ltB x y)) := by
  unfold ltB
  rw [Op.bytesLess]
  by_cases h1 : a < b
  · simp [h1]
  · by_cases h2 : a = b <;> simp [h1, h2]
theorem ltB_nil (b : List UInt8) : ltB b [] = false := by cases b <;> rfl
theorem ltB_irr : ∀ a : List UInt8, ltB a a = false
  | [] => rfl
  | a :: x => by rw [ltB_cons, ltB_irr x]; simp
theorem ltB_trans : ∀ {a b c : List UInt8}, ltB a b = true → ltB b c = true → ltB a c = true
  | _, [], _, h, _ => by rw [ltB_nil] at h; cases h
  | _, _ :: _, [], _, h => by rw [ltB_nil] at h; cases h
  | [], _ :: _, _ :: _, _, _ => rfl
  | a :: x, b :: y, c :: z, h1, h2 => by
    rw [ltB_cons] at h1 h2 ⊢
    simp only [Bool.or_eq_true, Bool.and_eq_true, decide_eq_true_eq] at h1 h2 ⊢
    rcases h1 with h1 | ⟨rfl, h1⟩
    · rcases h2 with h2 | ⟨rfl, h2⟩
      · exact .inl (UInt8.lt_trans h1 h2)
      · exact .inl h1
    · rcases h2 with h2 | ⟨rfl, h2⟩
      · exact .inl h2
      · exact .inr ⟨rfl, ltB_trans h1 h2⟩
theorem ltB_total : ∀ a b : List UInt8, ltB a b = true ∨ a = b ∨ ltB b a = true
  | [], [] => .inr (.inl rfl)
  | [], _ :: _ => .inl rfl
  | _ :: _, [] => .inr (.inr rfl)
  | a :: x, b :: y => by
    rw [ltB_cons, ltB_cons]
    simp only [Bool.or_eq_true, Bool.and_eq_true, decide_eq_true_eq, List.cons.injEq]
    by_cases h : a = b
    · subst h
      rcases ltB_total x y with h | h | h
      · exact .inl (.inr ⟨rfl, h⟩)
      · exact .inr (.inl ⟨rfl, h⟩)
      · exact .inr (.inr (.inr ⟨rfl, h⟩))
    · have : a < b ∨ b < a := by
        rcases Nat.lt_or_ge a.toNat b.toNat with h1 | h1
        · exact .inl (UInt8.lt_iff_toNat_lt.2 h1)
        · exact .inr (UInt8.lt_iff_toNat_lt.2 (Nat.lt_of_le_of_ne h1 (fun e => h (UInt8.toNat_inj.1 e.symm))))
      exact this.elim (fun h => .inl (.inl h)) (fun h => .inr (.inr (.inl h)))
theorem ltB_anti {a b : List UInt8} (h : ltB a b = true) : ltB b a = false := by
  cases hb : ltB b a with
  | false => rfl
  | true => rw [← ltB_irr a, ltB_trans h hb]
section
variable {P : Program} {l : List Value} {w : World} {T : TypeId}
theorem r_lenS {x : Operand} {t : TypeId} {s : List UInt8} [hU : Und P t .string] (hx : ev l x = .string (bst s) := by exact rfl) (hs : s.length ≤ 9223372036854775807 := by omega) : (exec (ev l) (.call { callee := .builtin .len, args := #[x], argTypes := #[t] }) T).run P w = .ok (.value (.int .i64 (s.length : Int))) w := by
  have := run_len_string (P := P) w t T (bst s) hU.out
  simp [exec, execOp, resolve, invoke, builtin, hx, this, goInt]
theorem r_ltS {x y : Operand} {t u : TypeId} {a b : List UInt8} [hU : Und P t .string] (hx : ev l x = .string (bst a) := by exact rfl) (hy : ev l y = .string (bst b) := by exact rfl) : (exec (ev l) (.binOp .lss t x y u) T).run P w = .ok (.value (.bool (ltB a b))) w := by
  simp [exec, execOp, hx, hy, eqGuard, binOp, Op.stringOp, bst_list, ltB]
theorem r_geS {x y : Operand} {t u : TypeId} {a b : List UInt8} [hU : Und P t .string] (hx : ev l x = .string (bst a) := by exact rfl) (hy : ev l y = .string (bst b) := by exact rfl) : (exec (ev l) (.binOp .geq t x y u) T).run P w = .ok (.value (.bool (!ltB a b))) w := by
  simp [exec, execOp, hx, hy, eqGuard, binOp, Op.stringOp, bst_list, ltB]
end
section
variable {P : Program} {ops : Array Oper} {Q : Exit → Act → World → Prop} {rest : List Oper} {l l' : List Value} {O : List Nat} {w0 w : World} {L L' : List As} {T : TypeId} {pos : String} {after : Array Edge}
end
end Go.Proofs.E

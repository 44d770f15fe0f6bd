/- Walks: peaks that may be, the program's and the reference's.
   Walks: one leaf more, the program's.
   Walks: the root of peaks, the program's and the reference's.
   Walks: one leaf more, the reference's.
   Walks: the peaks of leaves, the program's and the reference's; the very same hashes? -/
import Derived.Test.YtkdbinchlpdkmaaDoorQClashTops16
import Derived.Test.YtkdbinchlpdkmaaDoorQClashTops03
import Derived.Test.YtkdbinchlpdkmaaDoorQClashTops09
import Derived.Test.YtkdbinchlpdkmaaDoorQClashTops08
set_option linter.unusedVariables false
set_option linter.unusedSimpArgs false
namespace Go.Proofs.YtkdbinchlpdkmaaDoor
open Go Go.RowKit Go.Proofs.E
attribute [local irreducible] Go.wpList Go.Code.wp Go.Proofs.E.exec Go.Proofs.E.wpLexG
end Go.Proofs.YtkdbinchlpdkmaaDoor
set_option linter.unusedVariables false
set_option linter.unusedSimpArgs false
namespace Go.Proofs.E
open Go Go.RowKit
end Go.Proofs.E
namespace Go.Proofs.YtkdbinchlpdkmaaDoor
open Go Go.RowKit Go.Proofs.E
attribute [local irreducible] Go.wpList Go.Code.wp Go.Proofs.E.exec Go.Proofs.E.wpLexG
end Go.Proofs.YtkdbinchlpdkmaaDoor
set_option linter.unusedVariables false
set_option linter.unusedSimpArgs false
namespace Go.Proofs.YtkdbinchlpdkmaaDoor
open Go Go.RowKit Go.Proofs.E
attribute [local irreducible] Go.wpList Go.Code.wp Go.Proofs.E.exec Go.Proofs.E.wpLexG
end Go.Proofs.YtkdbinchlpdkmaaDoor
set_option linter.unusedVariables false
set_option linter.unusedSimpArgs false
namespace Go.Proofs.E
open Go Go.RowKit
section
variable {P : Program} {ops : Array Oper} {Q : Exit → Act → World → Prop} {rest : List Oper} {l : List Value} {w : World} {op : Op} {T : TypeId} {pos : String} {after : Array Edge}
/-- append([]T{}, ys...). -/
theorem wl_append_e {α : Type} {en : En α} {n by_ : Nat} {d : Nat} {x y : Operand} {t e : TypeId} {z yv : Value} {S : List Nat} [hu : Und P t (.slice e)] [hi : Inf P e z n by_] (hm : en.n = n) (hz : z.cells.size = n)
    {base g : Nat} {ys : List α} (hx : ev l x = .slice (some ⟨g, 0, none⟩) 0 0) (hB : Blk w g [] e) (hbase : base ≤ g) (hy : ev l y = yv) (hR : (Ty.enc en).Rd S w yv ys) (hb : ys.length * by_ ≤ 140737488355328) (h63 : ys.length ≤ 281474976710656)
    (h : ∀ v' w', Own en w' base e v' ys → Ch [] w w' → wpList P ops Q rest (fr (l.set d v')) w') :
    wpList P ops Q ({ dst := some d, op := .call { callee := .builtin .append, args := #[x, y], argTypes := #[t, t] }, type := T, pos := pos, after := after, guard := none } :: rest) (fr l) w := by
  have hO : Own en w base e (.slice (some ⟨g, 0, none⟩) 0 0) ([] : List α) := ⟨by simp, .inr ⟨g, 0, #[], rfl, hbase, hB, Nat.le_refl _, by simp [maxLen], by simp, by simp⟩⟩
  by_cases hne : ys = []
  · subst hne
    obtain ⟨A, c, rfl⟩ := hR.form
    exact wl_append0 hx hO hy (h _ w hO (Ch.refl _ _))
  · obtain ⟨b, o, cap, rfl, hb1, hS, hrow⟩ := rowE hR hne
    exact wl_append_full (en := en) (xs := []) (S := []) hm hz hx (hO.rd (by simp) (by simp)) (fun _ => ⟨g, rfl⟩) (Nat.le_trans hbase (Nat.le_of_lt hB.lt)) hne hy hrow (by simpa using hb) (by simpa using h63) (fun v' w' k1 k2 _ => h v' w' (by simpa using k1) k2)
end
end Go.Proofs.E
namespace Go.Proofs.YtkdbinchlpdkmaaDoor
open Go Go.RowKit Go.Proofs.E
attribute [local irreducible] Go.wpList Go.Code.wp Go.Proofs.E.exec Go.Proofs.E.wpLexG
end Go.Proofs.YtkdbinchlpdkmaaDoor
set_option linter.unusedVariables false
set_option linter.unusedSimpArgs false
namespace Go.Proofs.YtkdbinchlpdkmaaDoor
open Go Go.RowKit Go.Proofs.E
attribute [local irreducible] Go.wpList Go.Code.wp Go.Proofs.E.exec Go.Proofs.E.wpLexG
/-! ### The very same hashes? -/
end Go.Proofs.YtkdbinchlpdkmaaDoor

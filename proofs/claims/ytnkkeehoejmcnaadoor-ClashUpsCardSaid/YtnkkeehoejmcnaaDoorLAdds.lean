/- The law of any peaks. -/
import Derived.Test.YtnkkeehoejmcnaaDoorPeak
import Derived.Test.YtnkkeehoejmcnaaDoorHalves
import Derived.Laws.Small
set_option linter.unusedVariables false
set_option linter.unusedSimpArgs false
namespace Go.Proofs.E
open Go Go.RowKit
section
variable {P : Program} {l : List Value} {w : World} {T : TypeId}
theorem r_eqb {x y : Operand} {t u : TypeId} {a b : Bool} [hU : Und P t .bool] (hx : ev l x = .bool a) (hy : ev l y = .bool b) : (exec (ev l) (.binOp .eql t x y u) T).run P w = .ok (.value (.bool (a == b))) w := by
  simp [exec, execOp, hx, hy, eqGuard, run_eql_bool w t a b hU.out]
end
end Go.Proofs.E
namespace Go.Proofs.YtnkkeehoejmcnaaDoor
open Go Go.RowKit Go.Proofs.E
attribute [local irreducible] Go.wpList Go.Code.wp Go.Proofs.E.exec Go.Proofs.E.wpLexG
def nAdd (n : Int) (k : Nat) : Int := if okZ n k = true then n + 1 else n
def tAdd (n : Int) (ts : List Hs) (h : Hs) : List Hs := if okZ n ts.length = true then addH (tones n.toNat) ts h else ts
theorem add_told {n : Int} {v u : Value} {ts : List Hs} {h : Hs} {w w' : World} (hR : (Ty.enc eH).Rd [] w v ts) (hc : Ch [] w w')
    (hu : (okZ n ts.length = true ∧ ∃ v', u = .tuple #[pkV (n + 1) v', .bool true] ∧ ∀ S, (∀ x ∈ S, x < w.heap.size) → (Ty.enc eH).Rd S w' v' (addH (tones n.toNat) ts h)) ∨ (okZ n ts.length = false ∧ u = .tuple #[pkV n v, .bool false])) :
    ∃ A c, u = .tuple #[pkV (nAdd n ts.length) (.slice A (tAdd n ts h).length c), .bool (okZ n ts.length)] ∧ (Ty.enc eH).Rd [] w' (.slice A (tAdd n ts h).length c) (tAdd n ts h) := by
  unfold nAdd tAdd
  rcases hu with ⟨h1, v', h2, h3⟩ | ⟨h1, h2⟩
  · have h3 := h3 [] (by simp)
    obtain ⟨A, c, rfl⟩ := h3.form
    rw [if_pos h1, if_pos h1, h1]
    exact ⟨A, c, h2, h3⟩
  · obtain ⟨A, c, rfl⟩ := hR.form
    rw [if_neg (by rw [h1]; simp), if_neg (by rw [h1]; simp), h1]
    exact ⟨A, c, h2, hR.ch hc⟩
end Go.Proofs.YtnkkeehoejmcnaaDoor

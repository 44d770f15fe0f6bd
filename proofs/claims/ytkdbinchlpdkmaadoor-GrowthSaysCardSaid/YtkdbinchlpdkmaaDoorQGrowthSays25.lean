/- Walks: values as bytes (layer 1), both. -/
import Derived.Test.YtkdbinchlpdkmaaDoorQGrowthSays05
import Derived.Test.YtkdbinchlpdkmaaDoorQGrowthSays24
set_option linter.unusedVariables false
set_option linter.unusedSimpArgs false
namespace Go.Proofs.YtkdbinchlpdkmaaDoor
open Go Go.RowKit Go.Proofs.E
attribute [local irreducible] Go.wpList Go.Code.wp Go.Proofs.E.exec Go.Proofs.E.wpLexG
theorem clone8_any {bs : List UInt8} (v : Value) (w0 : World) (hR : (Ty.enc eU8).Rd [] w0 v bs) (hb : bs.length ≤ 70368744177664) :
    Calls Tryd.prog 78 #[v] w0 (Ret fun u w' => Ch [] w0 w' ∧ Go.Proofs.E.Own eU8 w' w0.heap.size 5 u bs) := by
  have hM := Mem.start w0
  obtain ⟨A, c, rfl⟩ := hR.form
  refine enter [.slice A bs.length c, undef, undef, undef, undef, undef, undef, undef] Tryd.func78 rfl rfl ?_
  repeat (first | refine gw ?_ | (refine ks ?_; intro w hM))
  (try ((with_reducible apply is_gd); first | refine gt ?_ | refine gf ?_ | refine gu ?_)); refine wl_val (r_eqnil) ?_
  repeat (first | refine gw ?_ | (refine ks ?_; intro w hM))
  cases A with
  | none =>
    refine c_condb rfl (fun _ => ?_) (fun h => by cases h)
    have : bs = [] := by
      cases bs with
      | nil => rfl
      | cons b r =>
        obtain ⟨_, _, _, hv, _, hA⟩ := hR
        obtain ⟨_, _, h, _⟩ := hA (by simp)
        subst h
        cases hv
    subst this
    repeat (first | refine gw ?_ | (refine ks ?_; intro w hM))
    exact out1 rfl ⟨hM.ch, Go.Proofs.E.Own.nil _ _ _ _⟩
  | some a =>
    refine c_condb rfl (fun h => by cases h) (fun _ => ?_)
    repeat (first | refine gw ?_ | (refine ks ?_; intro w hM))
    refine kbs (en := eU8) (vs := []) [] hM (fun w b5 hM => ?_)
    repeat (first | refine gw ?_ | (refine ks ?_; intro w hM))
    refine kap (en := eU8) (ys := bs) hM (hR.ch hM.ch) (fun v7 w hM => ?_) (hb := by simp; omega) (h63 := by simp; omega)
    repeat (first | refine gw ?_ | (refine ks ?_; intro w hM))
    exact out1 rfl ⟨hM.ch, hM.row (v := v7) (by (repeat constructor))⟩
end Go.Proofs.YtkdbinchlpdkmaaDoor

/- Arrays of bytes compared. -/
import Derived.Test.YtbecfcnbgeeghaaDoorW
import Derived.ChangeKeysEq
import Derived.Laws.StructEq
set_option linter.unusedVariables false
set_option linter.unusedSimpArgs false
namespace Go.Proofs.E
open Go Go.RowKit
section
variable {P : Program} {l : List Value} {w : World} {T : TypeId}
theorem run_items8 {e : TypeId} {z : Value} {by_ : Nat} [he : Und P e (.int .u8)] [hi : Inf P e z 1 by_] [ho : One P e] (d : Nat) (xs ys : List UInt8) : ∀ is : List Nat, (∀ i ∈ is, i < xs.length ∧ i < ys.length) →
    (Op.eqItems (d + 1) e (P.cellsOf e) (xs.map u8v).toArray (ys.map u8v).toArray is).run P w = .ok (is.all fun i => xs[i]? == ys[i]?) w
  | [], _ => by simp [Op.eqItems]
  | i :: is, h => by
    obtain ⟨h1, h2⟩ := h i (by simp)
    have hc : P.cellsOf e = 1 := by
      obtain ⟨j, k1, k2, k3, k4⟩ := inf_parts hi
      simp [Program.cellsOf, k1, k3]
    have ih := run_items8 (e := e) (z := z) (by_ := by_) d xs ys is (fun j hj => h j (by simp [hj]))
    rw [hc] at ih ⊢
    have hx : xs[i]? = some xs[i] := List.getElem?_eq_getElem h1
    have hy : ys[i]? = some ys[i] := List.getElem?_eq_getElem h2
    have hag := run_isAgg_one (P := P) (w := w) (t := e)
    have hq := run_equalIn_int (P := P) w d e .u8 .u8 (xs[i].toNat : Int) (ys[i].toNat : Int) he.out
    have pt : ∀ (zs : List UInt8) (h : i < zs.length), (part e (zs.map u8v).toArray (i * 1)).run P w = .ok (u8v zs[i]) w := by
      intro zs h
      simp [part, hag, h]
    have hq' : (Op.equalIn (d + 1) e (u8v xs[i]) (u8v ys[i])).run P w = .ok ((xs[i].toNat : Int) == (ys[i].toNat : Int)) w := hq
    simp only [Op.eqItems, Sem.run_bind, pt xs h1, pt ys h2, hq', Result.andThen_ok, List.all_cons, hx, hy]
    by_cases hxy : xs[i] = ys[i]
    · simp [hxy, ih]
    · have : (xs[i].toNat : Int) ≠ ys[i].toNat := fun e => hxy (UInt8.toNat_inj.1 (by omega))
      simp [hxy, this]
theorem all_eq8 {n : Nat} {xs ys : List UInt8} (hx : xs.length = n) (hy : ys.length = n) : ((List.range n).all fun i => xs[i]? == ys[i]?) = decide (xs = ys) := by
  rw [Bool.eq_iff_iff, List.all_eq_true, decide_eq_true_eq]
  constructor
  · intro h
    apply List.ext_getElem?
    intro i
    by_cases hi : i < n
    · exact of_decide_eq_true (by simpa using h i (List.mem_range.2 hi))
    · rw [List.getElem?_eq_none (by omega), List.getElem?_eq_none (by omega)]
  · intro h i _
    subst h
    simp
theorem r_eql8 {x y : Operand} {t u e : TypeId} {z : Value} {n by_ : Nat} {a b : List UInt8} [hu : Und P t (.array n e)] [he : Und P e (.int .u8)] [hi : Inf P e z 1 by_] [ho : One P e] (hg : P.eqGuardType P.depth t = false)
    (hx : ev l x = .agg (a.map u8v).toArray) (hy : ev l y = .agg (b.map u8v).toArray) (ha : a.length = n) (hb : b.length = n) :
    (exec (ev l) (.binOp .eql t x y u) T).run P w = .ok (.value (.bool (decide (a = b)))) w := by
  obtain ⟨i, k1, k2, k3, k4⟩ := inf_parts hi
  have h1 := run_equalIn_array (P := P) w 9999 (a.map u8v).toArray (b.map u8v).toArray hu.out k1
  rw [run_items8 (P := P) (w := w) (e := e) (z := z) (by_ := by_) 9998 a b (List.range n) (fun i hi => by have := List.mem_range.1 hi; omega), all_eq8 ha hb] at h1
  have h2 := run_eql_struct (P := P) w t (a.map u8v).toArray (b.map u8v).toArray
  rw [h1] at h2
  have h3 := run_eqGuard_agg (P := P) w .eql t x y (a.map u8v).toArray (b.map u8v).toArray hg
  simp [exec, execOp, hx, hy, h3, h2]
theorem r_neq8 {x y : Operand} {t u e : TypeId} {z : Value} {n by_ : Nat} {a b : List UInt8} [hu : Und P t (.array n e)] [he : Und P e (.int .u8)] [hi : Inf P e z 1 by_] [ho : One P e] (hg : P.eqGuardType P.depth t = false)
    (hx : ev l x = .agg (a.map u8v).toArray) (hy : ev l y = .agg (b.map u8v).toArray) (ha : a.length = n) (hb : b.length = n) :
    (exec (ev l) (.binOp .neq t x y u) T).run P w = .ok (.value (.bool (!decide (a = b)))) w := by
  obtain ⟨i, k1, k2, k3, k4⟩ := inf_parts hi
  have h1 := run_equalIn_array (P := P) w 9999 (a.map u8v).toArray (b.map u8v).toArray hu.out k1
  rw [run_items8 (P := P) (w := w) (e := e) (z := z) (by_ := by_) 9998 a b (List.range n) (fun i hi => by have := List.mem_range.1 hi; omega), all_eq8 ha hb] at h1
  have h2 := run_neq_struct (P := P) w t (a.map u8v).toArray (b.map u8v).toArray
  rw [h1] at h2
  have h3 := run_eqGuard_agg (P := P) w .neq t x y (a.map u8v).toArray (b.map u8v).toArray hg
  simp [exec, execOp, hx, hy, h3, h2]
end
end Go.Proofs.E

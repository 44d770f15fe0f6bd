/- The tables that the variables listed by law 34 hold, out of a row's premise; the world in which all lie. -/
import Derived.Test.YtoimhmphhffelaaDoorRows
import Derived.Test.YtoimhmphhffelaaDoorQQueryBack22
import Derived.Test.YtoimhmphhffelaaDoorQQueryBack25
import Derived.ChangeSame
import Derived.ChangeVars
import Derived.JoinedOf
import Derived.Lay
import Derived.MakeChecks
import Derived.LaidLaws
set_option linter.unusedVariables false
set_option linter.unusedSimpArgs false
namespace Go.Proofs.E
open Go Go.RowKit Go.ChangeShapes Go.WideShapes
section
variable {H : Type} {enc : TypeId × Value → H} {P : Program} {W : World} {base : Nat} {sp : Nat → Bool} {held : Bool}
/-- An array of strings: its cells, out of what it reads as. -/
theorem trod_arr_str {E e : TypeId} {z ze : Value} {n by_ b2 : Nat} [hu : Und P E (.array n e)] [hi : Inf P E z n by_] [he : Und P e .string] [hie : Inf P e ze 1 b2] {fuel : Nat} {cs : List Value} {ns : List (List UInt8)} {p : List MemPlace}
    (h : DataW.trod enc P W base sp held fuel E cs = some (.agg (ns.map fun q => .lit (.string q)), p)) : cs = ns.map fun q => Value.string (bst q) := by
  cases fuel with
  | zero => simp [DataW.trod] at h
  | succ fuel =>
    unfold DataW.trod at h
    rw [hu.out] at h
    simp only at h
    split at h
    · rename_i hl
      rw [cellsOf_inf hi] at hl
      obtain ⟨xs, hx, hxe⟩ := Option.map_eq_some_iff.1 h
      simp only [Prod.mk.injEq, DataW.agg.injEq] at hxe
      have hc := cellsOf_inf hie
      have hlen := mapM_some_length hx
      rw [List.length_range] at hlen
      have hnl : ns.length = n := by
        have := congrArg List.length hxe.1
        simpa [hlen] using this.symm
      apply List.ext_getElem?
      intro i
      by_cases hin : i < n
      · have h1 := mapM_some_get hx i i (by rw [List.getElem?_range hin])
        rw [List.getElem?_eq_getElem (by omega), hc, Nat.mul_one] at h1
        obtain ⟨q, hq, hy, hw⟩ := DataW.trod_string he.out h1
        have h2 : i < cs.length := by omega
        rw [List.drop_eq_getElem_cons h2, List.take_succ_cons, List.take_zero] at hq
        injection hq with hq _
        rw [List.getElem?_eq_getElem h2, hq, List.getElem?_map, List.getElem?_eq_getElem (by omega)]
        have h3 := congrArg (fun l => l[i]?) hxe.1
        simp only [List.getElem?_map] at h3
        rw [List.getElem?_eq_getElem (by omega), List.getElem?_eq_getElem (by omega), hy] at h3
        simp only [Option.map_some, Option.some.injEq, DataW.lit.injEq, Lit.string.injEq] at h3
        simp only [Option.map_some, Option.some.injEq, Value.string.injEq]
        rw [← h3]
        exact (bst_of q).symm
      · rw [List.getElem?_eq_none (by omega), List.getElem?_eq_none (by rw [List.length_map]; omega)]
    · cases h
theorem heap_of_var {P : Program} {W : World} {n : String} {g : Nat} {cs : Array Value} (hg : P.globalNamed n = some g) (h : W.var? P n = some cs) : ∃ t fz, W.heap[g]? = some (.cells cs t fz) := by
  unfold World.var? at h
  rw [hg] at h
  simp only [Option.bind_some] at h
  split at h
  · rename_i c t f hh
    injection h with h
    subst h
    exact ⟨t, f, hh⟩
  · cases h
end
end Go.Proofs.E
namespace Go.Proofs.YtoimhmphhffelaaDoor
open Go Go.RowKit Go.Proofs.E
abbrev laid9 : List (String × DataW Unit) := [("math/bits.deBruijn32tab", Rows.laid_math_bits_deBruijn32tab), ("math/bits.deBruijn64tab", Rows.laid_math_bits_deBruijn64tab), ("internal/strconv.uint64pow10", Rows.laid_internal_strconv_uint64pow10), ("unicode/utf8.acceptRanges", Rows.laid_unicode_utf8_acceptRanges), ("strconv.ErrRange", Rows.laid_strconv_ErrRange), ("strconv.ErrSyntax", Rows.laid_strconv_ErrSyntax), ("indenture/query.fieldWords", Rows.laid_indenture_query_fieldWords), ("indenture/query.opWords", Rows.laid_indenture_query_opWords), ("unicode/utf8.first", Rows.laid_unicode_utf8_first)]
theorem powType : (Tryd.prog.globals[powG]?).map (·.type) = some 111 := by kernel_rfl
theorem fwNamed : Tryd.prog.globalNamed "indenture/query.fieldWords" = some 0 := by kernel_rfl
theorem fwType : (Tryd.prog.globals[0]?).map (·.type) = some 51 := by kernel_rfl
theorem owNamed : Tryd.prog.globalNamed "indenture/query.opWords" = some 1 := by kernel_rfl
theorem owType : (Tryd.prog.globals[1]?).map (·.type) = some 52 := by kernel_rfl
theorem laidPow {H : Type} : (Rows.laid_internal_strconv_uint64pow10 : DataW H) = .agg (Lib.pow10Tab.map fun q => .lit (.int .u64 q)) := by rfl
theorem laidFw {H : Type} : (Rows.laid_indenture_query_fieldWords : DataW H) = .agg (fieldsW.map fun q => .lit (.string q)) := by rfl
theorem laidOw {H : Type} : (Rows.laid_indenture_query_opWords : DataW H) = .agg (opsW.map fun q => .lit (.string q)) := by rfl
theorem laid9_of {W : World} (h0 : laidMetH Tryd.prog laid9 W) : LaidQ W ∧ LaidP W := by
  have h := h0
  rw [MakeChecks.laidMetH_plain _ _ _ (by kernel_rfl)] at h
  obtain ⟨ps, ⟨g0, t0, cs0, fuel0, p0, q0, hg0, ht0, hv0, hd0, ⟨g1, t1, cs1, fuel1, p1, q1, hg1, ht1, hv1, hd1, ⟨g2, t2, cs2, fuel2, p2, q2, hg2, ht2, hv2, hd2, ⟨g3, t3, cs3, fuel3, p3, q3, hg3, ht3, hv3, hd3, ⟨g4, t4, cs4, fuel4, p4, q4, hg4, ht4, hv4, hd4, ⟨g5, t5, cs5, fuel5, p5, q5, hg5, ht5, hv5, hd5, ⟨g6, t6, cs6, fuel6, p6, q6, hg6, ht6, hv6, hd6, ⟨g7, t7, cs7, fuel7, p7, q7, hg7, ht7, hv7, hd7, _, _⟩, _⟩, _⟩, _⟩, _⟩, _⟩, _⟩, _⟩, _, _⟩ := h
  obtain rfl := Option.some.inj (powNamed.symm.trans hg2)
  obtain rfl := Option.some.inj (powType.symm.trans ht2)
  obtain rfl := Option.some.inj (fwNamed.symm.trans hg6)
  obtain rfl := Option.some.inj (fwType.symm.trans ht6)
  obtain rfl := Option.some.inj (owNamed.symm.trans hg7)
  obtain rfl := Option.some.inj (owType.symm.trans ht7)
  rw [laidPow] at hd2
  rw [laidFw] at hd6
  rw [laidOw] at hd7
  have c2 := trod_arr_int (P := Tryd.prog) (E := 111) (e := 95) (k := .u64) hd2
  have c6 := trod_arr_str (P := Tryd.prog) (E := 51) (e := 9) hd6
  have c7 := trod_arr_str (P := Tryd.prog) (E := 52) (e := 9) hd7
  obtain ⟨T2, f2, w2⟩ := heap_of_var hg2 hv2
  obtain ⟨T6, f6, w6⟩ := heap_of_var hg6 hv6
  obtain ⟨T7, f7, w7⟩ := heap_of_var hg7 hv7
  refine ⟨⟨⟨T6, f6, ?_⟩, T7, f7, ?_⟩, T2, f2, ?_⟩
  · rw [← c6, Array.toArray_toList]; exact w6
  · rw [← c7, Array.toArray_toList]; exact w7
  · rw [← c2, Array.toArray_toList]; exact w2
end Go.Proofs.YtoimhmphhffelaaDoor

/- Walks: the first two that are not the same. -/
import Derived.Test.YtfldckjkipmibaaDoorRg
import Derived.Test.YtfldckjkipmibaaDoorSha
import Derived.Test.YtfldckjkipmibaaDoorTurns
set_option linter.unusedVariables false
set_option linter.unusedSimpArgs false
namespace Go.Proofs.YtfldckjkipmibaaDoor
open Go Go.RowKit Go.Proofs.E
attribute [local irreducible] Go.wpList Go.Code.wp Go.Proofs.E.exec Go.Proofs.E.wpLexG
theorem own_of_blk {α : Type} {en : En α} {w : World} {base b c : Nat} {E : TypeId} {xs : List α} {cells : List Value} (hB : Blk w b cells E) (hb : base ≤ b) (hc : xs.length ≤ c) (hm : c ≤ 9223372036854775807) (hl : cells.length = c * en.n) (ht : cells.take (xs.length * en.n) = xs.flatMap en.f) :
    Go.Proofs.E.Own en w base E (.slice (some ⟨b, 0, none⟩) xs.length c) xs :=
  ⟨flatMap_len en.hl xs, .inr ⟨b, c, cells.toArray, rfl, hb, hB, hc, by simpa [maxLen] using hm, by simpa using hl, by simpa using ht⟩⟩
theorem own_any (v : Value) (bs : List UInt8) (w0 : World) (hR : tU8.Rd [] w0 v bs) (hb : bs.length ≤ 1099511627776) :
    Calls Tryd.prog 70 #[v] w0 (Ret fun u w' => Ch [] w0 w' ∧ Go.Proofs.E.Own eU8 w' w0.heap.size 5 u bs) := by
  have hM := Mem.start w0
  obtain ⟨A, c, rfl⟩ := hR.form
  refine enter [.slice A bs.length c, undef, undef, undef, undef, undef, undef, undef, undef, undef, undef] Tryd.func70 rfl rfl ?_
  repeat (first | ((with_reducible apply is_ld); first | refine kld hM ?_ | refine kldw hM ?_ | refine kle hM ?_ | refine klew hM ?_) | ((with_reducible apply is_sto); first | (refine kst hM ?_; intro w hM) | (refine kstw hM ?_; intro w hM)) | ((with_reducible apply is_st); refine su ?_) | ((with_reducible apply is_gd); first | refine gt ?_ | refine gf ?_ | refine gu ?_) | ((with_reducible apply is_en); refine en ?_) | (with_reducible first | apply x_then | apply wp_seq | apply c_region | apply wp_block | apply wp_skip | apply wp_exit | apply wp_ret | apply wp_label | apply wp_scope_straight | apply x_ng | apply x_ng_ret | apply x_ng_exit | apply x_then_ret | apply x_then_exit | apply x_block | apply x_block_ret | apply x_block_exit | refine x_block_other (by decide) ?_))
  refine wl_make (n := bs.length) (c := bs.length) rfl rfl (Nat.le_refl _) (by omega) (by omega) (fun w b cs hN hcs => ?_)
  have hM := hM.alloc hN
  repeat (first | ((with_reducible apply is_ld); first | refine kld hM ?_ | refine kldw hM ?_ | refine kle hM ?_ | refine klew hM ?_) | ((with_reducible apply is_sto); first | (refine kst hM ?_; intro w hM) | (refine kstw hM ?_; intro w hM)) | ((with_reducible apply is_st); refine su ?_) | ((with_reducible apply is_gd); first | refine gt ?_ | refine gf ?_ | refine gu ?_) | ((with_reducible apply is_en); refine en ?_) | (with_reducible first | apply x_then | apply wp_seq | apply c_region | apply wp_block | apply wp_skip | apply wp_exit | apply wp_ret | apply wp_label | apply wp_scope_straight | apply x_ng | apply x_ng_ret | apply x_ng_exit | apply x_then_ret | apply x_then_exit | apply x_block | apply x_block_ret | apply x_block_exit | refine x_block_other (by decide) ?_))
  have hcs' : cs.length = bs.length := by omega
  refine cpE (en := eU8) (S := []) rfl rfl rfl (hM.blk (by (repeat (first | exact Go.Proofs.E.Pick.here | apply Go.Proofs.E.Pick.there)))) (hR.ch hM.ch) (by show bs.length * 1 ≤ _; omega) (fun v w hB hc hs => ?_)
  have hM := hM.cellSet hB hc
  repeat (first | ((with_reducible apply is_ld); first | refine kld hM ?_ | refine kldw hM ?_ | refine kle hM ?_ | refine klew hM ?_) | ((with_reducible apply is_sto); first | (refine kst hM ?_; intro w hM) | (refine kstw hM ?_; intro w hM)) | ((with_reducible apply is_st); refine su ?_) | ((with_reducible apply is_gd); first | refine gt ?_ | refine gf ?_ | refine gu ?_) | ((with_reducible apply is_en); refine en ?_) | (with_reducible first | apply x_then | apply wp_seq | apply c_region | apply wp_block | apply wp_skip | apply wp_exit | apply wp_ret | apply wp_label | apply wp_scope_straight | apply x_ng | apply x_ng_ret | apply x_ng_exit | apply x_then_ret | apply x_then_exit | apply x_block | apply x_block_ret | apply x_block_exit | refine x_block_other (by decide) ?_))
  have hd : cs.drop (bs.length * 1) = [] := List.drop_eq_nil_of_le (by omega)
  have hfl : (bs.flatMap eU8.f).length = bs.length := (flatMap_len eU8.hl bs).trans (Nat.mul_one _)
  refine out1 rfl ⟨hM.ch, own_of_blk (c := bs.length) (hM.blk (by (repeat (first | exact Go.Proofs.E.Pick.here | apply Go.Proofs.E.Pick.there)))) (hM.ge (by (repeat (first | exact Go.Proofs.E.Pick.here | apply Go.Proofs.E.Pick.there)))) (Nat.le_refl _) (by omega) ?_ ?_⟩
  · rw [hd, List.append_nil]
    exact flatMap_len eU8.hl bs
  · rw [hd, List.append_nil]
    exact List.take_of_length_le (by rw [hfl]; show bs.length ≤ bs.length * 1; omega)
theorem equal_any (v1 v2 : Value) (a b : List UInt8) (w : World) (h1 : tU8.Rd [] w v1 a) (h2 : tU8.Rd [] w v2 b) :
    Calls Tryd.prog 68 #[v1, v2] w (Ret fun u w' => u = .bool (decide (a = b)) ∧ w' = w) := by
  refine enter [v1, v2, undef, undef, undef, undef, undef, undef, undef, undef] Tryd.func68 rfl rfl ?_
  repeat (first | ((with_reducible apply is_st); refine su ?_) | ((with_reducible apply is_gd); first | refine gt ?_ | refine gf ?_ | refine gu ?_) | ((with_reducible apply is_en); refine en ?_) | (with_reducible first | apply x_then | apply wp_seq | apply c_region | apply wp_block | apply wp_skip | apply wp_exit | apply wp_ret | apply wp_label | apply wp_scope_straight | apply x_ng | apply x_ng_ret | apply x_ng_exit | apply x_then_ret | apply x_then_exit | apply x_block | apply x_block_ret | apply x_block_exit | refine x_block_other (by decide) ?_))
  (try ((with_reducible apply is_gd); first | refine gt ?_ | refine gf ?_ | refine gu ?_)); refine wl_val (r_b2s h1) ?_
  repeat (first | ((with_reducible apply is_st); refine su ?_) | ((with_reducible apply is_gd); first | refine gt ?_ | refine gf ?_ | refine gu ?_) | ((with_reducible apply is_en); refine en ?_) | (with_reducible first | apply x_then | apply wp_seq | apply c_region | apply wp_block | apply wp_skip | apply wp_exit | apply wp_ret | apply wp_label | apply wp_scope_straight | apply x_ng | apply x_ng_ret | apply x_ng_exit | apply x_then_ret | apply x_then_exit | apply x_block | apply x_block_ret | apply x_block_exit | refine x_block_other (by decide) ?_))
  (try ((with_reducible apply is_gd); first | refine gt ?_ | refine gf ?_ | refine gu ?_)); refine wl_val (r_b2s h2) ?_
  (try ((with_reducible apply is_gd); first | refine gt ?_ | refine gf ?_ | refine gu ?_)); refine wl_val (r_eqst) ?_
  repeat (first | ((with_reducible apply is_st); refine su ?_) | ((with_reducible apply is_gd); first | refine gt ?_ | refine gf ?_ | refine gu ?_) | ((with_reducible apply is_en); refine en ?_) | (with_reducible first | apply x_then | apply wp_seq | apply c_region | apply wp_block | apply wp_skip | apply wp_exit | apply wp_ret | apply wp_label | apply wp_scope_straight | apply x_ng | apply x_ng_ret | apply x_ng_exit | apply x_then_ret | apply x_then_exit | apply x_block | apply x_block_ret | apply x_block_exit | refine x_block_other (by decide) ?_))
  exact out1 rfl ⟨rfl, rfl⟩
theorem beside_any (a b : SlV) (w0 : World) : Calls Tryd.prog 67 #[slv a, slv b] w0 (Ret fun u w' => ∃ b1 b2, u = .func (.func 94) #[] #[.pointer (some ⟨b1, 0, none⟩), .pointer (some ⟨b2, 0, none⟩)] ∧ Mem [] w0 w' [.cell b1 [slv a] 51, .cell b2 [slv b] 51]) := by
  have hM := Mem.start w0
  refine enter [slv a, slv b, undef, undef, undef, undef] Tryd.func67 rfl rfl ?_
  repeat (first | ((with_reducible apply is_ld); first | refine kld hM ?_ | refine kldw hM ?_ | refine kle hM ?_ | refine klew hM ?_) | ((with_reducible apply is_sto); first | (refine kst hM ?_; intro w hM) | (refine kstw hM ?_; intro w hM)) | ((with_reducible apply is_st); refine su ?_) | ((with_reducible apply is_gd); first | refine gt ?_ | refine gf ?_ | refine gu ?_) | ((with_reducible apply is_en); refine en ?_) | (with_reducible first | apply x_then | apply wp_seq | apply c_region | apply wp_block | apply wp_skip | apply wp_exit | apply wp_ret | apply wp_label | apply wp_scope_straight | apply x_ng | apply x_ng_ret | apply x_ng_exit | apply x_then_ret | apply x_then_exit | apply x_block | apply x_block_ret | apply x_block_exit | refine x_block_other (by decide) ?_))
  refine kbx (v := slv a) hM (fun w b1 hM => ?_)
  refine kbx (v := slv b) hM (fun w b2 hM => ?_)
  repeat (first | ((with_reducible apply is_ld); first | refine kld hM ?_ | refine kldw hM ?_ | refine kle hM ?_ | refine klew hM ?_) | ((with_reducible apply is_sto); first | (refine kst hM ?_; intro w hM) | (refine kstw hM ?_; intro w hM)) | ((with_reducible apply is_st); refine su ?_) | ((with_reducible apply is_gd); first | refine gt ?_ | refine gf ?_ | refine gu ?_) | ((with_reducible apply is_en); refine en ?_) | (with_reducible first | apply x_then | apply wp_seq | apply c_region | apply wp_block | apply wp_skip | apply wp_exit | apply wp_ret | apply wp_label | apply wp_scope_straight | apply x_ng | apply x_ng_ret | apply x_ng_exit | apply x_then_ret | apply x_then_exit | apply x_block | apply x_block_ret | apply x_block_exit | refine x_block_other (by decide) ?_))
  (try ((with_reducible apply is_gd); first | refine gt ?_ | refine gf ?_ | refine gu ?_)); refine wl_val (r_makeFunc (cs := [.tmp 2, .tmp 3])) ?_
  repeat (first | ((with_reducible apply is_ld); first | refine kld hM ?_ | refine kldw hM ?_ | refine kle hM ?_ | refine klew hM ?_) | ((with_reducible apply is_sto); first | (refine kst hM ?_; intro w hM) | (refine kstw hM ?_; intro w hM)) | ((with_reducible apply is_st); refine su ?_) | ((with_reducible apply is_gd); first | refine gt ?_ | refine gf ?_ | refine gu ?_) | ((with_reducible apply is_en); refine en ?_) | (with_reducible first | apply x_then | apply wp_seq | apply c_region | apply wp_block | apply wp_skip | apply wp_exit | apply wp_ret | apply wp_label | apply wp_scope_straight | apply x_ng | apply x_ng_ret | apply x_ng_exit | apply x_then_ret | apply x_then_exit | apply x_block | apply x_block_ret | apply x_block_exit | refine x_block_other (by decide) ?_))
  have hM : Mem [] w0 w [.cell b2 [slv b] 51, .cell b1 [slv a] 51] := hM
  exact out1 rfl ⟨b1, b2, rfl, hM.sub (by (repeat (first | exact Go.Proofs.E.Sub.nil | (apply Go.Proofs.E.Sub.cons; (repeat (first | exact Go.Proofs.E.Pick.here | apply Go.Proofs.E.Pick.there))))))⟩
/-- The first two that are not the same, if their hash is. -/
def firstL : List (List UInt8 × List UInt8) → Option (List UInt8 × List UInt8)
  | [] => none
  | p :: r => if p.1 = p.2 then firstL r else if shaOf p.1 = shaOf p.2 then some p else none
def pairsL (xs ys : List (List UInt8)) : List (List UInt8 × List UInt8) := xs.reverse.zip ys.reverse
def fstL (o : Option (List UInt8 × List UInt8)) : List UInt8 := (o.map (·.1)).getD []
def sndL (o : Option (List UInt8 × List UInt8)) : List UInt8 := (o.map (·.2)).getD []
theorem zip_pr {α β γ δ : Type} (f : α → γ) (g : β → δ) (ps : List α) (qs : List β) : (ps.map f).reverse.zip (qs.map g).reverse = (ps.reverse.zip qs.reverse).map (fun r => (f r.1, g r.2)) := by
  rw [← List.map_reverse, ← List.map_reverse, List.zip_map]
  rfl
theorem get_of_pre {α β : Type} {f : α → β} {R : List α} {pre : List β} {x : β} (h : (pre ++ [x]) <+: R.map f) : ∃ r, R[pre.length]? = some r ∧ x = f r := by
  obtain ⟨t, ht⟩ := h
  have h1 : (R.map f)[pre.length]? = some x := by rw [← ht]; simp
  rw [List.getElem?_map] at h1
  obtain ⟨r, h2, h3⟩ := Option.map_eq_some_iff.1 h1
  exact ⟨r, h2, h3.symm⟩
end Go.Proofs.YtfldckjkipmibaaDoor

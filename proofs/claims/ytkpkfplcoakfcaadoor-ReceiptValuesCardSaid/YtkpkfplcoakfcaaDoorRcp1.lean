/- Walks of law 17: receipts in memory; whether one may be, is borne out, by a later digest, both. -/
import Derived.Test.YtkpkfplcoakfcaaDoorLeaf16
import Derived.Test.YtkpkfplcoakfcaaDoorChecks
import Derived.Test.YtkpkfplcoakfcaaDoorYapp
import Derived.Test.YtkpkfplcoakfcaaDoorLr
set_option linter.unusedVariables false
set_option linter.unusedSimpArgs false
namespace Go.Proofs.E
open Go Go.RowKit
section
variable {P : Program} {ops : Array Oper} {N : Nat} {S : List Nat} {Q : Exit → Act → World → Prop} {z : List Nat × List Nat} {fuel : Nat} {listed : Array Bool} {l : List Value} {w : World} {T : TypeId} {pos : String} {after : Array Edge}
/-- A load of one cell, guarded. -/
theorem ynlt {x : Operand} {E E' : TypeId} {b o d j tg : Nat} {g : Bool} {cs : List Value} {v : Value} [hr1 : One P E] (k : Nat) (ho : ops[k]? = some { dst := some d, op := .load E x, type := T, pos := pos, after := after, guard := some (j, g) }) (hB : Blk w b cs E') (hlt : b < N) (hS : b ∉ S) (hv : cs[o]? = some v)
    (h : WY P ops N S Q z fuel (listed.setIfInBounds k true) (fr (l.set d v)) w) (hx : ev l x = .pointer (some ⟨b, o, none⟩) := by exact rfl) (hj : (ops[j]?).bind (·.dst) = some tg := by exact rfl) (hvv : ev l (.tmp tg) = .bool g := by exact rfl) (hlg : tg < l.length := by exact Nat.le_of_ble_eq_true rfl) (hr : (Region.ready .any ops listed).contains k = true := by kernel_rfl) (hf : Region.free .any ops listed k = true := by kernel_rfl) (hnf : k ∉ z.2 := by decide) : WY P ops N S Q z (fuel + 1) listed (fr l) w :=
  ynvt (hnf := hnf) k ho hr hf hj hvv hlg rfl (fun w1 hG => r_load_one hx ((hB.bw hG hlt hS).cell hv)) rfl h
end
end Go.Proofs.E
namespace Go.Proofs.YtkpkfplcoakfcaaDoor
open Go Go.RowKit Go.Proofs.E
attribute [local irreducible] Go.wpList Go.Code.wp Go.Proofs.E.exec Go.Proofs.E.wpLexG
abbrev tC (a ses snap : Int) (strict : Bool) (vr vw vp : Value) (size : Int) (lg mp : Hs) : List Value := .int .i64 a :: .int .i64 ses :: .int .i64 snap :: .bool strict :: vr :: vw :: vp :: .int .i64 size :: (lg.1.map u8v ++ mp.1.map u8v)
abbrev dC (size : Int) (lg mp : Hs) : List Value := .int .i64 size :: (lg.1.map u8v ++ mp.1.map u8v)
theorem h32 (h : Hs) : (h.1.map u8v).length = 32 := by rw [List.length_map]; exact h.2
theorem tC_len (a ses snap : Int) (strict : Bool) (vr vw vp : Value) (size : Int) (lg mp : Hs) : (tC a ses snap strict vr vw vp size lg mp).length = 72 := by simp [lg.2, mp.2]
theorem dC_len (size : Int) (lg mp : Hs) : (dC size lg mp).length = 65 := by simp [lg.2, mp.2]
theorem tC_log (a ses snap : Int) (strict : Bool) (vr vw vp : Value) (size : Int) (lg mp : Hs) : ((tC a ses snap strict vr vw vp size lg mp).drop 8).take 32 = lg.1.map u8v := List.take_left' (h32 lg)
theorem tC_map (a ses snap : Int) (strict : Bool) (vr vw vp : Value) (size : Int) (lg mp : Hs) : ((tC a ses snap strict vr vw vp size lg mp).drop 40).take 32 = mp.1.map u8v := by
  show ((lg.1.map u8v ++ mp.1.map u8v).drop 32).take 32 = _
  rw [List.drop_left' (h32 lg)]
  exact List.take_of_length_le (by rw [h32]; omega)
theorem dC_log (size : Int) (lg mp : Hs) : ((dC size lg mp).drop 1).take 32 = lg.1.map u8v := List.take_left' (h32 lg)
section
variable {P : Program} {ops : Array Oper} {Q : Exit → Act → World → Prop} {rest : List Oper} {l l' : List Value} {O : List Nat} {w0 w : World} {L L' : List As} {T : TypeId} {pos : String} {after : Array Edge}
/-- Loads of a receipt's parts. -/
theorem klrec {d : Nat} {x : Operand} {E E' : TypeId} {b by_ : Nat} {z : Value} {a ses snap : Int} {strict : Bool} {vr vw vp : Value} {size : Int} {lg mp : Hs} [hr : Row P E] [hi : Inf P E z 5 by_] (hM : Mem O w0 w L) (h : wpList P ops Q rest (fr l') w)
    (hx : ev l x = .pointer (some ⟨b, 1, none⟩) := by exact rfl) (hp : Pick L (.cell b (tC a ses snap strict vr vw vp size lg mp) E') L' := by (repeat (first | exact Go.Proofs.E.Pick.here | apply Go.Proofs.E.Pick.there)))
    (hl : l.set d (.agg (rC ses snap strict vr vw).toArray) = l' := by first | (dsimp only [List.set, Go.Proofs.E.set1, Go.Proofs.E.ev, Go.Proofs.E.nth]; done) | exact rfl) :
    wpList P ops Q ({ dst := some d, op := .load E x, type := T, pos := pos, after := after, guard := none } :: rest) (fr l) w := by
  subst hl
  exact kldp (rC ses snap strict vr vw) hM rfl h hx hp rfl rfl
theorem kllog {d : Nat} {x : Operand} {E E' : TypeId} {b by_ : Nat} {z : Value} {a ses snap : Int} {strict : Bool} {vr vw vp : Value} {size : Int} {lg mp : Hs} [hr : Row P E] [hi : Inf P E z 32 by_] (hM : Mem O w0 w L) (h : wpList P ops Q rest (fr l') w)
    (hx : ev l x = .pointer (some ⟨b, 8, none⟩) := by exact rfl) (hp : Pick L (.cell b (tC a ses snap strict vr vw vp size lg mp) E') L' := by (repeat (first | exact Go.Proofs.E.Pick.here | apply Go.Proofs.E.Pick.there)))
    (hl : l.set d (.agg (lg.1.map u8v).toArray) = l' := by first | (dsimp only [List.set, Go.Proofs.E.set1, Go.Proofs.E.ev, Go.Proofs.E.nth]; done) | exact rfl) :
    wpList P ops Q ({ dst := some d, op := .load E x, type := T, pos := pos, after := after, guard := none } :: rest) (fr l) w := by
  subst hl
  exact kldp (lg.1.map u8v) hM (tC_log _ _ _ _ _ _ _ _ _ _) h hx hp (h32 lg) rfl
theorem klmap {d : Nat} {x : Operand} {E E' : TypeId} {b by_ : Nat} {z : Value} {a ses snap : Int} {strict : Bool} {vr vw vp : Value} {size : Int} {lg mp : Hs} [hr : Row P E] [hi : Inf P E z 32 by_] (hM : Mem O w0 w L) (h : wpList P ops Q rest (fr l') w)
    (hx : ev l x = .pointer (some ⟨b, 40, none⟩) := by exact rfl) (hp : Pick L (.cell b (tC a ses snap strict vr vw vp size lg mp) E') L' := by (repeat (first | exact Go.Proofs.E.Pick.here | apply Go.Proofs.E.Pick.there)))
    (hl : l.set d (.agg (mp.1.map u8v).toArray) = l' := by first | (dsimp only [List.set, Go.Proofs.E.set1, Go.Proofs.E.ev, Go.Proofs.E.nth]; done) | exact rfl) :
    wpList P ops Q ({ dst := some d, op := .load E x, type := T, pos := pos, after := after, guard := none } :: rest) (fr l) w := by
  subst hl
  exact kldp (mp.1.map u8v) hM (tC_map _ _ _ _ _ _ _ _ _ _) h hx hp (h32 mp) rfl
theorem kldlog {d : Nat} {x : Operand} {E E' : TypeId} {b by_ : Nat} {z : Value} {size : Int} {lg mp : Hs} [hr : Row P E] [hi : Inf P E z 32 by_] (hM : Mem O w0 w L) (h : wpList P ops Q rest (fr l') w)
    (hx : ev l x = .pointer (some ⟨b, 1, none⟩) := by exact rfl) (hp : Pick L (.cell b (dC size lg mp) E') L' := by (repeat (first | exact Go.Proofs.E.Pick.here | apply Go.Proofs.E.Pick.there)))
    (hl : l.set d (.agg (lg.1.map u8v).toArray) = l' := by first | (dsimp only [List.set, Go.Proofs.E.set1, Go.Proofs.E.ev, Go.Proofs.E.nth]; done) | exact rfl) :
    wpList P ops Q ({ dst := some d, op := .load E x, type := T, pos := pos, after := after, guard := none } :: rest) (fr l) w := by
  subst hl
  exact kldp (lg.1.map u8v) hM (dC_log _ _ _) h hx hp (h32 lg) rfl
end
def good17 (a size snap : Int) (plen : Nat) (g : Bool) : Bool := decide (0 ≤ a ∧ a ≤ 1099511627776 ∧ size = a + 1 ∧ snap ≤ a ∧ plen ≤ 64) && g
theorem good17_f {a size snap : Int} {plen : Nat} {g : Bool} (h : ¬ (0 ≤ a ∧ a ≤ 1099511627776 ∧ size = a + 1 ∧ snap ≤ a ∧ plen ≤ 64)) : good17 a size snap plen g = false := by
  unfold good17
  rw [decide_eq_false h, Bool.false_and]
theorem good17_t {a size snap : Int} {plen : Nat} {g : Bool} (h : 0 ≤ a ∧ a ≤ 1099511627776 ∧ size = a + 1 ∧ snap ≤ a ∧ plen ≤ 64) : good17 a size snap plen g = g := by
  unfold good17
  rw [decide_eq_true h, Bool.true_and]
def leafHs (bs : List UInt8) : Hs := ⟨leafOf bs, leafOf_len bs⟩
structure RctM (w : World) (vr vw vp : Value) (us : List (RR × List Pr)) (wz : List Pr) (path : List Hs) : Prop where
  m : RecM w vr vw us wz
  p : (Ty.enc eH).Rd [] w vp path
theorem RctM.ch {w w' : World} {vr vw vp : Value} {us : List (RR × List Pr)} {wz : List Pr} {path : List Hs} (h : RctM w vr vw vp us wz path) (hc : Ch [] w w') : RctM w' vr vw vp us wz path := ⟨h.m.ch hc, h.p.ch hc⟩
set_option maxHeartbeats 8000000 in
theorem tgood_any (a ses snap : Int) (strict : Bool) (vr vw vp : Value) (size : Int) (lg mp : Hs) (us : List (RR × List Pr)) (wz : List Pr) (path : List Hs) (w0 : World) (hA : RctM w0 vr vw vp us wz path) (hk : ShortR us) (hb : ShortL wz) :
    Calls Tryd.prog 11 #[.agg (tC a ses snap strict vr vw vp size lg mp).toArray] w0 (Ret fun u w' => u = .bool (good17 a size snap path.length (recGood ses snap strict us wz)) ∧ Ch [] w0 w') := by
  have hM := Mem.start w0
  have hle := hA.p.le
  obtain ⟨A, c, rfl⟩ := hA.m.r.form
  obtain ⟨A2, c2, rfl⟩ := hA.m.w.form
  obtain ⟨A3, c3, rfl⟩ := hA.p.form
  refine enter [.agg (tC a ses snap strict (.slice A (us.map (fun u : RR × List Pr => u.1)).length c) (.slice A2 wz.length c2) (.slice A3 path.length c3) size lg mp).toArray, undef, undef, undef, undef, undef, undef, undef, undef, undef, undef, undef, undef, undef, undef, undef, undef, undef, undef, undef, undef, undef, undef, undef, undef, undef, undef, undef, undef, undef, undef, undef, undef, undef, undef, undef, undef] Tryd.func11 rfl rfl ?_
  repeat (first | ((with_reducible apply is_ld); first | refine kld hM ?_ | refine kldw hM ?_ | refine kle hM ?_ | refine klew hM ?_) | ((with_reducible apply is_sto); first | (refine kst hM ?_; intro w hM) | (refine kstw hM ?_; intro w hM)) | ((with_reducible apply is_st); refine su ?_) | ((with_reducible apply is_gd); first | refine gt ?_ | refine gf ?_ | refine gu ?_) | ((with_reducible apply is_en); refine en ?_) | (with_reducible apply c_region) | refine ws ?_ | refine x_block_other (by decide) ?_)
  refine kbx hM (fun w b1 hM => ?_)
  have hM : Mem [] w0 w [.cell b1 (tC a ses snap strict (.slice A (us.map (fun u : RR × List Pr => u.1)).length c) (.slice A2 wz.length c2) (.slice A3 path.length c3) size lg mp) 32] := hM
  repeat (first | ((with_reducible apply is_ld); first | refine kld hM ?_ | refine klrec hM ?_ | refine kllog hM ?_ | refine klmap hM ?_ | refine kldlog hM ?_ | refine kldw hM ?_ (hn := tC_len _ _ _ _ _ _ _ _ _ _) | refine kldw hM ?_ (hn := dC_len _ _ _) | refine kldw hM ?_ | refine kle hM ?_ | refine klew hM ?_) | ((with_reducible apply is_sto); first | (refine kst hM ?_; intro w hM) | (refine kstw hM ?_; intro w hM)) | ((with_reducible apply is_st); refine su ?_) | ((with_reducible apply is_gd); first | refine gt ?_ | refine gf ?_ | refine gu ?_) | ((with_reducible apply is_en); refine en ?_) | (with_reducible apply c_region) | refine ws ?_ | refine x_block_other (by decide) ?_)
  by_cases q1 : a < 0
  · rw [decide_eq_true q1]
    repeat (first | ((with_reducible apply is_ld); first | refine kld hM ?_ | refine klrec hM ?_ | refine kllog hM ?_ | refine klmap hM ?_ | refine kldlog hM ?_ | refine kldw hM ?_ (hn := tC_len _ _ _ _ _ _ _ _ _ _) | refine kldw hM ?_ (hn := dC_len _ _ _) | refine kldw hM ?_ | refine kle hM ?_ | refine klew hM ?_) | ((with_reducible apply is_sto); first | (refine kst hM ?_; intro w hM) | (refine kstw hM ?_; intro w hM)) | ((with_reducible apply is_st); refine su ?_) | ((with_reducible apply is_gd); first | refine gt ?_ | refine gf ?_ | refine gu ?_) | ((with_reducible apply is_en); refine en ?_) | (with_reducible apply c_region) | refine ws ?_ | refine x_block_other (by decide) ?_)
    refine c_condb rfl (fun _ => ?_) (fun h => by cases h)
    repeat (first | ((with_reducible apply is_ld); first | refine kld hM ?_ | refine klrec hM ?_ | refine kllog hM ?_ | refine klmap hM ?_ | refine kldlog hM ?_ | refine kldw hM ?_ (hn := tC_len _ _ _ _ _ _ _ _ _ _) | refine kldw hM ?_ (hn := dC_len _ _ _) | refine kldw hM ?_ | refine kle hM ?_ | refine klew hM ?_) | ((with_reducible apply is_sto); first | (refine kst hM ?_; intro w hM) | (refine kstw hM ?_; intro w hM)) | ((with_reducible apply is_st); refine su ?_) | ((with_reducible apply is_gd); first | refine gt ?_ | refine gf ?_ | refine gu ?_) | ((with_reducible apply is_en); refine en ?_) | (with_reducible apply c_region) | refine ws ?_ | refine x_block_other (by decide) ?_)
    exact out1 rfl ⟨by rw [good17_f (by omega)]; rfl, hM.ch⟩
  rw [decide_eq_false q1]
  repeat (first | ((with_reducible apply is_ld); first | refine kld hM ?_ | refine klrec hM ?_ | refine kllog hM ?_ | refine klmap hM ?_ | refine kldlog hM ?_ | refine kldw hM ?_ (hn := tC_len _ _ _ _ _ _ _ _ _ _) | refine kldw hM ?_ (hn := dC_len _ _ _) | refine kldw hM ?_ | refine kle hM ?_ | refine klew hM ?_) | ((with_reducible apply is_sto); first | (refine kst hM ?_; intro w hM) | (refine kstw hM ?_; intro w hM)) | ((with_reducible apply is_st); refine su ?_) | ((with_reducible apply is_gd); first | refine gt ?_ | refine gf ?_ | refine gu ?_) | ((with_reducible apply is_en); refine en ?_) | (with_reducible apply c_region) | refine ws ?_ | refine x_block_other (by decide) ?_)
  by_cases q2 : 1099511627776 < a
  · rw [decide_eq_true q2]
    repeat (first | ((with_reducible apply is_ld); first | refine kld hM ?_ | refine klrec hM ?_ | refine kllog hM ?_ | refine klmap hM ?_ | refine kldlog hM ?_ | refine kldw hM ?_ (hn := tC_len _ _ _ _ _ _ _ _ _ _) | refine kldw hM ?_ (hn := dC_len _ _ _) | refine kldw hM ?_ | refine kle hM ?_ | refine klew hM ?_) | ((with_reducible apply is_sto); first | (refine kst hM ?_; intro w hM) | (refine kstw hM ?_; intro w hM)) | ((with_reducible apply is_st); refine su ?_) | ((with_reducible apply is_gd); first | refine gt ?_ | refine gf ?_ | refine gu ?_) | ((with_reducible apply is_en); refine en ?_) | (with_reducible apply c_region) | refine ws ?_ | refine x_block_other (by decide) ?_)
    refine c_condb rfl (fun _ => ?_) (fun h => by cases h)
    repeat (first | ((with_reducible apply is_ld); first | refine kld hM ?_ | refine klrec hM ?_ | refine kllog hM ?_ | refine klmap hM ?_ | refine kldlog hM ?_ | refine kldw hM ?_ (hn := tC_len _ _ _ _ _ _ _ _ _ _) | refine kldw hM ?_ (hn := dC_len _ _ _) | refine kldw hM ?_ | refine kle hM ?_ | refine klew hM ?_) | ((with_reducible apply is_sto); first | (refine kst hM ?_; intro w hM) | (refine kstw hM ?_; intro w hM)) | ((with_reducible apply is_st); refine su ?_) | ((with_reducible apply is_gd); first | refine gt ?_ | refine gf ?_ | refine gu ?_) | ((with_reducible apply is_en); refine en ?_) | (with_reducible apply c_region) | refine ws ?_ | refine x_block_other (by decide) ?_)
    exact out1 rfl ⟨by rw [good17_f (by omega)]; rfl, hM.ch⟩
  rw [decide_eq_false q2]
  repeat (first | ((with_reducible apply is_ld); first | refine kld hM ?_ | refine klrec hM ?_ | refine kllog hM ?_ | refine klmap hM ?_ | refine kldlog hM ?_ | refine kldw hM ?_ (hn := tC_len _ _ _ _ _ _ _ _ _ _) | refine kldw hM ?_ (hn := dC_len _ _ _) | refine kldw hM ?_ | refine kle hM ?_ | refine klew hM ?_) | ((with_reducible apply is_sto); first | (refine kst hM ?_; intro w hM) | (refine kstw hM ?_; intro w hM)) | ((with_reducible apply is_st); refine su ?_) | ((with_reducible apply is_gd); first | refine gt ?_ | refine gf ?_ | refine gu ?_) | ((with_reducible apply is_en); refine en ?_) | (with_reducible apply c_region) | refine ws ?_ | refine x_block_other (by decide) ?_)
  by_cases q3 : size ≠ a + 1
  · rw [decide_eq_true q3]
    repeat (first | ((with_reducible apply is_ld); first | refine kld hM ?_ | refine klrec hM ?_ | refine kllog hM ?_ | refine klmap hM ?_ | refine kldlog hM ?_ | refine kldw hM ?_ (hn := tC_len _ _ _ _ _ _ _ _ _ _) | refine kldw hM ?_ (hn := dC_len _ _ _) | refine kldw hM ?_ | refine kle hM ?_ | refine klew hM ?_) | ((with_reducible apply is_sto); first | (refine kst hM ?_; intro w hM) | (refine kstw hM ?_; intro w hM)) | ((with_reducible apply is_st); refine su ?_) | ((with_reducible apply is_gd); first | refine gt ?_ | refine gf ?_ | refine gu ?_) | ((with_reducible apply is_en); refine en ?_) | (with_reducible apply c_region) | refine ws ?_ | refine x_block_other (by decide) ?_)
    refine c_condb rfl (fun _ => ?_) (fun h => by cases h)
    repeat (first | ((with_reducible apply is_ld); first | refine kld hM ?_ | refine klrec hM ?_ | refine kllog hM ?_ | refine klmap hM ?_ | refine kldlog hM ?_ | refine kldw hM ?_ (hn := tC_len _ _ _ _ _ _ _ _ _ _) | refine kldw hM ?_ (hn := dC_len _ _ _) | refine kldw hM ?_ | refine kle hM ?_ | refine klew hM ?_) | ((with_reducible apply is_sto); first | (refine kst hM ?_; intro w hM) | (refine kstw hM ?_; intro w hM)) | ((with_reducible apply is_st); refine su ?_) | ((with_reducible apply is_gd); first | refine gt ?_ | refine gf ?_ | refine gu ?_) | ((with_reducible apply is_en); refine en ?_) | (with_reducible apply c_region) | refine ws ?_ | refine x_block_other (by decide) ?_)
    exact out1 rfl ⟨by rw [good17_f (by omega)]; rfl, hM.ch⟩
  rw [decide_eq_false q3]
  repeat (first | ((with_reducible apply is_ld); first | refine kld hM ?_ | refine klrec hM ?_ | refine kllog hM ?_ | refine klmap hM ?_ | refine kldlog hM ?_ | refine kldw hM ?_ (hn := tC_len _ _ _ _ _ _ _ _ _ _) | refine kldw hM ?_ (hn := dC_len _ _ _) | refine kldw hM ?_ | refine kle hM ?_ | refine klew hM ?_) | ((with_reducible apply is_sto); first | (refine kst hM ?_; intro w hM) | (refine kstw hM ?_; intro w hM)) | ((with_reducible apply is_st); refine su ?_) | ((with_reducible apply is_gd); first | refine gt ?_ | refine gf ?_ | refine gu ?_) | ((with_reducible apply is_en); refine en ?_) | (with_reducible apply c_region) | refine ws ?_ | refine x_block_other (by decide) ?_)
  by_cases q4 : a < snap
  · rw [decide_eq_true q4]
    repeat (first | ((with_reducible apply is_ld); first | refine kld hM ?_ | refine klrec hM ?_ | refine kllog hM ?_ | refine klmap hM ?_ | refine kldlog hM ?_ | refine kldw hM ?_ (hn := tC_len _ _ _ _ _ _ _ _ _ _) | refine kldw hM ?_ (hn := dC_len _ _ _) | refine kldw hM ?_ | refine kle hM ?_ | refine klew hM ?_) | ((with_reducible apply is_sto); first | (refine kst hM ?_; intro w hM) | (refine kstw hM ?_; intro w hM)) | ((with_reducible apply is_st); refine su ?_) | ((with_reducible apply is_gd); first | refine gt ?_ | refine gf ?_ | refine gu ?_) | ((with_reducible apply is_en); refine en ?_) | (with_reducible apply c_region) | refine ws ?_ | refine x_block_other (by decide) ?_)
    refine c_condb rfl (fun _ => ?_) (fun h => by cases h)
    repeat (first | ((with_reducible apply is_ld); first | refine kld hM ?_ | refine klrec hM ?_ | refine kllog hM ?_ | refine klmap hM ?_ | refine kldlog hM ?_ | refine kldw hM ?_ (hn := tC_len _ _ _ _ _ _ _ _ _ _) | refine kldw hM ?_ (hn := dC_len _ _ _) | refine kldw hM ?_ | refine kle hM ?_ | refine klew hM ?_) | ((with_reducible apply is_sto); first | (refine kst hM ?_; intro w hM) | (refine kstw hM ?_; intro w hM)) | ((with_reducible apply is_st); refine su ?_) | ((with_reducible apply is_gd); first | refine gt ?_ | refine gf ?_ | refine gu ?_) | ((with_reducible apply is_en); refine en ?_) | (with_reducible apply c_region) | refine ws ?_ | refine x_block_other (by decide) ?_)
    exact out1 rfl ⟨by rw [good17_f (by omega)]; rfl, hM.ch⟩
  rw [decide_eq_false q4]
  repeat (first | ((with_reducible apply is_ld); first | refine kld hM ?_ | refine klrec hM ?_ | refine kllog hM ?_ | refine klmap hM ?_ | refine kldlog hM ?_ | refine kldw hM ?_ (hn := tC_len _ _ _ _ _ _ _ _ _ _) | refine kldw hM ?_ (hn := dC_len _ _ _) | refine kldw hM ?_ | refine kle hM ?_ | refine klew hM ?_) | ((with_reducible apply is_sto); first | (refine kst hM ?_; intro w hM) | (refine kstw hM ?_; intro w hM)) | ((with_reducible apply is_st); refine su ?_) | ((with_reducible apply is_gd); first | refine gt ?_ | refine gf ?_ | refine gu ?_) | ((with_reducible apply is_en); refine en ?_) | (with_reducible apply c_region) | refine ws ?_ | refine x_block_other (by decide) ?_)
  by_cases q5 : (64 : Int) < (path.length : Int)
  · rw [decide_eq_true q5]
    repeat (first | ((with_reducible apply is_ld); first | refine kld hM ?_ | refine klrec hM ?_ | refine kllog hM ?_ | refine klmap hM ?_ | refine kldlog hM ?_ | refine kldw hM ?_ (hn := tC_len _ _ _ _ _ _ _ _ _ _) | refine kldw hM ?_ (hn := dC_len _ _ _) | refine kldw hM ?_ | refine kle hM ?_ | refine klew hM ?_) | ((with_reducible apply is_sto); first | (refine kst hM ?_; intro w hM) | (refine kstw hM ?_; intro w hM)) | ((with_reducible apply is_st); refine su ?_) | ((with_reducible apply is_gd); first | refine gt ?_ | refine gf ?_ | refine gu ?_) | ((with_reducible apply is_en); refine en ?_) | (with_reducible apply c_region) | refine ws ?_ | refine x_block_other (by decide) ?_)
    refine c_condb rfl (fun _ => ?_) (fun h => by cases h)
    repeat (first | ((with_reducible apply is_ld); first | refine kld hM ?_ | refine klrec hM ?_ | refine kllog hM ?_ | refine klmap hM ?_ | refine kldlog hM ?_ | refine kldw hM ?_ (hn := tC_len _ _ _ _ _ _ _ _ _ _) | refine kldw hM ?_ (hn := dC_len _ _ _) | refine kldw hM ?_ | refine kle hM ?_ | refine klew hM ?_) | ((with_reducible apply is_sto); first | (refine kst hM ?_; intro w hM) | (refine kstw hM ?_; intro w hM)) | ((with_reducible apply is_st); refine su ?_) | ((with_reducible apply is_gd); first | refine gt ?_ | refine gf ?_ | refine gu ?_) | ((with_reducible apply is_en); refine en ?_) | (with_reducible apply c_region) | refine ws ?_ | refine x_block_other (by decide) ?_)
    exact out1 rfl ⟨by rw [good17_f (by omega)]; rfl, hM.ch⟩
  rw [decide_eq_false q5]
  repeat (first | ((with_reducible apply is_ld); first | refine kld hM ?_ | refine klrec hM ?_ | refine kllog hM ?_ | refine klmap hM ?_ | refine kldlog hM ?_ | refine kldw hM ?_ (hn := tC_len _ _ _ _ _ _ _ _ _ _) | refine kldw hM ?_ (hn := dC_len _ _ _) | refine kldw hM ?_ | refine kle hM ?_ | refine klew hM ?_) | ((with_reducible apply is_sto); first | (refine kst hM ?_; intro w hM) | (refine kstw hM ?_; intro w hM)) | ((with_reducible apply is_st); refine su ?_) | ((with_reducible apply is_gd); first | refine gt ?_ | refine gf ?_ | refine gu ?_) | ((with_reducible apply is_en); refine en ?_) | (with_reducible apply c_region) | refine ws ?_ | refine x_block_other (by decide) ?_)
  refine c_condb rfl (fun h => by cases h) (fun _ => ?_)
  repeat (first | ((with_reducible apply is_ld); first | refine kld hM ?_ | refine klrec hM ?_ | refine kllog hM ?_ | refine klmap hM ?_ | refine kldlog hM ?_ | refine kldw hM ?_ (hn := tC_len _ _ _ _ _ _ _ _ _ _) | refine kldw hM ?_ (hn := dC_len _ _ _) | refine kldw hM ?_ | refine kle hM ?_ | refine klew hM ?_) | ((with_reducible apply is_sto); first | (refine kst hM ?_; intro w hM) | (refine kstw hM ?_; intro w hM)) | ((with_reducible apply is_st); refine su ?_) | ((with_reducible apply is_gd); first | refine gt ?_ | refine gf ?_ | refine gu ?_) | ((with_reducible apply is_en); refine en ?_) | (with_reducible apply c_region) | refine ws ?_ | refine x_block_other (by decide) ?_)
  have hA1 := hA.m.ch hM.ch
  refine kca hM (recGood_any ses snap strict _ _ us wz _ hA1.r hA1.u hA1.w hk hb) (fun w hM => ?_)
  repeat (first | ((with_reducible apply is_ld); first | refine kld hM ?_ | refine klrec hM ?_ | refine kllog hM ?_ | refine klmap hM ?_ | refine kldlog hM ?_ | refine kldw hM ?_ (hn := tC_len _ _ _ _ _ _ _ _ _ _) | refine kldw hM ?_ (hn := dC_len _ _ _) | refine kldw hM ?_ | refine kle hM ?_ | refine klew hM ?_) | ((with_reducible apply is_sto); first | (refine kst hM ?_; intro w hM) | (refine kstw hM ?_; intro w hM)) | ((with_reducible apply is_st); refine su ?_) | ((with_reducible apply is_gd); first | refine gt ?_ | refine gf ?_ | refine gu ?_) | ((with_reducible apply is_en); refine en ?_) | (with_reducible apply c_region) | refine ws ?_ | refine x_block_other (by decide) ?_)
  exact out1 rfl ⟨by rw [good17_t (by omega)]; rfl, hM.ch⟩
def check17 (a size snap : Int) (lg : Hs) (path : List Hs) (g : Bool) (leaf : Hs) : Bool := good17 a size snap path.length g && checkZ lg size a leaf path
set_option maxHeartbeats 8000000 in
theorem tcheck_any (a ses snap : Int) (strict : Bool) (vr vw vp : Value) (size : Int) (lg mp : Hs) (us : List (RR × List Pr)) (wz : List Pr) (path : List Hs) (w0 : World) (hK : Laid w0) (hA : RctM w0 vr vw vp us wz path) (hk : ShortR us) (hb : ShortL wz) :
    Calls Tryd.prog 9 #[.agg (tC a ses snap strict vr vw vp size lg mp).toArray] w0 (Ret fun u w' => u = .bool (check17 a size snap lg path (recGood ses snap strict us wz) (leafHs (bytesB ses snap strict us wz))) ∧ Ch [] w0 w') := by
  have hM := Mem.start w0
  have hle := hA.p.le
  obtain ⟨A, c, rfl⟩ := hA.m.r.form
  obtain ⟨A2, c2, rfl⟩ := hA.m.w.form
  obtain ⟨A3, c3, rfl⟩ := hA.p.form
  unfold check17
  refine enter [.agg (tC a ses snap strict (.slice A (us.map (fun u : RR × List Pr => u.1)).length c) (.slice A2 wz.length c2) (.slice A3 path.length c3) size lg mp).toArray, undef, undef, undef, undef, undef, undef, undef, undef, undef, undef, undef, undef, undef, undef, undef, undef, undef, undef, undef, undef] Tryd.func9 rfl rfl ?_
  repeat (first | ((with_reducible apply is_ld); first | refine kld hM ?_ | refine kldw hM ?_ | refine kle hM ?_ | refine klew hM ?_) | ((with_reducible apply is_sto); first | (refine kst hM ?_; intro w hM) | (refine kstw hM ?_; intro w hM)) | ((with_reducible apply is_st); refine su ?_) | ((with_reducible apply is_gd); first | refine gt ?_ | refine gf ?_ | refine gu ?_) | ((with_reducible apply is_en); refine en ?_) | (with_reducible apply c_region) | refine ws ?_ | refine x_block_other (by decide) ?_)
  refine kbx hM (fun w b1 hM => ?_)
  have hM : Mem [] w0 w [.cell b1 (tC a ses snap strict (.slice A (us.map (fun u : RR × List Pr => u.1)).length c) (.slice A2 wz.length c2) (.slice A3 path.length c3) size lg mp) 32] := hM
  repeat (first | ((with_reducible apply is_ld); first | refine kld hM ?_ | refine klrec hM ?_ | refine kllog hM ?_ | refine klmap hM ?_ | refine kldlog hM ?_ | refine kldw hM ?_ (hn := tC_len _ _ _ _ _ _ _ _ _ _) | refine kldw hM ?_ (hn := dC_len _ _ _) | refine kldw hM ?_ | refine kle hM ?_ | refine klew hM ?_) | ((with_reducible apply is_sto); first | (refine kst hM ?_; intro w hM) | (refine kstw hM ?_; intro w hM)) | ((with_reducible apply is_st); refine su ?_) | ((with_reducible apply is_gd); first | refine gt ?_ | refine gf ?_ | refine gu ?_) | ((with_reducible apply is_en); refine en ?_) | refine ws ?_ | refine x_block_other (by decide) ?_)
  refine c_ordY ([], []) [] (by kernel_rfl) (by kernel_rfl) (by kernel_rfl) (fun w hc hs => ?_)
  have hM := hM.call hc
  have hl1 := Blk.lt (hM.blk (b := b1) (by (repeat constructor)))
  refine ynlr 0 rfl (hM.blk (b := b1) (by (repeat constructor))) (by omega) (by simp) rfl (ds := tC a ses snap strict (.slice A (us.map (fun u : RR × List Pr => u.1)).length c) (.slice A2 wz.length c2) (.slice A3 path.length c3) size lg mp) (by rw [List.drop_zero]; exact List.take_of_length_le (by rw [tC_len]; omega)) (tC_len _ _ _ _ _ _ _ _ _ _) ?_
  refine yk1 1 hM (by kernel_rfl) rfl (fun w h0 hM => ?_)
  refine ca (tgood_any a ses snap strict _ _ _ size lg mp us wz path _ (hA.ch hM.ch) hk hb) ?_
  rintro _ w2 ⟨rfl, hc⟩
  have hM := hM.call hc
  refine x_wy (.inl (hc.gy h0)) rfl ?_
  (first | refine yn 2 rfl ?_ | refine ynt 2 rfl ?_ | refine ynff 2 rfl ?_)
  cases hg : good17 a size snap path.length (recGood ses snap strict us wz) with
  | false =>
    (first | refine yn 3 rfl ?_ | refine ynt 3 rfl ?_ | refine ynff 3 rfl ?_); (first | refine yn 4 rfl ?_ | refine ynt 4 rfl ?_ | refine ynff 4 rfl ?_); (first | refine yn 5 rfl ?_ | refine ynt 5 rfl ?_ | refine ynff 5 rfl ?_); (first | refine yn 6 rfl ?_ | refine ynt 6 rfl ?_ | refine ynff 6 rfl ?_); (first | refine yn 7 rfl ?_ | refine ynt 7 rfl ?_ | refine ynff 7 rfl ?_); (first | refine yn 8 rfl ?_ | refine ynt 8 rfl ?_ | refine ynff 8 rfl ?_); (first | refine yn 9 rfl ?_ | refine ynt 9 rfl ?_ | refine ynff 9 rfl ?_); (first | refine yn 10 rfl ?_ | refine ynt 10 rfl ?_ | refine ynff 10 rfl ?_); (first | refine yn 11 rfl ?_ | refine ynt 11 rfl ?_ | refine ynff 11 rfl ?_); (first | refine yn 12 rfl ?_ | refine ynt 12 rfl ?_ | refine ynff 12 rfl ?_); (first | refine yn 13 rfl ?_ | refine ynt 13 rfl ?_ | refine ynff 13 rfl ?_); (first | refine yn 14 rfl ?_ | refine ynt 14 rfl ?_ | refine ynff 14 rfl ?_); (first | refine yn 15 rfl ?_ | refine ynt 15 rfl ?_ | refine ynff 15 rfl ?_); (first | refine yn 16 rfl ?_ | refine ynt 16 rfl ?_ | refine ynff 16 rfl ?_); (first | refine yn 17 rfl ?_ | refine ynt 17 rfl ?_ | refine ynff 17 rfl ?_); (first | refine yn 18 rfl ?_ | refine ynt 18 rfl ?_ | refine ynff 18 rfl ?_)
    refine wy_done (by kernel_rfl) (fun w hc => ?_)
    have hM := hM.call hc
    repeat (first | ((with_reducible apply is_ld); first | refine kld hM ?_ | refine kldw hM ?_ | refine kle hM ?_ | refine klew hM ?_) | ((with_reducible apply is_sto); first | (refine kst hM ?_; intro w hM) | (refine kstw hM ?_; intro w hM)) | ((with_reducible apply is_st); refine su ?_) | ((with_reducible apply is_gd); first | refine gt ?_ | refine gf ?_ | refine gu ?_) | ((with_reducible apply is_en); refine en ?_) | (with_reducible apply c_region) | refine ws ?_ | refine x_block_other (by decide) ?_)
    exact out1 rfl ⟨rfl, hM.ch⟩
  | true =>
    (first | refine yn 3 rfl ?_ | refine ynt 3 rfl ?_ | refine ynff 3 rfl ?_); (first | refine yn 4 rfl ?_ | refine ynt 4 rfl ?_ | refine ynff 4 rfl ?_)
    refine ynlrt 5 rfl (hM.blk (b := b1) (by (repeat constructor))) (by omega) (by simp) (ds := lg.1.map u8v) (tC_log _ _ _ _ _ _ _ _ _ _) (h32 lg) ?_
    (first | refine yn 6 rfl ?_ | refine ynt 6 rfl ?_ | refine ynff 6 rfl ?_); (first | refine yn 7 rfl ?_ | refine ynt 7 rfl ?_ | refine ynff 7 rfl ?_)
    refine ynlt 8 rfl (hM.blk (b := b1) (by (repeat constructor))) (by omega) (by simp) rfl ?_
    (first | refine yn 9 rfl ?_ | refine ynt 9 rfl ?_ | refine ynff 9 rfl ?_)
    refine ynlt 10 rfl (hM.blk (b := b1) (by (repeat constructor))) (by omega) (by simp) rfl ?_
    (first | refine yn 11 rfl ?_ | refine ynt 11 rfl ?_ | refine ynff 11 rfl ?_)
    refine ynlrt 12 rfl (hM.blk (b := b1) (by (repeat constructor))) (by omega) (by simp) (ds := rC ses snap strict (.slice A (us.map (fun u : RR × List Pr => u.1)).length c) (.slice A2 wz.length c2)) rfl rfl ?_
    (first | refine yn 14 rfl ?_ | refine ynt 14 rfl ?_ | refine ynff 14 rfl ?_)
    refine ynlt 15 rfl (hM.blk (b := b1) (by (repeat constructor))) (by omega) (by simp) rfl ?_
    refine yk1 13 hM (by kernel_rfl) rfl (fun w h0 hM => ?_)
    refine gt ?_
    refine ca (recLeaf_any ses snap strict _ _ us wz _ (hK.ch hM.ch (by simp)) (hA.m.ch hM.ch) hk hb) ?_
    rintro _ w3 ⟨rfl, hc⟩
    have hM := hM.call hc
    refine x_wy (.inl (hc.gy h0)) rfl ?_
    refine yk1 16 hM (by kernel_rfl) rfl (fun w h0 hM => ?_)
    refine gt ?_
    refine ca (check_any lg size a (leafHs (bytesB ses snap strict us wz)) _ path _ (hK.ch hM.ch (by simp)) (hA.p.ch hM.ch)) ?_
    rintro _ w4 ⟨rfl, hc⟩
    have hM := hM.call hc
    refine x_wy (.inl (hc.gy h0)) rfl ?_
    (first | refine yn 17 rfl ?_ | refine ynt 17 rfl ?_ | refine ynff 17 rfl ?_); (first | refine yn 18 rfl ?_ | refine ynt 18 rfl ?_ | refine ynff 18 rfl ?_)
    refine wy_done (by kernel_rfl) (fun w hc => ?_)
    have hM := hM.call hc
    repeat (first | ((with_reducible apply is_ld); first | refine kld hM ?_ | refine kldw hM ?_ | refine kle hM ?_ | refine klew hM ?_) | ((with_reducible apply is_sto); first | (refine kst hM ?_; intro w hM) | (refine kstw hM ?_; intro w hM)) | ((with_reducible apply is_st); refine su ?_) | ((with_reducible apply is_gd); first | refine gt ?_ | refine gf ?_ | refine gu ?_) | ((with_reducible apply is_en); refine en ?_) | (with_reducible apply c_region) | refine ws ?_ | refine x_block_other (by decide) ?_)
    exact out1 rfl ⟨rfl, hM.ch⟩
end Go.Proofs.YtkpkfplcoakfcaaDoor

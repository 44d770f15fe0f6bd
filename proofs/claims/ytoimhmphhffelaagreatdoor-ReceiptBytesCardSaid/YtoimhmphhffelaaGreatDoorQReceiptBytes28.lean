/- Walks of law 17: receipts in memory; whether one may be, is borne out, by a later digest, both.
   Walks of law 17: the document's examples; what is looked at; the law ReceiptChecks, the law ReceiptLies. -/
import Derived.Test.YtoimhmphhffelaaGreatDoorQReceiptBytes15
import Derived.Test.YtoimhmphhffelaaGreatDoorQReceiptBytes26
import Derived.Test.YtoimhmphhffelaaGreatDoorQReceiptBytes27
import Derived.Test.YtoimhmphhffelaaGreatDoorQReceiptBytes00
import Derived.Test.YtoimhmphhffelaaGreatDoorQReceiptBytes13
set_option linter.unusedVariables false
set_option linter.unusedSimpArgs false
namespace Go.Proofs.E
open Go Go.RowKit
section
variable {P : Program} {ops : Array Oper} {N : Nat} {S : List Nat} {Q : Exit → Act → World → Prop} {z : List Nat × List Nat} {fuel : Nat} {listed : Array Bool} {l : List Value} {w : World} {T : TypeId} {pos : String} {after : Array Edge}
/-- A load of one cell, guarded. -/
theorem ynlt {x : Operand} {E E' : TypeId} {b o d j tg : Nat} {g : Bool} {cs : List Value} {v : Value} [hr1 : One P E] (k : Nat) (ho : ops[k]? = some { dst := some d, op := .load E x, type := T, pos := pos, after := after, guard := some (j, g) }) (hB : Blk w b cs E') (hlt : b < N) (hS : b ∉ S) (hv : cs[o]? = some v)
    (h : WY P ops N S Q z fuel (listed.setIfInBounds k true) (fr (l.set d v)) w) (hx : ev l x = .pointer (some ⟨b, o, none⟩) := by exact rfl) (hj : (ops[j]?).bind (·.dst) = some tg := by exact rfl) (hvv : ev l (.tmp tg) = .bool g := by exact rfl) (hlg : tg < l.length := by exact Nat.le_of_ble_eq_true rfl) (hr : (Region.ready .any ops listed).contains k = true := by kernel_rfl) (hf : Region.free .any ops listed k = true := by kernel_rfl) (hnf : k ∉ z.2 := by decide) : WY P ops N S Q z (fuel + 1) listed (fr l) w :=
  ynvt (hnf := hnf) k ho hr hf hj hvv hlg rfl (fun w1 hG => r_load_one hx ((hB.bw hG hlt hS).cell hv)) rfl h
end
end Go.Proofs.E
namespace Go.Proofs.YtoimhmphhffelaaGreatDoor
open Go Go.RowKit Go.Proofs.E
attribute [local irreducible] Go.wpList Go.Code.wp Go.Proofs.E.exec Go.Proofs.E.wpLexG
abbrev tC (a ses snap : Int) (strict : Bool) (vr vw vp : Value) (size : Int) (lg mp : Hs) : List Value := .int .i64 a :: .int .i64 ses :: .int .i64 snap :: .bool strict :: vr :: vw :: vp :: .int .i64 size :: (lg.1.map u8v ++ mp.1.map u8v)
abbrev dC (size : Int) (lg mp : Hs) : List Value := .int .i64 size :: (lg.1.map u8v ++ mp.1.map u8v)
theorem h32 (h : Hs) : (h.1.map u8v).length = 32 := by rw [List.length_map]; exact h.2
theorem tC_len (a ses snap : Int) (strict : Bool) (vr vw vp : Value) (size : Int) (lg mp : Hs) : (tC a ses snap strict vr vw vp size lg mp).length = 72 := by simp [lg.2, mp.2]
theorem dC_len (size : Int) (lg mp : Hs) : (dC size lg mp).length = 65 := by simp [lg.2, mp.2]
theorem tC_log (a ses snap : Int) (strict : Bool) (vr vw vp : Value) (size : Int) (lg mp : Hs) : ((tC a ses snap strict vr vw vp size lg mp).drop 8).take 32 = lg.1.map u8v := List.take_left' (h32 lg)
theorem tC_map (a ses snap : Int) (strict : Bool) (vr vw vp : Value) (size : Int) (lg mp : Hs) : ((tC a ses snap strict vr vw vp size lg mp).drop 40).take 32 = mp.1.map u8v := by
  show ((lg.1.map u8v ++ mp.1.map u8v).drop 32).take 32 = _
  rw [List.drop_left' (h32 lg)]
  exact List.take_of_length_le (by rw [h32]; omega)
theorem dC_log (size : Int) (lg mp : Hs) : ((dC size lg mp).drop 1).take 32 = lg.1.map u8v := List.take_left' (h32 lg)
section
variable {P : Program} {ops : Array Oper} {Q : Exit → Act → World → Prop} {rest : List Oper} {l l' : List Value} {O : List Nat} {w0 w : World} {L L' : List As} {T : TypeId} {pos : String} {after : Array Edge}
/-- Loads of a receipt's parts. -/
theorem klrec {d : Nat} {x : Operand} {E E' : TypeId} {b by_ : Nat} {z : Value} {a ses snap : Int} {strict : Bool} {vr vw vp : Value} {size : Int} {lg mp : Hs} [hr : Row P E] [hi : Inf P E z 5 by_] (hM : Mem O w0 w L) (h : wpList P ops Q rest (fr l') w)
    (hx : ev l x = .pointer (some ⟨b, 1, none⟩) := by exact rfl) (hp : Pick L (.cell b (tC a ses snap strict vr vw vp size lg mp) E') L' := by (repeat (first | exact Go.Proofs.E.Pick.here | apply Go.Proofs.E.Pick.there)))
    (hl : l.set d (.agg (rC ses snap strict vr vw).toArray) = l' := by first | (dsimp only [List.set, Go.Proofs.E.set1, Go.Proofs.E.ev, Go.Proofs.E.nth]; done) | exact rfl) :
    wpList P ops Q ({ dst := some d, op := .load E x, type := T, pos := pos, after := after, guard := none } :: rest) (fr l) w := by
  subst hl
  exact kldp (rC ses snap strict vr vw) hM rfl h hx hp rfl rfl
theorem kllog {d : Nat} {x : Operand} {E E' : TypeId} {b by_ : Nat} {z : Value} {a ses snap : Int} {strict : Bool} {vr vw vp : Value} {size : Int} {lg mp : Hs} [hr : Row P E] [hi : Inf P E z 32 by_] (hM : Mem O w0 w L) (h : wpList P ops Q rest (fr l') w)
    (hx : ev l x = .pointer (some ⟨b, 8, none⟩) := by exact rfl) (hp : Pick L (.cell b (tC a ses snap strict vr vw vp size lg mp) E') L' := by (repeat (first | exact Go.Proofs.E.Pick.here | apply Go.Proofs.E.Pick.there)))
    (hl : l.set d (.agg (lg.1.map u8v).toArray) = l' := by first | (dsimp only [List.set, Go.Proofs.E.set1, Go.Proofs.E.ev, Go.Proofs.E.nth]; done) | exact rfl) :
    wpList P ops Q ({ dst := some d, op := .load E x, type := T, pos := pos, after := after, guard := none } :: rest) (fr l) w := by
  subst hl
  exact kldp (lg.1.map u8v) hM (tC_log _ _ _ _ _ _ _ _ _ _) h hx hp (h32 lg) rfl
theorem klmap {d : Nat} {x : Operand} {E E' : TypeId} {b by_ : Nat} {z : Value} {a ses snap : Int} {strict : Bool} {vr vw vp : Value} {size : Int} {lg mp : Hs} [hr : Row P E] [hi : Inf P E z 32 by_] (hM : Mem O w0 w L) (h : wpList P ops Q rest (fr l') w)
    (hx : ev l x = .pointer (some ⟨b, 40, none⟩) := by exact rfl) (hp : Pick L (.cell b (tC a ses snap strict vr vw vp size lg mp) E') L' := by (repeat (first | exact Go.Proofs.E.Pick.here | apply Go.Proofs.E.Pick.there)))
    (hl : l.set d (.agg (mp.1.map u8v).toArray) = l' := by first | (dsimp only [List.set, Go.Proofs.E.set1, Go.Proofs.E.ev, Go.Proofs.E.nth]; done) | exact rfl) :
    wpList P ops Q ({ dst := some d, op := .load E x, type := T, pos := pos, after := after, guard := none } :: rest) (fr l) w := by
  subst hl
  exact kldp (mp.1.map u8v) hM (tC_map _ _ _ _ _ _ _ _ _ _) h hx hp (h32 mp) rfl
theorem kldlog {d : Nat} {x : Operand} {E E' : TypeId} {b by_ : Nat} {z : Value} {size : Int} {lg mp : Hs} [hr : Row P E] [hi : Inf P E z 32 by_] (hM : Mem O w0 w L) (h : wpList P ops Q rest (fr l') w)
    (hx : ev l x = .pointer (some ⟨b, 1, none⟩) := by exact rfl) (hp : Pick L (.cell b (dC size lg mp) E') L' := by (repeat (first | exact Go.Proofs.E.Pick.here | apply Go.Proofs.E.Pick.there)))
    (hl : l.set d (.agg (lg.1.map u8v).toArray) = l' := by first | (dsimp only [List.set, Go.Proofs.E.set1, Go.Proofs.E.ev, Go.Proofs.E.nth]; done) | exact rfl) :
    wpList P ops Q ({ dst := some d, op := .load E x, type := T, pos := pos, after := after, guard := none } :: rest) (fr l) w := by
  subst hl
  exact kldp (lg.1.map u8v) hM (dC_log _ _ _) h hx hp (h32 lg) rfl
end
theorem gr {G H : Prop} (h : H) (s : Hd H → G := by
  intro h
  (first | ((with_reducible apply is_ld); first | refine kld hM ?_ | refine klrec hM ?_ | refine kllog hM ?_ | refine klmap hM ?_ | refine kldlog hM ?_ | refine kldw hM ?_ (hn := tC_len _ _ _ _ _ _ _ _ _ _) | refine kldw hM ?_ (hn := dC_len _ _ _) | refine kldw hM ?_ | refine kle hM ?_ | refine klew hM ?_) | ((with_reducible apply is_st); refine su ?_) | ((with_reducible apply is_gd); first | refine gt ?_ | refine gf ?_ | refine gu ?_) | ((with_reducible apply is_en); refine en ?_) | (with_reducible apply c_region) | refine ws ?_ | refine x_block_other (by decide) ?_ | fail)
  repeat (first | ((with_reducible apply is_ld); first | refine kld hM ?_ | refine klrec hM ?_ | refine kllog hM ?_ | refine klmap hM ?_ | refine kldlog hM ?_ | refine kldw hM ?_ (hn := tC_len _ _ _ _ _ _ _ _ _ _) | refine kldw hM ?_ (hn := dC_len _ _ _) | refine kldw hM ?_ | refine kle hM ?_ | refine klew hM ?_) | ((with_reducible apply is_st); refine su ?_) | ((with_reducible apply is_gd); first | refine gt ?_ | refine gf ?_ | refine gu ?_) | ((with_reducible apply is_en); refine en ?_) | (with_reducible apply c_region) | refine ws ?_ | refine x_block_other (by decide) ?_)
  exact h.out) : G := s ⟨h⟩
theorem grb {G H : Prop} (h : H) (s : Hd H → G := by
  intro h
  (first | ((with_reducible apply is_ld); first | refine kld hM ?_ | refine klrec hM ?_ | refine kllog hM ?_ | refine klmap hM ?_ | refine kldlog hM ?_ | refine kldw hM ?_ (hn := tC_len _ _ _ _ _ _ _ _ _ _) | refine kldw hM ?_ (hn := dC_len _ _ _) | refine kldw hM ?_ | refine kle hM ?_ | refine klew hM ?_) | ((with_reducible apply is_st); refine su ?_) | ((with_reducible apply is_gd); first | refine gt ?_ | refine gf ?_ | refine gu ?_) | ((with_reducible apply is_en); refine en ?_) | refine ws ?_ | refine x_block_other (by decide) ?_ | fail)
  repeat (first | ((with_reducible apply is_ld); first | refine kld hM ?_ | refine klrec hM ?_ | refine kllog hM ?_ | refine klmap hM ?_ | refine kldlog hM ?_ | refine kldw hM ?_ (hn := tC_len _ _ _ _ _ _ _ _ _ _) | refine kldw hM ?_ (hn := dC_len _ _ _) | refine kldw hM ?_ | refine kle hM ?_ | refine klew hM ?_) | ((with_reducible apply is_st); refine su ?_) | ((with_reducible apply is_gd); first | refine gt ?_ | refine gf ?_ | refine gu ?_) | ((with_reducible apply is_en); refine en ?_) | refine ws ?_ | refine x_block_other (by decide) ?_)
  exact h.out) : G := s ⟨h⟩
def good17 (a size snap : Int) (plen : Nat) (g : Bool) : Bool := decide (0 ≤ a ∧ a ≤ 1099511627776 ∧ size = a + 1 ∧ snap ≤ a ∧ plen ≤ 64) && g
theorem good17_f {a size snap : Int} {plen : Nat} {g : Bool} (h : ¬ (0 ≤ a ∧ a ≤ 1099511627776 ∧ size = a + 1 ∧ snap ≤ a ∧ plen ≤ 64)) : good17 a size snap plen g = false := by
  unfold good17
  rw [decide_eq_false h, Bool.false_and]
theorem good17_t {a size snap : Int} {plen : Nat} {g : Bool} (h : 0 ≤ a ∧ a ≤ 1099511627776 ∧ size = a + 1 ∧ snap ≤ a ∧ plen ≤ 64) : good17 a size snap plen g = g := by
  unfold good17
  rw [decide_eq_true h, Bool.true_and]
theorem good17_g {a size snap : Int} {plen : Nat} : good17 a size snap plen false = false := by
  unfold good17
  rw [Bool.and_false]
def leafHs (bs : List UInt8) : Hs := ⟨leafOf bs, leafOf_len bs⟩
structure RctM (w : World) (vr vw vp : Value) (us : List (RR × List Pr)) (wz : List Pr) (path : List Hs) : Prop where
  m : RecM w vr vw us wz
  p : (Ty.enc eH).Rd [] w vp path
theorem RctM.ch {w w' : World} {vr vw vp : Value} {us : List (RR × List Pr)} {wz : List Pr} {path : List Hs} (h : RctM w vr vw vp us wz path) (hc : Ch [] w w') : RctM w' vr vw vp us wz path := ⟨h.m.ch hc, h.p.ch hc⟩
set_option maxHeartbeats 8000000 in
theorem tgood_any (a ses snap : Int) (strict : Bool) (vr vw vp : Value) (size : Int) (lg mp : Hs) (us : List (RR × List Pr)) (wz : List Pr) (path : List Hs) (w0 : World) (hA : RctM w0 vr vw vp us wz path) (hk : ShortR us) (hb : ShortL wz) :
    Calls Tryz.prog 44 #[.agg (tC a ses snap strict vr vw vp size lg mp).toArray] w0 (Ret fun u w' => u = .bool (good17 a size snap path.length (recGood ses snap strict us wz)) ∧ Ch [] w0 w') := by
  have hM := Mem.start w0
  have hle := hA.p.le
  obtain ⟨A, c, rfl⟩ := hA.m.r.form
  obtain ⟨A2, c2, rfl⟩ := hA.m.w.form
  obtain ⟨A3, c3, rfl⟩ := hA.p.form
  refine enter [.agg (tC a ses snap strict (.slice A (us.map (fun u : RR × List Pr => u.1)).length c) (.slice A2 wz.length c2) (.slice A3 path.length c3) size lg mp).toArray, undef, undef, undef, undef, undef, undef, undef, undef, undef, undef, undef, undef, undef, undef, undef, undef, undef, undef, undef, undef, undef, undef, undef, undef, undef, undef, undef, undef, undef, undef, undef, undef, undef, undef, undef, undef] Tryz.func44 rfl rfl ?_
  repeat (first | refine gw ?_ | (refine ks ?_; intro w hM))
  refine kbx hM (fun w b1 hM => ?_)
  have hM : Mem [] w0 w [.cell b1 (tC a ses snap strict (.slice A (us.map (fun u : RR × List Pr => u.1)).length c) (.slice A2 wz.length c2) (.slice A3 path.length c3) size lg mp) 32] := hM
  repeat (first | refine gr ?_ | (refine ks ?_; intro w hM))
  by_cases q1 : a < 0
  · rw [decide_eq_true q1]
    repeat (first | refine gr ?_ | (refine ks ?_; intro w hM))
    refine c_condb rfl (fun _ => ?_) (fun h => by cases h)
    repeat (first | refine gr ?_ | (refine ks ?_; intro w hM))
    exact out1 rfl ⟨by rw [good17_f (by omega)]; rfl, hM.ch⟩
  rw [decide_eq_false q1]
  repeat (first | refine gr ?_ | (refine ks ?_; intro w hM))
  by_cases q2 : 1099511627776 < a
  · rw [decide_eq_true q2]
    repeat (first | refine gr ?_ | (refine ks ?_; intro w hM))
    refine c_condb rfl (fun _ => ?_) (fun h => by cases h)
    repeat (first | refine gr ?_ | (refine ks ?_; intro w hM))
    exact out1 rfl ⟨by rw [good17_f (by omega)]; rfl, hM.ch⟩
  rw [decide_eq_false q2]
  repeat (first | refine gr ?_ | (refine ks ?_; intro w hM))
  by_cases q3 : size ≠ a + 1
  · rw [decide_eq_true q3]
    repeat (first | refine gr ?_ | (refine ks ?_; intro w hM))
    refine c_condb rfl (fun _ => ?_) (fun h => by cases h)
    repeat (first | refine gr ?_ | (refine ks ?_; intro w hM))
    exact out1 rfl ⟨by rw [good17_f (by omega)]; rfl, hM.ch⟩
  rw [decide_eq_false q3]
  repeat (first | refine gr ?_ | (refine ks ?_; intro w hM))
  by_cases q4 : a < snap
  · rw [decide_eq_true q4]
    repeat (first | refine gr ?_ | (refine ks ?_; intro w hM))
    refine c_condb rfl (fun _ => ?_) (fun h => by cases h)
    repeat (first | refine gr ?_ | (refine ks ?_; intro w hM))
    exact out1 rfl ⟨by rw [good17_f (by omega)]; rfl, hM.ch⟩
  rw [decide_eq_false q4]
  repeat (first | refine gr ?_ | (refine ks ?_; intro w hM))
  by_cases q5 : (64 : Int) < (path.length : Int)
  · rw [decide_eq_true q5]
    repeat (first | refine gr ?_ | (refine ks ?_; intro w hM))
    refine c_condb rfl (fun _ => ?_) (fun h => by cases h)
    repeat (first | refine gr ?_ | (refine ks ?_; intro w hM))
    exact out1 rfl ⟨by rw [good17_f (by omega)]; rfl, hM.ch⟩
  rw [decide_eq_false q5]
  repeat (first | refine gr ?_ | (refine ks ?_; intro w hM))
  refine c_condb rfl (fun h => by cases h) (fun _ => ?_)
  repeat (first | refine gr ?_ | (refine ks ?_; intro w hM))
  have hA1 := hA.m.ch hM.ch
  refine kca hM (recGood_any ses snap strict _ _ us wz _ hA1.r hA1.u hA1.w hk hb) (fun w hM => ?_)
  repeat (first | refine gr ?_ | (refine ks ?_; intro w hM))
  exact out1 rfl ⟨by rw [good17_t (by omega)]; rfl, hM.ch⟩
set_option maxHeartbeats 8000000 in
theorem rtgood_any (a ses snap : Int) (strict : Bool) (vr vw vp : Value) (size : Int) (lg mp : Hs) (us : List (RR × List Pr)) (wz : List Pr) (path : List Hs) (w0 : World) (hA : RctM w0 vr vw vp us wz path) (hk : ShortR us) (hb : ShortL wz) :
    Calls Tryz.prog 49 #[.agg (tC a ses snap strict vr vw vp size lg mp).toArray] w0 (Ret fun u w' => u = .bool (good17 a size snap path.length (recGood ses snap strict us wz)) ∧ Ch [] w0 w') := by
  have hM := Mem.start w0
  have hle := hA.p.le
  obtain ⟨A, c, rfl⟩ := hA.m.r.form
  obtain ⟨A2, c2, rfl⟩ := hA.m.w.form
  obtain ⟨A3, c3, rfl⟩ := hA.p.form
  refine enter [.agg (tC a ses snap strict (.slice A (us.map (fun u : RR × List Pr => u.1)).length c) (.slice A2 wz.length c2) (.slice A3 path.length c3) size lg mp).toArray, undef, undef, undef, undef, undef, undef, undef, undef, undef, undef, undef, undef, undef, undef, undef, undef, undef, undef, undef, undef, undef, undef, undef, undef, undef, undef, undef, undef, undef, undef, undef, undef, undef, undef, undef, undef, undef, undef] Tryz.func49 rfl rfl ?_
  repeat (first | refine gw ?_ | (refine ks ?_; intro w hM))
  refine kbx hM (fun w b1 hM => ?_)
  have hM : Mem [] w0 w [.cell b1 (tC a ses snap strict (.slice A (us.map (fun u : RR × List Pr => u.1)).length c) (.slice A2 wz.length c2) (.slice A3 path.length c3) size lg mp) 32] := hM
  repeat (first | refine gr ?_ | (refine ks ?_; intro w hM))
  have hA1 := hA.m.ch hM.ch
  refine kca hM (rgood16_any ses snap strict _ _ us wz _ hA1.r hA1.u hA1.w hk hb) (fun w hM => ?_)
  cases hg : recGood ses snap strict us wz with
  | false =>
    repeat (first | refine gr ?_ | (refine ks ?_; intro w hM))
    exact out1 rfl ⟨by rw [good17_g]; rfl, hM.ch⟩
  | true =>
  repeat (first | refine gr ?_ | (refine ks ?_; intro w hM))
  by_cases q1 : 0 ≤ a
  rotate_left
  · rw [decide_eq_false q1]
    repeat (first | refine gr ?_ | (refine ks ?_; intro w hM))
    exact out1 rfl ⟨by rw [good17_f (by omega)]; rfl, hM.ch⟩
  rw [decide_eq_true q1]
  repeat (first | refine gr ?_ | (refine ks ?_; intro w hM))
  by_cases q2 : a ≤ 1099511627776
  rotate_left
  · rw [decide_eq_false q2]
    repeat (first | refine gr ?_ | (refine ks ?_; intro w hM))
    exact out1 rfl ⟨by rw [good17_f (by omega)]; rfl, hM.ch⟩
  rw [decide_eq_true q2]
  repeat (first | refine gr ?_ | (refine ks ?_; intro w hM))
  by_cases q3 : size = a + 1
  rotate_left
  · rw [decide_eq_false q3]
    repeat (first | refine gr ?_ | (refine ks ?_; intro w hM))
    exact out1 rfl ⟨by rw [good17_f (by omega)]; rfl, hM.ch⟩
  rw [decide_eq_true q3]
  repeat (first | refine gr ?_ | (refine ks ?_; intro w hM))
  by_cases q4 : snap ≤ a
  rotate_left
  · rw [decide_eq_false q4]
    repeat (first | refine gr ?_ | (refine ks ?_; intro w hM))
    exact out1 rfl ⟨by rw [good17_f (by omega)]; rfl, hM.ch⟩
  rw [decide_eq_true q4]
  repeat (first | refine gr ?_ | (refine ks ?_; intro w hM))
  by_cases q5 : (path.length : Int) ≤ 64
  rotate_left
  · rw [decide_eq_false q5]
    repeat (first | refine gr ?_ | (refine ks ?_; intro w hM))
    exact out1 rfl ⟨by rw [good17_f (by omega)]; rfl, hM.ch⟩
  rw [decide_eq_true q5]
  repeat (first | refine gr ?_ | (refine ks ?_; intro w hM))
  exact out1 rfl ⟨by rw [good17_t (by omega)]; rfl, hM.ch⟩
def check17 (a size snap : Int) (lg : Hs) (path : List Hs) (g : Bool) (leaf : Hs) : Bool := good17 a size snap path.length g && checkZ lg size a leaf path
set_option maxHeartbeats 8000000 in
theorem tcheck_any (a ses snap : Int) (strict : Bool) (vr vw vp : Value) (size : Int) (lg mp : Hs) (us : List (RR × List Pr)) (wz : List Pr) (path : List Hs) (w0 : World) (hK : Laid w0) (hA : RctM w0 vr vw vp us wz path) (hk : ShortR us) (hb : ShortL wz) :
    Calls Tryz.prog 38 #[.agg (tC a ses snap strict vr vw vp size lg mp).toArray] w0 (Ret fun u w' => u = .bool (check17 a size snap lg path (recGood ses snap strict us wz) (leafHs (bytesB ses snap strict us wz))) ∧ Ch [] w0 w') := by
  have hM := Mem.start w0
  have hle := hA.p.le
  obtain ⟨A, c, rfl⟩ := hA.m.r.form
  obtain ⟨A2, c2, rfl⟩ := hA.m.w.form
  obtain ⟨A3, c3, rfl⟩ := hA.p.form
  unfold check17
  refine enter [.agg (tC a ses snap strict (.slice A (us.map (fun u : RR × List Pr => u.1)).length c) (.slice A2 wz.length c2) (.slice A3 path.length c3) size lg mp).toArray, undef, undef, undef, undef, undef, undef, undef, undef, undef, undef, undef, undef, undef, undef, undef, undef, undef, undef, undef, undef] Tryz.func38 rfl rfl ?_
  repeat (first | refine gw ?_ | (refine ks ?_; intro w hM))
  refine kbx hM (fun w b1 hM => ?_)
  have hM : Mem [] w0 w [.cell b1 (tC a ses snap strict (.slice A (us.map (fun u : RR × List Pr => u.1)).length c) (.slice A2 wz.length c2) (.slice A3 path.length c3) size lg mp) 32] := hM
  repeat (first | refine grb ?_ | (refine ks ?_; intro w hM))
  refine c_ordY ([], []) [] (by kernel_rfl) (by kernel_rfl) (by kernel_rfl) (fun w hc hs => ?_)
  have hM := hM.call hc
  have hl1 := Blk.lt (hM.blk (b := b1) (by (repeat constructor)))
  refine ynlr 0 rfl (hM.blk (b := b1) (by (repeat constructor))) (by omega) (by simp) rfl (ds := tC a ses snap strict (.slice A (us.map (fun u : RR × List Pr => u.1)).length c) (.slice A2 wz.length c2) (.slice A3 path.length c3) size lg mp) (by rw [List.drop_zero]; exact List.take_of_length_le (by rw [tC_len]; omega)) (tC_len _ _ _ _ _ _ _ _ _ _) ?_
  refine yk1 1 hM (by kernel_rfl) rfl (fun w h0 hM => ?_)
  refine ca (tgood_any a ses snap strict _ _ _ size lg mp us wz path _ (hA.ch hM.ch) hk hb) ?_
  rintro _ w2 ⟨rfl, hc⟩
  have hM := hM.call hc
  refine x_wy (.inl (hc.gy h0)) rfl ?_
  (first | refine yn 2 rfl ?_ | refine ynt 2 rfl ?_ | refine ynff 2 rfl ?_)
  cases hg : good17 a size snap path.length (recGood ses snap strict us wz) with
  | false =>
    (first | refine yn 3 rfl ?_ | refine ynt 3 rfl ?_ | refine ynff 3 rfl ?_); (first | refine yn 4 rfl ?_ | refine ynt 4 rfl ?_ | refine ynff 4 rfl ?_); (first | refine yn 5 rfl ?_ | refine ynt 5 rfl ?_ | refine ynff 5 rfl ?_); (first | refine yn 6 rfl ?_ | refine ynt 6 rfl ?_ | refine ynff 6 rfl ?_); (first | refine yn 7 rfl ?_ | refine ynt 7 rfl ?_ | refine ynff 7 rfl ?_); (first | refine yn 8 rfl ?_ | refine ynt 8 rfl ?_ | refine ynff 8 rfl ?_); (first | refine yn 9 rfl ?_ | refine ynt 9 rfl ?_ | refine ynff 9 rfl ?_); (first | refine yn 10 rfl ?_ | refine ynt 10 rfl ?_ | refine ynff 10 rfl ?_); (first | refine yn 11 rfl ?_ | refine ynt 11 rfl ?_ | refine ynff 11 rfl ?_); (first | refine yn 12 rfl ?_ | refine ynt 12 rfl ?_ | refine ynff 12 rfl ?_); (first | refine yn 13 rfl ?_ | refine ynt 13 rfl ?_ | refine ynff 13 rfl ?_); (first | refine yn 14 rfl ?_ | refine ynt 14 rfl ?_ | refine ynff 14 rfl ?_); (first | refine yn 15 rfl ?_ | refine ynt 15 rfl ?_ | refine ynff 15 rfl ?_); (first | refine yn 16 rfl ?_ | refine ynt 16 rfl ?_ | refine ynff 16 rfl ?_); (first | refine yn 17 rfl ?_ | refine ynt 17 rfl ?_ | refine ynff 17 rfl ?_); (first | refine yn 18 rfl ?_ | refine ynt 18 rfl ?_ | refine ynff 18 rfl ?_)
    refine wy_done (by kernel_rfl) (fun w hc => ?_)
    have hM := hM.call hc
    repeat (first | refine gw ?_ | (refine ks ?_; intro w hM))
    exact out1 rfl ⟨rfl, hM.ch⟩
  | true =>
    (first | refine yn 3 rfl ?_ | refine ynt 3 rfl ?_ | refine ynff 3 rfl ?_); (first | refine yn 4 rfl ?_ | refine ynt 4 rfl ?_ | refine ynff 4 rfl ?_)
    refine ynlrt 5 rfl (hM.blk (b := b1) (by (repeat constructor))) (by omega) (by simp) (ds := lg.1.map u8v) (tC_log _ _ _ _ _ _ _ _ _ _) (h32 lg) ?_
    (first | refine yn 6 rfl ?_ | refine ynt 6 rfl ?_ | refine ynff 6 rfl ?_); (first | refine yn 7 rfl ?_ | refine ynt 7 rfl ?_ | refine ynff 7 rfl ?_)
    refine ynlt 8 rfl (hM.blk (b := b1) (by (repeat constructor))) (by omega) (by simp) rfl ?_
    (first | refine yn 9 rfl ?_ | refine ynt 9 rfl ?_ | refine ynff 9 rfl ?_)
    refine ynlt 10 rfl (hM.blk (b := b1) (by (repeat constructor))) (by omega) (by simp) rfl ?_
    (first | refine yn 11 rfl ?_ | refine ynt 11 rfl ?_ | refine ynff 11 rfl ?_)
    refine ynlrt 12 rfl (hM.blk (b := b1) (by (repeat constructor))) (by omega) (by simp) (ds := rC ses snap strict (.slice A (us.map (fun u : RR × List Pr => u.1)).length c) (.slice A2 wz.length c2)) rfl rfl ?_
    (first | refine yn 14 rfl ?_ | refine ynt 14 rfl ?_ | refine ynff 14 rfl ?_)
    refine ynlt 15 rfl (hM.blk (b := b1) (by (repeat constructor))) (by omega) (by simp) rfl ?_
    refine yk1 13 hM (by kernel_rfl) rfl (fun w h0 hM => ?_)
    refine gt ?_
    refine ca (recLeaf_any ses snap strict _ _ us wz _ (hK.ch hM.ch (by simp)) (hA.m.ch hM.ch) hk hb) ?_
    rintro _ w3 ⟨rfl, hc⟩
    have hM := hM.call hc
    refine x_wy (.inl (hc.gy h0)) rfl ?_
    refine yk1 16 hM (by kernel_rfl) rfl (fun w h0 hM => ?_)
    refine gt ?_
    refine ca (check_any lg size a (leafHs (bytesB ses snap strict us wz)) _ path _ (hK.ch hM.ch (by simp)) (hA.p.ch hM.ch)) ?_
    rintro _ w4 ⟨rfl, hc⟩
    have hM := hM.call hc
    refine x_wy (.inl (hc.gy h0)) rfl ?_
    (first | refine yn 17 rfl ?_ | refine ynt 17 rfl ?_ | refine ynff 17 rfl ?_); (first | refine yn 18 rfl ?_ | refine ynt 18 rfl ?_ | refine ynff 18 rfl ?_)
    refine wy_done (by kernel_rfl) (fun w hc => ?_)
    have hM := hM.call hc
    repeat (first | refine gw ?_ | (refine ks ?_; intro w hM))
    exact out1 rfl ⟨rfl, hM.ch⟩
end Go.Proofs.YtoimhmphhffelaaGreatDoor
set_option linter.unusedVariables false
set_option linter.unusedSimpArgs false
namespace Go.Proofs.YtoimhmphhffelaaGreatDoor
open Go Go.RowKit Go.Proofs.E
attribute [local irreducible] Go.wpList Go.Code.wp Go.Proofs.E.exec Go.Proofs.E.wpLexG
def lifeW17 : List Pr := [([97], [49], false)]
theorem life17_good : recGood 1 0 false [] lifeW17 = true := by decide +kernel
theorem climb_one (h : Hs) : climbZ 1 0 h [] = (h, true) := by
  unfold climbZ
  have h1 : turnsN (1 : Int).toNat (0 : Int).toNat = [] := turns_one (by decide)
  rw [h1, if_pos ⟨by decide, rfl⟩]
  rfl
set_option maxHeartbeats 4000000 in
theorem wrote_any (w0 : World) : Calls Tryz.prog 36 #[.string (bst [97]), .string (bst [49])] w0 (Ret fun u w' => ∃ b, u = .agg (rC 1 0 false (.slice none 0 0) (.slice (some ⟨b, 0, none⟩) 1 1)).toArray ∧ Mem [] w0 w' [.row ePr 70 (.slice (some ⟨b, 0, none⟩) 1 1) lifeW17]) := by
  have hM := Mem.start w0
  refine enter [.string (bst [97]), .string (bst [49]), undef, undef, undef, undef, undef, undef, undef, undef] Tryz.func36 rfl rfl ?_
  repeat (first | refine gw ?_ | (refine ks ?_; intro w hM))
  refine kal hM (fun w b4 hM => ?_)
  have hM : Mem [] w0 w [.cell b4 (rC 0 0 false (.slice none 0 0) (.slice none 0 0)) 25] := hM
  repeat (first | refine gw ?_ | (refine ks ?_; intro w hM))
  (try ((with_reducible apply is_gd); first | refine gt ?_ | refine gf ?_ | refine gu ?_)); refine wl_val (r_bldS (vs := [(0, .string (bst [97])), (1, .string (bst [49]))]) (ePr.f ([97], [49], false)) (z := [.string (bst []), .string (bst []), .bool false]) (place := (#[(0, 1), (1, 1), (2, 1)][·]?)) (by intro ps; kernel_rfl) rfl (.cons rfl rfl (by simp) (.cons rfl rfl (by simp [spl, Value.cells]) (.nil rfl)))) ?_
  refine kbs (en := ePr) (vs := [.agg (ePr.f ([97], [49], false)).toArray]) lifeW17 hM (fun w b hM => ?_)
  repeat (first | refine gw ?_ | (refine ks ?_; intro w hM))
  (try ((with_reducible apply is_gd); first | refine gt ?_ | refine gf ?_ | refine gu ?_)); refine wl_val (r_bldS (vs := [(0, .int .i64 1), (4, .slice (some ⟨b, 0, none⟩) 1 1)]) (rC 1 0 false (.slice none 0 0) (.slice (some ⟨b, 0, none⟩) 1 1)) (z := rC 0 0 false (.slice none 0 0) (.slice none 0 0)) (place := (#[(0, 1), (1, 1), (2, 1), (3, 1), (4, 1)][·]?)) (by intro ps; kernel_rfl) rfl (.cons rfl rfl (by simp) (.cons rfl rfl (by simp [spl, Value.cells]) (.nil rfl)))) ?_
  refine kstw (vs := rC 1 0 false (.slice none 0 0) (.slice (some ⟨b, 0, none⟩) 1 1)) hM (fun w hM => ?_)
  repeat (first | refine gw ?_ | (refine ks ?_; intro w hM))
  exact koc hM rfl ⟨b, rfl, hM.sub (by (repeat constructor))⟩
theorem tC_one {a ses snap : Int} {strict : Bool} {vr vw vp : Value} {size : Int} {lg mp : Hs} (h1 : vr.oneCell' = true) (h2 : vw.oneCell' = true) (h3 : vp.oneCell' = true) : ∀ u ∈ tC a ses snap strict vr vw vp size lg mp, u.oneCell' = true := by
  intro u hu
  simp only [tC, List.mem_cons, List.mem_append] at hu
  rcases hu with rfl | rfl | rfl | rfl | rfl | rfl | rfl | rfl | hu | hu
  · rfl
  · rfl
  · rfl
  · rfl
  · exact h1
  · exact h2
  · exact h3
  · rfl
  · exact one_u8 u hu
  · exact one_u8 u hu
theorem tC_setlog (a ses snap : Int) (strict : Bool) (vr vw vp : Value) (size : Int) (lg mp l2 : Hs) : spl (tC a ses snap strict vr vw vp size lg mp) 8 (l2.1.map u8v) = tC a ses snap strict vr vw vp size l2 mp := by
  unfold spl
  rw [h32]
  show [.int .i64 a, .int .i64 ses, .int .i64 snap, .bool strict, vr, vw, vp, .int .i64 size] ++ _ ++ ((lg.1.map u8v ++ mp.1.map u8v).drop 32) = _
  rw [List.drop_left' (h32 lg)]
  simp [tC]
def plT : Nat → Option (Nat × Nat) := (#[(0, 1), (1, 5), (6, 1), (7, 65)][·]?)
theorem fl_life (b : Nat) : Fl plT (tC 0 0 0 false (.slice none 0 0) (.slice none 0 0) (.slice none 0 0) 0 zeroH zeroH) [(1, .agg (rC 1 0 false (.slice none 0 0) (.slice (some ⟨b, 0, none⟩) 1 1)).toArray), (3, .agg (dC 1 zeroH zeroH).toArray)]
    (tC 0 1 0 false (.slice none 0 0) (.slice (some ⟨b, 0, none⟩) 1 1) (.slice none 0 0) 1 zeroH zeroH) :=
  .cons rfl rfl (by decide) (.cons rfl rfl (Nat.le_of_ble_eq_true rfl) (.nil rfl))
set_option maxHeartbeats 8000000 in
theorem lives17_any (w0 : World) (hK : Laid w0) : Calls Tryz.prog 9 #[] w0 (Ret fun u w' => u = .bool true ∧ Ch [] w0 w') := by
  have hM := Mem.start w0
  refine enter [undef, undef, undef, undef, undef, undef, undef, undef, undef, undef, undef, undef] Tryz.func9 rfl rfl ?_
  repeat (first | refine gr ?_ | (refine ks ?_; intro w hM))
  refine ca (wrote_any w0) ?_
  rintro _ w ⟨b, rfl, hN⟩
  have hM := hM.join hN (by intro a ha; simp at ha; subst ha; trivial)
  simp only [List.append_nil] at hM
  repeat (first | refine gr ?_ | (refine ks ?_; intro w hM))
  (try ((with_reducible apply is_gd); first | refine gt ?_ | refine gf ?_ | refine gu ?_)); refine wl_val (r_bldS (vs := [(0, .int .i64 1)]) (dC 1 zeroH zeroH) (z := dC 0 zeroH zeroH) (place := (#[(0, 1), (1, 32), (33, 32)][·]?)) (by intro ps; kernel_rfl) rfl (.cons rfl rfl (by decide) (.nil rfl))) ?_
  (try ((with_reducible apply is_gd); first | refine gt ?_ | refine gf ?_ | refine gu ?_)); refine wl_val (r_bldS (vs := [(1, .agg (rC 1 0 false (.slice none 0 0) (.slice (some ⟨b, 0, none⟩) 1 1)).toArray), (3, .agg (dC 1 zeroH zeroH).toArray)]) (tC 0 1 0 false (.slice none 0 0) (.slice (some ⟨b, 0, none⟩) 1 1) (.slice none 0 0) 1 zeroH zeroH) (z := tC 0 0 0 false (.slice none 0 0) (.slice none 0 0) (.slice none 0 0) 0 zeroH zeroH) (place := plT) (by intro ps; kernel_rfl) rfl (fl_life b)) ?_
  refine kal hM (fun w b1 hM => ?_)
  have hM : Mem [] w0 w [.cell b1 (tC 0 0 0 false (.slice none 0 0) (.slice none 0 0) (.slice none 0 0) 0 zeroH zeroH) 32, .row ePr 70 (.slice (some ⟨b, 0, none⟩) 1 1) lifeW17] := hM
  refine kstw (vs := tC 0 1 0 false (.slice none 0 0) (.slice (some ⟨b, 0, none⟩) 1 1) (.slice none 0 0) 1 zeroH zeroH) hM (fun w hM => ?_) (hln := tC_len _ _ _ _ _ _ _ _ _ _) (hf := tC_len _ _ _ _ _ _ _ _ _ _) (h1 := tC_one rfl rfl rfl)
  repeat (first | refine gr ?_ | (refine ks ?_; intro w hM))
  have hrm : ∀ {w}, Mem [] w0 w [.cell b1 (tC 0 1 0 false (.slice none 0 0) (.slice (some ⟨b, 0, none⟩) 1 1) (.slice none 0 0) 1 zeroH zeroH) 32, .row ePr 70 (.slice (some ⟨b, 0, none⟩) 1 1) lifeW17] → RecM w (.slice none 0 0) (.slice (some ⟨b, 0, none⟩) 1 1) [] lifeW17 := fun hM => ⟨Ty.Rd.nil _ _ _ _ _, (by simp), hM.rowRdO (en := ePr) (v := .slice (some ⟨b, 0, none⟩) 1 1) (xs := lifeW17) (by (repeat constructor))⟩
  have hsh : ShortL lifeW17 := by intro p hp; simp [lifeW17] at hp; subst hp; exact ⟨by decide, by decide⟩
  have hsr : ShortR [] := by intro u hu; cases hu
  refine kca hM (rrecLeaf_any 1 0 false _ _ [] lifeW17 _ trivial (hrm hM) hsr hsh) (fun w hM => ?_)
  obtain ⟨lf, hlf⟩ : ∃ lf, lf = leafHs (bytesB 1 0 false [] lifeW17) := ⟨_, rfl⟩
  rw [show leafOf (bytesB 1 0 false [] lifeW17) = lf.1 by rw [hlf]; rfl]
  repeat (first | refine gr ?_ | (refine ks ?_; intro w hM))
  refine kstp (vs := lf.1.map u8v) hM (fun w hM => ?_) (tC_setlog 0 1 0 false (.slice none 0 0) (.slice (some ⟨b, 0, none⟩) 1 1) (.slice none 0 0) 1 zeroH zeroH lf) (hln := h32 lf) (hf := by rw [tC_len]; omega)
  repeat (first | refine gr ?_ | (refine ks ?_; intro w hM))
  have hrt : RctM w (.slice none 0 0) (.slice (some ⟨b, 0, none⟩) 1 1) (.slice none 0 0) [] lifeW17 [] := ⟨⟨Ty.Rd.nil _ _ _ _ _, (by simp), hM.rowRdO (en := ePr) (v := .slice (some ⟨b, 0, none⟩) 1 1) (xs := lifeW17) (by (repeat constructor))⟩, Ty.Rd.nil _ _ _ _ _⟩
  refine kca hM (tcheck_any 0 1 0 false _ _ _ 1 lf zeroH [] lifeW17 [] _ (hK.ch hM.ch (by simp)) hrt hsr hsh) (fun w hM => ?_)
  rw [show check17 0 1 0 lf [] (recGood 1 0 false [] lifeW17) (leafHs (bytesB 1 0 false [] lifeW17)) = true by
    rw [← hlf, life17_good]
    unfold check17 checkZ
    rw [climb_one]
    simp [good17]]
  repeat (first | refine gr ?_ | (refine ks ?_; intro w hM))
  exact out1 rfl ⟨rfl, hM.ch⟩
set_option maxHeartbeats 4000000 in
theorem light17_any (a ses snap : Int) (strict : Bool) (vr vw vp : Value) (size : Int) (lg mp : Hs) (us : List (RR × List Pr)) (wz : List Pr) (path : List Hs) (w0 : World) (hA : RctM w0 vr vw vp us wz path) (hk : ShortR us) (hb : ShortL wz) :
    Calls Tryz.prog 8 #[.agg (tC a ses snap strict vr vw vp size lg mp).toArray] w0 (Ret fun u w' => (∃ v : Bool, u = .bool v ∧ (v = true → LightR us wz ∧ path.length ≤ 200)) ∧ Ch [] w0 w') := by
  have hM := Mem.start w0
  have hle := hA.p.le
  obtain ⟨A, c, rfl⟩ := hA.m.r.form
  obtain ⟨A2, c2, rfl⟩ := hA.m.w.form
  obtain ⟨A3, c3, rfl⟩ := hA.p.form
  refine enter [.agg (tC a ses snap strict (.slice A (us.map (fun u : RR × List Pr => u.1)).length c) (.slice A2 wz.length c2) (.slice A3 path.length c3) size lg mp).toArray, undef, undef, undef, undef, undef, undef, undef, undef, undef, undef, undef, undef] Tryz.func8 rfl rfl ?_
  repeat (first | refine gw ?_ | (refine ks ?_; intro w hM))
  refine kbx hM (fun w b1 hM => ?_)
  have hM : Mem [] w0 w [.cell b1 (tC a ses snap strict (.slice A (us.map (fun u : RR × List Pr => u.1)).length c) (.slice A2 wz.length c2) (.slice A3 path.length c3) size lg mp) 32] := hM
  repeat (first | refine gr ?_ | (refine ks ?_; intro w hM))
  have hA1 := hA.m.ch hM.ch
  refine ca (rlight_any ses snap strict _ _ us wz w hA1.r hA1.u hA1.w hk hb) ?_
  rintro _ w1 ⟨⟨v, rfl, hv⟩, hc⟩
  have hM := hM.call hc
  by_cases q : 0 ≤ v
  · repeat (first | refine gr ?_ | (refine ks ?_; intro w hM))
    rw [decide_eq_true q]
    repeat (first | refine gr ?_ | (refine ks ?_; intro w hM))
    exact out1 rfl ⟨⟨_, rfl, fun h => ⟨hv q, by have := of_decide_eq_true h; omega⟩⟩, hM.ch⟩
  · repeat (first | refine gr ?_ | (refine ks ?_; intro w hM))
    rw [decide_eq_false q]
    repeat (first | refine gr ?_ | (refine ks ?_; intro w hM))
    exact out1 rfl ⟨⟨_, rfl, fun h => by cases h⟩, hM.ch⟩
theorem zero_rct : (Value.agg (List.replicate 3 (Value.int IntKind.i64 0) ++ [Value.bool false] ++ List.replicate 3 (Value.slice none 0 0) ++ [Value.int IntKind.i64 0] ++ List.replicate 64 (Value.int IntKind.u8 0)).toArray).cells.toList = tC 0 0 0 false (.slice none 0 0) (.slice none 0 0) (.slice none 0 0) 0 zeroH zeroH := by kernel_rfl
/-- A receipt stored, with what turned. -/
theorem kstwT {P : Program} {ops : Array Oper} {Q : Exit → Act → World → Prop} {rest : List Oper} {l : List Value} {O : List Nat} {w0 w : World} {L L' : List As} {T : TypeId} {pos : String} {after : Array Edge} {x y : Operand} {E t : TypeId} {b by_ : Nat} {cs vs : List Value} {z : Value} [hi : Inf P t z 72 by_] (hM : Mem O w0 w L) (h : ∀ w', Ch [b] w w' → Mem O w0 w' (.cell b vs E :: L') → wpList P ops Q rest (fr l) w')
    (hx : ev l x = .pointer (some ⟨b, 0, none⟩) := by exact rfl) (hp : Pick L (.cell b cs E) L' := by (repeat (first | exact Go.Proofs.E.Pick.here | apply Go.Proofs.E.Pick.there))) (hy : ev l y = .agg vs.toArray := by exact rfl) (hln : vs.length = 72 := by exact tC_len _ _ _ _ _ _ _ _ _ _) (hf : cs.length = 72 := by exact tC_len _ _ _ _ _ _ _ _ _ _)
    (h1 : ∀ u ∈ vs, u.oneCell' = true := by exact tC_one rfl rfl rfl) :
    wpList P ops Q ({ dst := none, op := .store t x y, type := T, pos := pos, after := after, guard := none } :: rest) (fr l) w :=
  stbw (hM.blk hp) hx hy hln hf h1 fun w' hB hc _ => h w' hc ((hM.pick hp).set hB hc)
end Go.Proofs.YtoimhmphhffelaaGreatDoor

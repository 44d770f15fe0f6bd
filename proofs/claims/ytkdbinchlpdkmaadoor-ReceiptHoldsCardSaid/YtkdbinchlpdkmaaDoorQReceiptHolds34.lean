/- Walk: the law ReceiptHolds. -/
import Derived.Test.YtkdbinchlpdkmaaDoorQReceiptHolds30
import Derived.Test.YtkdbinchlpdkmaaDoorQReceiptHolds14
import Derived.Test.YtkdbinchlpdkmaaDoorQReceiptHolds31
import Derived.Test.YtkdbinchlpdkmaaDoorQReceiptHolds33
set_option linter.unusedVariables false
set_option linter.unusedSimpArgs false
set_option maxRecDepth 4000
namespace Go.Proofs.YtkdbinchlpdkmaaDoor
open Go Go.RowKit Go.Proofs.E
attribute [local irreducible] Go.wpList Go.Code.wp Go.Proofs.E.exec Go.Proofs.E.wpLexG
theorem mroot0_any (A : Option Addr) (c : Nat) (w0 : World) :
    Calls Tryd.prog 23 #[.slice A 0 c] w0 (Ret fun u w' => u = hv (shaH [5]).1 ∧ Ch [] w0 w') := by
  have hM := Mem.start w0
  refine enter [.slice A 0 c, undef, undef, undef, undef, undef, undef, undef, undef, undef, undef, undef, undef, undef, undef, undef, undef, undef, undef, undef, undef, undef, undef, undef, undef, undef, undef, undef, undef, undef, undef, undef, undef, undef, undef, undef] Tryd.func23 rfl rfl ?_
  repeat (first | refine gw ?_ | (refine ks ?_; intro w hM))
  refine kal hM (fun w b2 hM => ?_)
  repeat (first | refine gw ?_ | (refine ks ?_; intro w hM))
  refine c_condb rfl (fun _ => ?_) (fun h => by cases h)
  repeat (first | refine gw ?_ | (refine ks ?_; intro w hM))
  refine kca hM (rnothing_any _ trivial) (fun w hM => ?_)
  refine kstw (b := b2) (vs := (shaH [5]).1.map u8v) hM (fun w hM => ?_)
  repeat (first | refine gw ?_ | (refine ks ?_; intro w hM))
  exact koc hM rfl ⟨rfl, hM.ch⟩
abbrev RV := Int × Int × Bool × SlV × SlV
abbrev eRec : En RV := { f := fun r => rC r.1 r.2.1 r.2.2.1 (slv r.2.2.2.1) (slv r.2.2.2.2), n := 5, hl := fun _ => rfl, h1 := fun _ u hu => by simp at hu; rcases hu with rfl | rfl | rfl | rfl | rfl <;> rfl }
abbrev RT := RV × List (RR × List Pr) × List Pr
def leafR (r : RT) : Hs := leafHs (bytesB r.1.1 r.1.2.1 r.1.2.2.1 r.2.1 r.2.2)
def goodR (r : RT) : Bool := recGood r.1.1 r.1.2.1 r.1.2.2.1 r.2.1 r.2.2
structure RecsM (w : World) (v : Value) (rs : List RT) : Prop where
  r : (Ty.enc eRec).Rd [] w v (rs.map (fun x : RT => x.1))
  m : ∀ x ∈ rs, RecM w (slv x.1.2.2.2.1) (slv x.1.2.2.2.2) x.2.1 x.2.2
  k : ∀ x ∈ rs, ShortR x.2.1 ∧ ShortL x.2.2
abbrev eKV : En (Hs × Hs) := { f := fun p => p.1.1.map u8v ++ p.2.1.map u8v, n := 64, hl := fun p => by simp [p.1.2, p.2.2], h1 := fun p u hu => (List.mem_append.1 hu).elim (one_u8 u) (one_u8 u) }
theorem hv_cells (h : Hs) : (hv h.1).cells.toList = h.1.map u8v := by simp [hv, Value.cells]
theorem dC_setlog (n : Int) (a b h : Hs) : spl (dC n a b) 1 (hv h.1).cells.toList = dC n h b := by
  rw [hv_cells]
  unfold spl
  rw [h32]
  show [.int .i64 n] ++ _ ++ ((a.1.map u8v ++ b.1.map u8v).drop 32) = _
  rw [List.drop_left' (h32 a)]
  simp [dC]
theorem dC_setmap (n : Int) (a b h : Hs) : spl (dC n a b) 33 (hv h.1).cells.toList = dC n a h := by
  rw [hv_cells]
  unfold spl
  have e : (dC n a b).take 33 = .int .i64 n :: a.1.map u8v := by
    show (.int .i64 n : Value) :: ((a.1.map u8v ++ b.1.map u8v).take 32) = _
    rw [List.take_left' (h32 a)]
  rw [e, List.drop_of_length_le (by rw [dC_len, h32]; omega)]
  simp [dC]
def plD : Nat → Option (Nat × Nat) := (#[(0, 1), (1, 32), (33, 32)][·]?)
theorem hv_size (h : Hs) : (hv h.1).cells.size = 32 := by rw [← Array.length_toList, hv_cells, h32]
theorem flD2 (n : Int) (a : Hs) : Fl plD (dC 0 zeroH zeroH) [(0, .int .i64 n), (1, hv a.1)] (dC n a zeroH) :=
  .cons rfl rfl (by rw [dC_len]; omega) (.cons rfl (hv_size a) (by show 1 + 32 ≤ (dC n zeroH zeroH).length; rw [dC_len]; omega) (.nil (dC_setlog n zeroH zeroH a)))
theorem flD3 (n : Int) (a b : Hs) : Fl plD (dC 0 zeroH zeroH) [(0, .int .i64 n), (1, hv a.1), (2, hv b.1)] (dC n a b) :=
  .cons rfl rfl (by rw [dC_len]; omega) (.cons rfl (hv_size a) (by show 1 + 32 ≤ (dC n zeroH zeroH).length; rw [dC_len]; omega) (.cons rfl (hv_size b) (by
    show 33 + 32 ≤ (spl (dC n zeroH zeroH) 1 (hv a.1).cells.toList).length
    rw [dC_setlog, dC_len]; omega) (.nil (by
    show spl (spl (dC n zeroH zeroH) 1 (hv a.1).cells.toList) 33 (hv b.1).cells.toList = _
    rw [dC_setlog, dC_setmap]))))
theorem tC_setdig (a ses snap : Int) (strict : Bool) (vr vw vp : Value) (n m : Int) (l1 m1 l2 m2 : Hs) : spl (tC a ses snap strict vr vw vp n l1 m1) 7 (dC m l2 m2) = tC a ses snap strict vr vw vp m l2 m2 := by
  unfold spl
  rw [dC_len, List.drop_of_length_le (by rw [tC_len]; omega)]
  simp [tC, dC]
theorem flT (a ses snap : Int) (strict : Bool) (vr vw : Value) (n : Int) (lg mp : Hs) : Fl plT (tC 0 0 0 false (.slice none 0 0) (.slice none 0 0) (.slice none 0 0) 0 zeroH zeroH) [(0, .int .i64 a), (1, .agg (rC ses snap strict vr vw).toArray), (3, .agg (dC n lg mp).toArray)]
    (tC a ses snap strict vr vw (.slice none 0 0) n lg mp) :=
  .cons rfl rfl (by rw [tC_len]; omega) (.cons rfl rfl (by show 1 + 5 ≤ (tC a 0 0 false (.slice none 0 0) (.slice none 0 0) (.slice none 0 0) 0 zeroH zeroH).length; rw [tC_len]; omega) (.cons rfl (by simp [Value.cells, lg.2, mp.2]) (by
    show 7 + 65 ≤ (tC a ses snap strict vr vw (.slice none 0 0) 0 zeroH zeroH).length
    rw [tC_len]; omega) (.nil (by
    show spl (tC a ses snap strict vr vw (.slice none 0 0) 0 zeroH zeroH) 7 (Value.agg (dC n lg mp).toArray).cells.toList = _
    rw [show (Value.agg (dC n lg mp).toArray).cells.toList = dC n lg mp by simp [Value.cells]]
    exact tC_setdig _ _ _ _ _ _ _ _ _ _ _ _ _))))
theorem dC_one {n : Int} {a b : Hs} : ∀ u ∈ dC n a b, u.oneCell' = true := by
  intro u hu
  simp only [dC, List.mem_cons, List.mem_append] at hu
  rcases hu with rfl | hu | hu
  · rfl
  · exact one_u8 u hu
  · exact one_u8 u hu
theorem kstwQ {P : Program} {ops : Array Oper} {Q : Exit → Act → World → Prop} {rest : List Oper} {l : List Value} {O : List Nat} {w0 w : World} {L L' : List As} {T : TypeId} {pos : String} {after : Array Edge} {x y : Operand} {E t : TypeId} {b n by_ : Nat} {cs vs : List Value} {z : Value} [hi : Inf P t z n by_] (hM : Mem O w0 w L) (h : ∀ w', Ch [b] w w' → Mem O w0 w' (.cell b vs E :: L') → wpList P ops Q rest (fr l) w')
    (hx : ev l x = .pointer (some ⟨b, 0, none⟩) := by exact rfl) (hp : Pick L (.cell b cs E) L' := by (repeat (first | exact Go.Proofs.E.Pick.here | apply Go.Proofs.E.Pick.there))) (hy : ev l y = .agg vs.toArray := by exact rfl) (hln : vs.length = n := by (first | exact rfl | (simp; done) | (simp only [List.length_map]; exact Subtype.property (p := fun a : List UInt8 => a.length = 32) _))) (hf : cs.length = n := by (first | exact rfl | (simp; done) | (simp only [List.length_map]; exact Subtype.property (p := fun a : List UInt8 => a.length = 32) _)))
    (h1 : ∀ u ∈ vs, u.oneCell' = true := by first | exact Go.Proofs.E.one_u8 | (simp [Value.oneCell']; done) | (intro u hu; simp at hu; rcases hu with rfl | rfl | rfl <;> rfl)) :
    wpList P ops Q ({ dst := none, op := .store t x y, type := T, pos := pos, after := after, guard := none } :: rest) (fr l) w :=
  stbw (hM.blk hp) hx hy hln hf h1 fun w' hB hc _ => h w' hc ((hM.pick hp).set hB hc)
set_option maxHeartbeats 16000000 in
theorem receiptHolds_any (vl : Value) (rs : List RT) (I J : Nat) (ses snap : Int) (strict : Bool) (uvr uvw : SlV) (us : List (RR × List Pr)) (wz : List Pr) (w0 : World) (hK : Laid w0) (hI : I < 2 ^ 64) (hJ : J < 2 ^ 64) (hL : RecsM w0 vl rs) (hA : RecM w0 (slv uvr) (slv uvw) us wz) (hk : ShortR us) (hb : ShortL wz) :
    Calls Tryd.prog 10 #[vl, .agg #[.int .u64 (I : Int), .int .u64 (J : Int)], .agg (rC ses snap strict (slv uvr) (slv uvw)).toArray] w0 (Ret fun u w' => u = .bool true ∧ Ch [] w0 w') := by
  have hM := Mem.start w0
  obtain ⟨hR, hm, hsh⟩ := hL
  obtain ⟨A0, c0, rfl⟩ := hR.form
  have e0 : (rs.map (fun x : RT => x.1)).length = rs.length := List.length_map _
  rw [e0] at hR ⊢
  have hrl := hR.le
  rw [e0] at hrl
  refine enter [.slice A0 rs.length c0, .agg #[.int .u64 (I : Int), .int .u64 (J : Int)], .agg (rC ses snap strict (slv uvr) (slv uvw)).toArray, undef, undef, undef, undef, undef, undef, undef, undef, undef, undef, undef, undef, undef, undef, undef, undef, undef, undef, undef, undef, undef, undef, undef, undef, undef, undef, undef, undef, undef, undef, undef, undef, undef, undef, undef, undef, undef, undef, undef, undef, undef, undef, undef, undef, undef, undef, undef, undef, undef, undef, undef, undef, undef, undef, undef, undef, undef, undef, undef, undef, undef, undef, undef, undef, undef, undef, undef, undef, undef, undef, undef, undef, undef, undef, undef, undef, undef, undef, undef, undef, undef, undef, undef, undef, undef, undef, undef, undef, undef, undef, undef, undef, undef, undef, undef, undef, undef, undef, undef, undef, undef, undef, undef, undef, undef, undef, undef, undef, undef, undef, undef, undef, undef, undef, undef, undef, undef, undef, undef, undef, undef, undef, undef, undef, undef, undef, undef, undef, undef, undef, undef, undef, undef, undef, undef, undef, undef, undef, undef, undef, undef, undef, undef, undef, undef, undef, undef, undef, undef, undef, undef, undef, undef, undef, undef, undef, undef, undef, undef, undef, undef, undef, undef, undef, undef, undef, undef, undef, undef, undef, undef, undef, undef, undef] Tryd.func10 rfl rfl ?_
  repeat (first | refine gw ?_ | (refine ks ?_; intro w hM))
  refine kbx (v := .agg #[.int .u64 (I : Int), .int .u64 (J : Int)]) hM (fun w b4 hM => ?_)
  refine kbx hM (fun w b5 hM => ?_)
  have hM : Mem [] w0 w [.cell b5 (rC ses snap strict (slv uvr) (slv uvw)) 93, .cell b4 [.int .u64 (I : Int), .int .u64 (J : Int)] 84] := hM
  repeat (first | refine gwb ?_ | (refine ks ?_; intro w hM))
  refine kdr hM (by kernel_rfl) (by kernel_rfl) (fun w hM => ?_)
  (try refine gwg ?_)
  (intro w hc; have hM := hM.call hc)
  repeat (first | refine gw ?_ | (refine ks ?_; intro w hM))
  by_cases z0 : (rs.length : Int) = 0
  · rw [decide_eq_true z0]
    repeat (first | refine gw ?_ | (refine ks ?_; intro w hM))
    refine c_condb rfl (fun _ => ?_) (fun h => by cases h)
    repeat (first | refine gw ?_ | (refine ks ?_; intro w hM))
    refine kca hM (lives17_any _ (hK.ch hM.ch (by simp))) (fun w hM => ?_)
    repeat (first | refine gw ?_ | (refine ks ?_; intro w hM))
    exact out1 rfl ⟨rfl, hM.ch⟩
  rw [decide_eq_false z0]
  repeat (first | refine gw ?_ | (refine ks ?_; intro w hM))
  by_cases z1 : (20 : Int) < (rs.length : Int)
  · rw [decide_eq_true z1]
    repeat (first | refine gw ?_ | (refine ks ?_; intro w hM))
    refine c_condb rfl (fun _ => ?_) (fun h => by cases h)
    repeat (first | refine gw ?_ | (refine ks ?_; intro w hM))
    refine kca hM (lives17_any _ (hK.ch hM.ch (by simp))) (fun w hM => ?_)
    repeat (first | refine gw ?_ | (refine ks ?_; intro w hM))
    exact out1 rfl ⟨rfl, hM.ch⟩
  rw [decide_eq_false z1]
  repeat (first | refine gw ?_ | (refine ks ?_; intro w hM))
  have hA1 := hA.ch hM.ch
  (try ((with_reducible apply is_gd); first | refine gt ?_ | refine gf ?_ | refine gu ?_)); refine ca (rlightN_any 300 (by decide) (by decide) ses snap strict (slv uvr) (slv uvw) us wz w hA1.r hA1.u hA1.w hk hb) ?_
  rintro _ w1 ⟨⟨v36, rfl, _⟩, hc⟩
  have hM := hM.call hc
  repeat (first | refine gw ?_ | (refine ks ?_; intro w hM))
  by_cases z2 : v36 < 0
  · rw [decide_eq_true z2]
    repeat (first | refine gw ?_ | (refine ks ?_; intro w hM))
    refine c_condb rfl (fun _ => ?_) (fun h => by cases h)
    repeat (first | refine gw ?_ | (refine ks ?_; intro w hM))
    refine kca hM (lives17_any _ (hK.ch hM.ch (by simp))) (fun w hM => ?_)
    repeat (first | refine gw ?_ | (refine ks ?_; intro w hM))
    exact out1 rfl ⟨rfl, hM.ch⟩
  rw [decide_eq_false z2]
  repeat (first | refine gw ?_ | (refine ks ?_; intro w hM))
  have hA1 := hA.ch hM.ch
  obtain ⟨go, hgo⟩ : ∃ g, g = recGood ses snap strict us wz := ⟨_, rfl⟩
  (try ((with_reducible apply is_gd); first | refine gt ?_ | refine gf ?_ | refine gu ?_)); refine kca (X := .bool go) hM (by rw [hgo]; exact rgood16_any ses snap strict (slv uvr) (slv uvw) us wz _ hA1.r hA1.u hA1.w hk hb) (fun w hM => ?_)
  cases hgoo : go with
  | false =>
    repeat (first | refine gw ?_ | (refine ks ?_; intro w hM))
    refine c_condb rfl (fun _ => ?_) (fun h => by cases h)
    repeat (first | refine gw ?_ | (refine ks ?_; intro w hM))
    refine kca hM (lives17_any _ (hK.ch hM.ch (by simp))) (fun w hM => ?_)
    repeat (first | refine gw ?_ | (refine ks ?_; intro w hM))
    exact out1 rfl ⟨rfl, hM.ch⟩
  | true =>
  have hgood : recGood ses snap strict us wz = true := hgo.symm.trans hgoo
  repeat (first | refine gw ?_ | (refine ks ?_; intro w hM))
  refine c_condb rfl (fun h => by cases h) (fun _ => ?_)
  have hM := hM.nilRow eH 30
  repeat (first | refine gw ?_ | (refine ks ?_; intro w hM))
  
  refine c_loop (fun n l w => ∃ (j : Nat) (left : Int) (v9 : Value), (∃ jj : Nat → Value, l = [.slice A0 rs.length c0, jj 1, jj 2, jj 3, jj 4, .pointer (some ⟨b5, 0, none⟩), jj 6, .int .u64 (I : Int), .int .u64 (J : Int), v9, .int .i64 left, jj 11, jj 12, jj 13, jj 14, jj 15, jj 16, jj 17, jj 18, jj 19, jj 20, jj 21, jj 22, jj 23, jj 24, jj 25, jj 26, jj 27, jj 28, jj 29, jj 30, jj 31, jj 32, jj 33, jj 34, jj 35, jj 36, jj 37, jj 38, jj 39, jj 40, jj 41, jj 42, jj 43, jj 44, .slice A0 rs.length c0, .int .i64 (rs.length : Int), .int .i64 (j : Int), jj 48, jj 49, jj 50, jj 51, jj 52, jj 53, jj 54, jj 55, jj 56, jj 57, jj 58, jj 59, jj 60, jj 61, jj 62, jj 63, jj 64, jj 65, jj 66, jj 67, jj 68, jj 69, jj 70, jj 71, jj 72, jj 73, jj 74, jj 75, jj 76, jj 77, jj 78, jj 79, jj 80, jj 81, jj 82, jj 83, jj 84, jj 85, jj 86, jj 87, jj 88, jj 89, jj 90, jj 91, jj 92, jj 93, jj 94, jj 95, jj 96, jj 97, jj 98, jj 99, jj 100, jj 101, jj 102, jj 103, jj 104, jj 105, jj 106, jj 107, jj 108, jj 109, jj 110, jj 111, jj 112, jj 113, jj 114, jj 115, jj 116, jj 117, jj 118, jj 119, jj 120, jj 121, jj 122, jj 123, jj 124, jj 125, jj 126, jj 127, jj 128, jj 129, jj 130, jj 131, jj 132, jj 133, jj 134, jj 135, jj 136, jj 137, jj 138, jj 139, jj 140, jj 141, jj 142, jj 143, jj 144, jj 145, jj 146, jj 147, jj 148, jj 149, jj 150, jj 151, jj 152, jj 153, jj 154, jj 155, jj 156, jj 157, jj 158, jj 159, jj 160, jj 161, jj 162, jj 163, jj 164, jj 165, jj 166, jj 167, jj 168, jj 169, jj 170, jj 171, jj 172, jj 173, jj 174, jj 175, jj 176]) ∧ n + j = rs.length ∧ 0 ≤ left ∧ left ≤ 600 ∧ Mem [] w0 w [.row eH 30 v9 ((rs.map leafR).take j), .cell b5 (rC ses snap strict (slv uvr) (slv uvw)) 93] ∧ ∀ i r, i < j → rs[i]? = some r → goodR r = true ∧ r.1.2.1 ≤ (i : Int)) rs.length
    ⟨0, 600, .slice none 0 0, exj rfl, rfl, by decide, by decide, hM.sub (by (repeat constructor)), fun i r hi => by omega⟩ ?_
  clear hM hA1
  rintro n l w ⟨j, left, v9, ⟨jj, rfl⟩, hnj, hl0, hl6, hM, hgs⟩
  repeat (first | refine gw ?_ | (refine ks ?_; intro w hM))
  refine c_cond rfl (fun hj => ?_) (fun hj => ?_)
  · have hjl : j < rs.length := by omega
    repeat (first | refine gw ?_ | (refine ks ?_; intro w hM))
    refine kix hR (fun bk ok x hx hAx => ?_) (h1 := by rw [List.length_map]; omega)
    rw [Int.toNat_natCast, List.getElem?_map] at hx
    obtain ⟨r, hr, rfl⟩ := Option.map_eq_some_iff.1 hx
    have hrm := List.mem_of_getElem? hr
    refine katr hM hAx ?_
    have hRm := hm _ hrm
    obtain ⟨hsk, hsb⟩ := hsh _ hrm
    have hgr : ∀ g, g = goodR r → g = true → r.1.2.1 ≤ (j : Int) → ∀ i q, i < j + 1 → rs[i]? = some q → goodR q = true ∧ q.1.2.1 ≤ (i : Int) := fun g hg hg2 h3 i q hi hq => by
      by_cases e : i = j
      · subst e
        rw [hr] at hq
        obtain rfl := Option.some.inj hq
        exact ⟨hg.symm.trans hg2, h3⟩
      · exact hgs i q (by omega) hq
    unfold goodR at hgr
    obtain ⟨⟨rse, rsn, rst, urr, urw⟩, rus, rwz⟩ := r
    simp only at hRm hsk hsb hgr
    have hlf : (rs.map leafR)[j]? = some (leafHs (bytesB rse rsn rst rus rwz)) := by rw [List.getElem?_map, hr]; rfl
    refine kal hM (fun w b12 hM => ?_)
    repeat (first | refine gw ?_ | (refine ks ?_; intro w hM))
    refine kstw (b := b12) (vs := rC rse rsn rst (slv urr) (slv urw)) hM (fun w hM => ?_) (h1 := eRec.h1 (rse, rsn, rst, urr, urw))
    repeat (first | refine gw ?_ | (refine ks ?_; intro w hM))
    have hRm := hRm.ch hM.ch
    refine ca (rlightN_any left hl0 hl6 rse rsn rst (slv urr) (slv urw) rus rwz w hRm.r hRm.u hRm.w hsk hsb) ?_
    rintro _ w1 ⟨⟨v54, rfl, hv54⟩, hc⟩
    have hM := hM.call hc
    repeat (first | refine gw ?_ | (refine ks ?_; intro w hM))
    by_cases z3 : v54 < 0
    · rw [decide_eq_true z3]
      repeat (first | refine gw ?_ | (refine ks ?_; intro w hM))
      refine c_condb rfl (fun _ => ?_) (fun h => by cases h)
      repeat (first | refine gw ?_ | (refine ks ?_; intro w hM))
      refine kca hM (lives17_any _ (hK.ch hM.ch (by simp))) (fun w hM => ?_)
      repeat (first | refine gw ?_ | (refine ks ?_; intro w hM))
      exact out1 rfl ⟨rfl, hM.ch⟩
    rw [decide_eq_false z3]
    repeat (first | refine gw ?_ | (refine ks ?_; intro w hM))
    have hRm := hm _ hrm
    simp only at hRm
    have hRm := hRm.ch hM.ch
    obtain ⟨gr, hgr2⟩ : ∃ g, g = recGood rse rsn rst rus rwz := ⟨_, rfl⟩
    (try ((with_reducible apply is_gd); first | refine gt ?_ | refine gf ?_ | refine gu ?_)); refine kca (X := .bool gr) hM (by rw [hgr2]; exact rgood16_any rse rsn rst (slv urr) (slv urw) rus rwz _ hRm.r hRm.u hRm.w hsk hsb) (fun w hM => ?_)
    cases hgg : gr with
    | false =>
      repeat (first | refine gw ?_ | (refine ks ?_; intro w hM))
      refine c_condb rfl (fun _ => ?_) (fun h => by cases h)
      repeat (first | refine gw ?_ | (refine ks ?_; intro w hM))
      refine kca hM (lives17_any _ (hK.ch hM.ch (by simp))) (fun w hM => ?_)
      repeat (first | refine gw ?_ | (refine ks ?_; intro w hM))
      exact out1 rfl ⟨rfl, hM.ch⟩
    | true =>
    repeat (first | refine gw ?_ | (refine ks ?_; intro w hM))
    by_cases z4 : (j : Int) < rsn
    · rw [decide_eq_true z4]
      repeat (first | refine gw ?_ | (refine ks ?_; intro w hM))
      refine c_condb rfl (fun _ => ?_) (fun h => by cases h)
      repeat (first | refine gw ?_ | (refine ks ?_; intro w hM))
      refine kca hM (lives17_any _ (hK.ch hM.ch (by simp))) (fun w hM => ?_)
      repeat (first | refine gw ?_ | (refine ks ?_; intro w hM))
      exact out1 rfl ⟨rfl, hM.ch⟩
    rw [decide_eq_false z4]
    repeat (first | refine gw ?_ | (refine ks ?_; intro w hM))
    refine c_condb rfl (fun h => by cases h) (fun _ => ?_)
    repeat (first | refine gw ?_ | (refine ks ?_; intro w hM))
    have hRm := hm _ hrm
    simp only at hRm
    refine kca (X := hv (leafHs (bytesB rse rsn rst rus rwz)).1) hM (rrecLeaf_any rse rsn rst (slv urr) (slv urw) rus rwz _ trivial (hRm.ch hM.ch) hsk hsb) (fun w hM => ?_)
    refine kpu (v := v9) (leafHs (bytesB rse rsn rst rus rwz)) hM (fun _ v9 w hM => ?_) (hb := by simp; omega) (h63 := by simp; omega)
    repeat (first | refine gw ?_ | (refine ks ?_; intro w hM))
    have e5 : (rs.map leafR).take j ++ [leafHs (bytesB rse rsn rst rus rwz)] = (rs.map leafR).take (j + 1) := by rw [List.take_add_one, hlf]; rfl
    rw [e5] at hM
    exact x_goes (n - 1) rfl (by omega) ⟨j + 1, v54, v9, exj rfl, by omega, by omega, hv54, hM.sub (by (repeat constructor)), hgr gr hgr2 hgg (by omega)⟩
  rw [List.take_of_length_le (by rw [List.length_map]; omega)] at hM
  have hgs : ∀ (i : Nat) (r : RT), rs[i]? = some r → goodR r = true ∧ r.1.2.1 ≤ (i : Int) := fun i r h => hgs i r (by have := (List.getElem?_eq_some_iff.1 h).1; omega) h
  clear hnj hj hl0 hl6
  obtain ⟨L, hL⟩ : ∃ L, L = rs.map leafR := ⟨_, rfl⟩
  have hLl : L.length = rs.length := by rw [hL, List.length_map]
  rw [← hL] at hM
  obtain ⟨A9, c9, rfl, _⟩ := (hM.row0 (en := eH) (v := v9) (xs := L) (by (repeat constructor))).form
  have hkl : I % rs.length < rs.length := Nat.mod_lt _ (by omega)
  repeat (first | refine gw ?_ | (refine ks ?_; intro w hM))
  rw [remN I rs.length, wrap_i64 (a := ((I % rs.length : Nat) : Int)) (by omega)]
  generalize I % rs.length = k at hkl ⊢
  repeat (first | refine gwb ?_ | (refine ks ?_; intro w hM))
  obtain ⟨r, hr⟩ : ∃ r, rs[k]? = some r := ⟨_, List.getElem?_eq_getElem hkl⟩
  have hrm := List.mem_of_getElem? hr
  obtain ⟨hrg, hrs⟩ := hgs k r hr
  obtain ⟨hsk, hsb⟩ := hsh _ hrm
  have hRm := hm _ hrm
  have hlf : L[k]? = some (leafR r) := by rw [hL, List.getElem?_map, hr]; rfl
  obtain ⟨⟨rse, rsn, rst, urr, urw⟩, rus, rwz⟩ := r
  simp only at hRm hsk hsb hrs
  have hrg : recGood rse rsn rst rus rwz = true := hrg
  have hlf : L[k]? = some (leafHs (bytesB rse rsn rst rus rwz)) := hlf
  refine c_ordY ([], []) [] (by kernel_rfl) (by kernel_rfl) (by kernel_rfl) (fun w hc hs => ?_)
  have hM := hM.call hc
  (first | refine yn 0 rfl ?_ | refine ynt 0 rfl ?_ | refine ynff 0 rfl ?_); (first | refine yn 1 rfl ?_ | refine ynt 1 rfl ?_ | refine ynff 1 rfl ?_); (first | refine yn 2 rfl ?_ | refine ynt 2 rfl ?_ | refine ynff 2 rfl ?_)
  refine ynx 3 rfl (hR.ch hM.ch) rfl rfl rfl (by omega) (by rw [List.length_map]; omega) (fun bx ox x hx hAx => ?_)
  rw [Int.toNat_natCast, List.getElem?_map, hr] at hx
  obtain rfl := Option.some.inj hx
  refine ynxl 4 rfl hAx (by have := hAx.1; omega) rfl rfl ?_
  (first | refine yn 5 rfl ?_ | refine ynt 5 rfl ?_ | refine ynff 5 rfl ?_); (first | refine yn 6 rfl ?_ | refine ynt 6 rfl ?_ | refine ynff 6 rfl ?_); (first | refine yn 7 rfl ?_ | refine ynt 7 rfl ?_ | refine ynff 7 rfl ?_); (first | refine yn 8 rfl ?_ | refine ynt 8 rfl ?_ | refine ynff 8 rfl ?_); (first | refine yn 9 rfl ?_ | refine ynt 9 rfl ?_ | refine ynff 9 rfl ?_)
  have hRL := hM.rowRdO (en := eH) (v := .slice A9 L.length c9) (xs := L) (by (repeat constructor))
  refine yn_cut_hi 10 rfl hRL (j := (k : Int) + 1) rfl rfl rfl (by omega) (by omega) (fun v91 hV => ?_)
  rw [show ((k : Int) + 1).toNat = k + 1 by omega] at hV
  refine ync (vs := [v91]) (v := hv (rootH (L.take (k + 1))).1) 11 rfl (by kernel_rfl) (by kernel_rfl) rfl (fun w1 hc1 => rroot_any _ v91 (L.take (k + 1)) w1 rfl (hV.ch (hc1.ch' hs)) (by rw [List.length_take]; omega)) rfl ?_
  obtain ⟨rk, hrk⟩ : ∃ q, q = rootH (L.take (k + 1)) := ⟨_, rfl⟩
  rw [← hrk]
  refine wy_cont (X := Nat × Nat) (fun x N w => N ≤ x.2 ∧ Mem [] w0 w [.cell x.2 (tC 0 0 0 false (.slice none 0 0) (.slice none 0 0) (.slice none 0 0) 0 zeroH zeroH) 100, .row eH 30 (.slice A9 L.length c9) L, .cell b5 (rC ses snap strict (slv uvr) (slv uvw)) 93])
    (fun x l => ((l.set 93 (.slice (some ⟨x.1, 0, none⟩) 0 0)).set 94 (hv (shaH [5]).1)).set 14 (.pointer (some ⟨x.2, 0, none⟩)) |>.set 95 (.agg (dC ((k : Int) + 1) rk (shaH [5])).toArray) |>.set 96 (.agg (tC k rse rsn rst (slv urr) (slv urw) (.slice none 0 0) ((k : Int) + 1) rk (shaH [5])).toArray)) #[true, true, true, true, true, true, true, true, true, true, true, true, true, true, true, true, true, false] (fuel := 1) (fun hkk => ?_) ?_
  · skip
    refine yk2 12 16 hM (by kernel_rfl) rfl rfl (fun w h0 hM => ?_) (fun w h0 hM => ?_)
    · skip
      refine kbsC (en := eKV) (vs := []) [] hM (fun w b93 hc hM => ?_)
      refine x_wy (.inl (hc.gy h0)) rfl ?_
      refine yk2 13 16 hM (by kernel_rfl) rfl rfl (fun w h0 hM => ?_) (fun w h0 hM => ?_)
      · skip
        refine ca (mroot0_any _ _ w) ?_
        rintro _ w2 ⟨rfl, hc⟩
        have hM := hM.call hc
        refine x_wy (.inl (hc.gy h0)) rfl ?_
        refine ynp (v := .agg (dC ((k : Int) + 1) rk (shaH [5])).toArray) 14 rfl (by kernel_rfl) (by kernel_rfl) (fun _ => r_bldS (vs := [(0, .int .i64 ((k : Int) + 1)), (1, hv rk.1), (2, hv (shaH [5]).1)]) (dC ((k : Int) + 1) rk (shaH [5])) (z := dC 0 zeroH zeroH) (place := plD) (by intro ps; kernel_rfl) rfl (flD3 _ _ _)) rfl ?_
        refine ynp (v := .agg (tC k rse rsn rst (slv urr) (slv urw) (.slice none 0 0) ((k : Int) + 1) rk (shaH [5])).toArray) 15 rfl (by kernel_rfl) (by kernel_rfl) (fun _ => r_bldS (vs := [(0, .int .i64 (k : Int)), (1, .agg (rC rse rsn rst (slv urr) (slv urw)).toArray), (3, .agg (dC ((k : Int) + 1) rk (shaH [5])).toArray)]) (tC k rse rsn rst (slv urr) (slv urw) (.slice none 0 0) ((k : Int) + 1) rk (shaH [5])) (z := tC 0 0 0 false (.slice none 0 0) (.slice none 0 0) (.slice none 0 0) 0 zeroH zeroH) (place := plT) (by intro ps; kernel_rfl) rfl (flT _ _ _ _ _ _ _ _ _)) rfl ?_
        refine yk1 16 hM (by kernel_rfl) rfl (fun w h0 hM => ?_)
        refine kalN hM (fun w b14 hb14 hc hM => ?_)
        have hb14 := Nat.le_trans h0 hb14
        rw [zero_rct] at hM
        refine x_wy (.inl (hc.gy h0)) rfl ?_
        exact hkk (b93, b14) _ _ _ (by kernel_rfl) rfl ⟨hb14, hM.sub (by (repeat constructor))⟩
      · skip
        refine kalN hM (fun w b14 hb14 hc hM => ?_)
        have hb14 := Nat.le_trans h0 hb14
        rw [zero_rct] at hM
        refine x_wy (.inl (hc.gy h0)) rfl ?_
        refine yk1 13 hM (by kernel_rfl) rfl (fun w h0 hM => ?_)
        refine ca (mroot0_any _ _ w) ?_
        rintro _ w2 ⟨rfl, hc⟩
        have hM := hM.call hc
        refine x_wy (.inl (hc.gy h0)) rfl ?_
        refine ynp (v := .agg (dC ((k : Int) + 1) rk (shaH [5])).toArray) 14 rfl (by kernel_rfl) (by kernel_rfl) (fun _ => r_bldS (vs := [(0, .int .i64 ((k : Int) + 1)), (1, hv rk.1), (2, hv (shaH [5]).1)]) (dC ((k : Int) + 1) rk (shaH [5])) (z := dC 0 zeroH zeroH) (place := plD) (by intro ps; kernel_rfl) rfl (flD3 _ _ _)) rfl ?_
        refine ynp (v := .agg (tC k rse rsn rst (slv urr) (slv urw) (.slice none 0 0) ((k : Int) + 1) rk (shaH [5])).toArray) 15 rfl (by kernel_rfl) (by kernel_rfl) (fun _ => r_bldS (vs := [(0, .int .i64 (k : Int)), (1, .agg (rC rse rsn rst (slv urr) (slv urw)).toArray), (3, .agg (dC ((k : Int) + 1) rk (shaH [5])).toArray)]) (tC k rse rsn rst (slv urr) (slv urw) (.slice none 0 0) ((k : Int) + 1) rk (shaH [5])) (z := tC 0 0 0 false (.slice none 0 0) (.slice none 0 0) (.slice none 0 0) 0 zeroH zeroH) (place := plT) (by intro ps; kernel_rfl) rfl (flT _ _ _ _ _ _ _ _ _)) rfl ?_
        exact hkk (b93, b14) _ _ _ (by kernel_rfl) rfl ⟨hb14, hM.sub (by (repeat constructor))⟩
    · skip
      refine kalN hM (fun w b14 hb14 hc hM => ?_)
      have hb14 := Nat.le_trans h0 hb14
      rw [zero_rct] at hM
      refine x_wy (.inl (hc.gy h0)) rfl ?_
      refine yk1 12 hM (by kernel_rfl) rfl (fun w h0 hM => ?_)
      refine kbsC (en := eKV) (vs := []) [] hM (fun w b93 hc hM => ?_)
      refine x_wy (.inl (hc.gy h0)) rfl ?_
      refine yk1 13 hM (by kernel_rfl) rfl (fun w h0 hM => ?_)
      refine ca (mroot0_any _ _ w) ?_
      rintro _ w2 ⟨rfl, hc⟩
      have hM := hM.call hc
      refine x_wy (.inl (hc.gy h0)) rfl ?_
      refine ynp (v := .agg (dC ((k : Int) + 1) rk (shaH [5])).toArray) 14 rfl (by kernel_rfl) (by kernel_rfl) (fun _ => r_bldS (vs := [(0, .int .i64 ((k : Int) + 1)), (1, hv rk.1), (2, hv (shaH [5]).1)]) (dC ((k : Int) + 1) rk (shaH [5])) (z := dC 0 zeroH zeroH) (place := plD) (by intro ps; kernel_rfl) rfl (flD3 _ _ _)) rfl ?_
      refine ynp (v := .agg (tC k rse rsn rst (slv urr) (slv urw) (.slice none 0 0) ((k : Int) + 1) rk (shaH [5])).toArray) 15 rfl (by kernel_rfl) (by kernel_rfl) (fun _ => r_bldS (vs := [(0, .int .i64 (k : Int)), (1, .agg (rC rse rsn rst (slv urr) (slv urw)).toArray), (3, .agg (dC ((k : Int) + 1) rk (shaH [5])).toArray)]) (tC k rse rsn rst (slv urr) (slv urw) (.slice none 0 0) ((k : Int) + 1) rk (shaH [5])) (z := tC 0 0 0 false (.slice none 0 0) (.slice none 0 0) (.slice none 0 0) 0 zeroH zeroH) (place := plT) (by intro ps; kernel_rfl) rfl (flT _ _ _ _ _ _ _ _ _)) rfl ?_
      exact hkk (b93, b14) _ _ _ (by kernel_rfl) rfl ⟨hb14, hM.sub (by (repeat constructor))⟩
  clear hM
  rintro ⟨b93, b14⟩ w ⟨hb14, hM⟩
  simp only at hb14 hM
  refine wy_nf ?_
  obtain ⟨lf, hlfq⟩ : ∃ q, q = leafHs (bytesB rse rsn rst rus rwz) := ⟨_, rfl⟩
  rw [← hlfq] at hlf
  refine yk1 17 hM (by kernel_rfl) rfl (fun w h0 hM => ?_)
  generalize shaH [5] = h5 at hM ⊢
  refine kstwT (b := b14) (vs := tC k rse rsn rst (slv urr) (slv urw) (.slice none 0 0) ((k : Int) + 1) rk h5) hM (fun w hc hM => ?_)
  refine x_wy (.inl (hc.bwn h0 (.inl hb14))) rfl ?_
  refine wy_done (by kernel_rfl) (fun w hc => ?_)
  have hM := hM.call hc
  repeat (first | refine gr ?_ | (refine ks ?_; intro w hM))
  refine kcuth (hM.rowRdO (en := eH) (v := .slice A9 L.length c9) (xs := L) (by (repeat constructor))) (fun v101 hV => ?_)
  rw [show ((k : Int) + 1).toNat = k + 1 by omega] at hV
  repeat (first | refine gr ?_ | (refine ks ?_; intro w hM))
  have htl : (L.take (k + 1)).length = k + 1 := by rw [List.length_take]; omega
  refine ca (rpath_any _ v101 (L.take (k + 1)) (k : Int) w rfl hV (by omega)) ?_
  rintro _ w ⟨hc, v104, rfl, hS⟩
  obtain ⟨u104, rfl⟩ := (hS [] (by simp)).slv
  obtain ⟨B104, hM⟩ := hM.gotRdB hc hS
  rw [pathZ_t (by omega : k < (L.take (k + 1)).length)] at hM
  clear hS
  obtain ⟨pa, hpa⟩ : ∃ p, p = (downH (L.take (k + 1)) k).reverse := ⟨_, rfl⟩
  rw [← hpa] at hM
  repeat (first | refine gr ?_ | (refine ks ?_; intro w hM))
  have hM : Mem [] w0 w [.cell b14 (tC k rse rsn rst (slv urr) (slv urw) (slv u104) ((k : Int) + 1) rk h5) 100, .rd (Ty.enc eH) B104 (slv u104) pa, .row eH 30 (.slice A9 L.length c9) L, .cell b5 (rC ses snap strict (slv uvr) (slv uvw)) 93] := hM.sub (by (repeat constructor))
  have hjm : J % (rs.length - k) < rs.length - k := Nat.mod_lt _ (by omega)
  have e7 : IntKind.i64.wrap ((k : Int) + 1 + IntKind.i64.wrap ((J : Int).tmod ((rs.length : Int) - (k : Int)))) = ((k + 1 + J % (rs.length - k) : Nat) : Int) := by
    rw [show (rs.length : Int) - (k : Int) = ((rs.length - k : Nat) : Int) by omega, remN J (rs.length - k), wrap_i64 (a := ((J % (rs.length - k) : Nat) : Int)) (by omega), wrap_i64 (by omega)]
    omega
  rw [e7]
  obtain ⟨m, hmd⟩ : ∃ m, m = k + 1 + J % (rs.length - k) := ⟨_, rfl⟩
  rw [← hmd]
  have hm1 : k + 1 ≤ m := by omega
  have hm2 : m ≤ L.length := by omega
  clear e7 hmd hjm
  refine kcuth (hM.rowRdO (en := eH) (v := .slice A9 L.length c9) (xs := L) (by (repeat constructor))) (fun v121 hV => ?_)
  rw [Int.toNat_natCast] at hV
  repeat (first | refine gr ?_ | (refine ks ?_; intro w hM))
  have hml : (L.take m).length = m := by rw [List.length_take]; omega
  obtain ⟨rm, hrm2⟩ : ∃ q, q = rootH (L.take m) := ⟨_, rfl⟩
  refine kca (X := hv rm.1) hM (by rw [hrm2]; exact rroot_any _ v121 (L.take m) _ rfl hV (by omega)) (fun w hM => ?_)
  repeat (first | refine gr ?_ | (refine ks ?_; intro w hM))
  (try ((with_reducible apply is_gd); first | refine gt ?_ | refine gf ?_ | refine gu ?_)); refine wl_val (r_bldS (vs := [(0, .int .i64 (m : Int)), (1, hv rm.1)]) (dC (m : Int) rm zeroH) (z := dC 0 zeroH zeroH) (place := plD) (by intro ps; kernel_rfl) rfl (flD2 _ _)) ?_
  refine kal hM (fun w b16 hM => ?_)
  have hM : Mem [] w0 w [.cell b16 (dC 0 zeroH zeroH) 98, .cell b14 (tC k rse rsn rst (slv urr) (slv urw) (slv u104) ((k : Int) + 1) rk h5) 100, .rd (Ty.enc eH) B104 (slv u104) pa, .row eH 30 (.slice A9 L.length c9) L, .cell b5 (rC ses snap strict (slv uvr) (slv uvw)) 93] := hM.sub (by (repeat constructor))
  refine kstw (b := b16) (vs := dC (m : Int) rm zeroH) hM (fun w hM => ?_) (hln := dC_len _ _ _) (hf := dC_len _ _ _) (h1 := dC_one)
  repeat (first | refine gr ?_ | (refine ks ?_; intro w hM))
  refine kcuth (hM.rowRdO (en := eH) (v := .slice A9 L.length c9) (xs := L) (by (repeat constructor))) (fun v127 hV => ?_)
  rw [Int.toNat_natCast] at hV
  repeat (first | refine gr ?_ | (refine ks ?_; intro w hM))
  refine ca (rgrown_any v127 (L.take m) ((k : Int) + 1) _ hV (by omega)) ?_
  rintro _ w ⟨hc, v131, rfl, hS⟩
  obtain ⟨B131, hM⟩ := hM.gotRdB hc hS
  clear hS
  rw [show (k : Int) + 1 = ((k + 1 : Nat) : Int) by omega, grownZ_t (by omega) (by omega)] at hM
  rw [← show (k : Int) + 1 = ((k + 1 : Nat) : Int) by omega] at hM
  repeat (first | refine gr ?_ | (refine ks ?_; intro w hM))
  have hxk : (L.take (k + 1))[k]? = some lf := by rw [List.getElem?_take, if_pos (by omega)]; exact hlf
  have hcp := climb_path (l := L.take (k + 1)) (i := k) (x := lf) (by omega) hxk
  rw [← hpa, ← hrk, htl] at hcp
  have hpl : pa.length ≤ 64 := by
    have := down_len (L.take (k + 1)) k
    rw [hpa, List.length_reverse]
    omega
  have hck : check17 (k : Int) ((k : Int) + 1) rsn rk pa (recGood rse rsn rst rus rwz) lf = true := by
    unfold check17
    rw [hrg, good17_t ⟨by omega, by omega, rfl, hrs, hpl⟩]
    unfold checkZ
    rw [show (k : Int) + 1 = ((k + 1 : Nat) : Int) by omega, hcp]
    simp
  obtain ⟨gp, hgp⟩ : ∃ p, p = (gdH (k + 1) (L.take m) true).reverse := ⟨_, rfl⟩
  rw [← hgp] at hM
  have hcg : checksZ rk rm ((k : Int) + 1) (m : Int) gp = true := by
    have h := checks_grown (l := L.take m) (m := k + 1) (by omega) (by omega) (by omega)
    rw [List.take_take, Nat.min_eq_left hm1, ← hrk, ← hrm2, hml, ← hgp] at h
    rw [show (k : Int) + 1 = ((k + 1 : Nat) : Int) by omega]
    exact h
  rw [hlfq] at hck
  have hla : later17 (check17 (k : Int) ((k : Int) + 1) rsn rk pa (recGood rse rsn rst rus rwz) (leafHs (bytesB rse rsn rst rus rwz))) rk rm ((k : Int) + 1) (m : Int) gp = true := by
    unfold later17
    rw [hck, hcg]
    rfl
  refine kca (X := .bool true) hM (by rw [← hck]; exact tcheck_any k rse rsn rst (slv urr) (slv urw) (slv u104) ((k : Int) + 1) rk h5 rus rwz pa _ (hK.ch hM.ch (by simp)) ⟨hRm.ch hM.ch, hM.rdRd (by (repeat constructor))⟩ hsk hsb) (fun w hM => ?_)
  repeat (first | refine gr ?_ | (refine ks ?_; intro w hM))
  (try ((with_reducible apply is_gd); first | refine gt ?_ | refine gf ?_ | refine gu ?_)); refine kca (X := .bool true) hM (by rw [← hla]; exact tlater_any k rse rsn rst (slv urr) (slv urw) (slv u104) ((k : Int) + 1) rk h5 rus rwz pa (m : Int) rm zeroH v131 gp _ (hK.ch hM.ch (by simp)) ⟨hRm.ch hM.ch, hM.rdRd (v := slv u104) (xs := pa) (by (repeat constructor))⟩ hsk hsb (hM.rdRd (v := v131) (xs := gp) (by (repeat constructor)))) (fun w hM => ?_)
  repeat (first | refine gr ?_ | (refine ks ?_; intro w hM))
  refine c_condb rfl (fun h => by cases h) (fun _ => ?_)
  repeat (first | refine gr ?_ | (refine ks ?_; intro w hM))
  refine kal hM (fun w b19 hM => ?_)
  rw [zero_rct] at hM
  refine kstwT (b := b19) (vs := tC k rse rsn rst (slv urr) (slv urw) (slv u104) ((k : Int) + 1) rk h5) hM (fun w hc hM => ?_)
  repeat (first | refine gr ?_ | (refine ks ?_; intro w hM))
  refine kstp (b := b19) (cs' := tC k ses snap strict (slv uvr) (slv uvw) (slv u104) ((k : Int) + 1) rk h5) (vs := rC ses snap strict (slv uvr) (slv uvw)) hM (fun w hM => ?_) rfl (hf := by rw [tC_len]; omega) (h1 := eRec.h1 (ses, snap, strict, uvr, uvw))
  have hM : Mem [] w0 w [.cell b19 (tC k ses snap strict (slv uvr) (slv uvw) (slv u104) ((k : Int) + 1) rk h5) 100, .cell b14 (tC k rse rsn rst (slv urr) (slv urw) (slv u104) ((k : Int) + 1) rk h5) 100, .rd (Ty.enc eH) B104 (slv u104) pa, .cell b5 (rC ses snap strict (slv uvr) (slv uvw)) 93] := hM.sub (by (repeat constructor))
  repeat (first | refine grb ?_ | (refine ks ?_; intro w hM))
  refine c_ordY ([], []) [] (by kernel_rfl) (by kernel_rfl) (by kernel_rfl) (fun w hc hs => ?_)
  have hM := hM.call hc
  have hlt5 := Blk.lt (hM.blk (b := b5) (by (repeat constructor)))
  have hlt14 := Blk.lt (hM.blk (b := b14) (by (repeat constructor)))
  (first | refine yn 0 rfl ?_ | refine ynt 0 rfl ?_ | refine ynff 0 rfl ?_); (first | refine yn 1 rfl ?_ | refine ynt 1 rfl ?_ | refine ynff 1 rfl ?_); (first | refine yn 2 rfl ?_ | refine ynt 2 rfl ?_ | refine ynff 2 rfl ?_)
  refine ynlr 3 rfl (hM.blk (b := b5) (by (repeat constructor))) (by omega) (by simp) rfl (ds := rC ses snap strict (slv uvr) (slv uvw)) rfl rfl ?_
  obtain ⟨lo, hlo⟩ : ∃ q, q = leafHs (bytesB ses snap strict us wz) := ⟨_, rfl⟩
  refine ync (vs := [.agg (rC ses snap strict (slv uvr) (slv uvw)).toArray]) (v := hv lo.1) 4 rfl (by kernel_rfl) (by kernel_rfl) rfl (fun w1 hc1 => by rw [hlo]; exact rrecLeaf_any ses snap strict (slv uvr) (slv uvw) us wz w1 trivial ((hA.ch hM.ch).ch (hc1.ch' hs)) hk hb) rfl ?_
  (first | refine yn 5 rfl ?_ | refine ynt 5 rfl ?_ | refine ynff 5 rfl ?_)
  refine ynl (v := slv u104) 6 rfl (hM.blk (b := b14) (by (repeat constructor))) (by omega) (by simp) rfl rfl ?_
  obtain ⟨rr, hrr⟩ : ∃ q, q = climbZ ((k : Int) + 1) (k : Int) lo pa := ⟨_, rfl⟩
  have hRp := hM.rdRd (t := Ty.enc eH) (v := slv u104) (xs := pa) (by (repeat constructor))
  refine ync (vs := [.int .i64 ((k : Int) + 1), .int .i64 (k : Int), hv lo.1, slv u104]) (v := .tuple #[hv rr.1.1, .bool rr.2]) 7 rfl (by kernel_rfl) (by kernel_rfl) rfl (fun w1 hc1 => by rw [hrr]; exact rclimb_any ((k : Int) + 1) (k : Int) lo _ pa w1 (hRp.ch (hc1.ch' hs))) rfl ?_
  (first | refine yn 8 rfl ?_ | refine ynt 8 rfl ?_ | refine ynff 8 rfl ?_); (first | refine yn 9 rfl ?_ | refine ynt 9 rfl ?_ | refine ynff 9 rfl ?_); (first | refine yn 10 rfl ?_ | refine ynt 10 rfl ?_ | refine ynff 10 rfl ?_)
  refine yal1 11 hM (by kernel_rfl) rfl (fun w b20 h20 hM => ?_)
  refine yk1 12 hM (by kernel_rfl) rfl (fun w h0 hM => ?_)
  refine kstwQ (b := b20) (vs := rr.1.1.map u8v) hM (fun w hc hM => ?_)
  refine x_wy (.inl (hc.bwn h0 (.inl h20))) rfl ?_
  (first | refine yn 13 rfl ?_ | refine ynt 13 rfl ?_ | refine ynff 13 rfl ?_)
  refine wy_done (by kernel_rfl) (fun w hc => ?_)
  have hM := hM.call hc
  repeat (first | refine gr ?_ | (refine ks ?_; intro w hM))
  obtain ⟨ck, hckd⟩ : ∃ c, c = check17 (k : Int) ((k : Int) + 1) snap rk pa (recGood ses snap strict us wz) (leafHs (bytesB ses snap strict us wz)) := ⟨_, rfl⟩
  have hcv : ck = (rr.2 && (decide (rr.1.1 = rk.1) && decide (snap ≤ (k : Int)))) := by
    rw [hckd, ← hlo]
    unfold check17 checkZ good17
    rw [hgood, ← hrr, Bool.and_true]
    have e1 : decide (rr.1 = rk) = decide (rr.1.1 = rk.1) := decide_eq_decide.2 ⟨fun h => congrArg Subtype.val h, fun h => Subtype.ext h⟩
    have e2 : decide (0 ≤ (k : Int) ∧ (k : Int) ≤ 1099511627776 ∧ (k : Int) + 1 = (k : Int) + 1 ∧ snap ≤ (k : Int) ∧ pa.length ≤ 64) = decide (snap ≤ (k : Int)) := decide_eq_decide.2 ⟨fun h => h.2.2.2.1, fun h => ⟨by omega, by omega, rfl, h, hpl⟩⟩
    rw [e1, e2]
    cases rr.2 <;> cases decide (rr.1.1 = rk.1) <;> cases decide (snap ≤ (k : Int)) <;> rfl
  refine kca (X := .bool ck) hM (by rw [hckd]; exact tcheck_any k ses snap strict (slv uvr) (slv uvw) (slv u104) ((k : Int) + 1) rk h5 us wz pa _ (hK.ch hM.ch (by simp)) ⟨hA.ch hM.ch, hM.rdRd (v := slv u104) (xs := pa) (by (repeat constructor))⟩ hk hb) (fun w hM => ?_)
  clear hckd hrr
  obtain ⟨kk, ok⟩ := rr
  have hM : Mem [] w0 w [.cell b20 (kk.1.map u8v) 30, .cell b19 (tC k ses snap strict (slv uvr) (slv uvw) (slv u104) ((k : Int) + 1) rk h5) 100, .cell b14 (tC k rse rsn rst (slv urr) (slv urw) (slv u104) ((k : Int) + 1) rk h5) 100, .rd (Ty.enc eH) B104 (slv u104) pa, .cell b5 (rC ses snap strict (slv uvr) (slv uvw)) 93] := hM.sub (by (repeat constructor))
  cases hoo : ok with
  | false =>
    obtain rfl : ck = false := by rw [hcv, hoo]; rfl
    repeat (first | refine gr ?_ | (refine ks ?_; intro w hM))
    (try ((with_reducible apply is_gd); first | refine gt ?_ | refine gf ?_ | refine gu ?_)); refine wl_val (r_eqbs (a := false) rfl rfl) ?_
    repeat (first | refine gr ?_ | (refine ks ?_; intro w hM))
    (try ((with_reducible apply is_gd); first | refine gt ?_ | refine gf ?_ | refine gu ?_)); refine kca hM (lives17_any _ (hK.ch hM.ch (by simp))) (fun w hM => ?_)
    repeat (first | refine gr ?_ | (refine ks ?_; intro w hM))
    exact out1 rfl ⟨rfl, hM.ch⟩
  | true =>
  have hcv : ck = (decide (kk.1 = rk.1) && decide (snap ≤ (k : Int))) := by rw [hcv, hoo]; rfl
  repeat (first | refine gr ?_ | (refine ks ?_; intro w hM))
  (try ((with_reducible apply is_gd); first | refine gt ?_ | refine gf ?_ | refine gu ?_)); refine wl_val (r_eql8 (n := 32) (a := kk.1) (b := rk.1) (by kernel_rfl) rfl rfl kk.2 rk.2) ?_
  by_cases d1 : kk.1 = rk.1
  rotate_left
  · rw [decide_eq_false d1] at hcv ⊢
    obtain rfl : ck = false := hcv
    repeat (first | refine gr ?_ | (refine ks ?_; intro w hM))
    (try ((with_reducible apply is_gd); first | refine gt ?_ | refine gf ?_ | refine gu ?_)); refine wl_val (r_eqbs (a := false) rfl rfl) ?_
    repeat (first | refine gr ?_ | (refine ks ?_; intro w hM))
    (try ((with_reducible apply is_gd); first | refine gt ?_ | refine gf ?_ | refine gu ?_)); refine kca hM (lives17_any _ (hK.ch hM.ch (by simp))) (fun w hM => ?_)
    repeat (first | refine gr ?_ | (refine ks ?_; intro w hM))
    exact out1 rfl ⟨rfl, hM.ch⟩
  rw [decide_eq_true d1] at hcv ⊢
  repeat (first | refine gr ?_ | (refine ks ?_; intro w hM))
  obtain rfl : ck = decide (snap ≤ (k : Int)) := hcv
  repeat (first | refine gr ?_ | (refine ks ?_; intro w hM))
  (try ((with_reducible apply is_gd); first | refine gt ?_ | refine gf ?_ | refine gu ?_)); refine wl_val (r_eqbs (a := decide (snap ≤ (k : Int))) rfl rfl) ?_
  repeat (first | refine gr ?_ | (refine ks ?_; intro w hM))
  (try ((with_reducible apply is_gd); first | refine gt ?_ | refine gf ?_ | refine gu ?_)); refine kca hM (lives17_any _ (hK.ch hM.ch (by simp))) (fun w hM => ?_)
  repeat (first | refine gr ?_ | (refine ks ?_; intro w hM))
  exact out1 rfl ⟨rfl, hM.ch⟩
end Go.Proofs.YtkdbinchlpdkmaaDoor

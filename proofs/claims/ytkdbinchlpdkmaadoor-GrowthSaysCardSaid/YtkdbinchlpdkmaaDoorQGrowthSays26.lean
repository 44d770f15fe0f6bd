/- Walks of growth: of facts two inputs of one hash, the program's: with a table of facts.
   Walks of growth: of facts two inputs of one hash, the document's; the document's Grown; facts compared, facts turned over.
   Walks of growth: the document's Grown; facts compared; facts turned over. -/
import Derived.Test.YtkdbinchlpdkmaaDoorQGrowthSays23
import Derived.Test.YtkdbinchlpdkmaaDoorQGrowthSays18
import Derived.Test.YtkdbinchlpdkmaaDoorQGrowthSays25
import Derived.MapKept
import Derived.WideKeyRuns
set_option linter.unusedVariables false
set_option linter.unusedSimpArgs false
set_option maxRecDepth 4000
namespace Go.Proofs.E
open Go Go.RowKit
section
variable {P : Program} {ops : Array Oper} {N : Nat} {S : List Nat} {Q : Exit → Act → World → Prop} {z : List Nat × List Nat} {fuel : Nat} {listed : Array Bool} {l : List Value} {w : World} {T : TypeId} {pos : String} {after : Array Edge}
/-- A load of an element of one cell. -/
theorem yna1 {d : Nat} {x : Operand} {E : TypeId} {b o : Nat} {u : SlV} [hr1 : One P E] (k : Nat) (ho : ops[k]? = some { dst := some d, op := .load E x, type := T, pos := pos, after := after, guard := none }) (hA : (Ty.enc eSl).At S w b o u) (hlt : b < N) (hx : ev l x = .pointer (some ⟨b, o, none⟩))
    (h : WY P ops N S Q z fuel (listed.setIfInBounds k true) (fr (l.set d (slv u))) w) (hr : (Region.ready .any ops listed).contains k = true := by kernel_rfl) (hf : Region.free .any ops listed k = true := by kernel_rfl) (hnf : k ∉ z.2 := by decide) : WY P ops N S Q z (fuel + 1) listed (fr l) w := by
  refine ynv (hnf := hnf) k ho hr hf (fun w1 hG => ?_) rfl h
  obtain ⟨hb, hS, cs, hR, hc⟩ := At.bw hA hG hlt
  have hR' : cs = [slv u] := hR
  subst hR'
  exact r_load_one hx (hc 0 _ rfl)
end
section
variable {P : Program} {w : World}
theorem run_ck_int (em : Bool) (n : Nat) {t : TypeId} {k : IntKind} {v : Int} [hu : Und P t (.int k)] : (Instr.checkKey em (n + 1) t (.int k v)).run P w = .ok () w := MapKept.run_checkKey (d := .int k) hu.out (by exact rfl) em n
theorem run_ck_arr8 (em : Bool) (m : Nat) {t e : TypeId} {n by_ : Nat} {z : Value} {bs : List UInt8} [hu : Und P t (.array n e)] [he : Und P e (.int .u8)] [ho : One P e] [hi : Inf P e z 1 by_] (hl : bs.length = n) : (Instr.checkKey em (m + 2) t (.agg (bs.map u8v).toArray)).run P w = .ok () w := by
  rw [show m + 2 = (m + 1) + 1 from rfl, Instr.checkKey]
  simp only [Sem.run_bind, run_underlying hu.out, Result.andThen_ok]
  simp only [Std.Legacy.Range.forIn_eq_forIn_range', Std.Legacy.Range.size, Nat.sub_zero, Nat.add_one_sub_one, Nat.div_one]
  have each : ∀ j ∈ List.range' 0 n, j < n := fun j hj => by simpa using hj
  generalize List.range' 0 n = is at each
  induction is with
  | nil => simp
  | cons j is ih =>
    have hj := each j (by simp)
    have hag := run_isAgg_one (P := P) (w := w) (t := e)
    have p1 : (part e (bs.map u8v).toArray (j * 1)).run P w = .ok (u8v (bs[j]'(by omega))) w := by
      simp [part, hag, hl, hj]
    have p2 : (Instr.checkKey em (m + 1) e (u8v (bs[j]'(by omega)))).run P w = .ok () w := run_ck_int (k := .u8) em m
    simp only [List.forIn_cons, Sem.run_bind, run_size (hi := hi), Result.andThen_ok, p1, p2, Sem.run_pure]
    exact ih (fun y hy => each y (by simp [hy]))
end
end Go.Proofs.E
namespace Go.Proofs.YtkdbinchlpdkmaaDoor
open Go Go.RowKit Go.Proofs.E
attribute [local irreducible] Go.wpList Go.Code.wp Go.Proofs.E.exec Go.Proofs.E.wpLexG
abbrev kC (k : AbK) : List Value := .int .i64 k.1 :: .int .i64 k.2.1 :: (k.2.2.1.map u8v)
theorem kC_len (k : AbK) : (kC k).length = 34 := by simp [k.2.2.2]
theorem kC_one (k : AbK) : ∀ u ∈ kC k, u.oneCell' = true := by
  intro u hu
  simp only [kC, List.mem_cons] at hu
  rcases hu with rfl | rfl | hu
  · rfl
  · rfl
  · exact one_u8 u hu
theorem abk_ext {a b : AbK} : a = b ↔ a.1 = b.1 ∧ a.2.1 = b.2.1 ∧ a.2.2.1 = b.2.2.1 := by
  obtain ⟨a1, a2, a3⟩ := a
  obtain ⟨b1, b2, b3⟩ := b
  simp only [Prod.mk.injEq]
  constructor
  · rintro ⟨rfl, rfl, rfl⟩
    exact ⟨rfl, rfl, rfl⟩
  · rintro ⟨rfl, rfl, h⟩
    exact ⟨rfl, rfl, Subtype.ext h⟩
theorem kC_h (k : AbK) : ((kC k).drop 2).take 32 = k.2.2.1.map u8v := List.take_of_length_le (by simp [k.2.2.2])
theorem kC_cmp (a b : AbK) : CmpFs Tryd.prog 9999 (kC a) (kC b) (Tryd.prog.fieldsOf 149).toList (decide (a = b)) := by
  have e : decide (a = b) = ((a.1 == b.1) && ((a.2.1 == b.2.1) && (decide (a.2.2.1 = b.2.2.1) && true))) := by
    rw [Bool.eq_iff_iff]
    simp [abk_ext]
  rw [e]
  simp only [Program.fieldsOf, Tryd.underlying149]
  exact .cons (by decide) (cmp_int (t := 3)) rfl rfl (.cons (by decide) (cmp_int (t := 3)) rfl rfl (.cons (by decide) (cmp_arr8 (t := 30) (e := 5) a.2.2.2 b.2.2.2) (kC_h a) (kC_h b) .nil))
theorem run_eqK (a b : AbK) (w : World) : (Op.equal 149 (.agg (kC a).toArray) (.agg (kC b).toArray)).run Tryd.prog w = .ok (decide (a = b)) w := by
  have h1 := run_equalIn_struct (P := Tryd.prog) w 9999 149 (kC a).toArray (kC b).toArray (by kernel_rfl) (by kernel_rfl)
  rw [run_cmpFs (by simpa using kC_cmp a b)] at h1
  exact h1
theorem run_ckK (em : Bool) (a : AbK) (w : World) : (Instr.checkKey em 10000 149 (.agg (kC a).toArray)).run Tryd.prog w = .ok () w := by
  have h1 : (Instr.checkKey em 9999 3 (.int .i64 a.1)).run Tryd.prog w = .ok () w := run_ck_int (P := Tryd.prog) em 9998
  have h2 : (Instr.checkKey em 9999 3 (.int .i64 a.2.1)).run Tryd.prog w = .ok () w := run_ck_int (P := Tryd.prog) em 9998
  have h3 : (Instr.checkKey em 9999 30 (.agg (a.2.2.1.map u8v).toArray)).run Tryd.prog w = .ok () w := run_ck_arr8 (P := Tryd.prog) (e := 5) em 9997 a.2.2.2
  have p1 : (part 3 (kC a).toArray 0).run Tryd.prog w = .ok (.int .i64 a.1) w := run_part_one w rfl
  have p2 : (part 3 (kC a).toArray 1).run Tryd.prog w = .ok (.int .i64 a.2.1) w := run_part_one w rfl
  have p3 : (part 30 (kC a).toArray 2).run Tryd.prog w = .ok (.agg (a.2.2.1.map u8v).toArray) w := by
    have hag := run_isAgg_row (P := Tryd.prog) (w := w) (t := 30)
    have hs := run_size (P := Tryd.prog) (w := w) (E := 30)
    have he : (kC a).toArray.extract 2 (2 + 32) = (a.2.2.1.map u8v).toArray := by
      apply Array.ext'
      rw [Array.toList_extract]
      simp [List.extract, kC]
      exact List.take_of_length_le (by rw [List.length_map, a.2.2.2]; omega)
    simp [part, hag, hs, he]
    exact List.take_of_length_le (by rw [List.length_map, a.2.2.2]; omega)
  rw [show (10000 : Nat) = 9999 + 1 from rfl, Instr.checkKey]
  simp only [Sem.run_bind, run_underlying Tryd.underlying149, Result.andThen_ok]
  rw [← Array.forIn_toList]
  simp [p1, p2, p3, h1, h2, h3]
def MapA (es : Array MapEntry) (ks : List (AbK × Nat)) : Prop := es.toList.map (fun e => (e.key, e.val)) = ks.map fun k => (Value.agg (kC k.1).toArray, Value.int .i64 (k.2 : Int))
theorem find_map (k : AbK) (w : World) : ∀ (es : List MapEntry) (ks : List (AbK × Nat)) (i : Nat), es.map (fun e => (e.key, e.val)) = ks.map (fun k => (Value.agg (kC k.1).toArray, Value.int .i64 (k.2 : Int))) →
    (∃ p ∈ ks, p.1 = k ∧ ∃ j, (Instr.findAsking 149 (.agg (kC k).toArray) es i).run Tryd.prog w = .ok (some (j, .int .i64 (p.2 : Int))) w) ∨ ((∀ p ∈ ks, p.1 ≠ k) ∧ (Instr.findAsking 149 (.agg (kC k).toArray) es i).run Tryd.prog w = .ok none w)
  | [], [], i, _ => .inr ⟨by simp, by simp [Instr.findAsking]⟩
  | [], _ :: _, i, h => by simp at h
  | _ :: _, [], i, h => by simp at h
  | e :: es, q :: ks, i, h => by
    simp only [List.map_cons, List.cons.injEq, Prod.mk.injEq] at h
    obtain ⟨⟨hk, hv⟩, ht⟩ := h
    have hq := run_eqK k q.1 w
    by_cases hkq : k = q.1
    · refine .inl ⟨q, by simp, hkq.symm, i, ?_⟩
      rw [decide_eq_true hkq] at hq
      simp [Instr.findAsking, hk, hq, hv]
    · rw [decide_eq_false hkq] at hq
      rcases find_map k w es ks (i + 1) ht with ⟨p, hp, he, j, h2⟩ | ⟨h1, h2⟩
      · exact .inl ⟨p, by simp [hp], he, j, by simp [Instr.findAsking, hk, hq, h2]⟩
      · refine .inr ⟨fun p hp => ?_, by simp [Instr.findAsking, hk, hq, h2]⟩
        rcases List.mem_cons.1 hp with rfl | hp
        · exact fun e => hkq e.symm
        · exact h1 p hp
theorem run_findK (k : AbK) (w : World) {es : Array MapEntry} {ks : List (AbK × Nat)} (h : MapA es ks) :
    (∃ p ∈ ks, p.1 = k ∧ ∃ j, (Instr.findKey 149 (.agg (kC k).toArray) es.toList).run Tryd.prog w = .ok (some (j, .int .i64 (p.2 : Int))) w) ∨ ((∀ p ∈ ks, p.1 ≠ k) ∧ (Instr.findKey 149 (.agg (kC k).toArray) es.toList).run Tryd.prog w = .ok none w) := by
  rw [run_findKey_eq (P := Tryd.prog) w (by kernel_rfl)]
  exact find_map k w es.toList ks 0 h
section
variable {ops : Array Oper} {Q : Exit → Act → World → Prop} {rest : List Oper} {l l' : List Value} {O : List Nat} {w0 w : World} {L L' : List As} {T : TypeId} {pos : String} {after : Array Edge}
theorem kmkA {P : Program} {d : Nat} {t : TypeId} (hM : Mem O w0 w L) (h : ∀ w' b, Mem O w0 w' (.obj b (.map #[] 0) :: L) → wpList P ops Q rest (fr (l.set d (.map (some b)))) w') :
    wpList P ops Q ({ dst := some d, op := .makeMap t none, type := T, pos := pos, after := after, guard := none } :: rest) (fr l) w := by
  refine wl_val (w' := w.alloc (.map #[] 0)) (v := .map (some w.heap.size)) (by simp [exec, execOp, Instr.makeMap, newObj, Sem.run]) (h _ _ ?_)
  have hc : Ch [] w (w.alloc (.map #[] 0)) := Ch.of_below ((Below.refl _ w).alloc (Nat.le_refl _) _)
  exact hM.res (a := .obj w.heap.size (.map #[] 0)) hc (heap_alloc_new w _) (fun k hk => by rw [show k = w.heap.size from hk]; exact Nat.le_refl _)
theorem klkA {d : Nat} {m x : Operand} {b : Nat} {es : Array MapEntry} {c : Nat} {ks : List (AbK × Nat)} {k : AbK}
    (hM : Mem O w0 w L) (hE : MapA es ks) (hy : ∀ p ∈ ks, p.1 = k → wpList Tryd.prog ops Q rest (fr (l.set d (.tuple #[.int .i64 (p.2 : Int), .bool true]))) w) (hn : (∀ p ∈ ks, p.1 ≠ k) → wpList Tryd.prog ops Q rest (fr (l.set d (.tuple #[.int .i64 0, .bool false]))) w)
    (hm : ev l m = .map (some b) := by exact rfl) (hx : ev l x = .agg (kC k).toArray := by exact rfl) (hp : Pick L (.obj b (.map es c)) L' := by (repeat (first | exact Go.Proofs.E.Pick.here | apply Go.Proofs.E.Pick.there))) :
    wpList Tryd.prog ops Q ({ dst := some d, op := .lookup 147 m x true, type := T, pos := pos, after := after, guard := none } :: rest) (fr l) w := by
  have hb : w.heap[b]? = some (.map es c) := (hM.pick hp).head
  have hck := run_ckK es.isEmpty k w
  have hz := run_zero (P := Tryd.prog) (w := w) (E := 3)
  rcases run_findK k w hE with ⟨p, hpk, he, j, hf⟩ | ⟨hne, hf⟩
  · refine wl_val (w' := w) ?_ (hy p hpk he)
    simp [exec, execOp, Instr.lookup, hm, hx, run_underlying Tryd.underlying147, MapKept.run_getObj_map hb, Result.andThen, hck, hf]
  · refine wl_val (w' := w) ?_ (hn hne)
    simp [exec, execOp, Instr.lookup, hm, hx, run_underlying Tryd.underlying147, MapKept.run_getObj_map hb, Result.andThen, hck, hf, hz]
theorem kmuA {m x y : Operand} {b : Nat} {es : Array MapEntry} {c i : Nat} {ks : List (AbK × Nat)} {k : AbK}
    (hM : Mem O w0 w L) (hE : MapA es ks) (hs : ∀ p ∈ ks, p.1 ≠ k) (h : ∀ w' es' c', Mem O w0 w' (.obj b (.map es' c') :: L') → MapA es' (ks ++ [(k, i)]) → wpList Tryd.prog ops Q rest (fr l) w')
    (hm : ev l m = .map (some b) := by exact rfl) (hx : ev l x = .agg (kC k).toArray := by exact rfl) (hy : ev l y = .int .i64 (i : Int) := by exact rfl) (hp : Pick L (.obj b (.map es c)) L' := by (repeat (first | exact Go.Proofs.E.Pick.here | apply Go.Proofs.E.Pick.there))) :
    wpList Tryd.prog ops Q ({ dst := none, op := .mapUpdate 147 m x y, type := T, pos := pos, after := after, guard := none } :: rest) (fr l) w := by
  have hM' := hM.pick hp
  have hb : w.heap[b]? = some (.map es c) := hM'.head
  have hck := run_ckK false k w
  have hf : (Instr.findKey 149 (.agg (kC k).toArray) es.toList).run Tryd.prog w = .ok none w := by
    rcases run_findK k w hE with ⟨p, hpk, he, _⟩ | ⟨_, hf⟩
    · exact absurd he (hs p hpk)
    · exact hf
  have hlt : b < w.heap.size := (Array.getElem?_eq_some_iff.1 hb).1
  refine wl_skip (w' := { w with heap := w.heap.setIfInBounds b (.map (es.push { key := .agg (kC k).toArray, val := .int .i64 (i : Int), born := c }) (c + 1)) }) ?_ (h _ (es.push { key := .agg (kC k).toArray, val := .int .i64 (i : Int), born := c }) (c + 1) ?_ ?_)
  · simp [exec, execOp, Instr.mapUpdate, hm, hx, hy, run_underlying Tryd.underlying147, MapKept.run_getObj_map hb, Result.andThen, hck, hf, MapKept.run_setObj_map _ hb]
  · refine hM'.put (S := [b]) (a' := .obj b (.map (es.push { key := .agg (kC k).toArray, val := .int .i64 (i : Int), born := c }) (c + 1))) ⟨rfl, rfl, rfl, by simp, fun k' hk' hn => ?_⟩ (fun k' hk' => show k' = b by simpa using hk') ?_ (fun k' hk' => .inl hk')
    · have : k' ≠ b := fun e => hn (by simp [e])
      simp [Ne.symm this]
    · show (w.heap.setIfInBounds b _)[b]? = _
      simp [hlt]
  · unfold MapA at hE ⊢
    rw [Array.toList_push, List.map_append, List.map_append, hE]
    rfl
end
theorem take_all {α : Type} {xs ys : List α} (hl : xs.length = ys.length) {j : Nat} (hj : xs.length ≤ j) (h : xs.take j = ys.take j) : xs = ys := by
  rwa [List.take_of_length_le hj, List.take_of_length_le (by omega)] at h
theorem take_on {α : Type} {xs ys : List α} {j : Nat} {x y : α} (hx : xs[j]? = some x) (hy : ys[j]? = some y) (h : xs.take j = ys.take j) (he : x = y) : xs.take (j + 1) = ys.take (j + 1) := by
  rw [List.take_add_one, List.take_add_one, hx, hy, h, he]
set_option maxHeartbeats 4000000 in
theorem eq8_any (va vb : Value) (xs ys : List UInt8) (w0 : World) (hX : tU8.Rd [] w0 va xs) (hY : tU8.Rd [] w0 vb ys) :
    Calls Tryd.prog 77 #[va, vb] w0 (Ret fun u w' => u = .bool (decide (xs = ys)) ∧ Ch [] w0 w') := by
  have hM := Mem.start w0
  obtain ⟨A, c, rfl⟩ := hX.form
  obtain ⟨A2, c2, rfl⟩ := hY.form
  have hl1 := hX.le
  have hl2 := hY.le
  refine enter [.slice A xs.length c, .slice A2 ys.length c2, undef, undef, undef, undef, undef, undef, undef, undef, undef, undef, undef, undef, undef, undef, undef, undef, undef, undef, undef, undef, undef, undef, undef, undef] Tryd.func77 rfl rfl ?_
  repeat (first | refine gw ?_ | (refine ks ?_; intro w hM))
  refine c_cond rfl (fun q1 => ?_) (fun q1 => ?_)
  · repeat (first | refine gw ?_ | (refine ks ?_; intro w hM))
    refine out1 rfl ⟨congrArg Value.bool (decide_eq_false (fun h => q1 (by rw [h]))).symm, hM.ch⟩
  have hl : xs.length = ys.length := by omega
  repeat (first | refine gw ?_ | (refine ks ?_; intro w hM))
  
  refine c_loop (fun n l w => ∃ (j : Nat), (∃ jj : Nat → Value, l = [.slice A xs.length c, .slice A2 ys.length c2, jj 2, jj 3, .bool false, jj 5, jj 6, jj 7, jj 8, jj 9, jj 10, jj 11, .int .i64 (xs.length : Int), .int .i64 (j : Int), jj 14, jj 15, jj 16, jj 17, jj 18, jj 19, jj 20, jj 21, jj 22, jj 23, jj 24, jj 25]) ∧ n + j = xs.length ∧ Mem [] w0 w [] ∧ xs.take j = ys.take j) xs.length
    ⟨0, exj rfl, rfl, hM, rfl⟩ ?_
  clear hM
  rintro n l w ⟨j, ⟨jj, rfl⟩, hnj, hM, hf⟩
  repeat (first | refine gw ?_ | (refine ks ?_; intro w hM))
  refine c_cond rfl (fun hj => ?_) (fun hj => ?_)
  · repeat (first | refine gw ?_ | (refine ks ?_; intro w hM))
    refine kdr hM (by kernel_rfl) (by kernel_rfl) (fun w hM => ?_)
    (try refine gwg ?_)
    refine kixg hX (fun o1 o2 x hx hA => ?_)
    refine katg hM hA ?_ (v := u8v x)
    (try refine gwg ?_)
    refine kixg hY (fun o3 o4 y hy hA' => ?_)
    refine katg hM hA' ?_ (v := u8v y)
    rw [Int.toNat_natCast] at hx hy
    (try refine gwg ?_)
    (intro w hc; have hM := hM.call hc)
    repeat (first | refine gw ?_ | (refine ks ?_; intro w hM))
    refine c_cond rfl (fun hne => ?_) (fun heq => ?_)
    · repeat (first | refine gw ?_ | (refine ks ?_; intro w hM))
      exact out1 rfl ⟨congrArg Value.bool (decide_eq_false (fun h => hne (by rw [h, hy] at hx; injection hx with hx; rw [hx]))).symm, hM.ch⟩
    · repeat (first | refine gw ?_ | (refine ks ?_; intro w hM))
      exact x_goes (n - 1) rfl (by omega) ⟨j + 1, exj rfl, by omega, hM.sub (by (repeat constructor)), take_on hx hy hf (UInt8.toNat.inj (by omega))⟩
  · repeat (first | refine gw ?_ | (refine ks ?_; intro w hM))
    exact out1 rfl ⟨congrArg Value.bool (decide_eq_true (take_all hl (by omega) hf)).symm, hM.ch⟩
theorem atInp {S : List Nat} {w : World} {b o : Nat} {x : Fv} (h : (Ty.enc eFv).At S w b o x) : (Ty.enc eSl).At S w b (o + 34) x.2.2.2 := by
  obtain ⟨hb, hn, cs, hR, hr⟩ := h
  have hR : cs = eFv.f x := hR
  subst hR
  refine ⟨hb, hn, _, rfl, fun j v hv => ?_⟩
  have hv' : [slv x.2.2.2][j]? = some v := hv
  match j, hv' with
  | 0, hv' =>
    simp only [List.getElem?_cons_zero, Option.some.injEq] at hv'
    subst hv'
    exact hr 34 _ (hf_get _ _ _ _)
  | j + 1, hv' => simp at hv'
theorem inF_dF (f : Fv × List UInt8) : inF (dF f) = f.2 := rfl
theorem slv_form {u : SlV} {xs : List UInt8} {S : List Nat} {w : World} (h : tU8.Rd S w (slv u) xs) : ∃ A c, u = (A, xs.length, c) := by
  obtain ⟨A, c, h⟩ := h.form
  obtain ⟨x, y, z⟩ := u
  have h : Value.slice x y z = .slice A xs.length c := h
  injection h with h1 h2 h3
  exact ⟨A, c, by rw [h1, h2, h3]⟩
/-- Facts that are read. -/
structure FactM (w : World) (v : Value) (fs : List (Fv × List UInt8)) : Prop where
  r : (Ty.enc eFv).Rd [] w v (fs.map (·.1))
  i : ∀ f ∈ fs, tU8.Rd [] w (slv f.1.2.2.2) f.2
  b : ∀ f ∈ fs, f.2.length ≤ 1000000000
theorem FactM.ch {w w' : World} {v : Value} {fs : List (Fv × List UInt8)} (h : FactM w v fs) (hc : Ch [] w w') : FactM w' v fs := ⟨h.r.ch hc, fun f hf => (h.i f hf).ch hc, h.b⟩
/-- What Meet hands back. -/
def MeetPost (o : Option (List UInt8 × List UInt8)) (w0 : World) (u : Value) (w' : World) : Prop :=
  ∃ a b, u = .tuple #[a, b, .bool o.isSome] ∧ Mem [] w0 w' [.row eU8 5 a (o.getD ([], [])).1, .row eU8 5 b (o.getD ([], [])).2]
theorem spl_k (lo hi : Int) (h h' : Hs) : spl (kC (lo, hi, h)) 2 (hv h'.1).cells.toList = kC (lo, hi, h') := by
  have e : (hv h'.1).cells.toList = h'.1.map u8v := by simp [hv, Value.cells]
  rw [e]
  unfold spl
  rw [hf_len]
  show [.int .i64 lo, .int .i64 hi] ++ _ ++ ((h.1.map u8v).drop 32) = _
  rw [List.drop_of_length_le (by rw [hf_len]; omega)]
  simp [kC]
theorem flK (lo hi : Int) (h : Hs) : Fl (#[(0, 1), (1, 1), (2, 32)][·]?) (kC (0, 0, zeroH)) [(0, .int .i64 lo), (1, .int .i64 hi), (2, hv h.1)] (kC (lo, hi, h)) :=
  .cons rfl rfl (by rw [kC_len]; omega) (.cons rfl rfl (by show 1 + 1 ≤ (kC (lo, 0, zeroH)).length; rw [kC_len]; omega) (.cons rfl (by simp [hv, Value.cells, h.2]) (by show 2 + 32 ≤ (kC (lo, hi, zeroH)).length; rw [kC_len]; omega)
    (.nil (by
      show spl (kC (lo, hi, zeroH)) 2 (hv h.1).cells.toList = _
      rw [spl_k]))))
set_option maxHeartbeats 16000000 in
theorem gmeet_any (v : Value) (fs : List (Fv × List UInt8)) (w0 : World) (hF : FactM w0 v fs) :
    Calls Tryd.prog 32 #[v] w0 (Ret fun u w' => MeetPost (meetF (fs.map dF)) w0 u w') := by
  have hM := Mem.start w0
  have hle := hF.r.le
  rw [List.length_map] at hle
  obtain ⟨A, c, rfl⟩ := hF.r.form
  obtain ⟨L, hL⟩ : ∃ L, L = fs.map dF := ⟨_, rfl⟩
  have hLl : L.length = fs.length := by rw [hL, List.length_map]
  rw [← hL]
  rw [List.length_map] at hF ⊢
  refine enter [.slice A fs.length c, undef, undef, undef, undef, undef, undef, undef, undef, undef, undef, undef, undef, undef, undef, undef, undef, undef, undef, undef, undef, undef, undef, undef, undef, undef, undef, undef, undef, undef, undef, undef, undef, undef, undef, undef, undef, undef, undef, undef, undef, undef, undef, undef, undef, undef, undef, undef, undef, undef, undef, undef, undef, undef, undef, undef, undef, undef, undef, undef, undef, undef, undef, undef, undef, undef, undef, undef, undef, undef, undef, undef, undef, undef, undef, undef, undef, undef] Tryd.func32 rfl rfl ?_
  repeat (first | refine gfo ?_ | (refine ks ?_; intro w hM))
  refine kmkA hM (fun w bm hM => ?_)
  repeat (first | refine gfo ?_ | (refine ks ?_; intro w hM))
  
  
  refine c_loopJ (fun n l w => ∃ (j best other : Nat) (es : Array MapEntry) (cc : Nat) (ks : List (AbK × Nat)), (∃ jj : Nat → Value, l = [.slice A fs.length c, jj 1, jj 2, jj 3, jj 4, .map (some bm), .int .i64 (best : Int), .int .i64 (other : Int), jj 8, jj 9, jj 10, jj 11, jj 12, jj 13, jj 14, jj 15, .slice A fs.length c, .int .i64 (fs.length : Int), .int .i64 (j : Int), jj 19, jj 20, jj 21, jj 22, jj 23, jj 24, jj 25, jj 26, jj 27, jj 28, jj 29, jj 30, jj 31, jj 32, jj 33, jj 34, jj 35, jj 36, jj 37, jj 38, jj 39, jj 40, jj 41, jj 42, jj 43, jj 44, jj 45, jj 46, jj 47, jj 48, jj 49, jj 50, jj 51, jj 52, jj 53, jj 54, jj 55, jj 56, jj 57, jj 58, jj 59, jj 60, jj 61, jj 62, jj 63, jj 64, jj 65, jj 66, jj 67, jj 68, jj 69, jj 70, jj 71, jj 72, jj 73, jj 74, jj 75, jj 76, jj 77]) ∧ n + j = fs.length ∧ MapA es ks ∧ Tab L j ks ∧ BestF L j best other ∧ Mem [] w0 w [.obj bm (.map es cc)])
    (fun l w => ∃ (best other : Nat), (∃ jj : Nat → Value, l = [.slice A fs.length c, jj 1, jj 2, jj 3, jj 4, jj 5, .int .i64 (best : Int), .int .i64 (other : Int), jj 8, jj 9, jj 10, jj 11, jj 12, jj 13, jj 14, jj 15, jj 16, jj 17, jj 18, jj 19, jj 20, jj 21, jj 22, jj 23, jj 24, jj 25, jj 26, jj 27, jj 28, jj 29, jj 30, jj 31, jj 32, jj 33, jj 34, jj 35, jj 36, jj 37, jj 38, jj 39, jj 40, jj 41, jj 42, jj 43, jj 44, jj 45, jj 46, jj 47, jj 48, jj 49, jj 50, jj 51, jj 52, jj 53, jj 54, jj 55, jj 56, jj 57, jj 58, jj 59, jj 60, jj 61, jj 62, jj 63, jj 64, jj 65, jj 66, jj 67, jj 68, jj 69, jj 70, jj 71, jj 72, jj 73, jj 74, jj 75, jj 76, jj 77]) ∧ BestF L L.length best other ∧ Mem [] w0 w []) fs.length
    ⟨0, fs.length, 0, #[], 0, [], exj rfl, rfl, rfl, tab0 L, by rw [← hLl]; exact best0 L, hM⟩ ?_ ?_
  · clear hM
    rintro n l w ⟨j, best, other, es, cc, ks, ⟨jj, rfl⟩, hnj, hE, hT, hB, hM⟩
    repeat (first | refine gfo ?_ | (refine ks ?_; intro w hM))
    refine c_cond rfl (fun hj => ?_) (fun hj => ?_)
    · have hjl : j < fs.length := by omega
      repeat (first | refine gfo ?_ | (refine ks ?_; intro w hM))
      refine kix hF.r (fun b o x hx hA => ?_) (h1 := by rw [List.length_map]; omega)
      rw [Int.toNat_natCast, List.getElem?_map] at hx
      obtain ⟨f, hf, rfl⟩ := Option.map_eq_some_iff.1 hx
      have hfm := List.mem_of_getElem? hf
      have hLf : L[j]? = some (dF f) := by rw [hL, List.getElem?_map, hf]; rfl
      refine katr hM hA ?_
      obtain ⟨⟨lo, hi, h, sl⟩, inp⟩ := f
      have hRi := hF.i _ hfm
      have hbi := hF.b _ hfm
      simp only at hRi hbi
      obtain ⟨Ai, ci, rfl⟩ := slv_form hRi
      refine kal hM (fun w b9 hM => ?_)
      have hM : Mem [] w0 w [.cell b9 (fC 0 0 zeroH (.slice none 0 0)) 74, .obj bm (.map es cc)] := hM
      repeat (first | refine gfo ?_ | (refine ks ?_; intro w hM))
      refine kstwF (vs := eFv.f (lo, hi, h, (Ai, inp.length, ci))) hM (fun w hc hM => ?_) (h1 := eFv.h1 _)
      have hM : Mem [] w0 w [.cell b9 (fC lo hi h (slv (Ai, inp.length, ci))) 74, .obj bm (.map es cc)] := hM
      repeat (first | refine gfo ?_ | (refine ks ?_; intro w hM))
      by_cases h0 : inp.length = 0
      · have hinp : inF (dF ((lo, hi, h, (Ai, inp.length, ci)), inp)) = [] := List.eq_nil_of_length_eq_zero h0
        rw [decide_eq_true (by omega : (inp.length : Int) = 0)]
        refine c_condb rfl (fun _ => ?_) (fun h => by cases h)
        repeat (first | refine gfo ?_ | (refine ks ?_; intro w hM))
        exact x_goes (n - 1) rfl (by omega) ⟨j + 1, best, other, es, cc, ks, exj rfl, by omega, hE, tab_skip hT hLf hinp, best_skip hB (fun i _ => nohit_empty hLf hinp i), hM.sub (by (repeat constructor))⟩
      have hinp : inF (dF ((lo, hi, h, (Ai, inp.length, ci)), inp)) ≠ [] := fun e => h0 (by rw [inF_dF] at e; simp only at e; rw [e]; rfl)
      rw [decide_eq_false (by omega : ¬ (inp.length : Int) = 0)]
      refine c_condb rfl (fun h => by cases h) (fun _ => ?_)
      repeat (first | refine gfo ?_ | (refine ks ?_; intro w hM))
      (try ((with_reducible apply is_gd); first | refine gt ?_ | refine gf ?_ | refine gu ?_)); refine wl_val (r_bldS (vs := [(0, .int .i64 lo), (1, .int .i64 hi), (2, hv h.1)]) (kC (lo, hi, h)) (z := kC (0, 0, zeroH)) (place := (#[(0, 1), (1, 1), (2, 32)][·]?)) (by intro ps; kernel_rfl) rfl (flK _ _ _)) ?_
      refine kal hM (fun w b10 hM => ?_)
      have hM : Mem [] w0 w [.cell b10 (kC (0, 0, zeroH)) 149, .cell b9 (fC lo hi h (slv (Ai, inp.length, ci))) 74, .obj bm (.map es cc)] := hM
      refine kstw (vs := kC (lo, hi, h)) hM (fun w hM => ?_) (hln := kC_len _) (hf := kC_len _) (h1 := kC_one _)
      repeat (first | refine gfo ?_ | (refine ks ?_; intro w hM))
      refine kldw hM ?_ (hn := kC_len _)
      refine klkA hM hE (fun p hp he => ?_) (fun hne => ?_)
      rotate_left
      · repeat (first | refine gfo ?_ | (refine ks ?_; intro w hM))
        refine c_condb rfl (fun _ => ?_) (fun h => by cases h)
        repeat (first | refine gfo ?_ | (refine ks ?_; intro w hM))
        refine kldw hM ?_ (hn := kC_len _)
        repeat (first | refine gfo ?_ | (refine ks ?_; intro w hM))
        refine kmuA (i := j) hM hE hne (fun w es' c' hM hE' => ?_)
        repeat (first | refine gfo ?_ | (refine ks ?_; intro w hM))
        exact x_goes (n - 1) rfl (by omega) ⟨j + 1, best, other, es', c', _, exj rfl, by omega, hE', tab_new hT hLf hinp hne, best_skip hB (nohit_new hT hLf hne), hM.sub (by (repeat constructor))⟩
      · repeat (first | refine gfo ?_ | (refine ks ?_; intro w hM))
        refine c_condb rfl (fun h => by cases h) (fun _ => ?_)
        obtain ⟨g, hg, _⟩ := (hT.1 p hp).2
        have hg' := hg
        rw [hL, List.getElem?_map] at hg'
        obtain ⟨f2, hf2, rfl⟩ := Option.map_eq_some_iff.1 hg'
        have hfm2 := List.mem_of_getElem? hf2
        have hp2 : p.2 < fs.length := (List.getElem?_eq_some_iff.1 hf2).1
        repeat (first | refine gfob ?_ | (refine ks ?_; intro w hM))
        by_cases q : p.2 < best
        rotate_left
        · refine kdr hM (by kernel_rfl) (by kernel_rfl) (fun w hM => ?_)
          (try refine gwg ?_)
          rw [decide_eq_false (by omega : ¬ (p.2 : Int) < (best : Int))]
          (try refine gwg ?_)
          (intro w hc; have hM := hM.call hc)
          refine c_condb rfl (fun h => by cases h) (fun _ => ?_)
          repeat (first | refine gfo ?_ | (refine ks ?_; intro w hM))
          exact x_goes (n - 1) rfl (by omega) ⟨j + 1, best, other, es, cc, ks, exj rfl, by omega, hE, tab_old hT hLf hp he, best_same hT hB hLf hinp hp he hg (.inl (by omega)), hM.sub (by (repeat constructor))⟩
        · refine kdr hM (by kernel_rfl) (by kernel_rfl) (fun w hM => ?_)
          (try refine gwg ?_)
          rw [decide_eq_true (by omega : (p.2 : Int) < (best : Int))]
          (try refine gwg ?_)
          refine kixg hF.r (fun o1 o2 y hy hA2 => ?_) (h1 := by rw [List.length_map]; omega)
          rw [Int.toNat_natCast, List.getElem?_map, hf2] at hy
          obtain rfl := Option.some.inj hy
          (try refine gwg ?_)
          refine katg hM (atInp hA2) ?_ (v := slv f2.1.2.2.2)
          (try refine gwg ?_)
          refine kldg hM ?_ (hv := hf_get _ _ _ _)
          (try ((with_reducible apply is_gg); first | refine gtg ?_ | refine gfg ?_ | refine gug ?_)); refine kcag hM (fun w1 hM1 => eq8_any (slv f2.1.2.2.2) (slv (Ai, inp.length, ci)) f2.2 inp w1 ((hF.i _ hfm2).ch hM1.ch) (hRi.ch hM1.ch)) ?_
          (try refine gwg ?_)
          by_cases heq : f2.2 = inp
          · rw [decide_eq_true heq]
            (try refine gwg ?_)
            (intro w hc; have hM := hM.call hc)
            refine c_condb rfl (fun h => by cases h) (fun _ => ?_)
            repeat (first | refine gfo ?_ | (refine ks ?_; intro w hM))
            exact x_goes (n - 1) rfl (by omega) ⟨j + 1, best, other, es, cc, ks, exj rfl, by omega, hE, tab_old hT hLf hp he, best_same hT hB hLf hinp hp he hg (.inr heq), hM.sub (by (repeat constructor))⟩
          · rw [decide_eq_false heq]
            (try refine gwg ?_)
            (intro w hc; have hM := hM.call hc)
            refine c_condb rfl (fun _ => ?_) (fun h => by cases h)
            repeat (first | refine gfo ?_ | (refine ks ?_; intro w hM))
            exact x_goes (n - 1) rfl (by omega) ⟨j + 1, p.2, j, es, cc, ks, exj rfl, by omega, hE, tab_old hT hLf hp he, best_new hT hB hLf hinp hp he hg q heq, hM.sub (by (repeat constructor))⟩
    · repeat (first | refine gfo ?_ | (refine ks ?_; intro w hM))
      exact outJ ⟨best, other, exj rfl, by rw [show L.length = j by omega]; exact hB, hM.nil⟩
  clear hM
  rintro l w ⟨best, other, ⟨jj, rfl⟩, hB, hM⟩
  repeat (first | refine gfo ?_ | (refine ks ?_; intro w hM))
  by_cases hbn : best = L.length
  · rw [decide_eq_true (by omega : (best : Int) = (fs.length : Int))]
    refine c_condb rfl (fun _ => ?_) (fun h => by cases h)
    repeat (first | refine gfo ?_ | (refine ks ?_; intro w hM))
    have hnone := best_none (by rw [hbn] at hB; exact hB)
    refine out3 rfl ?_
    unfold MeetPost
    rw [hnone]
    exact ⟨_, _, rfl, (hM.nilRow eU8 5).nilRow eU8 5⟩
  rw [decide_eq_false (by omega : ¬ (best : Int) = (fs.length : Int))]
  refine c_condb rfl (fun h => by cases h) (fun _ => ?_)
  obtain ⟨g1, g2, hg1, hg2, hmt⟩ := best_some hB hbn
  rw [hL, List.getElem?_map] at hg1 hg2
  obtain ⟨f1, hf1, rfl⟩ := Option.map_eq_some_iff.1 hg1
  obtain ⟨f2, hf2, rfl⟩ := Option.map_eq_some_iff.1 hg2
  have hm1 := List.mem_of_getElem? hf1
  have hm2 := List.mem_of_getElem? hf2
  have hb1 : best < fs.length := (List.getElem?_eq_some_iff.1 hf1).1
  have hb2 : other < fs.length := (List.getElem?_eq_some_iff.1 hf2).1
  repeat (first | refine gfob ?_ | (refine ks ?_; intro w hM))
  refine c_ordY ([], []) [] (by kernel_rfl) (by kernel_rfl) (by kernel_rfl) (fun w hc hs => ?_)
  have hM := hM.call hc
  (first | refine yn 0 rfl ?_ | refine ynt 0 rfl ?_ | refine ynff 0 rfl ?_); (first | refine yn 1 rfl ?_ | refine ynt 1 rfl ?_ | refine ynff 1 rfl ?_)
  refine kynx 2 rfl hF.r rfl rfl rfl (by omega) (by rw [List.length_map]; omega) (fun bp op y hy hA => ?_)
  rw [Int.toNat_natCast, List.getElem?_map, hf1] at hy
  obtain rfl := Option.some.inj hy
  (first | refine yn 3 rfl ?_ | refine ynt 3 rfl ?_ | refine ynff 3 rfl ?_)
  refine yna1 4 rfl ((atInp hA).mv hM.ch (by simp)) (by have := hA.1; have := hM.ch.size; omega) rfl ?_
  (first | refine yn 6 rfl ?_ | refine ynt 6 rfl ?_ | refine ynff 6 rfl ?_); (first | refine yn 7 rfl ?_ | refine ynt 7 rfl ?_ | refine ynff 7 rfl ?_)
  refine kynx 8 rfl hF.r rfl rfl rfl (by omega) (by rw [List.length_map]; omega) (fun bp2 op2 y2 hy2 hA2 => ?_)
  rw [Int.toNat_natCast, List.getElem?_map, hf2] at hy2
  obtain rfl := Option.some.inj hy2
  (first | refine yn 9 rfl ?_ | refine ynt 9 rfl ?_ | refine ynff 9 rfl ?_)
  refine yna1 10 rfl ((atInp hA2).mv hM.ch (by simp)) (by have := hA2.1; have := hM.ch.size; omega) rfl ?_
  refine yk1 5 hM (by kernel_rfl) rfl (fun w h0 hM => ?_)
  refine ca (clone8_any (slv f1.1.2.2.2) w ((hF.i _ hm1).ch hM.ch) (by have := hF.b _ hm1; omega)) ?_
  rintro v71 w2 ⟨hc, hO⟩
  have hM := hM.got hc hO
  refine x_wy (.inl (hc.gy h0)) rfl ?_
  refine yk1 11 hM (by kernel_rfl) rfl (fun w h0 hM => ?_)
  refine ca (clone8_any (slv f2.1.2.2.2) w ((hF.i _ hm2).ch hM.ch) (by have := hF.b _ hm2; omega)) ?_
  rintro v77 w2 ⟨hc, hO⟩
  have hM := hM.got hc hO
  refine x_wy (.inl (hc.gy h0)) rfl ?_
  (first | refine yn 12 rfl ?_ | refine ynt 12 rfl ?_ | refine ynff 12 rfl ?_); (first | refine yn 13 rfl ?_ | refine ynt 13 rfl ?_ | refine ynff 13 rfl ?_); (first | refine yn 14 rfl ?_ | refine ynt 14 rfl ?_ | refine ynff 14 rfl ?_)
  refine wy_done (by kernel_rfl) (fun w hc => ?_)
  have hM := hM.call hc
  repeat (first | refine gfo ?_ | (refine ks ?_; intro w hM))
  refine out3 rfl ?_
  unfold MeetPost
  rw [hmt]
  exact ⟨v71, v77, rfl, hM.sub (by (repeat constructor))⟩
end Go.Proofs.YtkdbinchlpdkmaaDoor
set_option linter.unusedVariables false
set_option linter.unusedSimpArgs false
set_option maxRecDepth 4000
namespace Go.Proofs.E
open Go Go.RowKit
structure ChN (b N : Nat) (w w' : World) : Prop where
  ch : Ch [b] w w'
  le : N ≤ b
theorem ChN.gy {b N : Nat} {S : List Nat} {w w' : World} (h : ChN b N w w') (hn : N ≤ w.heap.size) : Bw N S w w' := h.ch.bwn hn (.inl h.le)
theorem ChN.size {b N : Nat} {w w' : World} (h : ChN b N w w') : w.heap.size ≤ w'.heap.size := h.ch.size
section
variable {P : Program} {ops : Array Oper} {Q : Exit → Act → World → Prop} {rest : List Oper} {l : List Value} {O : List Nat} {w0 w : World} {L L' : List As} {T : TypeId} {pos : String} {after : Array Edge}
theorem kbsN {α : Type} {en : En α} {d n : Nat} {t e : TypeId} {parts : List (Nat × Operand)} {vs : List Value} {z : Value} {m by_ : Nat} [hu : Und P t (.slice e)] [hi : Inf P e z m by_] (xs : List α) (hM : Mem O w0 w L)
    (h : ∀ w' b, w.heap.size ≤ b → Ch [] w w' → Mem O w0 w' (.row en e (.slice (some ⟨b, 0, none⟩) n n) xs :: L) → wpList P ops Q rest (fr (l.set d (.slice (some ⟨b, 0, none⟩) n n))) w')
    (hp : (parts.map fun x => (x.1, ev l x.2)) = (vs.zipIdx 0).map fun x => (x.2, x.1) := by exact rfl) (hn : vs.length = n := by exact rfl) (hxs : vs.flatMap (fun v => v.cells.toList) = xs.flatMap en.f := by first | exact rfl | simp) (hm : ∀ v ∈ vs, v.cells.size = m := by first | (simp [Value.cells]; done) | (simp; done)) (hl : xs.length = n := by exact rfl) (hsmall : n * m ≤ 16777216 := by decide) (h63 : n ≤ 281474976710656 := by decide) :
    wpList P ops Q ({ dst := some d, op := .buildSlice t n parts.toArray, type := T, pos := pos, after := after, guard := none } :: rest) (fr l) w :=
  wl_buildSlice hp hn hm hsmall fun w' b hN => h w' b (by rw [hN.at_]; exact Nat.le_refl _) hN.ch (hM.got hN.ch (Own.of_new hN hxs (Nat.le_refl _) (by rw [hl]; exact h63) hl))
end
end Go.Proofs.E
namespace Go.Proofs.YtkdbinchlpdkmaaDoor
open Go Go.RowKit Go.Proofs.E
attribute [local irreducible] Go.wpList Go.Code.wp Go.Proofs.E.exec Go.Proofs.E.wpLexG
end Go.Proofs.YtkdbinchlpdkmaaDoor
set_option linter.unusedVariables false
set_option linter.unusedSimpArgs false
set_option maxRecDepth 4000
namespace Go.Proofs.YtkdbinchlpdkmaaDoor
open Go Go.RowKit Go.Proofs.E
attribute [local irreducible] Go.wpList Go.Code.wp Go.Proofs.E.exec Go.Proofs.E.wpLexG
end Go.Proofs.YtkdbinchlpdkmaaDoor

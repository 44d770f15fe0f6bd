/- Walk of law 34: the program's Print. -/
import Derived.Test.YtoimhmphhffelaaDoorQQueryBack22
set_option linter.unusedVariables false
set_option linter.unusedSimpArgs false
namespace Go.Proofs.E
open Go Go.RowKit
theorem flat_setQ {α : Type} {f : α → List Value} {n k : Nat} {v : Value} {b : α} (hf : ∀ x, (f x).length = n) (hk : k < n) : ∀ (xs : List α) (i : Nat) (a : α), xs[i]? = some a → (f a).set k v = f b → (xs.flatMap f).set (i * n + k) v = (xs.set i b).flatMap f
  | [], i, a, h, _ => by simp at h
  | y :: xs, 0, a, h, hab => by
    simp only [List.getElem?_cons_zero, Option.some.injEq] at h
    subst h
    rw [List.set_cons_zero, List.flatMap_cons, List.flatMap_cons, Nat.zero_mul, Nat.zero_add, List.set_append_left _ _ (by rw [hf]; exact hk), hab]
  | y :: xs, i + 1, a, h, hab => by
    rw [List.set_cons_succ, List.flatMap_cons, List.flatMap_cons, List.set_append_right _ _ (by rw [hf, Nat.succ_mul]; omega), hf, show (i + 1) * n + k - n = i * n + k by rw [Nat.succ_mul]; omega, flat_setQ hf hk xs i a (by simpa using h) hab]
section
variable {P : Program} {ops : Array Oper} {Q : Exit → Act → World → Prop} {rest : List Oper} {l l' : List Value} {O : List Nat} {w0 w : World} {L L' : List As} {T : TypeId} {pos : String} {after : Array Edge}
/-- A store of one cell of an element of a row (as krs of law 16). -/
theorem krsQ {α : Type} {en : En α} {x y : Operand} {E t : TypeId} {g o i k m c n by_ : Nat} {v z : Value} {xs : List α} {a : α} (b : α) [hi : Inf P t z 1 by_] (hM : Mem O w0 w L)
    (h : ∀ w', Ch [g] w w' → Mem O w0 w' (.row en E (.slice (some ⟨g, 0, none⟩) m c) (xs.set i b) :: L') → wpList P ops Q rest (fr l) w') (ha : xs[i]? = some a) (hab : (en.f a).set k v = en.f b) (ho : o = i * n + k) (hk : k < n) (hn : en.n = n := by exact rfl)
    (hx : ev l x = .pointer (some ⟨g, o, none⟩) := by exact rfl) (hy : ev l y = v := by exact rfl) (hp : Pick L (.row en E (.slice (some ⟨g, 0, none⟩) m c) xs) L' := by (repeat (first | exact Go.Proofs.E.Pick.here | apply Go.Proofs.E.Pick.there))) (hv : v.cells = #[v] := by exact rfl) (h1 : v.oneCell' = true := by exact rfl) :
    wpList P ops Q ({ dst := none, op := .store t x y, type := T, pos := pos, after := after, guard := none } :: rest) (fr l) w := by
  have hM' := hM.pick hp
  have hO : Own en w 0 E (.slice (some ⟨g, 0, none⟩) m c) xs := hM'.head
  subst hn
  obtain ⟨hlen, h2⟩ := hO
  have hilt := (List.getElem?_eq_some_iff.1 ha).1
  rcases h2 with ⟨h, _⟩ | ⟨g', cap, cur, he, hg, hb, hcap, hmax, hsz, htk⟩
  · cases h
  · injection he with e1 e2 e3
    injection e1 with e1
    injection e1 with e1
    subst e1 e2 e3
    have hB : Blk w g cur.toList E := by rw [Blk, Array.toArray_toList]; exact hb
    have hle : (i + 1) * en.n ≤ c * en.n := Nat.mul_le_mul_right _ (by omega)
    rw [Nat.succ_mul] at hle
    have hf : o < cur.toList.length := by rw [Array.length_toList, hsz]; omega
    refine stb hB hx hy hv h1 hf fun w' hB' hc _ => h w' hc (hM'.put hc (fun k' hk' => by simp at hk'; subst hk'; rfl) ?_ (fun k' hk' => .inl hk'))
    refine ⟨?_, .inr ⟨g, c, (cur.toList.set o v).toArray, ?_, Nat.zero_le _, hB', by rw [List.length_set]; exact hcap, hmax, ?_, ?_⟩⟩
    · rw [flatMap_len en.hl]
    · rw [List.length_set]
    · simp [hsz]
    · rw [List.length_set, List.toList_toArray, List.take_set, htk, ho]
      exact flat_setQ en.hl hk xs i a ha hab
end
end Go.Proofs.E
namespace Go.Proofs.YtoimhmphhffelaaDoor
open Go Go.RowKit Go.Proofs.E
attribute [local irreducible] Go.wpList Go.Code.wp Go.Proofs.E.exec Go.Proofs.E.wpLexG
theorem join_any (v : Value) (xs : List (List UInt8)) (sep : List UInt8) (w : World) (hR : (Ty.enc eBs).Rd [] w v xs) (hne : xs ≠ []) (hN : xs.length ≤ 140737488355328) (hJ : (Lib.join xs sep).length ≤ 140737488355328) :
    Calls Tryd.prog 29 #[v, .string (bst sep)] w (Ret fun u w' => u = .string (bst (Lib.join xs sep)) ∧ Ch [] w w') := by
  obtain ⟨hl, A, cap, rfl, hcap, hA⟩ := hR
  obtain ⟨b, o, rfl, hb, hS, he⟩ := hA hne
  have hxs : (xs.map bst).map (·.data.toList) = xs := by
    rw [List.map_map]
    conv => rhs; rw [← List.map_id xs]
    exact List.map_congr_left fun x _ => bst_data x
  have h := Tryd.strings_Join b o cap (xs.map bst) (bst sep) w (fun j x hx => ?_) hb (by rw [List.length_map]; exact hN) (by rw [List.length_map]; exact hcap) (by rw [hxs, bst_data]; exact hJ)
  · rw [List.length_map, hxs, bst_data] at h
    exact h.mono fun e w' ⟨he, hw⟩ => ⟨_, he, rfl, Ch.of_below hw⟩
  · rw [List.getElem?_map] at hx
    obtain ⟨y, hy, rfl⟩ := Option.map_eq_some_iff.1 hx
    obtain ⟨_, _, cs, hcs, hr⟩ := he j y hy
    have hcs : cs = [.string (bst y)] := hcs
    subst hcs
    have := hr 0 _ rfl
    rwa [show o + j * (Ty.enc eBs).n + 0 = o + j by show o + j * 1 + 0 = o + j; omega] at this
set_option maxHeartbeats 4000000 in
/-- What is asked for is added to the words. -/
theorem print1_any {O : List Nat} {w0 : World} {L : List As} (c : Bool) (yv v3 : Value) (b3 : Nat) (acc ys : List (List UInt8)) (w : World) (hM : Mem O w0 w (.cell b3 [v3] 36 :: .row eBs 9 v3 acc :: L)) (hR : (Ty.enc eBs).Rd [] w yv ys) (ha : acc.length ≤ 100000) (hy : ys.length ≤ 100000) :
    Calls Tryd.prog 26 #[.bool c, yv, .pointer (some ⟨b3, 0, none⟩)] w (Ret fun u w' => ∃ v', Mem O w0 w' (.cell b3 [v'] 36 :: .row eBs 9 v' (acc ++ if c = true then ys else []) :: L)) := by
  obtain ⟨A, cp, rfl⟩ := hR.form
  refine enter [.bool c, .slice A ys.length cp, .pointer (some ⟨b3, 0, none⟩), undef, undef, undef, undef, undef, undef] Tryd.func26 rfl rfl ?_
  repeat (first | refine gs ?_ | (refine ks ?_; intro w hM))
  refine c_condb rfl (fun h => ?_) (fun h => ?_)
  · subst h
    repeat (first | refine gs ?_ | (refine ks ?_; intro w hM))
    refine kap (en := eBs) (v := v3) (xs := acc) (ys := ys) hM hR (fun v7 w hM => ?_) (hb := by omega) (h63 := by omega)
    obtain ⟨A7, c7, rfl, _⟩ := Own.form (hM.row0 (v := v7) (by (repeat constructor)))
    repeat (first | refine gs ?_ | (refine ks ?_; intro w hM))
    exact out0 rfl ⟨_, by rw [if_pos rfl]; exact hM.sub (by (repeat (first | exact Go.Proofs.E.Sub.refl _ | exact Go.Proofs.E.Sub.nil | (apply Go.Proofs.E.Sub.cons; (repeat (first | exact Go.Proofs.E.Pick.here | apply Go.Proofs.E.Pick.there))) | apply Go.Proofs.E.Sub.tail)))⟩
  · subst h
    repeat (first | refine gs ?_ | (refine ks ?_; intro w hM))
    exact out0 rfl ⟨v3, by rw [if_neg (by simp), List.append_nil]; exact hM⟩
theorem tsW_len : ∀ (l : List TsV) (j : List UInt8), (tsW j l).length = 4 * l.length
  | [], _ => rfl
  | a :: l, j => by
    show (j :: fieldW a.1 :: opW a.2.1 :: quoB a.2.2 :: tsW wAnd l).length = _
    simp only [List.length_cons]
    rw [tsW_len l wAnd]
    omega
set_option maxHeartbeats 32000000 in
theorem print_any (q : QryV) (vt : Value) (w0 : World) (hL : LaidQ w0) (hP : LaidP w0) (hR : (Ty.enc eTs).Rd [] w0 vt q.ts) (hq : LenQ q) : Calls Tryd.prog 7 #[.agg (qV q vt).toArray] w0 (Ret fun u w' => u = .string (bst (printQ q)) ∧ Ch [] w0 w') := by
  have hM := Mem.start w0
  obtain ⟨A, c, rfl⟩ := hR.form
  refine enter [.agg (qV q (.slice A q.ts.length c)).toArray, undef, undef, undef, undef, undef, undef, undef, undef, undef, undef, undef, undef, undef, undef, undef, undef, undef, undef, undef, undef, undef, undef, undef, undef, undef, undef, undef, undef, undef, undef, undef, undef, undef, undef, undef, undef, undef, undef, undef, undef, undef, undef, undef, undef, undef, undef, undef, undef, undef, undef, undef, undef, undef, undef, undef, undef, undef, undef, undef, undef, undef, undef, undef, undef, undef, undef, undef, undef, undef, undef, undef, undef, undef, undef, undef, undef, undef, undef, undef, undef, undef, undef, undef, undef, undef, undef, undef, undef, undef, undef, undef] Tryd.func7 rfl rfl ?_
  repeat (first | refine gs ?_ | (refine ks ?_; intro w hM))
  refine kbx hM (fun w b1 hM => ?_)
  have hM : Mem [] w0 w [.cell b1 (qV q (.slice A q.ts.length c)) 24] := hM
  repeat (first | refine gs ?_ | (refine ks ?_; intro w hM))
  refine kca hM (right_any q _ w (hR.ch hM.ch) hq) (fun w hM => ?_)
  repeat (first | refine gs ?_ | (refine ks ?_; intro w hM))
  cases hr : rightQ q with
  | false =>
    refine c_condb rfl (fun _ => ?_) (fun h => by cases h)
    repeat (first | refine gs ?_ | (refine ks ?_; intro w hM))
    exact out1 rfl ⟨by unfold printQ; rw [if_neg (by rw [hr]; simp)]; rfl, hM.ch⟩
  | true =>
  obtain ⟨hok, hall, _⟩ := right_len hr
  unfold okQ at hok
  refine c_condb rfl (fun h => by cases h) (fun _ => ?_)
  repeat (first | refine gs ?_ | (refine ks ?_; intro w hM))
  refine kbs (en := eBs) (vs := [.string (bst wGet)]) [wGet] hM (fun w bg hM => ?_)
  repeat (first | refine gs ?_ | (refine ks ?_; intro w hM))
  refine kal hM (fun w b3 hM => ?_)
  have hM : Mem [] w0 w (.cell b3 [.slice none 0 0] 36 :: .row eBs 9 (.slice (some ⟨bg, 0, none⟩) 1 1) [wGet] :: .cell b1 (qV q (.slice A q.ts.length c)) 24 :: []) := hM
  repeat (first | refine gs ?_ | (refine ks ?_; intro w hM))
  
  refine c_cutJ (fun l w => (∃ jj : Nat → Value, l = [jj 0, .pointer (some ⟨b1, 0, none⟩), jj 2, .pointer (some ⟨b3, 0, none⟩), jj 4, jj 5, jj 6, jj 7, jj 8, jj 9, jj 10, jj 11, jj 12, jj 13, jj 14, jj 15, jj 16, jj 17, jj 18, jj 19, jj 20, jj 21, jj 22, jj 23, jj 24, jj 25, jj 26, jj 27, jj 28, jj 29, jj 30, jj 31, jj 32, jj 33, jj 34, jj 35, jj 36, jj 37, jj 38, jj 39, jj 40, jj 41, jj 42, jj 43, jj 44, jj 45, jj 46, jj 47, jj 48, jj 49, jj 50, jj 51, jj 52, jj 53, jj 54, jj 55, jj 56, jj 57, jj 58, jj 59, jj 60, jj 61, jj 62, jj 63, jj 64, jj 65, jj 66, jj 67, jj 68, jj 69, jj 70, jj 71, jj 72, jj 73, jj 74, jj 75, jj 76, jj 77, jj 78, jj 79, jj 80, jj 81, jj 82, jj 83, jj 84, jj 85, jj 86, jj 87, jj 88, jj 89, jj 90, jj 91]) ∧ Mem [] w0 w [.cell b3 [(.slice (some ⟨bg, 0, none⟩) 1 1)] 36, .row eBs 9 (.slice (some ⟨bg, 0, none⟩) 1 1) [pHd q], .cell b1 (qV q (.slice A q.ts.length c)) 24]) ?_ ?_
  · refine c_condb rfl (fun h => ?_) (fun h => ?_)
    · repeat (first | refine gs ?_ | (refine ks ?_; intro w hM))
      (try ((with_reducible apply is_gd); first | refine gt ?_ | refine gf ?_ | refine gu ?_)); refine wl_val (r_indexAddr rfl rfl (by omega) (by omega)) ?_
      repeat (first | refine gs ?_ | (refine ks ?_; intro w hM))
      refine krsQ (en := eBs) (n := 1) (i := 0) (k := 0) (xs := [wGet]) wCount hM (fun w hc hM => ?_) rfl rfl rfl (by omega)
      repeat (first | refine gs ?_ | (refine ks ?_; intro w hM))
      exact outJ ⟨exj rfl, by unfold pHd; rw [if_pos h]; exact hM.sub (by (repeat (first | exact Go.Proofs.E.Sub.refl _ | exact Go.Proofs.E.Sub.nil | (apply Go.Proofs.E.Sub.cons; (repeat (first | exact Go.Proofs.E.Pick.here | apply Go.Proofs.E.Pick.there))) | apply Go.Proofs.E.Sub.tail)))⟩
    · repeat (first | refine gs ?_ | (refine ks ?_; intro w hM))
      exact outJ ⟨exj rfl, by unfold pHd; rw [if_neg (by rw [h]; simp)]; exact hM.sub (by (repeat (first | exact Go.Proofs.E.Sub.refl _ | exact Go.Proofs.E.Sub.nil | (apply Go.Proofs.E.Sub.cons; (repeat (first | exact Go.Proofs.E.Pick.here | apply Go.Proofs.E.Pick.there))) | apply Go.Proofs.E.Sub.tail)))⟩
  clear hM
  rintro l w ⟨⟨jj, rfl⟩, hM⟩
  have ha0 : [pHd q].length = 1 := rfl
  obtain ⟨a0, hx0⟩ : ∃ x, x = [pHd q] := ⟨_, rfl⟩
  rw [← hx0] at ha0 hM
  obtain ⟨v0, hv0⟩ : ∃ v, v = Value.slice (some ⟨bg, 0, none⟩) 1 1 := ⟨_, rfl⟩
  rw [← hv0] at hM
  repeat (first | refine gs ?_ | (refine ks ?_; intro w hM))
  (try ((with_reducible apply is_gd); first | refine gt ?_ | refine gf ?_ | refine gu ?_)); refine wl_val (r_makeFunc (cs := [.tmp 3])) ?_
  repeat (first | refine gs ?_ | (refine ks ?_; intro w hM))
  refine kdrl 8 hM (by kernel_rfl) (by kernel_rfl) (by kernel_rfl) (fun w hM => ?_)
  repeat (first | ((with_reducible apply is_ldg); first | refine kldg hM ?_ | refine kldwg hM ?_) | ((with_reducible apply is_sg); (first | refine ssg ?_ | refine sgu ?_)) | ((with_reducible apply is_gg); first | refine gtg ?_ | refine gfg ?_ | refine gug ?_) | ((with_reducible apply is_eg); refine eg ?_))
  refine kcag hM (v := .string (bst (Lib.itoa q.at_))) (vs := [.int .i64 q.at_]) (fun w1 hM => itoa_any q.at_ (by omega) (by omega) w1 (hP.ch hM.ch (by simp))) ?_
  repeat (first | ((with_reducible apply is_ldg); first | refine kldg hM ?_ | refine kldwg hM ?_) | ((with_reducible apply is_sg); (first | refine ssg ?_ | refine sgu ?_)) | ((with_reducible apply is_gg); first | refine gtg ?_ | refine gfg ?_ | refine gug ?_) | ((with_reducible apply is_eg); refine eg ?_))
  refine lastg rfl (by kernel_rfl) (fun w hc => ?_)
  have hM := hM.call hc
  refine kbsC (en := eBs) (vs := [.string (bst wAt), .string (bst (Lib.itoa q.at_))]) [wAt, Lib.itoa q.at_] hM (fun w b9 hc hM => ?_)
  refine x_mid rfl hc ?_
  refine lastg rfl (by kernel_rfl) (fun w hc => ?_)
  have hM := hM.call hc
  have hR9 := hM.rowRdO (en := eBs) (v := .slice (some ⟨b9, 0, none⟩) 2 2) (xs := [wAt, Lib.itoa q.at_]) (by (repeat constructor))
  have hM : Mem [] w0 w [.cell b3 [v0] 36, .row eBs 9 v0 a0, .cell b1 (qV q (.slice A q.ts.length c)) 24] := hM.sub (by (repeat (first | exact Go.Proofs.E.Sub.refl _ | exact Go.Proofs.E.Sub.nil | (apply Go.Proofs.E.Sub.cons; (repeat (first | exact Go.Proofs.E.Pick.here | apply Go.Proofs.E.Pick.there))) | apply Go.Proofs.E.Sub.tail)))
  refine kcd (f := 26) (vs := [.bool (decide (0 ≤ q.at_)), .slice (some ⟨b9, 0, none⟩) 2 2]) (lb := #[.pointer (some ⟨b3, 0, none⟩)]) (print1_any (decide (0 ≤ q.at_)) _ v0 b3 a0 [wAt, Lib.itoa q.at_] w hM hR9 (by omega) (by simp)) ?_
  rintro _ w ⟨v1, hM⟩
  have he : (if (decide (0 ≤ q.at_)) = true then [wAt, Lib.itoa q.at_] else []) = pAt q := by unfold pAt; by_cases h : 0 ≤ q.at_ <;> simp [h]
  rw [he] at hM
  refine x_late rfl rfl ?_
  repeat (first | ((with_reducible apply is_ldg); first | refine kldg hM ?_ | refine kldwg hM ?_) | ((with_reducible apply is_sg); (first | refine ssg ?_ | refine sgu ?_)) | ((with_reducible apply is_gg); first | refine gtg ?_ | refine gfg ?_ | refine gug ?_) | ((with_reducible apply is_eg); refine eg ?_))
  (intro w hc; have hM := hM.call hc)
  obtain ⟨a1, hx1⟩ : ∃ x, x = a0 ++ pAt q := ⟨_, rfl⟩
  have ha1 : a1.length ≤ 1000 + 1 * 10 := by
    rw [hx1, List.length_append]
    have : (pAt q).length ≤ 2 := by unfold pAt; split <;> simp
    omega
  rw [← hx1] at hM
  repeat (first | refine gs ?_ | (refine ks ?_; intro w hM))
  refine kdrl 8 hM (by kernel_rfl) (by kernel_rfl) (by kernel_rfl) (fun w hM => ?_)
  repeat (first | ((with_reducible apply is_ldg); first | refine kldg hM ?_ | refine kldwg hM ?_) | ((with_reducible apply is_sg); (first | refine ssg ?_ | refine sgu ?_)) | ((with_reducible apply is_gg); first | refine gtg ?_ | refine gfg ?_ | refine gug ?_) | ((with_reducible apply is_eg); refine eg ?_))
  refine kcag hM (v := .string (bst (quoB q.fr))) (vs := [.string (bst q.fr)]) (fun w1 hM => quote_any q.fr w1 (by omega)) ?_
  repeat (first | ((with_reducible apply is_ldg); first | refine kldg hM ?_ | refine kldwg hM ?_) | ((with_reducible apply is_sg); (first | refine ssg ?_ | refine sgu ?_)) | ((with_reducible apply is_gg); first | refine gtg ?_ | refine gfg ?_ | refine gug ?_) | ((with_reducible apply is_eg); refine eg ?_))
  refine lastg rfl (by kernel_rfl) (fun w hc => ?_)
  have hM := hM.call hc
  refine kbsC (en := eBs) (vs := [.string (bst wFrom), .string (bst (quoB q.fr))]) [wFrom, quoB q.fr] hM (fun w b9 hc hM => ?_)
  refine x_mid rfl hc ?_
  refine lastg rfl (by kernel_rfl) (fun w hc => ?_)
  have hM := hM.call hc
  have hR9 := hM.rowRdO (en := eBs) (v := .slice (some ⟨b9, 0, none⟩) 2 2) (xs := [wFrom, quoB q.fr]) (by (repeat constructor))
  have hM : Mem [] w0 w [.cell b3 [v1] 36, .row eBs 9 v1 a1, .cell b1 (qV q (.slice A q.ts.length c)) 24] := hM.sub (by (repeat (first | exact Go.Proofs.E.Sub.refl _ | exact Go.Proofs.E.Sub.nil | (apply Go.Proofs.E.Sub.cons; (repeat (first | exact Go.Proofs.E.Pick.here | apply Go.Proofs.E.Pick.there))) | apply Go.Proofs.E.Sub.tail)))
  refine kcd (f := 26) (vs := [.bool (!decide (q.fr = [])), .slice (some ⟨b9, 0, none⟩) 2 2]) (lb := #[.pointer (some ⟨b3, 0, none⟩)]) (print1_any (!decide (q.fr = [])) _ v1 b3 a1 [wFrom, quoB q.fr] w hM hR9 (by omega) (by simp)) ?_
  rintro _ w ⟨v2, hM⟩
  have he : (if (!decide (q.fr = [])) = true then [wFrom, quoB q.fr] else []) = pFr q := by unfold pFr; by_cases h : q.fr = [] <;> simp [h]
  rw [he] at hM
  refine x_late rfl rfl ?_
  repeat (first | ((with_reducible apply is_ldg); first | refine kldg hM ?_ | refine kldwg hM ?_) | ((with_reducible apply is_sg); (first | refine ssg ?_ | refine sgu ?_)) | ((with_reducible apply is_gg); first | refine gtg ?_ | refine gfg ?_ | refine gug ?_) | ((with_reducible apply is_eg); refine eg ?_))
  (intro w hc; have hM := hM.call hc)
  obtain ⟨a2, hx2⟩ : ∃ x, x = a1 ++ pFr q := ⟨_, rfl⟩
  have ha2 : a2.length ≤ 1000 + 2 * 10 := by
    rw [hx2, List.length_append]
    have : (pFr q).length ≤ 2 := by unfold pFr; split <;> simp
    omega
  rw [← hx2] at hM
  repeat (first | refine gs ?_ | (refine ks ?_; intro w hM))
  refine kdrl 8 hM (by kernel_rfl) (by kernel_rfl) (by kernel_rfl) (fun w hM => ?_)
  repeat (first | ((with_reducible apply is_ldg); first | refine kldg hM ?_ | refine kldwg hM ?_) | ((with_reducible apply is_sg); (first | refine ssg ?_ | refine sgu ?_)) | ((with_reducible apply is_gg); first | refine gtg ?_ | refine gfg ?_ | refine gug ?_) | ((with_reducible apply is_eg); refine eg ?_))
  refine kcag hM (v := .string (bst (quoB q.to_))) (vs := [.string (bst q.to_)]) (fun w1 hM => quote_any q.to_ w1 (by omega)) ?_
  repeat (first | ((with_reducible apply is_ldg); first | refine kldg hM ?_ | refine kldwg hM ?_) | ((with_reducible apply is_sg); (first | refine ssg ?_ | refine sgu ?_)) | ((with_reducible apply is_gg); first | refine gtg ?_ | refine gfg ?_ | refine gug ?_) | ((with_reducible apply is_eg); refine eg ?_))
  refine lastg rfl (by kernel_rfl) (fun w hc => ?_)
  have hM := hM.call hc
  refine kbsC (en := eBs) (vs := [.string (bst wTo), .string (bst (quoB q.to_))]) [wTo, quoB q.to_] hM (fun w b9 hc hM => ?_)
  refine x_mid rfl hc ?_
  refine lastg rfl (by kernel_rfl) (fun w hc => ?_)
  have hM := hM.call hc
  have hR9 := hM.rowRdO (en := eBs) (v := .slice (some ⟨b9, 0, none⟩) 2 2) (xs := [wTo, quoB q.to_]) (by (repeat constructor))
  have hM : Mem [] w0 w [.cell b3 [v2] 36, .row eBs 9 v2 a2, .cell b1 (qV q (.slice A q.ts.length c)) 24] := hM.sub (by (repeat (first | exact Go.Proofs.E.Sub.refl _ | exact Go.Proofs.E.Sub.nil | (apply Go.Proofs.E.Sub.cons; (repeat (first | exact Go.Proofs.E.Pick.here | apply Go.Proofs.E.Pick.there))) | apply Go.Proofs.E.Sub.tail)))
  refine kcd (f := 26) (vs := [.bool (!decide (q.to_ = [])), .slice (some ⟨b9, 0, none⟩) 2 2]) (lb := #[.pointer (some ⟨b3, 0, none⟩)]) (print1_any (!decide (q.to_ = [])) _ v2 b3 a2 [wTo, quoB q.to_] w hM hR9 (by omega) (by simp)) ?_
  rintro _ w ⟨v3, hM⟩
  have he : (if (!decide (q.to_ = [])) = true then [wTo, quoB q.to_] else []) = pTo q := by unfold pTo; by_cases h : q.to_ = [] <;> simp [h]
  rw [he] at hM
  refine x_late rfl rfl ?_
  repeat (first | ((with_reducible apply is_ldg); first | refine kldg hM ?_ | refine kldwg hM ?_) | ((with_reducible apply is_sg); (first | refine ssg ?_ | refine sgu ?_)) | ((with_reducible apply is_gg); first | refine gtg ?_ | refine gfg ?_ | refine gug ?_) | ((with_reducible apply is_eg); refine eg ?_))
  (intro w hc; have hM := hM.call hc)
  obtain ⟨a3, hx3⟩ : ∃ x, x = a2 ++ pTo q := ⟨_, rfl⟩
  have ha3 : a3.length ≤ 1000 + 3 * 10 := by
    rw [hx3, List.length_append]
    have : (pTo q).length ≤ 2 := by unfold pTo; split <;> simp
    omega
  rw [← hx3] at hM
  repeat (first | refine gs ?_ | (refine ks ?_; intro w hM))
  
  refine c_loop (fun n l w => ∃ (i : Nat) (vx : Value), (∃ jj : Nat → Value, l = [jj 0, .pointer (some ⟨b1, 0, none⟩), jj 2, .pointer (some ⟨b3, 0, none⟩), .func (.func 26) #[] #[.pointer (some ⟨b3, 0, none⟩)], .string (bst (if q.ts.take i = [] then wWhere else wAnd)), jj 6, jj 7, jj 8, jj 9, jj 10, jj 11, jj 12, jj 13, jj 14, jj 15, jj 16, jj 17, jj 18, jj 19, jj 20, jj 21, jj 22, jj 23, jj 24, jj 25, jj 26, jj 27, jj 28, jj 29, jj 30, jj 31, jj 32, jj 33, jj 34, jj 35, jj 36, jj 37, jj 38, jj 39, jj 40, jj 41, jj 42, jj 43, jj 44, .slice A q.ts.length c, .int .i64 (q.ts.length : Int), .int .i64 (i : Int), jj 48, jj 49, jj 50, jj 51, jj 52, jj 53, jj 54, jj 55, jj 56, jj 57, jj 58, jj 59, jj 60, jj 61, jj 62, jj 63, jj 64, jj 65, jj 66, jj 67, jj 68, jj 69, jj 70, jj 71, jj 72, jj 73, jj 74, jj 75, jj 76, jj 77, jj 78, jj 79, jj 80, jj 81, jj 82, jj 83, jj 84, jj 85, jj 86, jj 87, jj 88, jj 89, jj 90, jj 91]) ∧ n + i = q.ts.length ∧ Mem [] w0 w [.cell b3 [vx] 36, .row eBs 9 vx (a3 ++ tsW wWhere (q.ts.take i)), .cell b1 (qV q (.slice A q.ts.length c)) 24]) q.ts.length
    ⟨0, v3, exj rfl, rfl, by rw [List.take_zero, show tsW wWhere [] = [] from rfl, List.append_nil]; exact hM⟩ ?_
  clear hM
  rintro n l w ⟨i, vx, ⟨jj, rfl⟩, hn, hM⟩
  have htl := tsW_len (q.ts.take i) wWhere
  have htl2 : (q.ts.take i).length ≤ 50 := by rw [List.length_take]; omega
  repeat (first | refine gs ?_ | (refine ks ?_; intro w hM))
  refine c_cond rfl (fun hi => ?_) (fun hi => ?_)
  · repeat (first | refine gs ?_ | (refine ks ?_; intro w hM))
    refine kix hR (fun b o t ht hA => ?_) (h1 := by omega)
    rw [Int.toNat_natCast] at ht
    have htr := rightT_parts (hall t (List.mem_of_getElem? ht))
    repeat (first | refine gs ?_ | (refine ks ?_; intro w hM))
    refine katr hM hA ?_
    repeat (first | refine gs ?_ | (refine ks ?_; intro w hM))
    refine kal hM (fun w b7 hM => ?_)
    have hM : Mem [] w0 w (.cell b7 (tsC (0, 0, [])) 34 :: [.cell b3 [vx] 36, .row eBs 9 vx (a3 ++ tsW wWhere (q.ts.take i)), .cell b1 (qV q (.slice A q.ts.length c)) 24]) := hM
    repeat (first | refine gs ?_ | (refine ks ?_; intro w hM))
    have e : q.ts.take (i + 1) = q.ts.take i ++ [t] := by rw [List.take_add_one, ht]; rfl
    obtain ⟨jn, hjn2⟩ : ∃ x, x = (if q.ts.take i = [] then wWhere else wAnd) := ⟨_, rfl⟩
    rw [← hjn2]
    obtain ⟨acc, hacc⟩ : ∃ x, x = a3 ++ tsW wWhere (q.ts.take i) := ⟨_, rfl⟩
    have hal : acc.length ≤ 100000 := by rw [hacc, List.length_append]; omega
    rw [← hacc] at hM
    have hnx : a3 ++ tsW wWhere (q.ts.take (i + 1)) = acc ++ [jn, fieldW t.1, opW t.2.1, quoB t.2.2] := by
      rw [e, tsW_snoc, ← hjn2, ← List.append_assoc, ← hacc]
    have hfw : (fieldsW.map fun x => Value.string (bst x))[t.1.toNat]? = some (.string (bst (fieldW t.1))) := by
      unfold fieldW
      rw [List.getElem?_map, List.getD_eq_getElem?_getD, List.getElem?_eq_getElem (show t.1.toNat < fieldsW.length by show t.1.toNat < 3; omega)]
      rfl
    have how : (opsW.map fun x => Value.string (bst x))[t.2.1.toNat]? = some (.string (bst (opW t.2.1))) := by
      unfold opW
      rw [List.getElem?_map, List.getD_eq_getElem?_getD, List.getElem?_eq_getElem (show t.2.1.toNat < opsW.length by show t.2.1.toNat < 9; omega)]
      rfl
    have hLw := hL.ch hM.ch (by simp) (by simp)
    refine kdrl 14 hM (by kernel_rfl) (by kernel_rfl) (by kernel_rfl) (fun w hM => ?_)
    have hLw := hL.ch hM.ch (by simp) (by simp)
    repeat (first | ((with_reducible apply is_ldg); first | refine kldg hM ?_ | refine kldwg hM ?_) | ((with_reducible apply is_sg); (first | refine ssg ?_ | refine sgu ?_)) | ((with_reducible apply is_gg); first | refine gtg ?_ | refine gfg ?_ | refine gug ?_) | ((with_reducible apply is_eg); refine eg ?_))
    refine wg_val (v := .string (bst (fieldW t.1))) (fun w1 hc => r_load_one (b := 0) (o := 0 + t.1.toNat * 1) rfl (by rw [show 0 + t.1.toNat * 1 = t.1.toNat by omega]; exact ((hLw.ch hc (by simp) (by simp)).1.cell _).trans hfw)) ?_
    repeat (first | ((with_reducible apply is_ldg); first | refine kldg hM ?_ | refine kldwg hM ?_) | ((with_reducible apply is_sg); (first | refine ssg ?_ | refine sgu ?_)) | ((with_reducible apply is_gg); first | refine gtg ?_ | refine gfg ?_ | refine gug ?_) | ((with_reducible apply is_eg); refine eg ?_))
    refine wg_val (v := .string (bst (opW t.2.1))) (fun w1 hc => r_load_one (b := 1) (o := 0 + t.2.1.toNat * 1) rfl (by rw [show 0 + t.2.1.toNat * 1 = t.2.1.toNat by omega]; exact ((hLw.ch hc (by simp) (by simp)).2.cell _).trans how)) ?_
    repeat (first | ((with_reducible apply is_ldg); first | refine kldg hM ?_ | refine kldwg hM ?_) | ((with_reducible apply is_sg); (first | refine ssg ?_ | refine sgu ?_)) | ((with_reducible apply is_gg); first | refine gtg ?_ | refine gfg ?_ | refine gug ?_) | ((with_reducible apply is_eg); refine eg ?_))
    refine kcag hM (v := .string (bst (quoB t.2.2))) (vs := [.string (bst t.2.2)]) (fun w1 hM => quote_any t.2.2 w1 (by omega)) ?_
    repeat (first | ((with_reducible apply is_ldg); first | refine kldg hM ?_ | refine kldwg hM ?_) | ((with_reducible apply is_sg); (first | refine ssg ?_ | refine sgu ?_)) | ((with_reducible apply is_gg); first | refine gtg ?_ | refine gfg ?_ | refine gug ?_) | ((with_reducible apply is_eg); refine eg ?_))
    refine lastg rfl (by kernel_rfl) (fun w hc => ?_)
    have hM := hM.call hc
    refine kbsC (en := eBs) (vs := [.string (bst jn), .string (bst (fieldW t.1)), .string (bst (opW t.2.1)), .string (bst (quoB t.2.2))]) [jn, fieldW t.1, opW t.2.1, quoB t.2.2] hM (fun w b9 hc hM => ?_)
    refine x_mid rfl hc ?_
    refine lastg rfl (by kernel_rfl) (fun w hc => ?_)
    have hM := hM.call hc
    have hR9 := hM.rowRdO (en := eBs) (v := .slice (some ⟨b9, 0, none⟩) 4 4) (xs := [jn, fieldW t.1, opW t.2.1, quoB t.2.2]) (by (repeat constructor))
    have hM : Mem [] w0 w [.cell b3 [vx] 36, .row eBs 9 vx acc, .cell b1 (qV q (.slice A q.ts.length c)) 24] := hM.sub (by (repeat (first | exact Go.Proofs.E.Sub.refl _ | exact Go.Proofs.E.Sub.nil | (apply Go.Proofs.E.Sub.cons; (repeat (first | exact Go.Proofs.E.Pick.here | apply Go.Proofs.E.Pick.there))) | apply Go.Proofs.E.Sub.tail)))
    refine kcd (f := 26) (vs := [.bool true, .slice (some ⟨b9, 0, none⟩) 4 4]) (lb := #[.pointer (some ⟨b3, 0, none⟩)]) (print1_any true _ vx b3 acc [jn, fieldW t.1, opW t.2.1, quoB t.2.2] w hM hR9 (by omega) (by simp)) ?_
    rintro _ w ⟨vy, hM⟩
    rw [if_pos rfl, ← hnx] at hM
    refine x_late rfl rfl ?_
    repeat (first | ((with_reducible apply is_ldg); first | refine kldg hM ?_ | refine kldwg hM ?_) | ((with_reducible apply is_sg); (first | refine ssg ?_ | refine sgu ?_)) | ((with_reducible apply is_gg); first | refine gtg ?_ | refine gfg ?_ | refine gug ?_) | ((with_reducible apply is_eg); refine eg ?_))
    (intro w hc; have hM := hM.call hc)
    repeat (first | refine gs ?_ | (refine ks ?_; intro w hM))
    exact x_goes (n - 1) rfl (by omega) ⟨i + 1, vy, exj (by rw [e, if_neg (by simp)]; rfl), by omega, hM⟩
  rw [List.take_of_length_le (l := q.ts) (i := i) (by omega)] at hM htl
  have ha4 : (a3 ++ tsW wWhere q.ts).length ≤ 2000 := by rw [List.length_append]; omega
  obtain ⟨a4, hx4⟩ : ∃ x, x = a3 ++ tsW wWhere q.ts := ⟨_, rfl⟩
  rw [← hx4] at ha4 hM
  repeat (first | refine gs ?_ | (refine ks ?_; intro w hM))
  refine kbs (en := eBs) (vs := [.string (bst wBack)]) [wBack] hM (fun w b9 hM => ?_)
  have hR9 := hM.rowRdO (en := eBs) (v := .slice (some ⟨b9, 0, none⟩) 1 1) (xs := [wBack]) (by (repeat constructor))
  have hM : Mem [] w0 w [.cell b3 [vx] 36, .row eBs 9 vx a4, .cell b1 (qV q (.slice A q.ts.length c)) 24] := hM.sub (by (repeat (first | exact Go.Proofs.E.Sub.refl _ | exact Go.Proofs.E.Sub.nil | (apply Go.Proofs.E.Sub.cons; (repeat (first | exact Go.Proofs.E.Pick.here | apply Go.Proofs.E.Pick.there))) | apply Go.Proofs.E.Sub.tail)))
  refine kcd (f := 26) (vs := [.bool q.back, .slice (some ⟨b9, 0, none⟩) 1 1]) (lb := #[.pointer (some ⟨b3, 0, none⟩)]) (print1_any q.back _ vx b3 a4 [wBack] w hM hR9 (by omega) (by simp)) ?_
  rintro _ w ⟨v5, hM⟩
  obtain ⟨a5, hx5⟩ : ∃ x, x = a4 ++ pBk q := ⟨_, rfl⟩
  have ha5 : a5.length ≤ 2001 := by
    rw [hx5, List.length_append]
    have : (pBk q).length ≤ 1 := by unfold pBk; split <;> simp
    omega
  have hM : Mem [] w0 w [.cell b3 [v5] 36, .row eBs 9 v5 a5, .cell b1 (qV q (.slice A q.ts.length c)) 24] := by rw [hx5]; exact hM
  repeat (first | refine gs ?_ | (refine ks ?_; intro w hM))
  refine kdrl 8 hM (by kernel_rfl) (by kernel_rfl) (by kernel_rfl) (fun w hM => ?_)
  repeat (first | ((with_reducible apply is_ldg); first | refine kldg hM ?_ | refine kldwg hM ?_) | ((with_reducible apply is_sg); (first | refine ssg ?_ | refine sgu ?_)) | ((with_reducible apply is_gg); first | refine gtg ?_ | refine gfg ?_ | refine gug ?_) | ((with_reducible apply is_eg); refine eg ?_))
  refine kcag hM (v := .string (bst (Lib.itoa q.skip))) (vs := [.int .i64 q.skip]) (fun w1 hM => itoa_any q.skip (by omega) (by omega) w1 (hP.ch hM.ch (by simp))) ?_
  repeat (first | ((with_reducible apply is_ldg); first | refine kldg hM ?_ | refine kldwg hM ?_) | ((with_reducible apply is_sg); (first | refine ssg ?_ | refine sgu ?_)) | ((with_reducible apply is_gg); first | refine gtg ?_ | refine gfg ?_ | refine gug ?_) | ((with_reducible apply is_eg); refine eg ?_))
  refine lastg rfl (by kernel_rfl) (fun w hc => ?_)
  have hM := hM.call hc
  refine kbsC (en := eBs) (vs := [.string (bst wSkip), .string (bst (Lib.itoa q.skip))]) [wSkip, Lib.itoa q.skip] hM (fun w b9 hc hM => ?_)
  refine x_mid rfl hc ?_
  refine lastg rfl (by kernel_rfl) (fun w hc => ?_)
  have hM := hM.call hc
  have hR9 := hM.rowRdO (en := eBs) (v := .slice (some ⟨b9, 0, none⟩) 2 2) (xs := [wSkip, Lib.itoa q.skip]) (by (repeat constructor))
  have hM : Mem [] w0 w [.cell b3 [v5] 36, .row eBs 9 v5 a5, .cell b1 (qV q (.slice A q.ts.length c)) 24] := hM.sub (by (repeat (first | exact Go.Proofs.E.Sub.refl _ | exact Go.Proofs.E.Sub.nil | (apply Go.Proofs.E.Sub.cons; (repeat (first | exact Go.Proofs.E.Pick.here | apply Go.Proofs.E.Pick.there))) | apply Go.Proofs.E.Sub.tail)))
  refine kcd (f := 26) (vs := [.bool (decide (0 < q.skip)), .slice (some ⟨b9, 0, none⟩) 2 2]) (lb := #[.pointer (some ⟨b3, 0, none⟩)]) (print1_any (decide (0 < q.skip)) _ v5 b3 a5 [wSkip, Lib.itoa q.skip] w hM hR9 (by omega) (by simp)) ?_
  rintro _ w ⟨v6, hM⟩
  have he : (if (decide (0 < q.skip)) = true then [wSkip, Lib.itoa q.skip] else []) = pSk q := by unfold pSk; by_cases h : 0 < q.skip <;> simp [h]
  rw [he] at hM
  refine x_late rfl rfl ?_
  repeat (first | ((with_reducible apply is_ldg); first | refine kldg hM ?_ | refine kldwg hM ?_) | ((with_reducible apply is_sg); (first | refine ssg ?_ | refine sgu ?_)) | ((with_reducible apply is_gg); first | refine gtg ?_ | refine gfg ?_ | refine gug ?_) | ((with_reducible apply is_eg); refine eg ?_))
  (intro w hc; have hM := hM.call hc)
  obtain ⟨a6, hx6⟩ : ∃ x, x = a5 ++ pSk q := ⟨_, rfl⟩
  have ha6 : a6.length ≤ 3000 := by
    rw [hx6, List.length_append]
    have : (pSk q).length ≤ 2 := by unfold pSk; split <;> simp
    omega
  rw [← hx6] at hM
  repeat (first | refine gs ?_ | (refine ks ?_; intro w hM))
  refine kdrl 8 hM (by kernel_rfl) (by kernel_rfl) (by kernel_rfl) (fun w hM => ?_)
  repeat (first | ((with_reducible apply is_ldg); first | refine kldg hM ?_ | refine kldwg hM ?_) | ((with_reducible apply is_sg); (first | refine ssg ?_ | refine sgu ?_)) | ((with_reducible apply is_gg); first | refine gtg ?_ | refine gfg ?_ | refine gug ?_) | ((with_reducible apply is_eg); refine eg ?_))
  refine kcag hM (v := .string (bst (Lib.itoa q.lim))) (vs := [.int .i64 q.lim]) (fun w1 hM => itoa_any q.lim (by omega) (by omega) w1 (hP.ch hM.ch (by simp))) ?_
  repeat (first | ((with_reducible apply is_ldg); first | refine kldg hM ?_ | refine kldwg hM ?_) | ((with_reducible apply is_sg); (first | refine ssg ?_ | refine sgu ?_)) | ((with_reducible apply is_gg); first | refine gtg ?_ | refine gfg ?_ | refine gug ?_) | ((with_reducible apply is_eg); refine eg ?_))
  refine lastg rfl (by kernel_rfl) (fun w hc => ?_)
  have hM := hM.call hc
  refine kbsC (en := eBs) (vs := [.string (bst wLimit), .string (bst (Lib.itoa q.lim))]) [wLimit, Lib.itoa q.lim] hM (fun w b9 hc hM => ?_)
  refine x_mid rfl hc ?_
  refine lastg rfl (by kernel_rfl) (fun w hc => ?_)
  have hM := hM.call hc
  have hR9 := hM.rowRdO (en := eBs) (v := .slice (some ⟨b9, 0, none⟩) 2 2) (xs := [wLimit, Lib.itoa q.lim]) (by (repeat constructor))
  have hM : Mem [] w0 w [.cell b3 [v6] 36, .row eBs 9 v6 a6, .cell b1 (qV q (.slice A q.ts.length c)) 24] := hM.sub (by (repeat (first | exact Go.Proofs.E.Sub.refl _ | exact Go.Proofs.E.Sub.nil | (apply Go.Proofs.E.Sub.cons; (repeat (first | exact Go.Proofs.E.Pick.here | apply Go.Proofs.E.Pick.there))) | apply Go.Proofs.E.Sub.tail)))
  refine kcd (f := 26) (vs := [.bool (decide (0 ≤ q.lim)), .slice (some ⟨b9, 0, none⟩) 2 2]) (lb := #[.pointer (some ⟨b3, 0, none⟩)]) (print1_any (decide (0 ≤ q.lim)) _ v6 b3 a6 [wLimit, Lib.itoa q.lim] w hM hR9 (by omega) (by simp)) ?_
  rintro _ w ⟨v7, hM⟩
  have he : (if (decide (0 ≤ q.lim)) = true then [wLimit, Lib.itoa q.lim] else []) = pLm q := by unfold pLm; by_cases h : 0 ≤ q.lim <;> simp [h]
  rw [he] at hM
  refine x_late rfl rfl ?_
  repeat (first | ((with_reducible apply is_ldg); first | refine kldg hM ?_ | refine kldwg hM ?_) | ((with_reducible apply is_sg); (first | refine ssg ?_ | refine sgu ?_)) | ((with_reducible apply is_gg); first | refine gtg ?_ | refine gfg ?_ | refine gug ?_) | ((with_reducible apply is_eg); refine eg ?_))
  (intro w hc; have hM := hM.call hc)
  obtain ⟨a7, hx7⟩ : ∃ x, x = a6 ++ pLm q := ⟨_, rfl⟩
  have ha7 : a7.length ≤ 3100 := by
    rw [hx7, List.length_append]
    have : (pLm q).length ≤ 2 := by unfold pLm; split <;> simp
    omega
  rw [← hx7] at hM
  repeat (first | refine gs ?_ | (refine ks ?_; intro w hM))
  have hj : Lib.join a7 [32] = printQ q := by
    unfold printQ
    rw [if_pos hr, hx7, hx6, hx5, hx4, hx3, hx2, hx1, hx0]
    unfold prW
    simp only [List.append_assoc, List.cons_append, List.nil_append]
  refine kca hM (join_any v7 a7 [32] w (hM.rowRdO (by (repeat constructor))) (fun h => by rw [h] at ha7; rw [h] at hx7; have := congrArg List.length hx7; rw [List.length_append, hx6, List.length_append, hx5, List.length_append, hx4, List.length_append, hx3, List.length_append, hx2, List.length_append, hx1, List.length_append] at this; simp only [List.length_nil] at this; omega) (by omega) (by rw [hj]; have := print_le (q := q); omega)) (fun w hM => ?_)
  rw [hj]
  repeat (first | refine gs ?_ | (refine ks ?_; intro w hM))
  exact out1 rfl ⟨rfl, hM.ch⟩
end Go.Proofs.YtoimhmphhffelaaDoor

/- Walks: record.Copy.
   Walk: the law RecordOwn. -/
import Derived.Test.YtnkkeehoejmcnaaDoorRec8
set_option linter.unusedVariables false
set_option linter.unusedSimpArgs false
namespace Go.Proofs.E
open Go Go.RowKit
theorem flat_set {α : Type} {f : α → List Value} {n k : Nat} {v : Value} {b : α} (hf : ∀ x, (f x).length = n) (hk : k < n) : ∀ (xs : List α) (i : Nat) (a : α), xs[i]? = some a → (f a).set k v = f b → (xs.flatMap f).set (i * n + k) v = (xs.set i b).flatMap f
  | [], i, a, h, _ => by simp at h
  | y :: xs, 0, a, h, hab => by
    simp only [List.getElem?_cons_zero, Option.some.injEq] at h
    subst h
    rw [List.set_cons_zero, List.flatMap_cons, List.flatMap_cons, Nat.zero_mul, Nat.zero_add, List.set_append_left _ _ (by rw [hf]; exact hk), hab]
  | y :: xs, i + 1, a, h, hab => by
    rw [List.set_cons_succ, List.flatMap_cons, List.flatMap_cons, List.set_append_right _ _ (by rw [hf, Nat.succ_mul]; omega), hf, show (i + 1) * n + k - n = i * n + k by rw [Nat.succ_mul]; omega, flat_set hf hk xs i a (by simpa using h) hab]
theorem Own.get {α : Type} {en : En α} {w : World} {base : Nat} {E : TypeId} {v : Value} {xs : List α} (h : Own en w base E v xs) (hne : xs ≠ []) : ∃ g c, v = .slice (some ⟨g, 0, none⟩) xs.length c := by
  rcases h.2 with ⟨_, h⟩ | ⟨g, c, cur, rfl, _⟩
  · exact absurd (List.eq_nil_of_length_eq_zero h) hne
  · exact ⟨g, c, rfl⟩
section
variable {P : Program} {ops : Array Oper} {Q : Exit → Act → World → Prop} {rest : List Oper} {l l' : List Value} {O : List Nat} {w0 w : World} {L L' : List As} {T : TypeId} {pos : String} {after : Array Edge}
/-- A store of one cell of an element of a row. -/
theorem krs {α : Type} {en : En α} {x y : Operand} {E t : TypeId} {g o i k m c n by_ : Nat} {v z : Value} {xs : List α} {a : α} (b : α) [hi : Inf P t z 1 by_] (hM : Mem O w0 w L)
    (h : ∀ w', Ch [g] w w' → Mem O w0 w' (.row en E (.slice (some ⟨g, 0, none⟩) m c) (xs.set i b) :: L') → wpList P ops Q rest (fr l) w') (ha : xs[i]? = some a) (hab : (en.f a).set k v = en.f b) (ho : o = i * n + k) (hk : k < n) (hn : en.n = n := by exact rfl)
    (hx : ev l x = .pointer (some ⟨g, o, none⟩) := by exact rfl) (hy : ev l y = v := by exact rfl) (hp : Pick L (.row en E (.slice (some ⟨g, 0, none⟩) m c) xs) L' := by (repeat (first | exact Go.Proofs.E.Pick.here | apply Go.Proofs.E.Pick.there))) (hv : v.cells = #[v] := by exact rfl) (h1 : v.oneCell' = true := by exact rfl) :
    wpList P ops Q ({ dst := none, op := .store t x y, type := T, pos := pos, after := after, guard := none } :: rest) (fr l) w := by
  have hM' := hM.pick hp
  have hO : Own en w 0 E (.slice (some ⟨g, 0, none⟩) m c) xs := hM'.head
  subst hn
  obtain ⟨hlen, h2⟩ := hO
  have hilt := (List.getElem?_eq_some_iff.1 ha).1
  rcases h2 with ⟨h, _⟩ | ⟨g', cap, cur, he, hg, hb, hcap, hmax, hsz, htk⟩
  · cases h
  · injection he with e1 e2 e3
    injection e1 with e1
    injection e1 with e1
    subst e1 e2 e3
    have hB : Blk w g cur.toList E := by rw [Blk, Array.toArray_toList]; exact hb
    have hle : (i + 1) * en.n ≤ c * en.n := Nat.mul_le_mul_right _ (by omega)
    rw [Nat.succ_mul] at hle
    have hf : o < cur.toList.length := by rw [Array.length_toList, hsz]; omega
    refine stb hB hx hy hv h1 hf fun w' hB' hc _ => h w' hc (hM'.put hc (fun k' hk' => by simp at hk'; subst hk'; rfl) ?_ (fun k' hk' => .inl hk'))
    refine ⟨?_, .inr ⟨g, c, (cur.toList.set o v).toArray, ?_, Nat.zero_le _, hB', by rw [List.length_set]; exact hcap, hmax, ?_, ?_⟩⟩
    · rw [flatMap_len en.hl]
    · rw [List.length_set]
    · simp [hsz]
    · rw [List.length_set, List.toList_toArray, List.take_set, htk, ho]
      exact flat_set en.hl hk xs i a ha hab
end
section
variable {P : Program} {ops : Array Oper} {N : Nat} {S : List Nat} {Q : Exit → Act → World → Prop} {z : List Nat × List Nat} {fuel : Nat} {listed : Array Bool} {l : List Value} {w : World} {T : TypeId} {pos : String} {after : Array Edge}
/-- A load of one cell inside an element. -/
theorem yna {α : Type} {en : En α} {d : Nat} {x : Operand} {E : TypeId} {b o : Nat} {a : α} {v : Value} [hr1 : One P E] (k : Nat) (ho : ops[k]? = some { dst := some d, op := .load E x, type := T, pos := pos, after := after, guard := none }) (hA : (Ty.enc en).At S w b o a) (hlt : b < N) (hx : ev l x = .pointer (some ⟨b, o, none⟩)) (hv : en.f a = [v])
    (h : WY P ops N S Q z fuel (listed.setIfInBounds k true) (fr (l.set d v)) w) (hr : (Region.ready .any ops listed).contains k = true := by kernel_rfl) (hf : Region.free .any ops listed k = true := by kernel_rfl) (hnf : k ∉ z.2 := by decide) : WY P ops N S Q z (fuel + 1) listed (fr l) w := by
  refine ynv (hnf := hnf) k ho hr hf (fun w1 hG => ?_) rfl h
  obtain ⟨hb, hS, cs, hR, hc⟩ := At.bw hA hG hlt
  have hR' : cs = en.f a := hR
  subst hR'
  rw [hv] at hc
  exact r_load_one hx (hc 0 v rfl)
end
end Go.Proofs.E
namespace Go.Proofs.YtnkkeehoejmcnaaDoor
open Go Go.RowKit Go.Proofs.E
attribute [local irreducible] Go.wpList Go.Code.wp Go.Proofs.E.exec Go.Proofs.E.wpLexG
theorem cloneR_any {bs : List _} (v : Value) (w0 : World) (hR : (Ty.enc eRr).Rd [] w0 v bs) (hb : bs.length ≤ 1000000) :
    Calls Tryd.prog 76 #[v] w0 (Ret fun u w' => Ch [] w0 w' ∧ Go.Proofs.E.Own eRr w' w0.heap.size 125 u bs) := by
  have hM := Mem.start w0
  obtain ⟨A, c, rfl⟩ := hR.form
  refine enter [.slice A bs.length c, undef, undef, undef, undef, undef, undef, undef] Tryd.func76 rfl rfl ?_
  repeat (first | ((with_reducible apply is_ld); first | refine kld hM ?_ | refine kldw hM ?_ | refine kle hM ?_ | refine klew hM ?_) | ((with_reducible apply is_sto); first | (refine kst hM ?_; intro w hM) | (refine kstw hM ?_; intro w hM)) | ((with_reducible apply is_st); refine su ?_) | ((with_reducible apply is_gd); first | refine gt ?_ | refine gf ?_ | refine gu ?_) | ((with_reducible apply is_en); refine en ?_) | (with_reducible apply c_region) | refine ws ?_ | refine x_block_other (by decide) ?_)
  (try ((with_reducible apply is_gd); first | refine gt ?_ | refine gf ?_ | refine gu ?_)); refine wl_val (r_eqnil) ?_
  repeat (first | ((with_reducible apply is_ld); first | refine kld hM ?_ | refine kldw hM ?_ | refine kle hM ?_ | refine klew hM ?_) | ((with_reducible apply is_sto); first | (refine kst hM ?_; intro w hM) | (refine kstw hM ?_; intro w hM)) | ((with_reducible apply is_st); refine su ?_) | ((with_reducible apply is_gd); first | refine gt ?_ | refine gf ?_ | refine gu ?_) | ((with_reducible apply is_en); refine en ?_) | (with_reducible apply c_region) | refine ws ?_ | refine x_block_other (by decide) ?_)
  cases A with
  | none =>
    refine c_condb rfl (fun _ => ?_) (fun h => by cases h)
    have : bs = [] := by
      cases bs with
      | nil => rfl
      | cons b r =>
        obtain ⟨_, _, _, hv, _, hA⟩ := hR
        obtain ⟨_, _, h, _⟩ := hA (by simp)
        subst h
        cases hv
    subst this
    repeat (first | ((with_reducible apply is_ld); first | refine kld hM ?_ | refine kldw hM ?_ | refine kle hM ?_ | refine klew hM ?_) | ((with_reducible apply is_sto); first | (refine kst hM ?_; intro w hM) | (refine kstw hM ?_; intro w hM)) | ((with_reducible apply is_st); refine su ?_) | ((with_reducible apply is_gd); first | refine gt ?_ | refine gf ?_ | refine gu ?_) | ((with_reducible apply is_en); refine en ?_) | (with_reducible apply c_region) | refine ws ?_ | refine x_block_other (by decide) ?_)
    exact out1 rfl ⟨hM.ch, Go.Proofs.E.Own.nil _ _ _ _⟩
  | some a =>
    refine c_condb rfl (fun h => by cases h) (fun _ => ?_)
    repeat (first | ((with_reducible apply is_ld); first | refine kld hM ?_ | refine kldw hM ?_ | refine kle hM ?_ | refine klew hM ?_) | ((with_reducible apply is_sto); first | (refine kst hM ?_; intro w hM) | (refine kstw hM ?_; intro w hM)) | ((with_reducible apply is_st); refine su ?_) | ((with_reducible apply is_gd); first | refine gt ?_ | refine gf ?_ | refine gu ?_) | ((with_reducible apply is_en); refine en ?_) | (with_reducible apply c_region) | refine ws ?_ | refine x_block_other (by decide) ?_)
    refine kbs (en := eRr) (vs := []) [] hM (fun w b5 hM => ?_)
    repeat (first | ((with_reducible apply is_ld); first | refine kld hM ?_ | refine kldw hM ?_ | refine kle hM ?_ | refine klew hM ?_) | ((with_reducible apply is_sto); first | (refine kst hM ?_; intro w hM) | (refine kstw hM ?_; intro w hM)) | ((with_reducible apply is_st); refine su ?_) | ((with_reducible apply is_gd); first | refine gt ?_ | refine gf ?_ | refine gu ?_) | ((with_reducible apply is_en); refine en ?_) | (with_reducible apply c_region) | refine ws ?_ | refine x_block_other (by decide) ?_)
    refine kap (en := eRr) (ys := bs) hM (hR.ch hM.ch) (fun v7 w hM => ?_) (hb := by simp; omega) (h63 := by simp; omega)
    repeat (first | ((with_reducible apply is_ld); first | refine kld hM ?_ | refine kldw hM ?_ | refine kle hM ?_ | refine klew hM ?_) | ((with_reducible apply is_sto); first | (refine kst hM ?_; intro w hM) | (refine kstw hM ?_; intro w hM)) | ((with_reducible apply is_st); refine su ?_) | ((with_reducible apply is_gd); first | refine gt ?_ | refine gf ?_ | refine gu ?_) | ((with_reducible apply is_en); refine en ?_) | (with_reducible apply c_region) | refine ws ?_ | refine x_block_other (by decide) ?_)
    exact out1 rfl ⟨hM.ch, hM.row (v := v7) (by (repeat constructor))⟩
theorem cloneP_any {bs : List _} (v : Value) (w0 : World) (hR : (Ty.enc ePr).Rd [] w0 v bs) (hb : bs.length ≤ 1000000) :
    Calls Tryd.prog 77 #[v] w0 (Ret fun u w' => Ch [] w0 w' ∧ Go.Proofs.E.Own ePr w' w0.heap.size 122 u bs) := by
  have hM := Mem.start w0
  obtain ⟨A, c, rfl⟩ := hR.form
  refine enter [.slice A bs.length c, undef, undef, undef, undef, undef, undef, undef] Tryd.func77 rfl rfl ?_
  repeat (first | ((with_reducible apply is_ld); first | refine kld hM ?_ | refine kldw hM ?_ | refine kle hM ?_ | refine klew hM ?_) | ((with_reducible apply is_sto); first | (refine kst hM ?_; intro w hM) | (refine kstw hM ?_; intro w hM)) | ((with_reducible apply is_st); refine su ?_) | ((with_reducible apply is_gd); first | refine gt ?_ | refine gf ?_ | refine gu ?_) | ((with_reducible apply is_en); refine en ?_) | (with_reducible apply c_region) | refine ws ?_ | refine x_block_other (by decide) ?_)
  (try ((with_reducible apply is_gd); first | refine gt ?_ | refine gf ?_ | refine gu ?_)); refine wl_val (r_eqnil) ?_
  repeat (first | ((with_reducible apply is_ld); first | refine kld hM ?_ | refine kldw hM ?_ | refine kle hM ?_ | refine klew hM ?_) | ((with_reducible apply is_sto); first | (refine kst hM ?_; intro w hM) | (refine kstw hM ?_; intro w hM)) | ((with_reducible apply is_st); refine su ?_) | ((with_reducible apply is_gd); first | refine gt ?_ | refine gf ?_ | refine gu ?_) | ((with_reducible apply is_en); refine en ?_) | (with_reducible apply c_region) | refine ws ?_ | refine x_block_other (by decide) ?_)
  cases A with
  | none =>
    refine c_condb rfl (fun _ => ?_) (fun h => by cases h)
    have : bs = [] := by
      cases bs with
      | nil => rfl
      | cons b r =>
        obtain ⟨_, _, _, hv, _, hA⟩ := hR
        obtain ⟨_, _, h, _⟩ := hA (by simp)
        subst h
        cases hv
    subst this
    repeat (first | ((with_reducible apply is_ld); first | refine kld hM ?_ | refine kldw hM ?_ | refine kle hM ?_ | refine klew hM ?_) | ((with_reducible apply is_sto); first | (refine kst hM ?_; intro w hM) | (refine kstw hM ?_; intro w hM)) | ((with_reducible apply is_st); refine su ?_) | ((with_reducible apply is_gd); first | refine gt ?_ | refine gf ?_ | refine gu ?_) | ((with_reducible apply is_en); refine en ?_) | (with_reducible apply c_region) | refine ws ?_ | refine x_block_other (by decide) ?_)
    exact out1 rfl ⟨hM.ch, Go.Proofs.E.Own.nil _ _ _ _⟩
  | some a =>
    refine c_condb rfl (fun h => by cases h) (fun _ => ?_)
    repeat (first | ((with_reducible apply is_ld); first | refine kld hM ?_ | refine kldw hM ?_ | refine kle hM ?_ | refine klew hM ?_) | ((with_reducible apply is_sto); first | (refine kst hM ?_; intro w hM) | (refine kstw hM ?_; intro w hM)) | ((with_reducible apply is_st); refine su ?_) | ((with_reducible apply is_gd); first | refine gt ?_ | refine gf ?_ | refine gu ?_) | ((with_reducible apply is_en); refine en ?_) | (with_reducible apply c_region) | refine ws ?_ | refine x_block_other (by decide) ?_)
    refine kbs (en := ePr) (vs := []) [] hM (fun w b5 hM => ?_)
    repeat (first | ((with_reducible apply is_ld); first | refine kld hM ?_ | refine kldw hM ?_ | refine kle hM ?_ | refine klew hM ?_) | ((with_reducible apply is_sto); first | (refine kst hM ?_; intro w hM) | (refine kstw hM ?_; intro w hM)) | ((with_reducible apply is_st); refine su ?_) | ((with_reducible apply is_gd); first | refine gt ?_ | refine gf ?_ | refine gu ?_) | ((with_reducible apply is_en); refine en ?_) | (with_reducible apply c_region) | refine ws ?_ | refine x_block_other (by decide) ?_)
    refine kap (en := ePr) (ys := bs) hM (hR.ch hM.ch) (fun v7 w hM => ?_) (hb := by simp; omega) (h63 := by simp; omega)
    repeat (first | ((with_reducible apply is_ld); first | refine kld hM ?_ | refine kldw hM ?_ | refine kle hM ?_ | refine klew hM ?_) | ((with_reducible apply is_sto); first | (refine kst hM ?_; intro w hM) | (refine kstw hM ?_; intro w hM)) | ((with_reducible apply is_st); refine su ?_) | ((with_reducible apply is_gd); first | refine gt ?_ | refine gf ?_ | refine gu ?_) | ((with_reducible apply is_en); refine en ?_) | (with_reducible apply c_region) | refine ws ?_ | refine x_block_other (by decide) ?_)
    exact out1 rfl ⟨hM.ch, hM.row (v := v7) (by (repeat constructor))⟩
theorem perm16 {α : Type 1} {A B C D : α} {T : List α} : (A :: B :: C :: D :: T).Perm (C :: D :: A :: (T ++ [B])) := by
  classical exact List.perm_iff_count.2 (fun x => by simp only [List.count_cons, List.count_append, List.count_nil]; omega)
abbrev prow (u : RR × List Pr) : As := .row ePr 122 (slv u.1.2.2.2) u.2
/-- All that a copy owns. -/
abbrev rows16 (vr vw : Value) (us : List (RR × List Pr)) (wz : List Pr) : List As := .row eRr 125 vr (us.map (fun u : RR × List Pr => u.1)) :: .row ePr 122 vw wz :: us.map prow
set_option maxHeartbeats 8000000 in
theorem copy_any (ses snap : Int) (strict : Bool) (vr vw : Value) (us : List (RR × List Pr)) (wz : List Pr) (w0 : World) (hA : RecM w0 vr vw us wz) (hS : LightR us wz) :
    Calls Tryd.prog 25 #[.agg (rC ses snap strict vr vw).toArray] w0 (Ret fun u w' => ∃ (vr' vw' : Value) (vs : List (RR × List Pr)), u = .agg (rC ses snap strict vr' vw').toArray ∧ vs.map dat = us.map dat ∧ Mem [] w0 w' (rows16 vr' vw' vs wz)) := by
  have hM := Mem.start w0
  obtain ⟨A, c, rfl⟩ := hA.r.form
  obtain ⟨A2, c2, rfl⟩ := hA.w.form
  obtain ⟨hR, hU, hW⟩ := hA
  simp only [List.length_map] at hR ⊢
  obtain ⟨hs1, hs2, hs3, hs4⟩ := hS
  refine enter [.agg (rC ses snap strict (.slice A us.length c) (.slice A2 wz.length c2)).toArray, undef, undef, undef, undef, undef, undef, undef, undef, undef, undef, undef, undef, undef, undef, undef, undef, undef, undef, undef, undef, undef, undef, undef, undef, undef, undef, undef, undef, undef, undef, undef] Tryd.func25 rfl rfl ?_
  repeat (first | ((with_reducible apply is_ld); first | refine kld hM ?_ | refine kldw hM ?_ | refine kle hM ?_ | refine klew hM ?_) | ((with_reducible apply is_sto); first | (refine kst hM ?_; intro w hM) | (refine kstw hM ?_; intro w hM)) | ((with_reducible apply is_st); refine su ?_) | ((with_reducible apply is_gd); first | refine gt ?_ | refine gf ?_ | refine gu ?_) | ((with_reducible apply is_en); refine en ?_) | (with_reducible apply c_region) | refine ws ?_ | refine x_block_other (by decide) ?_)
  refine kbx hM (fun w b1 hM => ?_)
  have hM : Mem [] w0 w [.cell b1 (rC ses snap strict (.slice A us.length c) (.slice A2 wz.length c2)) 25] := hM
  refine kal hM (fun w b2 hM => ?_)
  repeat (first | ((with_reducible apply is_ld); first | refine kld hM ?_ | refine kldw hM ?_ | refine kle hM ?_ | refine klew hM ?_) | ((with_reducible apply is_sto); first | (refine kst hM ?_; intro w hM) | (refine kstw hM ?_; intro w hM)) | ((with_reducible apply is_st); refine su ?_) | ((with_reducible apply is_gd); first | refine gt ?_ | refine gf ?_ | refine gu ?_) | ((with_reducible apply is_en); refine en ?_) | (with_reducible apply c_region) | refine ws ?_ | refine x_block_other (by decide) ?_)
  refine kcr hM (cloneR_any _ w (hR.ch hM.ch) (by simp; omega)) (fun v6 w hM => ?_)
  obtain ⟨A6, c6, rfl, _⟩ := Own.form (hM.row (v := v6) (by (repeat constructor)))
  simp only [List.length_map] at hM ⊢
  repeat (first | ((with_reducible apply is_ld); first | refine kld hM ?_ | refine kldw hM ?_ | refine kle hM ?_ | refine klew hM ?_) | ((with_reducible apply is_sto); first | (refine kst hM ?_; intro w hM) | (refine kstw hM ?_; intro w hM)) | ((with_reducible apply is_st); refine su ?_) | ((with_reducible apply is_gd); first | refine gt ?_ | refine gf ?_ | refine gu ?_) | ((with_reducible apply is_en); refine en ?_) | (with_reducible apply c_region) | refine ws ?_ | refine x_block_other (by decide) ?_)
  have hcell : Mem [] w0 w ([.cell b1 (rC ses snap strict (.slice A6 us.length c6) (.slice A2 wz.length c2)) 25, .cell b2 (rC 0 0 false (.slice none 0 0) (.slice none 0 0)) 25, .row eRr 125 (.slice A6 us.length c6) (us.map (fun u : RR × List Pr => u.1))] : List As) := hM.sub (by (repeat constructor))
  clear hM
  
  refine c_loop (fun n l w => ∃ (j : Nat) (ns : List (RR × List Pr)), (∃ jj : Nat → Value, l = [jj 0, .pointer (some ⟨b1, 0, none⟩), .pointer (some ⟨b2, 0, none⟩), jj 3, jj 4, jj 5, jj 6, jj 7, jj 8, jj 9, .int .i64 (us.length : Int), .int .i64 (j : Int), jj 12, jj 13, jj 14, jj 15, jj 16, jj 17, jj 18, jj 19, jj 20, jj 21, jj 22, jj 23, jj 24, jj 25, jj 26, jj 27, jj 28, jj 29, jj 30, jj 31]) ∧ n + j = us.length ∧ ns.map dat = (us.take j).map dat ∧ Mem [] w0 w (.cell b1 (rC ses snap strict (.slice A6 us.length c6) (.slice A2 wz.length c2)) 25 :: .cell b2 (rC 0 0 false (.slice none 0 0) (.slice none 0 0)) 25 :: .row eRr 125 (.slice A6 us.length c6) (ns.map (fun u : RR × List Pr => u.1) ++ (us.drop j).map (fun u : RR × List Pr => u.1)) :: ns.map prow)) us.length
    ⟨0, [], exj rfl, rfl, rfl, hcell⟩ ?_
  clear hcell
  rintro n l w ⟨j, ns, ⟨jj, rfl⟩, hnj, hdat, hM⟩
  have hnl : ns.length = j := by
    have := congrArg List.length hdat
    rw [List.length_map, List.length_map, List.length_take] at this
    omega
  repeat (first | ((with_reducible apply is_ld); first | refine kld hM ?_ | refine kldw hM ?_ | refine kle hM ?_ | refine klew hM ?_) | ((with_reducible apply is_sto); first | (refine kst hM ?_; intro w hM) | (refine kstw hM ?_; intro w hM)) | ((with_reducible apply is_st); refine su ?_) | ((with_reducible apply is_gd); first | refine gt ?_ | refine gf ?_ | refine gu ?_) | ((with_reducible apply is_en); refine en ?_) | (with_reducible apply c_region) | refine ws ?_ | refine x_block_other (by decide) ?_)
  refine c_cond rfl (fun hj => ?_) (fun hj => ?_)
  · obtain ⟨u, hu⟩ : ∃ u, us[j]? = some u := ⟨_, List.getElem?_eq_getElem (by omega)⟩
    have hUu := hU u (List.mem_of_getElem? hu)
    have hsu := hs3 u (List.mem_of_getElem? hu)
    have hdr : us.drop j = u :: us.drop (j + 1) := by
      obtain ⟨hlt, he⟩ := List.getElem?_eq_some_iff.1 hu
      rw [List.drop_eq_getElem_cons hlt, he]
    have htk : (us.take (j + 1)).map dat = (us.take j).map dat ++ [dat u] := by
      rw [List.take_add_one, hu, List.map_append]
      rfl
    obtain ⟨⟨sc, key, to, A3, n3, c3⟩, ps⟩ := u
    simp only at hUu hsu
    have hrow : (ns.map (fun u : RR × List Pr => u.1) ++ (us.drop j).map (fun u : RR × List Pr => u.1))[j]? = some (sc, key, to, (A3, n3, c3)) := by
      rw [hdr, List.getElem?_append_right (by rw [List.length_map]; omega), List.length_map, hnl, Nat.sub_self]
      rfl
    have hrl : (ns.map (fun u : RR × List Pr => u.1) ++ (us.drop j).map (fun u : RR × List Pr => u.1)).length = us.length := by
      rw [List.length_append, List.length_map, List.length_map, List.length_drop]
      omega
    generalize hrs : ns.map (fun u : RR × List Pr => u.1) ++ (us.drop j).map (fun u : RR × List Pr => u.1) = rs at hM hrow hrl
    obtain ⟨g6, c6', he⟩ := Own.get (hM.row (v := .slice A6 us.length c6) (xs := rs) (by (repeat constructor))) (by intro h; subst h; simp at hrow)
    obtain ⟨rfl, rfl⟩ : A6 = some ⟨g6, 0, none⟩ ∧ c6 = c6' := by injection he with e1 e2 e3; exact ⟨e1, e3⟩
    repeat (first | ((with_reducible apply is_ld); first | refine kld hM ?_ | refine kldw hM ?_ | refine kle hM ?_ | refine klew hM ?_) | ((with_reducible apply is_sto); first | (refine kst hM ?_; intro w hM) | (refine kstw hM ?_; intro w hM)) | ((with_reducible apply is_st); refine su ?_) | ((with_reducible apply is_gd); first | refine gt ?_ | refine gf ?_ | refine gu ?_) | ((with_reducible apply is_en); refine en ?_) | (with_reducible apply c_region) | refine ws ?_ | refine x_block_other (by decide) ?_)
    refine c_ordY ([12], []) [] (by kernel_rfl) (by kernel_rfl) (by kernel_rfl) (fun w hc hs => ?_)
    have hM := hM.call hc
    have hl1 := Blk.lt (hM.blk (b := b1) (by (repeat constructor)))
    have hRow := hM.rowRdO (en := eRr) (v := .slice (some ⟨g6, 0, none⟩) us.length c6) (xs := rs) (by (repeat constructor))
    (first | refine yn 0 rfl ?_ | refine ynt 0 rfl ?_ | refine ynff 0 rfl ?_)
    refine ynl 1 rfl (hM.blk (b := b1) (by (repeat constructor))) (by omega) (by simp) rfl rfl ?_
    (first | refine yn 2 rfl ?_ | refine ynt 2 rfl ?_ | refine ynff 2 rfl ?_); (first | refine yn 3 rfl ?_ | refine ynt 3 rfl ?_ | refine ynff 3 rfl ?_)
    refine ynl 4 rfl (hM.blk (b := b1) (by (repeat constructor))) (by omega) (by simp) rfl rfl ?_
    (first | refine yn 5 rfl ?_ | refine ynt 5 rfl ?_ | refine ynff 5 rfl ?_)
    refine ynx 6 rfl hRow rfl rfl rfl (by omega) (by omega) (fun b o x hx hA => ?_)
    rw [Int.toNat_natCast, hrow] at hx
    injection hx with hx
    subst hx
    (first | refine yn 7 rfl ?_ | refine ynt 7 rfl ?_ | refine ynff 7 rfl ?_)
    refine yna 8 rfl (hA.part (e2 := eSl) (y := (A3, n3, c3)) 3 rfl) (by have := hA.1; omega) rfl rfl ?_
    refine yk1 9 hM (by kernel_rfl) rfl (fun w h0 hM => ?_)
    refine ca (cloneP_any (bs := ps) _ w (hUu.ch hM.ch) (by omega)) ?_
    rintro v23 w2 ⟨hc, hO⟩
    obtain ⟨A23, c23, rfl, _⟩ := Own.form hO
    have hM := hM.got hc hO
    refine x_wy (.inl (hc.gy h0)) rfl ?_
    refine ynp 10 rfl (by kernel_rfl) (by kernel_rfl) (fun _ => r_indexAddr rfl rfl (by omega) (by omega)) rfl ?_
    (first | refine yn 11 rfl ?_ | refine ynt 11 rfl ?_ | refine ynff 11 rfl ?_)
    refine yk1 12 hM (by kernel_rfl) rfl (fun w h0 hM => ?_)
    refine krs (en := eRr) (n := 4) (i := j) (k := 3) (xs := rs) (o := 0 + (j : Int).toNat * 4 + 3) (sc, key, to, (A23, ps.length, c23)) hM (fun w hc hM => ?_) hrow rfl (by rw [Int.toNat_natCast]; omega) (by omega)
    refine x_wy (.inr ⟨by decide, Nat.le_trans h0 hc.size⟩) rfl ?_
    refine wy_done (by kernel_rfl) (fun w hc => ?_)
    have hM := hM.call hc
    repeat (first | ((with_reducible apply is_ld); first | refine kld hM ?_ | refine kldw hM ?_ | refine kle hM ?_ | refine klew hM ?_) | ((with_reducible apply is_sto); first | (refine kst hM ?_; intro w hM) | (refine kstw hM ?_; intro w hM)) | ((with_reducible apply is_st); refine su ?_) | ((with_reducible apply is_gd); first | refine gt ?_ | refine gf ?_ | refine gu ?_) | ((with_reducible apply is_en); refine en ?_) | (with_reducible apply c_region) | refine ws ?_ | refine x_block_other (by decide) ?_)
    refine x_goes (n - 1) rfl (by omega) ⟨j + 1, ns ++ [((sc, key, to, (A23, ps.length, c23)), ps)], exj rfl, by omega, ?_, ?_⟩
    · rw [List.map_append, hdat, htk]
      rfl
    · have hset : rs.set j (sc, key, to, (A23, ps.length, c23)) = (ns ++ [((sc, key, to, (A23, ps.length, c23)), ps)]).map (fun u : RR × List Pr => u.1) ++ (us.drop (j + 1)).map (fun u : RR × List Pr => u.1) := by
        rw [← hrs, hdr, List.set_append_right _ _ (by rw [List.length_map]; omega), List.length_map, hnl, Nat.sub_self, List.map_append, List.append_assoc]
        rfl
      rw [← hset]
      exact (hM.perm (perm16 (A := .row eRr 125 (.slice (some ⟨g6, 0, none⟩) us.length c6) (rs.set j (sc, key, to, (A23, ps.length, c23)))) (B := prow ((sc, key, to, (A23, ps.length, c23)), ps)))).perm (by rw [List.map_append]; exact .refl _)
  · have hj' : j = us.length := by omega
    subst hj'
    rw [List.take_length] at hdat
    rw [List.drop_length, List.map_nil, List.append_nil] at hM
    repeat (first | ((with_reducible apply is_ld); first | refine kld hM ?_ | refine kldw hM ?_ | refine kle hM ?_ | refine klew hM ?_) | ((with_reducible apply is_sto); first | (refine kst hM ?_; intro w hM) | (refine kstw hM ?_; intro w hM)) | ((with_reducible apply is_st); refine su ?_) | ((with_reducible apply is_gd); first | refine gt ?_ | refine gf ?_ | refine gu ?_) | ((with_reducible apply is_en); refine en ?_) | (with_reducible apply c_region) | refine ws ?_ | refine x_block_other (by decide) ?_)
    refine kcr hM (cloneP_any (bs := wz) _ w (hW.ch hM.ch) (by omega)) (fun v29 w hM => ?_)
    obtain ⟨A29, c29, rfl, _⟩ := Own.form (hM.row (v := v29) (xs := wz) (by (repeat constructor)))
    repeat (first | ((with_reducible apply is_ld); first | refine kld hM ?_ | refine kldw hM ?_ | refine kle hM ?_ | refine klew hM ?_) | ((with_reducible apply is_sto); first | (refine kst hM ?_; intro w hM) | (refine kstw hM ?_; intro w hM)) | ((with_reducible apply is_st); refine su ?_) | ((with_reducible apply is_gd); first | refine gt ?_ | refine gf ?_ | refine gu ?_) | ((with_reducible apply is_en); refine en ?_) | (with_reducible apply c_region) | refine ws ?_ | refine x_block_other (by decide) ?_)
    exact koc hM rfl ⟨_, _, ns, rfl, hdat, hM.drop.drop.perm (List.Perm.swap _ _ _)⟩
end Go.Proofs.YtnkkeehoejmcnaaDoor
set_option linter.unusedVariables false
set_option linter.unusedSimpArgs false
namespace Go.Proofs.E
open Go Go.RowKit
theorem Pick.of_mem {a : As} : ∀ {L : List As}, a ∈ L → ∃ L', Pick L a L'
  | b :: L, h => by
    rcases List.mem_cons.1 h with rfl | h
    · exact ⟨L, .here⟩
    · obtain ⟨L', h'⟩ := Pick.of_mem h
      exact ⟨b :: L', .there h'⟩
theorem drop_set {α : Type} {l l' : List α} {i : Nat} {y : α} (h : l.drop i = l'.drop i) : (l.set i y).drop (i + 1) = l'.drop (i + 1) := by
  rw [List.drop_set_of_lt (by omega)]
  have := congrArg (List.drop 1) h
  rwa [List.drop_drop, List.drop_drop] at this
end Go.Proofs.E
namespace Go.Proofs.YtnkkeehoejmcnaaDoor
open Go Go.RowKit Go.Proofs.E
attribute [local irreducible] Go.wpList Go.Code.wp Go.Proofs.E.exec Go.Proofs.E.wpLexG
theorem rows_recM {O : List Nat} {w0 w : World} {vr vw : Value} {us : List (RR × List Pr)} {wz : List Pr} (h : Mem O w0 w (rows16 vr vw us wz)) : RecM w vr vw us wz := by
  refine ⟨h.rowRdO (en := eRr) .here, fun u hu => ?_, h.rowRdO (en := ePr) (.there .here)⟩
  obtain ⟨L', hp⟩ := Pick.of_mem (a := prow u) (L := rows16 vr vw us wz) (List.mem_cons_of_mem _ (List.mem_cons_of_mem _ (List.mem_map_of_mem hu)))
  exact h.rowRdO (en := ePr) hp
theorem rows_plain {vr vw : Value} {us : List (RR × List Pr)} {wz : List Pr} : ∀ a ∈ rows16 vr vw us wz, a.plain := by
  intro a ha
  rcases List.mem_cons.1 ha with rfl | ha
  · trivial
  rcases List.mem_cons.1 ha with rfl | ha
  · trivial
  obtain ⟨u, _, rfl⟩ := List.mem_map.1 ha
  trivial
end Go.Proofs.YtnkkeehoejmcnaaDoor

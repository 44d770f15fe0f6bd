/- Walks: Good and Bytes of records, both.
   Walks: a record's hash in the log, both. -/
import Derived.Test.YtoimhmphhffelaaGreatDoorQReceiptBytes13
import Derived.Test.YtoimhmphhffelaaGreatDoorQReceiptBytes14
set_option linter.unusedVariables false
set_option linter.unusedSimpArgs false
namespace Go.Proofs.YtoimhmphhffelaaGreatDoor
open Go Go.RowKit Go.Proofs.E
attribute [local irreducible] Go.wpList Go.Code.wp Go.Proofs.E.exec Go.Proofs.E.wpLexG
set_option maxHeartbeats 8000000 in
theorem rrecBytes_any (ses snap : Int) (strict : Bool) (vr vw : Value) (us : List (RR × List Pr)) (wz : List Pr) (w0 : World) (hR : (Ty.enc eRr).Rd [] w0 vr (us.map (fun u : RR × List Pr => u.1))) (hU : ∀ u ∈ us, (Ty.enc ePr).Rd [] w0 (slv u.1.2.2.2) u.2) (hW : (Ty.enc ePr).Rd [] w0 vw wz)
    (hk : ShortR us) (hb : ShortL wz) :
    Calls Tryz.prog 54 #[.agg (rC ses snap strict vr vw).toArray] w0 (Ret fun u w' => Ch [] w0 w' ∧ Go.Proofs.E.Own eU8 w' w0.heap.size 5 u (bytesB ses snap strict us wz)) := by
  have hM := Mem.start w0
  obtain ⟨A, c, rfl⟩ := hR.form
  obtain ⟨A2, c2, rfl⟩ := hW.form
  simp only [List.length_map] at hR ⊢
  unfold bytesB
  refine enter [.agg (rC ses snap strict (.slice A us.length c) (.slice A2 wz.length c2)).toArray, undef, undef, undef, undef, undef, undef, undef] Tryz.func54 rfl rfl ?_
  repeat (first | refine gw ?_ | (refine ks ?_; intro w hM))
  refine kbx hM (fun w b1 hM => ?_)
  have hM : Mem [] w0 w [.cell b1 (rC ses snap strict (.slice A us.length c) (.slice A2 wz.length c2)) 25] := hM
  repeat (first | refine gw ?_ | (refine ks ?_; intro w hM))
  refine kca hM (rright_any ses snap strict _ _ us wz w (hR.ch hM.ch) (fun u hu => (hU u hu).ch hM.ch) (hW.ch hM.ch) hk hb) (fun w hM => ?_)
  cases hr : rightB ses snap us wz with
  | false =>
    repeat (first | refine gw ?_ | (refine ks ?_; intro w hM))
    refine c_condb rfl (fun _ => ?_) (fun h => by cases h)
    repeat (first | refine gw ?_ | (refine ks ?_; intro w hM))
    exact out1 rfl ⟨hM.ch, Own.nil _ _ _ _⟩
  | true =>
    have hS := right_small hr
    obtain ⟨⟨h1, h2, h3, h4, h5, h6, h7⟩, h8⟩ := right_parts hr
    obtain ⟨sn, rfl⟩ := Int.eq_ofNat_of_zero_le (show 0 ≤ ses by omega)
    obtain ⟨pn, rfl⟩ := Int.eq_ofNat_of_zero_le (show 0 ≤ snap by omega)
    repeat (first | refine gw ?_ | (refine ks ?_; intro w hM))
    refine c_condb rfl (fun h => by cases h) (fun _ => ?_)
    repeat (first | refine gw ?_ | (refine ks ?_; intro w hM))
    refine kcr hM (rbytes16_any sn pn strict _ _ us wz w (hR.ch hM.ch) (fun u hu => (hU u hu).ch hM.ch) (hW.ch hM.ch) hS (by omega) (by omega)) (fun v w hM => ?_)
    repeat (first | refine gw ?_ | (refine ks ?_; intro w hM))
    exact out1 rfl ⟨hM.ch, hM.row (v := v) (by (repeat constructor))⟩
end Go.Proofs.YtoimhmphhffelaaGreatDoor
set_option linter.unusedVariables false
set_option linter.unusedSimpArgs false
namespace Go.Proofs.YtoimhmphhffelaaGreatDoor
open Go Go.RowKit Go.Proofs.E
attribute [local irreducible] Go.wpList Go.Code.wp Go.Proofs.E.exec Go.Proofs.E.wpLexG
def leafOf (bs : List UInt8) : List UInt8 := shaOf (0 :: bs)
theorem leafOf_len (bs : List UInt8) : (leafOf bs).length = 32 := shaOf_len _
theorem rleafB_any (v : Value) (bs : List UInt8) (w0 : World) (hR : tU8.Rd [] w0 v bs) (hb : bs.length ≤ 1000000000) : Calls Tryz.prog 102 #[v] w0 (Ret fun u w' => u = hv (leafOf bs) ∧ Ch [] w0 w') := by
  have hM := Mem.start w0
  obtain ⟨uv, rfl⟩ := hR.slv
  refine enter [slv uv, undef, undef, undef, undef, undef] Tryz.func102 rfl rfl ?_
  repeat (first | refine gw ?_ | (refine ks ?_; intro w hM))
  refine kal hM (fun w b2 hM => ?_)
  repeat (first | refine gw ?_ | (refine ks ?_; intro w hM))
  refine kbs (en := eSl) (vs := [slv uv]) [uv] hM (fun w b4 hM => ?_)
  have hRb : (Ty.sl tU8).Rd [] w _ ([(uv, bs)].map (fun p : SlV × List UInt8 => p.2)) := Ty.Rd.unraw (hM.rowRd (en := eSl) (xs := [uv]) (by (repeat constructor)) (by simp)) (fun p hp => by simp at hp; subst hp; exact hR.ch hM.ch)
  refine kca hM (rof_any 0 _ _ w hRb (by simp; omega)) (X := hv (leafOf [bs].flatten)) (fun w hM => ?_)
  refine kstw (vs := (leafOf [bs].flatten).map u8v) hM (fun w hM => ?_) (hln := by rw [List.length_map, leafOf_len])
  rw [show [bs].flatten = bs by simp] at hM
  repeat (first | refine gw ?_ | (refine ks ?_; intro w hM))
  exact koc hM rfl ⟨rfl, hM.ch⟩ (hn := by rw [List.length_map, leafOf_len])
theorem leafB_any (v : Value) (bs : List UInt8) (w0 : World) (hK : Laid w0) (hR : tU8.Rd [] w0 v bs) (hb : bs.length ≤ 1000000000) : Calls Tryz.prog 148 #[v] w0 (Ret fun u w' => u = hv (leafOf bs) ∧ Ch [] w0 w') := by
  have hM := Mem.start w0
  obtain ⟨uv, rfl⟩ := hR.slv
  refine enter [slv uv, undef, undef, undef, undef, undef] Tryz.func148 rfl rfl ?_
  repeat (first | refine gw ?_ | (refine ks ?_; intro w hM))
  refine kal hM (fun w b2 hM => ?_)
  repeat (first | refine gw ?_ | (refine ks ?_; intro w hM))
  refine kbs (en := eSl) (vs := [slv uv]) [uv] hM (fun w b4 hM => ?_)
  have hRb : (Ty.sl tU8).Rd [] w _ ([(uv, bs)].map (fun p : SlV × List UInt8 => p.2)) := Ty.Rd.unraw (hM.rowRd (en := eSl) (xs := [uv]) (by (repeat constructor)) (by simp)) (fun p hp => by simp at hp; subst hp; exact hR.ch hM.ch)
  refine kca hM (of_any 0 _ _ w (hK.ch hM.ch (by simp)) hRb (by simp; omega)) (X := hv (leafOf [bs].flatten)) (fun w hM => ?_)
  refine kstw (vs := (leafOf [bs].flatten).map u8v) hM (fun w hM => ?_) (hln := by rw [List.length_map, leafOf_len])
  rw [show [bs].flatten = bs by simp] at hM
  repeat (first | refine gw ?_ | (refine ks ?_; intro w hM))
  exact koc hM rfl ⟨rfl, hM.ch⟩ (hn := by rw [List.length_map, leafOf_len])
theorem bytesB_len {ses snap : Int} {strict : Bool} {us : List (RR × List Pr)} {wz : List Pr} : (bytesB ses snap strict us wz).length ≤ 19000000 := by
  unfold bytesB
  split
  · rename_i h
    obtain ⟨⟨h1, h2, h3, h4, _⟩, _⟩ := right_parts h
    exact recB_len (by omega) (by omega) (right_small h)
  · exact Nat.zero_le _
set_option maxHeartbeats 8000000 in
theorem recLeaf_any (ses snap : Int) (strict : Bool) (vr vw : Value) (us : List (RR × List Pr)) (wz : List Pr) (w0 : World) (hK : Laid w0) (hA : RecM w0 vr vw us wz) (hk : ShortR us) (hb : ShortL wz) :
    Calls Tryz.prog 104 #[.agg (rC ses snap strict vr vw).toArray] w0 (Ret fun u w' => u = hv (leafOf (bytesB ses snap strict us wz)) ∧ Ch [] w0 w') := by
  have hM := Mem.start w0
  obtain ⟨A, c, rfl⟩ := hA.r.form
  obtain ⟨A2, c2, rfl⟩ := hA.w.form
  obtain ⟨hR, hU, hW⟩ := hA
  have hlen := bytesB_len (ses := ses) (snap := snap) (strict := strict) (us := us) (wz := wz)
  simp only [List.length_map] at hR ⊢
  refine enter [.agg (rC ses snap strict (.slice A us.length c) (.slice A2 wz.length c2)).toArray, undef, undef, undef, undef, undef] Tryz.func104 rfl rfl ?_
  repeat (first | refine gw ?_ | (refine ks ?_; intro w hM))
  refine kbx hM (fun w b1 hM => ?_)
  have hM : Mem [] w0 w [.cell b1 (rC ses snap strict (.slice A us.length c) (.slice A2 wz.length c2)) 25] := hM
  refine kal hM (fun w b2 hM => ?_)
  repeat (first | refine gw ?_ | (refine ks ?_; intro w hM))
  refine kcr hM (recBytes_any ses snap strict _ _ us wz w (hR.ch hM.ch) (fun u hu => (hU u hu).ch hM.ch) (hW.ch hM.ch) hk hb) (fun v w hM => ?_)
  generalize bytesB ses snap strict us wz = bs at hM hlen ⊢
  refine kca hM (leafB_any _ _ _ (hK.ch hM.ch (by simp)) (hM.rowRdO (en := eU8) (v := v) (xs := bs) (by (repeat constructor))) (by omega)) (fun w hM => ?_)
  refine kstw (vs := (leafOf bs).map u8v) hM (fun w hM => ?_) (hln := by rw [List.length_map, leafOf_len])
  repeat (first | refine gw ?_ | (refine ks ?_; intro w hM))
  exact koc hM rfl ⟨rfl, hM.ch⟩ (hn := by rw [List.length_map, leafOf_len])
set_option maxHeartbeats 8000000 in
theorem rrecLeaf_any (ses snap : Int) (strict : Bool) (vr vw : Value) (us : List (RR × List Pr)) (wz : List Pr) (w0 : World) (hK : True) (hA : RecM w0 vr vw us wz) (hk : ShortR us) (hb : ShortL wz) :
    Calls Tryz.prog 37 #[.agg (rC ses snap strict vr vw).toArray] w0 (Ret fun u w' => u = hv (leafOf (bytesB ses snap strict us wz)) ∧ Ch [] w0 w') := by
  have hM := Mem.start w0
  obtain ⟨A, c, rfl⟩ := hA.r.form
  obtain ⟨A2, c2, rfl⟩ := hA.w.form
  obtain ⟨hR, hU, hW⟩ := hA
  have hlen := bytesB_len (ses := ses) (snap := snap) (strict := strict) (us := us) (wz := wz)
  simp only [List.length_map] at hR ⊢
  refine enter [.agg (rC ses snap strict (.slice A us.length c) (.slice A2 wz.length c2)).toArray, undef, undef, undef, undef, undef] Tryz.func37 rfl rfl ?_
  repeat (first | refine gw ?_ | (refine ks ?_; intro w hM))
  refine kbx hM (fun w b1 hM => ?_)
  have hM : Mem [] w0 w [.cell b1 (rC ses snap strict (.slice A us.length c) (.slice A2 wz.length c2)) 25] := hM
  refine kal hM (fun w b2 hM => ?_)
  repeat (first | refine gw ?_ | (refine ks ?_; intro w hM))
  refine kcr hM (rrecBytes_any ses snap strict _ _ us wz w (hR.ch hM.ch) (fun u hu => (hU u hu).ch hM.ch) (hW.ch hM.ch) hk hb) (fun v w hM => ?_)
  generalize bytesB ses snap strict us wz = bs at hM hlen ⊢
  refine kca hM (rleafB_any _ _ _ (hM.rowRdO (en := eU8) (v := v) (xs := bs) (by (repeat constructor))) (by omega)) (fun w hM => ?_)
  refine kstw (vs := (leafOf bs).map u8v) hM (fun w hM => ?_) (hln := by rw [List.length_map, leafOf_len])
  repeat (first | refine gw ?_ | (refine ks ?_; intro w hM))
  exact koc hM rfl ⟨rfl, hM.ch⟩ (hn := by rw [List.length_map, leafOf_len])
end Go.Proofs.YtoimhmphhffelaaGreatDoor

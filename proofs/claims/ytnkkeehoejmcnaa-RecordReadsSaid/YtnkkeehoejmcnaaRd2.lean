/- Walks: record.Read's own closures; record.Read. -/
import Derived.Test.YtnkkeehoejmcnaaRd1
import Derived.Test.YtnkkeehoejmcnaaReadZ
set_option linter.unusedVariables false
set_option linter.unusedSimpArgs false
namespace Go.Proofs.E
open Go Go.RowKit
/-- What a call handed back that was given a block: the block as it stands now, and all that is new. -/
theorem Mem.joinO {O : List Nat} {w0 w w' : World} {L M : List As} {b : Nat} {cs cs' : List Value} {E : TypeId} (h : Mem O w0 w (.cell b cs E :: L)) (k : Mem [b] w w' (.cell b cs' E :: M)) (hp : ∀ a ∈ M, a.plain) : Mem O w0 w' (.cell b cs' E :: (M ++ L)) := by
  have h1 : Mem O w0 w' (.cell b cs' E :: L) := h.put (S := [b]) k.ch (fun j hj => show j = b by simpa using hj) k.head (fun j hj => .inl hj)
  have hn : ∀ a ∈ M, ∀ j, a.own j → w.heap.size ≤ j ∧ j ≠ b := fun a ha j hj => by
    have hb : j ≠ b := fun e => (List.pairwise_cons.1 k.dis).1 a ha b rfl (e ▸ hj)
    exact ⟨(k.new a (by simp [ha]) j hj).resolve_right (by simpa using hb), hb⟩
  have hd := List.pairwise_cons.1 h1.dis
  have hk := List.pairwise_cons.1 k.dis
  refine ⟨h1.ch, fun a ha => ?_, fun a ha j hj => ?_, List.pairwise_cons.2 ⟨fun a ha j hj hja => ?_, List.pairwise_append.2 ⟨hk.2, hd.2, fun a ha c hc j hj hj' => ?_⟩⟩⟩
  · rcases List.mem_cons.1 ha with rfl | ha
    · exact h1.head
    rcases List.mem_append.1 ha with ha | ha
    · exact a.free (hp a ha) (k.all a (by simp [ha]))
    · exact h1.all a (by simp [ha])
  · rcases List.mem_cons.1 ha with rfl | ha
    · exact h1.new _ (by simp) j hj
    rcases List.mem_append.1 ha with ha | ha
    · exact .inl (Nat.le_trans h.ch.size (hn a ha j hj).1)
    · exact h1.new a (by simp [ha]) j hj
  · rcases List.mem_append.1 ha with ha | ha
    · exact (hn a ha j hja).2 hj
    · exact hd.1 a ha j hj hja
  · have h2 := (hn a ha j hj).1
    have h3 := c.lt (h.all c (by simp [hc])) j hj'
    omega
end Go.Proofs.E
namespace Go.Proofs.Ytnkkeehoejmcnaa
open Go Go.RowKit Go.Proofs.E
attribute [local irreducible] Go.wpList Go.Code.wp Go.Proofs.E.exec Go.Proofs.E.wpLexG
/-- What the loop over reads keeps. -/
def RdInv1 (L : List As) (w0 : World) (bS bP bR : Nat) (ses snap : Nat) (strict : Bool) (a : List Dat) (s : St) (w : World) : Prop :=
  ∃ (vb : Value) (vr : Value) (us : List (RR × List Pr)), us.map dat = a ∧ Mem [] w0 w (.cell bS (sC vb s.2) 53 :: .cell bP [.pointer (some ⟨bS, 0, none⟩)] 51 :: .cell bR (rC (ses : Int) (snap : Int) strict vr (.slice none 0 0)) 25 :: .row eRr 30 vr (us.map (fun u : RR × List Pr => u.1)) :: (us.map prow ++ L)) ∧ tU8.Rd [] w0 vb s.1
theorem perm1b {α : Type 1} {A B C D : α} {T L : List α} {x : α} : (C :: D :: A :: x :: B :: (T ++ L)).Perm (A :: B :: C :: D :: ((T ++ [x]) ++ L)) := by
  classical exact List.perm_iff_count.2 (fun y => by simp only [List.count_cons, List.count_append, List.count_nil]; omega)
theorem perm1 {α : Type 1} {A B C D : α} {T L : List α} {x : α} : (D :: A :: B :: C :: x :: (T ++ L)).Perm (A :: B :: C :: D :: ((T ++ [x]) ++ L)) := by
  classical exact List.perm_iff_count.2 (fun y => by simp only [List.count_cons, List.count_append, List.count_nil]; omega)
set_option maxHeartbeats 4000000 in
theorem rdA_any {L : List As} (bS bP bR : Nat) (ses snap : Nat) (strict : Bool) (a : List Dat) (s : St) (w0 w : World) (hI : RdInv1 L w0 bS bP bR ses snap strict a s w) (hl : a.length < 64) :
    Calls Try.prog 29 #[.pointer (some ⟨bR, 0, none⟩), .pointer (some ⟨bP, 0, none⟩)] w (Ret fun u w' => RdInv1 L w0 bS bP bR ses snap strict (a ++ [(readS s).1]) (readS s).2 w') := by
  obtain ⟨vb, vr, us, rfl, hM, hx⟩ := hI
  rw [List.length_map] at hl
  obtain ⟨A, c, rfl, _⟩ := Own.form (hM.row (v := vr) (xs := us.map (fun u : RR × List Pr => u.1)) (by (repeat constructor)))
  rw [List.length_map] at hM
  have hbS := hM.ge (b := bS) (by (repeat constructor))
  refine enter [.pointer (some ⟨bR, 0, none⟩), .pointer (some ⟨bP, 0, none⟩), undef, undef, undef, undef, undef, undef, undef] Try.func29 rfl rfl ?_
  repeat (first | ((with_reducible apply is_ld); first | refine kld hM ?_ | refine kldw hM ?_ | refine kle hM ?_ | refine klew hM ?_) | ((with_reducible apply is_sto); first | (refine kst hM ?_; intro w hM) | (refine kstw hM ?_; intro w hM)) | ((with_reducible apply is_st); refine su ?_) | ((with_reducible apply is_gd); first | refine gt ?_ | refine gf ?_ | refine gu ?_) | ((with_reducible apply is_en); refine en ?_) | refine ws ?_ | refine x_block_other (by decide) ?_)
  refine c_ordY ([5, 7], []) [bS] (by kernel_rfl) (by kernel_rfl) (by kernel_rfl) (fun w hc hs => ?_)
  have hM := hM.call hc
  have hl1 := Blk.lt (hM.blk (b := bR) (by (repeat constructor)))
  have hl2 := Blk.lt (hM.blk (b := bP) (by (repeat constructor)))
  (first | refine yn 0 rfl ?_ | refine ynt 0 rfl ?_ | refine ynff 0 rfl ?_)
  refine ynl 1 rfl (hM.blk (b := bR) (by (repeat constructor))) (by omega) (hM.nin (b := bS) (c := bR) (by (repeat constructor)) (by (repeat constructor))) rfl rfl ?_
  refine ynl 2 rfl (hM.blk (b := bP) (by (repeat constructor))) (by omega) (hM.nin (b := bS) (c := bP) (by (repeat constructor)) (by (repeat constructor))) rfl rfl ?_
  refine yk1 3 hM (by kernel_rfl) rfl (fun w h0 hM => ?_)
  refine ca (sread_any (L := []) bS vb s w0 w w hM.ch hbS (Mem.take (hM.blk (b := bS) (by (repeat constructor)))) hx) ?_
  rintro _ w3 ⟨vb3, A3, c3, rfl, hK, hx3⟩
  have hbw := hK.ch.bwn (N := _) (S := [bS]) h0 (.inr (by simp))
  have hM := hM.joinO hK (by intro a ha; simp at ha; subst ha; trivial)
  refine x_wy (.inl hbw) rfl ?_
  obtain ⟨rd, hrd⟩ : ∃ rd : RR × List Pr, rd = (((readS s).1.1, (readS s).1.2.1, (readS s).1.2.2.1, (A3, (readS s).1.2.2.2.length, c3)), (readS s).1.2.2.2) := ⟨_, rfl⟩
  have hdat : dat rd = (readS s).1 := by rw [hrd]; rfl
  have hM : Mem [] w0 w3 (.cell bS (sC vb3 (readS s).2.2) 53 :: prow rd :: .cell bP [.pointer (some ⟨bS, 0, none⟩)] 51 :: .cell bR (rC ses snap strict (.slice A us.length c) (.slice none 0 0)) 25 :: .row eRr 30 (.slice A us.length c) (us.map (fun u : RR × List Pr => u.1)) :: (us.map prow ++ L)) := by
    rw [hrd]
    exact hM
  rw [show ((readS s).1.1, (readS s).1.2.1, (readS s).1.2.2.1, (A3, (readS s).1.2.2.2.length, c3)) = rd.1 by rw [hrd]]
  clear hK
  refine yk1 4 hM (by kernel_rfl) rfl (fun w h0 hM => ?_)
  refine kbsC (en := eRr) (vs := [.agg (eRr.f rd.1).toArray]) [rd.1] hM (fun w b hc hM => ?_) (hxs := by simp [Value.cells])
  refine x_wy (.inl (hc.gy h0)) rfl ?_
  refine yk1 5 hM (by kernel_rfl) rfl (fun w h0 hM => ?_)
  have hR1 := hM.rowRdO (en := eRr) (v := .slice (some ⟨b, 0, none⟩) 1 1) (xs := [rd.1]) (by (repeat constructor))
  refine kapC (en := eRr) (v := .slice A us.length c) (xs := us.map (fun u : RR × List Pr => u.1)) (ys := [rd.1]) hM hR1 (fun v7 w hs hM => ?_) (hb := by simp; omega) (h63 := by simp; omega)
  refine x_wy (.inr ⟨by decide, Nat.le_trans h0 hs⟩) rfl ?_
  obtain ⟨A7, c7, rfl, _⟩ := Own.form (hM.row (v := v7) (by (repeat constructor)))
  (first | refine yn 6 rfl ?_ | refine ynt 6 rfl ?_ | refine ynff 6 rfl ?_)
  refine yk1 7 hM (by kernel_rfl) rfl (fun w h0 hM => ?_)
  refine kstC hM (fun w hc hM => ?_)
  refine x_wy (.inr ⟨by decide, Nat.le_trans h0 hc.size⟩) rfl ?_
  refine wy_done (by kernel_rfl) (fun w hc => ?_)
  have hM := hM.call hc
  refine out0 rfl ⟨vb3, .slice A7 (us.map (fun u : RR × List Pr => u.1) ++ [rd.1]).length c7, us ++ [rd], by rw [List.map_append]; simp [hdat], ?_, hx3⟩
  rw [List.map_append, List.map_append]
  refine (hM.pick (a := .row eRr 30 (.slice (some ⟨b, 0, none⟩) 1 1) [rd.1]) (by (repeat constructor))).drop.perm ?_
  exact perm1b
/-- What the loop over writes keeps. -/
def RdInv2 (L : List As) (w0 : World) (bS bP bR : Nat) (ses snap : Nat) (strict : Bool) (vr : Value) (a : List Pr) (s : St) (w : World) : Prop :=
  ∃ (vb : Value) (vw : Value), Mem [] w0 w (.cell bS (sC vb s.2) 53 :: .cell bP [.pointer (some ⟨bS, 0, none⟩)] 51 :: .cell bR (rC (ses : Int) (snap : Int) strict vr vw) 25 :: .row ePr 32 vw a :: L) ∧ tU8.Rd [] w0 vb s.1
set_option maxHeartbeats 4000000 in
theorem rdB_any {L : List As} (bS bP bR : Nat) (ses snap : Nat) (strict : Bool) (vr : Value) (a : List Pr) (s : St) (w0 w : World) (hI : RdInv2 L w0 bS bP bR ses snap strict vr a s w) (hl : a.length < 64) :
    Calls Try.prog 31 #[.pointer (some ⟨bP, 0, none⟩), .pointer (some ⟨bR, 0, none⟩)] w (Ret fun u w' => RdInv2 L w0 bS bP bR ses snap strict vr (a ++ [(writeS s).1]) (writeS s).2 w') := by
  obtain ⟨vb, vw, hM, hx⟩ := hI
  obtain ⟨A, c, rfl, _⟩ := Own.form (hM.row (v := vw) (xs := a) (by (repeat constructor)))
  unfold writeS
  refine enter [.pointer (some ⟨bP, 0, none⟩), .pointer (some ⟨bR, 0, none⟩), undef, undef, undef, undef, undef, undef, undef, undef, undef, undef, undef, undef, undef, undef, undef, undef, undef, undef, undef] Try.func31 rfl rfl ?_
  repeat (first | ((with_reducible apply is_ld); first | refine kld hM ?_ | refine kldw hM ?_ | refine kle hM ?_ | refine klew hM ?_) | ((with_reducible apply is_sto); first | (refine kst hM ?_; intro w hM) | (refine kstw hM ?_; intro w hM)) | ((with_reducible apply is_st); refine su ?_) | ((with_reducible apply is_gd); first | refine gt ?_ | refine gf ?_ | refine gu ?_) | ((with_reducible apply is_en); refine en ?_) | (with_reducible apply c_region) | refine ws ?_ | refine x_block_other (by decide) ?_)
  refine ca (stext_any bS vb s 64 w0 w (hM.blk (b := bS) (by (repeat constructor))) (hx.ch hM.ch) hx (by omega)) ?_
  rintro _ w3 ⟨rfl, vb3, hc, hB3, hx3⟩
  have hM := hM.cellSet hB3 hc
  generalize strT 64 s = kk at hB3 hx3 hM ⊢
  obtain ⟨key, s2⟩ := kk
  simp only at hx3 hM ⊢
  repeat (first | ((with_reducible apply is_ld); first | refine kld hM ?_ | refine kldw hM ?_ | refine kle hM ?_ | refine klew hM ?_) | ((with_reducible apply is_sto); first | (refine kst hM ?_; intro w hM) | (refine kstw hM ?_; intro w hM)) | ((with_reducible apply is_st); refine su ?_) | ((with_reducible apply is_gd); first | refine gt ?_ | refine gf ?_ | refine gu ?_) | ((with_reducible apply is_en); refine en ?_) | (with_reducible apply c_region) | refine ws ?_ | refine x_block_other (by decide) ?_)
  (try ((with_reducible apply is_gd); first | refine gt ?_ | refine gf ?_ | refine gu ?_)); refine wl_val (r_bldS (vs := [(0, .string (bst key))]) (ePr.f (key, [], false)) (z := [.string (bst []), .string (bst []), .bool false]) (place := (#[(0, 1), (1, 1), (2, 1)][·]?)) (by intro ps; kernel_rfl) rfl (.cons rfl rfl (by simp) (.nil rfl))) ?_
  refine kal hM (fun w b2 hM => ?_)
  refine kstw (vs := ePr.f (key, [], false)) hM (fun w hM => ?_) (h1 := ePr.h1 _)
  repeat (first | ((with_reducible apply is_ld); first | refine kld hM ?_ | refine kldw hM ?_ | refine kle hM ?_ | refine klew hM ?_) | ((with_reducible apply is_sto); first | (refine kst hM ?_; intro w hM) | (refine kstw hM ?_; intro w hM)) | ((with_reducible apply is_st); refine su ?_) | ((with_reducible apply is_gd); first | refine gt ?_ | refine gf ?_ | refine gu ?_) | ((with_reducible apply is_en); refine en ?_) | (with_reducible apply c_region) | refine ws ?_ | refine x_block_other (by decide) ?_)
  refine ca (sflag_any bS vb3 s2 w0 w (hM.blk (b := bS) (by (repeat constructor))) (hx3.ch hM.ch) hx3) ?_
  rintro _ w4 ⟨rfl, vb4, hc, hB4, hx4⟩
  have hM := hM.cellSet hB4 hc
  generalize flagT s2 = fl at hB4 hx4 hM ⊢
  obtain ⟨d, s3⟩ := fl
  simp only at hx4 hM ⊢
  unfold valS
  cases d with
  | true =>
    simp only [↓reduceIte, Bool.false_eq_true]
    repeat (first | ((with_reducible apply is_ld); first | refine kld hM ?_ | refine kldw hM ?_ | refine kle hM ?_ | refine klew hM ?_) | ((with_reducible apply is_sto); first | (refine kst hM ?_; intro w hM) | (refine kstw hM ?_; intro w hM)) | ((with_reducible apply is_st); refine su ?_) | ((with_reducible apply is_gd); first | refine gt ?_ | refine gf ?_ | refine gu ?_) | ((with_reducible apply is_en); refine en ?_) | (with_reducible apply c_region) | refine ws ?_ | refine x_block_other (by decide) ?_)
    refine c_condb rfl (fun h => by cases h) (fun _ => ?_)
    repeat (first | ((with_reducible apply is_ld); first | refine kld hM ?_ | refine kldw hM ?_ | refine kle hM ?_ | refine klew hM ?_) | ((with_reducible apply is_sto); first | (refine kst hM ?_; intro w hM) | (refine kstw hM ?_; intro w hM)) | ((with_reducible apply is_st); refine su ?_) | ((with_reducible apply is_gd); first | refine gt ?_ | refine gf ?_ | refine gu ?_) | ((with_reducible apply is_en); refine en ?_) | (with_reducible apply c_region) | refine ws ?_ | refine x_block_other (by decide) ?_)
    skip
    refine kpu (en := ePr) (key, [], true) hM (fun _ v13 w hM => ?_)
    obtain ⟨A13, c13, rfl, _⟩ := Own.form (hM.row (v := v13) (by (repeat constructor)))
    repeat (first | ((with_reducible apply is_ld); first | refine kld hM ?_ | refine kldw hM ?_ | refine kle hM ?_ | refine klew hM ?_) | ((with_reducible apply is_sto); first | (refine kst hM ?_; intro w hM) | (refine kstw hM ?_; intro w hM)) | ((with_reducible apply is_st); refine su ?_) | ((with_reducible apply is_gd); first | refine gt ?_ | refine gf ?_ | refine gu ?_) | ((with_reducible apply is_en); refine en ?_) | (with_reducible apply c_region) | refine ws ?_ | refine x_block_other (by decide) ?_)
    exact out0 rfl ⟨vb4, _, hM.sub (by (repeat (first | exact Go.Proofs.E.Sub.refl _ | exact Go.Proofs.E.Sub.nil | (apply Go.Proofs.E.Sub.cons; (repeat (first | exact Go.Proofs.E.Pick.here | apply Go.Proofs.E.Pick.there))) | apply Go.Proofs.E.Sub.tail))), hx4⟩
  | false =>
    simp only [↓reduceIte, Bool.false_eq_true]
    repeat (first | ((with_reducible apply is_ld); first | refine kld hM ?_ | refine kldw hM ?_ | refine kle hM ?_ | refine klew hM ?_) | ((with_reducible apply is_sto); first | (refine kst hM ?_; intro w hM) | (refine kstw hM ?_; intro w hM)) | ((with_reducible apply is_st); refine su ?_) | ((with_reducible apply is_gd); first | refine gt ?_ | refine gf ?_ | refine gu ?_) | ((with_reducible apply is_en); refine en ?_) | (with_reducible apply c_region) | refine ws ?_ | refine x_block_other (by decide) ?_)
    refine c_condb rfl (fun _ => ?_) (fun h => by cases h)
    repeat (first | ((with_reducible apply is_ld); first | refine kld hM ?_ | refine kldw hM ?_ | refine kle hM ?_ | refine klew hM ?_) | ((with_reducible apply is_sto); first | (refine kst hM ?_; intro w hM) | (refine kstw hM ?_; intro w hM)) | ((with_reducible apply is_st); refine su ?_) | ((with_reducible apply is_gd); first | refine gt ?_ | refine gf ?_ | refine gu ?_) | ((with_reducible apply is_en); refine en ?_) | (with_reducible apply c_region) | refine ws ?_ | refine x_block_other (by decide) ?_)
    refine ca (stext_any bS vb4 s3 256 w0 w (hM.blk (b := bS) (by (repeat constructor))) (hx4.ch hM.ch) hx4 (by omega)) ?_
    rintro _ w5 ⟨rfl, vb5, hc, hB5, hx5⟩
    have hM := hM.cellSet hB5 hc
    generalize strT 256 s3 = tt at hB5 hx5 hM ⊢
    obtain ⟨val, s4⟩ := tt
    simp only at hx5 hM ⊢
    repeat (first | ((with_reducible apply is_ld); first | refine kld hM ?_ | refine kldw hM ?_ | refine kle hM ?_ | refine klew hM ?_) | ((with_reducible apply is_sto); first | (refine kst hM ?_; intro w hM) | (refine kstw hM ?_; intro w hM)) | ((with_reducible apply is_st); refine su ?_) | ((with_reducible apply is_gd); first | refine gt ?_ | refine gf ?_ | refine gu ?_) | ((with_reducible apply is_en); refine en ?_) | (with_reducible apply c_region) | refine ws ?_ | refine x_block_other (by decide) ?_)
    refine kpu (en := ePr) (key, val, false) hM (fun _ v13 w hM => ?_)
    obtain ⟨A13, c13, rfl, _⟩ := Own.form (hM.row (v := v13) (by (repeat constructor)))
    repeat (first | ((with_reducible apply is_ld); first | refine kld hM ?_ | refine kldw hM ?_ | refine kle hM ?_ | refine klew hM ?_) | ((with_reducible apply is_sto); first | (refine kst hM ?_; intro w hM) | (refine kstw hM ?_; intro w hM)) | ((with_reducible apply is_st); refine su ?_) | ((with_reducible apply is_gd); first | refine gt ?_ | refine gf ?_ | refine gu ?_) | ((with_reducible apply is_en); refine en ?_) | (with_reducible apply c_region) | refine ws ?_ | refine x_block_other (by decide) ?_)
    exact out0 rfl ⟨vb5, _, hM.sub (by (repeat (first | exact Go.Proofs.E.Sub.refl _ | exact Go.Proofs.E.Sub.nil | (apply Go.Proofs.E.Sub.cons; (repeat (first | exact Go.Proofs.E.Pick.here | apply Go.Proofs.E.Pick.there))) | apply Go.Proofs.E.Sub.tail))), hx5⟩
end Go.Proofs.Ytnkkeehoejmcnaa

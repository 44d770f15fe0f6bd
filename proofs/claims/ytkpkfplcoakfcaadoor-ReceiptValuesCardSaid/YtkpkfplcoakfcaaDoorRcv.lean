/- A string turned into bytes; law 17: the hash of a key, both; what a key has by a proof, both.
   Law 17: what a key has by a proof, both: the law's own walk. -/
import Derived.Test.YtkpkfplcoakfcaaDoorMChk
import Derived.Test.YtkpkfplcoakfcaaDoorRcp2
import Derived.Lib.ConvBytes
set_option linter.unusedVariables false
set_option linter.unusedSimpArgs false
namespace Go.Proofs.E
open Go Go.RowKit
section
variable {P : Program} {ops : Array Oper} {Q : Exit → Act → World → Prop} {rest : List Oper} {l l' : List Value} {O : List Nat} {w0 w : World} {L L' : List As} {T : TypeId} {pos : String} {after : Array Edge}
theorem bytesWorld_rd (w : World) (e : TypeId) (bs : List UInt8) (hb : bs.length ≤ 281474976710656) : Ch [] w (Lib.bytesWorld w e (bst bs)) ∧ tU8.Rd [] (Lib.bytesWorld w e (bst bs)) (.slice (some ⟨w.heap.size, 0, none⟩) bs.length (grownCap w bs.length 0 e)) bs := by
  refine ⟨⟨rfl, rfl, rfl, by rw [Lib.bytesWorld_size]; omega, fun k hk _ => Lib.bytesWorld_at_old w e _ k hk⟩, ?_⟩
  refine ⟨by omega, _, _, rfl, by simpa using grownCap_ge w bs.length 0 e, fun _ => ⟨w.heap.size, 0, rfl, by rw [Lib.bytesWorld_size]; omega, by simp, fun i x hx => ?_⟩⟩
  refine ⟨by rw [Lib.bytesWorld_size]; omega, by simp, [u8v x], rfl, fun j v hj => ?_⟩
  have hi : i < bs.length := (List.getElem?_eq_some_iff.1 hx).1
  cases j with
  | zero =>
    simp at hj
    subst hj
    have := Lib.bytesWorld_cell w e (bst bs) i (by rw [bst_size]; exact hi)
    rw [show 0 + i * tU8.n + 0 = i by show 0 + i * 1 + 0 = i; omega, this, show (bst bs).data.toList = bs from rfl, List.getD_eq_getElem?_getD, hx]
    rfl
  | succ j => simp at hj
/-- A string turned into bytes. -/
theorem kst8 {d : Nat} {x : Operand} {s t e : TypeId} [hs : Und P s .string] [ht : Und P t (.slice e)] [he : Und P e (.int .u8)] (bs : List UInt8) (hM : Mem O w0 w L)
    (h : ∀ w' b c, Ch [] w w' → tU8.Rd [] w' (.slice (some ⟨b, 0, none⟩) bs.length c) bs → Mem O w0 w' L → wpList P ops Q rest (fr (l.set d (.slice (some ⟨b, 0, none⟩) bs.length c))) w')
    (hx : ev l x = .string (bst bs) := by exact rfl) (hb : bs.length ≤ 281474976710656 := by first | decide | omega) :
    wpList P ops Q ({ dst := some d, op := .convert s t x, type := T, pos := pos, after := after, guard := none } :: rest) (fr l) w := by
  have hr := Lib.run_convert_string_bytes (P := P) w s t e (bst bs) hs.out ht.out he.out
  rw [bst_size] at hr
  obtain ⟨hc, hR⟩ := bytesWorld_rd w e bs hb
  exact wl_val (by simp [exec, execOp, hx, hr]) (h _ _ _ hc hR (hM.call hc))
end
end Go.Proofs.E
namespace Go.Proofs.YtkpkfplcoakfcaaDoor
open Go Go.RowKit Go.Proofs.E
attribute [local irreducible] Go.wpList Go.Code.wp Go.Proofs.E.exec Go.Proofs.E.wpLexG
def keyH (k : List UInt8) : Hs := shaH (2 :: k)
set_option maxHeartbeats 4000000 in
theorem tkey_any (k : List UInt8) (w0 : World) (hK : Laid w0) (hb : k.length ≤ 1000000000) : Calls Tryd.prog 51 #[.string (bst k)] w0 (Ret fun u w' => u = hv (keyH k).1 ∧ Ch [] w0 w') := by
  have hM := Mem.start w0
  refine enter [.string (bst k), undef, undef, undef, undef, undef, undef] Tryd.func51 rfl rfl ?_
  repeat (first | ((with_reducible apply is_ld); first | refine kld hM ?_ | refine kldw hM ?_ | refine kle hM ?_ | refine klew hM ?_) | ((with_reducible apply is_sto); first | (refine kst hM ?_; intro w hM) | (refine kstw hM ?_; intro w hM)) | ((with_reducible apply is_st); refine su ?_) | ((with_reducible apply is_gd); first | refine gt ?_ | refine gf ?_ | refine gu ?_) | ((with_reducible apply is_en); refine en ?_) | (with_reducible apply c_region) | refine ws ?_ | refine x_block_other (by decide) ?_)
  refine kal hM (fun w b2 hM => ?_)
  repeat (first | ((with_reducible apply is_ld); first | refine kld hM ?_ | refine kldw hM ?_ | refine kle hM ?_ | refine klew hM ?_) | ((with_reducible apply is_sto); first | (refine kst hM ?_; intro w hM) | (refine kstw hM ?_; intro w hM)) | ((with_reducible apply is_st); refine su ?_) | ((with_reducible apply is_gd); first | refine gt ?_ | refine gf ?_ | refine gu ?_) | ((with_reducible apply is_en); refine en ?_) | (with_reducible apply c_region) | refine ws ?_ | refine x_block_other (by decide) ?_)
  refine kst8 k hM (fun w b3 c hc hR hM => ?_)
  refine kbsC (en := eSl) (vs := [slv (some ⟨b3, 0, none⟩, k.length, c)]) [(some ⟨b3, 0, none⟩, k.length, c)] hM (fun w b4 hc4 hM => ?_)
  have hRb : (Ty.sl tU8).Rd [] w _ ([((some ⟨b3, 0, none⟩, k.length, c), k)].map (fun p : SlV × List UInt8 => p.2)) := Ty.Rd.unraw (hM.rowRd (en := eSl) (xs := [(some ⟨b3, 0, none⟩, k.length, c)]) (by (repeat constructor)) (by simp)) (fun p hp => by simp at hp; subst hp; exact hR.ch hc4)
  have hof := of_any 2 _ _ w (hK.ch hM.ch (by simp)) hRb (by simp; omega)
  rw [show shaOf (2 :: (List.map (fun p : SlV × List UInt8 => p.2) [((some ⟨b3, 0, none⟩, k.length, c), k)]).flatten) = (keyH k).1 by simp [keyH, shaH]] at hof
  refine kca hM hof (fun w hM => ?_)
  refine kstw (vs := (keyH k).1.map u8v) hM (fun w hM => ?_)
  repeat (first | ((with_reducible apply is_ld); first | refine kld hM ?_ | refine kldw hM ?_ | refine kle hM ?_ | refine klew hM ?_) | ((with_reducible apply is_sto); first | (refine kst hM ?_; intro w hM) | (refine kstw hM ?_; intro w hM)) | ((with_reducible apply is_st); refine su ?_) | ((with_reducible apply is_gd); first | refine gt ?_ | refine gf ?_ | refine gu ?_) | ((with_reducible apply is_en); refine en ?_) | (with_reducible apply c_region) | refine ws ?_ | refine x_block_other (by decide) ?_)
  exact koc hM rfl ⟨rfl, hM.ch⟩
set_option maxHeartbeats 4000000 in
theorem rkey_any (k : List UInt8) (w0 : World) (hK : True) (hb : k.length ≤ 1000000000) : Calls Tryd.prog 53 #[.string (bst k)] w0 (Ret fun u w' => u = hv (keyH k).1 ∧ Ch [] w0 w') := by
  have hM := Mem.start w0
  refine enter [.string (bst k), undef, undef, undef, undef, undef, undef] Tryd.func53 rfl rfl ?_
  repeat (first | ((with_reducible apply is_ld); first | refine kld hM ?_ | refine kldw hM ?_ | refine kle hM ?_ | refine klew hM ?_) | ((with_reducible apply is_sto); first | (refine kst hM ?_; intro w hM) | (refine kstw hM ?_; intro w hM)) | ((with_reducible apply is_st); refine su ?_) | ((with_reducible apply is_gd); first | refine gt ?_ | refine gf ?_ | refine gu ?_) | ((with_reducible apply is_en); refine en ?_) | (with_reducible apply c_region) | refine ws ?_ | refine x_block_other (by decide) ?_)
  refine kal hM (fun w b2 hM => ?_)
  repeat (first | ((with_reducible apply is_ld); first | refine kld hM ?_ | refine kldw hM ?_ | refine kle hM ?_ | refine klew hM ?_) | ((with_reducible apply is_sto); first | (refine kst hM ?_; intro w hM) | (refine kstw hM ?_; intro w hM)) | ((with_reducible apply is_st); refine su ?_) | ((with_reducible apply is_gd); first | refine gt ?_ | refine gf ?_ | refine gu ?_) | ((with_reducible apply is_en); refine en ?_) | (with_reducible apply c_region) | refine ws ?_ | refine x_block_other (by decide) ?_)
  refine kst8 k hM (fun w b3 c hc hR hM => ?_)
  refine kbsC (en := eSl) (vs := [slv (some ⟨b3, 0, none⟩, k.length, c)]) [(some ⟨b3, 0, none⟩, k.length, c)] hM (fun w b4 hc4 hM => ?_)
  have hRb : (Ty.sl tU8).Rd [] w _ ([((some ⟨b3, 0, none⟩, k.length, c), k)].map (fun p : SlV × List UInt8 => p.2)) := Ty.Rd.unraw (hM.rowRd (en := eSl) (xs := [(some ⟨b3, 0, none⟩, k.length, c)]) (by (repeat constructor)) (by simp)) (fun p hp => by simp at hp; subst hp; exact hR.ch hc4)
  have hof := rof_any 2 _ _ w hRb (by simp; omega)
  rw [show shaOf (2 :: (List.map (fun p : SlV × List UInt8 => p.2) [((some ⟨b3, 0, none⟩, k.length, c), k)]).flatten) = (keyH k).1 by simp [keyH, shaH]] at hof
  refine kca hM hof (fun w hM => ?_)
  refine kstw (vs := (keyH k).1.map u8v) hM (fun w hM => ?_)
  repeat (first | ((with_reducible apply is_ld); first | refine kld hM ?_ | refine kldw hM ?_ | refine kle hM ?_ | refine klew hM ?_) | ((with_reducible apply is_sto); first | (refine kst hM ?_; intro w hM) | (refine kstw hM ?_; intro w hM)) | ((with_reducible apply is_st); refine su ?_) | ((with_reducible apply is_gd); first | refine gt ?_ | refine gf ?_ | refine gu ?_) | ((with_reducible apply is_en); refine en ?_) | (with_reducible apply c_region) | refine ws ?_ | refine x_block_other (by decide) ?_)
  exact koc hM rfl ⟨rfl, hM.ch⟩
theorem dC_map (size : Int) (lg mp : Hs) : ((dC size lg mp).drop 33).take 32 = mp.1.map u8v := by
  show ((lg.1.map u8v ++ mp.1.map u8v).drop 32).take 32 = _
  rw [List.drop_left' (h32 lg)]
  exact List.take_of_length_le (by rw [h32]; omega)
theorem pC_len' (sp : Value) (lf : Bool) (pk pv : Hs) : (pC sp lf pk pv).length = 66 := by simp [h32]
set_option maxHeartbeats 8000000 in
theorem tvalue_any (size : Int) (lg mp : Hs) (k : List UInt8) (sp : Value) (lf : Bool) (pk pv : Hs) (st : List (Int × Hs)) (w0 : World) (hK : Laid w0) (hb : k.length ≤ 1000000000) (hR : (Ty.enc eSt).Rd [] w0 sp st) :
    Calls Tryd.prog 24 #[.agg (dC size lg mp).toArray, .string (bst k), .agg (pC sp lf pk pv).toArray] w0 (Ret fun u w' => u = chkT (chkP mp (keyH k) st lf pk pv) ∧ Ch [] w0 w') := by
  have hM := Mem.start w0
  refine enter [.agg (dC size lg mp).toArray, .string (bst k), .agg (pC sp lf pk pv).toArray, undef, undef, undef, undef, undef, undef, undef, undef, undef, undef, undef, undef, undef, undef, undef] Tryd.func24 rfl rfl ?_
  repeat (first | ((with_reducible apply is_ld); first | refine kld hM ?_ | refine kldw hM ?_ | refine kle hM ?_ | refine klew hM ?_) | ((with_reducible apply is_sto); first | (refine kst hM ?_; intro w hM) | (refine kstw hM ?_; intro w hM)) | ((with_reducible apply is_st); refine su ?_) | ((with_reducible apply is_gd); first | refine gt ?_ | refine gf ?_ | refine gu ?_) | ((with_reducible apply is_en); refine en ?_) | (with_reducible apply c_region) | refine ws ?_ | refine x_block_other (by decide) ?_)
  refine kbx hM (fun w b3 hM => ?_)
  refine kbx hM (fun w b5 hM => ?_)
  have hM : Mem [] w0 w [.cell b5 (pC sp lf pk pv) 54, .cell b3 (dC size lg mp) 30] := hM
  have hl3 := Blk.lt (hM.blk (b := b3) (by (repeat constructor)))
  have hl5 := Blk.lt (hM.blk (b := b5) (by (repeat constructor)))
  refine kalN hM (fun w b6 hb6 hc6 hM => ?_)
  have hM : Mem [] w0 w [.cell b6 (zeroH.1.map u8v) 28, .cell b5 (pC sp lf pk pv) 54, .cell b3 (dC size lg mp) 30] := hM
  repeat (first | ((with_reducible apply is_ld); first | refine kld hM ?_ | refine klrec hM ?_ | refine kllog hM ?_ | refine klmap hM ?_ | refine kldlog hM ?_ | refine kldw hM ?_ (hn := tC_len _ _ _ _ _ _ _ _ _ _) | refine kldw hM ?_ (hn := dC_len _ _ _) | refine kldw hM ?_ | refine kle hM ?_ | refine klew hM ?_) | ((with_reducible apply is_sto); first | (refine kst hM ?_; intro w hM) | (refine kstw hM ?_; intro w hM)) | ((with_reducible apply is_st); refine su ?_) | ((with_reducible apply is_gd); first | refine gt ?_ | refine gf ?_ | refine gu ?_) | ((with_reducible apply is_en); refine en ?_) | refine ws ?_ | refine x_block_other (by decide) ?_)
  refine c_ordY ([], []) [b6] (by kernel_rfl) (by kernel_rfl) (by kernel_rfl) (fun w hc hs => ?_)
  have hM := hM.call hc
  have hl3' := Blk.lt (hM.blk (b := b3) (by (repeat constructor)))
  have hl5' := Blk.lt (hM.blk (b := b5) (by (repeat constructor)))
  (first | refine yn 0 rfl ?_ | refine ynt 0 rfl ?_ | refine ynff 0 rfl ?_)
  refine ynlr 1 rfl (hM.blk (b := b3) (by (repeat constructor))) (by omega) (by simp; omega) rfl (ds := mp.1.map u8v) (dC_map _ _ _) (h32 mp) ?_
  (first | refine yn 2 rfl ?_ | refine ynt 2 rfl ?_ | refine ynff 2 rfl ?_)
  refine ynlr 4 rfl (hM.blk (b := b5) (by (repeat constructor))) (by omega) (by simp; omega) rfl (ds := pC sp lf pk pv) (by rw [List.drop_zero]; exact List.take_of_length_le (by rw [pC_len']; omega)) (pC_len' _ _ _ _) ?_
  refine yk1 3 hM (by kernel_rfl) rfl (fun w h0 hM => ?_)
  refine ca (tkey_any k _ (hK.ch hM.ch (by simp)) hb) ?_
  rintro _ w2 ⟨rfl, hc⟩
  have hM := hM.call hc
  refine x_wy (.inl (hc.gy h0)) rfl ?_
  refine yk1 5 hM (by kernel_rfl) rfl (fun w h0 hM => ?_)
  refine ca (mcheck_any mp (keyH k) sp lf pk pv st _ (hK.ch hM.ch (by simp)) (hR.ch hM.ch)) ?_
  generalize chkP mp (keyH k) st lf pk pv = z
  rintro _ w2 ⟨rfl, hc⟩
  have hM := hM.call hc
  unfold chkT
  refine x_wy (.inl (hc.gy h0)) rfl ?_
  (first | refine yn 6 rfl ?_ | refine ynt 6 rfl ?_ | refine ynff 6 rfl ?_); (first | refine yn 7 rfl ?_ | refine ynt 7 rfl ?_ | refine ynff 7 rfl ?_); (first | refine yn 8 rfl ?_ | refine ynt 8 rfl ?_ | refine ynff 8 rfl ?_)
  refine yst (n := 32) (vs := z.1.1.map u8v) 9 (by kernel_rfl) rfl (hM.blk (b := b6) (by (repeat constructor))) (.inr (by simp)) rfl rfl (h32 _) (by simp) one_u8 (fun w hB hc => ?_)
  have hM := hM.cellSet hB hc
  (first | refine yn 10 rfl ?_ | refine ynt 10 rfl ?_ | refine ynff 10 rfl ?_); (first | refine yn 11 rfl ?_ | refine ynt 11 rfl ?_ | refine ynff 11 rfl ?_)
  refine wy_done (by kernel_rfl) (fun w hc => ?_)
  have hM := hM.call hc
  repeat (first | ((with_reducible apply is_ld); first | refine kld hM ?_ | refine kldw hM ?_ | refine kle hM ?_ | refine klew hM ?_) | ((with_reducible apply is_sto); first | (refine kst hM ?_; intro w hM) | (refine kstw hM ?_; intro w hM)) | ((with_reducible apply is_st); refine su ?_) | ((with_reducible apply is_gd); first | refine gt ?_ | refine gf ?_ | refine gu ?_) | ((with_reducible apply is_en); refine en ?_) | (with_reducible apply c_region) | refine ws ?_ | refine x_block_other (by decide) ?_)
  exact koc12 hM rfl ⟨rfl, hM.ch⟩
set_option maxHeartbeats 8000000 in
theorem rvalue_any (size : Int) (lg mp : Hs) (k : List UInt8) (sp : Value) (lf : Bool) (pk pv : Hs) (st : List (Int × Hs)) (w0 : World) (hK : True) (hb : k.length ≤ 1000000000) (hR : (Ty.enc eSt).Rd [] w0 sp st) :
    Calls Tryd.prog 25 #[.agg (dC size lg mp).toArray, .string (bst k), .agg (pC sp lf pk pv).toArray] w0 (Ret fun u w' => u = chkT (chkP mp (keyH k) st lf pk pv) ∧ Ch [] w0 w') := by
  have hM := Mem.start w0
  refine enter [.agg (dC size lg mp).toArray, .string (bst k), .agg (pC sp lf pk pv).toArray, undef, undef, undef, undef, undef, undef, undef, undef, undef, undef, undef, undef, undef, undef, undef] Tryd.func25 rfl rfl ?_
  repeat (first | ((with_reducible apply is_ld); first | refine kld hM ?_ | refine kldw hM ?_ | refine kle hM ?_ | refine klew hM ?_) | ((with_reducible apply is_sto); first | (refine kst hM ?_; intro w hM) | (refine kstw hM ?_; intro w hM)) | ((with_reducible apply is_st); refine su ?_) | ((with_reducible apply is_gd); first | refine gt ?_ | refine gf ?_ | refine gu ?_) | ((with_reducible apply is_en); refine en ?_) | (with_reducible apply c_region) | refine ws ?_ | refine x_block_other (by decide) ?_)
  refine kbx hM (fun w b3 hM => ?_)
  refine kbx hM (fun w b5 hM => ?_)
  have hM : Mem [] w0 w [.cell b5 (pC sp lf pk pv) 60, .cell b3 (dC size lg mp) 30] := hM
  have hl3 := Blk.lt (hM.blk (b := b3) (by (repeat constructor)))
  have hl5 := Blk.lt (hM.blk (b := b5) (by (repeat constructor)))
  refine kalN hM (fun w b6 hb6 hc6 hM => ?_)
  have hM : Mem [] w0 w [.cell b6 (zeroH.1.map u8v) 28, .cell b5 (pC sp lf pk pv) 60, .cell b3 (dC size lg mp) 30] := hM
  repeat (first | ((with_reducible apply is_ld); first | refine kld hM ?_ | refine klrec hM ?_ | refine kllog hM ?_ | refine klmap hM ?_ | refine kldlog hM ?_ | refine kldw hM ?_ (hn := tC_len _ _ _ _ _ _ _ _ _ _) | refine kldw hM ?_ (hn := dC_len _ _ _) | refine kldw hM ?_ | refine kle hM ?_ | refine klew hM ?_) | ((with_reducible apply is_sto); first | (refine kst hM ?_; intro w hM) | (refine kstw hM ?_; intro w hM)) | ((with_reducible apply is_st); refine su ?_) | ((with_reducible apply is_gd); first | refine gt ?_ | refine gf ?_ | refine gu ?_) | ((with_reducible apply is_en); refine en ?_) | refine ws ?_ | refine x_block_other (by decide) ?_)
  refine c_ordY ([], []) [b6] (by kernel_rfl) (by kernel_rfl) (by kernel_rfl) (fun w hc hs => ?_)
  have hM := hM.call hc
  have hl3' := Blk.lt (hM.blk (b := b3) (by (repeat constructor)))
  have hl5' := Blk.lt (hM.blk (b := b5) (by (repeat constructor)))
  (first | refine yn 0 rfl ?_ | refine ynt 0 rfl ?_ | refine ynff 0 rfl ?_)
  refine ynlr 1 rfl (hM.blk (b := b3) (by (repeat constructor))) (by omega) (by simp; omega) rfl (ds := mp.1.map u8v) (dC_map _ _ _) (h32 mp) ?_
  (first | refine yn 2 rfl ?_ | refine ynt 2 rfl ?_ | refine ynff 2 rfl ?_)
  refine ynlr 4 rfl (hM.blk (b := b5) (by (repeat constructor))) (by omega) (by simp; omega) rfl (ds := pC sp lf pk pv) (by rw [List.drop_zero]; exact List.take_of_length_le (by rw [pC_len']; omega)) (pC_len' _ _ _ _) ?_
  refine yk1 3 hM (by kernel_rfl) rfl (fun w h0 hM => ?_)
  refine ca (rkey_any k _ trivial hb) ?_
  rintro _ w2 ⟨rfl, hc⟩
  have hM := hM.call hc
  refine x_wy (.inl (hc.gy h0)) rfl ?_
  refine yk1 5 hM (by kernel_rfl) rfl (fun w h0 hM => ?_)
  refine ca (rcheck12_any mp (keyH k) sp lf pk pv st _ trivial (hR.ch hM.ch)) ?_
  generalize chkP mp (keyH k) st lf pk pv = z
  rintro _ w2 ⟨rfl, hc⟩
  have hM := hM.call hc
  unfold chkT
  refine x_wy (.inl (hc.gy h0)) rfl ?_
  (first | refine yn 6 rfl ?_ | refine ynt 6 rfl ?_ | refine ynff 6 rfl ?_); (first | refine yn 7 rfl ?_ | refine ynt 7 rfl ?_ | refine ynff 7 rfl ?_); (first | refine yn 8 rfl ?_ | refine ynt 8 rfl ?_ | refine ynff 8 rfl ?_)
  refine yst (n := 32) (vs := z.1.1.map u8v) 9 (by kernel_rfl) rfl (hM.blk (b := b6) (by (repeat constructor))) (.inr (by simp)) rfl rfl (h32 _) (by simp) one_u8 (fun w hB hc => ?_)
  have hM := hM.cellSet hB hc
  (first | refine yn 10 rfl ?_ | refine ynt 10 rfl ?_ | refine ynff 10 rfl ?_); (first | refine yn 11 rfl ?_ | refine ynt 11 rfl ?_ | refine ynff 11 rfl ?_)
  refine wy_done (by kernel_rfl) (fun w hc => ?_)
  have hM := hM.call hc
  repeat (first | ((with_reducible apply is_ld); first | refine kld hM ?_ | refine kldw hM ?_ | refine kle hM ?_ | refine klew hM ?_) | ((with_reducible apply is_sto); first | (refine kst hM ?_; intro w hM) | (refine kstw hM ?_; intro w hM)) | ((with_reducible apply is_st); refine su ?_) | ((with_reducible apply is_gd); first | refine gt ?_ | refine gf ?_ | refine gu ?_) | ((with_reducible apply is_en); refine en ?_) | (with_reducible apply c_region) | refine ws ?_ | refine x_block_other (by decide) ?_)
  exact koc12 hM rfl ⟨rfl, hM.ch⟩
end Go.Proofs.YtkpkfplcoakfcaaDoor
set_option linter.unusedVariables false
set_option linter.unusedSimpArgs false
namespace Go.Proofs.YtkpkfplcoakfcaaDoor
open Go Go.RowKit Go.Proofs.E
attribute [local irreducible] Go.wpList Go.Code.wp Go.Proofs.E.exec Go.Proofs.E.wpLexG
set_option maxHeartbeats 8000000 in
theorem plain17_any (sp : Value) (lf : Bool) (k v : Hs) (st : List (Int × Hs)) (w0 : World) (hR : (Ty.enc eSt).Rd [] w0 sp st) (hl : st.length ≤ 1000) :
    Calls Tryd.prog 26 #[.agg (pC sp lf k v).toArray] w0 (Ret fun u w' => ∃ v', u = .agg (pC v' lf k v).toArray ∧ Mem [] w0 w' [.row eSt 92 v' st]) := by
  have hM := Mem.start w0
  obtain ⟨A, c, rfl⟩ := hR.form
  refine enter [.agg (pC (.slice A st.length c) lf k v).toArray, undef, undef, undef, undef, undef, undef, undef, undef, undef, undef, undef, undef, undef, undef, undef, undef, undef, undef, undef, undef, undef, undef, undef, undef, undef, undef, undef] Tryd.func26 rfl rfl ?_
  repeat (first | ((with_reducible apply is_ld); first | refine kld hM ?_ | refine kldw hM ?_ | refine kle hM ?_ | refine klew hM ?_) | ((with_reducible apply is_sto); first | (refine kst hM ?_; intro w hM) | (refine kstw hM ?_; intro w hM)) | ((with_reducible apply is_st); refine su ?_) | ((with_reducible apply is_gd); first | refine gt ?_ | refine gf ?_ | refine gu ?_) | ((with_reducible apply is_en); refine en ?_) | (with_reducible apply c_region) | refine ws ?_ | refine x_block_other (by decide) ?_)
  refine kbx hM (fun w b1 hM => ?_)
  refine kal hM (fun w b2 hM => ?_)
  have hM : Mem [] w0 w [.cell b2 (pC (.slice none 0 0) false zeroH zeroH) 60, .cell b1 (pC (.slice A st.length c) lf k v) 54] := hM
  repeat (first | ((with_reducible apply is_ld); first | refine kld hM ?_ | refine kldw hM ?_ | refine kle hM ?_ | refine klew hM ?_ | refine kldh hM ?_ | refine kld hM ?_ (hv := by first | exact hs_get _ _ _ | exact hs_get1 _ _ _ _)) | ((with_reducible apply is_sto); first | (refine kst hM ?_; intro w hM) | (refine kstw hM ?_; intro w hM)) | ((with_reducible apply is_st); refine su ?_) | ((with_reducible apply is_gd); first | refine gt ?_ | refine gf ?_ | refine gu ?_) | ((with_reducible apply is_en); refine en ?_) | (with_reducible apply c_region) | refine ws ?_ | refine x_block_other (by decide) ?_)
  (try ((with_reducible apply is_gd); first | refine gt ?_ | refine gf ?_ | refine gu ?_)); refine wl_val (r_bldS (vs := [(1, .bool lf), (2, hv k.1), (3, hv v.1)]) (pC (.slice none 0 0) lf k v) (z := .slice none 0 0 :: .bool false :: List.replicate 64 (.int .u8 0)) (place := (#[(0, 1), (1, 1), (2, 32), (34, 32)][·]?)) (by intro ps; kernel_rfl) rfl (.cons rfl rfl (by simp) (.cons rfl (by simp [hv, Value.cells]) (by simp [spl, Value.cells]) (.cons rfl (by simp [hv, Value.cells]) (by simp [spl, hv, Value.cells]) (.nil (by simp [spl, hv, Value.cells])))))) ?_
  refine kal hM (fun w b3 hM => ?_)
  refine kstw (vs := pC (.slice none 0 0) lf k v) hM (fun w hM => ?_) (h1 := by
    intro u hu
    simp only [List.mem_cons, List.mem_append] at hu
    rcases hu with rfl | rfl | hu | hu
    · rfl
    · rfl
    · exact one_u8 u hu
    · exact one_u8 u hu)
  have hM := hM.nilRow eSt 92
  repeat (first | ((with_reducible apply is_ld); first | refine kld hM ?_ | refine kldw hM ?_ | refine kle hM ?_ | refine klew hM ?_ | refine kldh hM ?_ | refine kld hM ?_ (hv := by first | exact hs_get _ _ _ | exact hs_get1 _ _ _ _)) | ((with_reducible apply is_sto); first | (refine kst hM ?_; intro w hM) | (refine kstw hM ?_; intro w hM)) | ((with_reducible apply is_st); refine su ?_) | ((with_reducible apply is_gd); first | refine gt ?_ | refine gf ?_ | refine gu ?_) | ((with_reducible apply is_en); refine en ?_) | (with_reducible apply c_region) | refine ws ?_ | refine x_block_other (by decide) ?_)
  
  refine c_loop (fun n l w => ∃ (j : Nat) (v' : Value), (∃ jj : Nat → Value, l = [jj 0, .pointer (some ⟨b1, 0, none⟩), .pointer (some ⟨b2, 0, none⟩), .pointer (some ⟨b3, 0, none⟩), jj 4, jj 5, jj 6, jj 7, jj 8, jj 9, jj 10, jj 11, jj 12, jj 13, .slice A st.length c, .int .i64 (st.length : Int), .int .i64 (j : Int), jj 17, jj 18, jj 19, jj 20, jj 21, jj 22, jj 23, jj 24, jj 25, jj 26, jj 27]) ∧ n + j = st.length ∧ Mem [] w0 w [.row eSt 92 v' (st.take j), .cell b3 (pC v' lf k v) 60, .cell b2 (pC (.slice none 0 0) false zeroH zeroH) 60]) st.length ⟨0, _, exj rfl, rfl, hM.sub (by (repeat constructor))⟩ ?_
  clear hM
  rintro n l w ⟨j, v', ⟨jj, rfl⟩, hnj, hM⟩
  repeat (first | ((with_reducible apply is_ld); first | refine kld hM ?_ | refine kldw hM ?_ | refine kle hM ?_ | refine klew hM ?_ | refine kldh hM ?_ | refine kld hM ?_ (hv := by first | exact hs_get _ _ _ | exact hs_get1 _ _ _ _)) | ((with_reducible apply is_sto); first | (refine kst hM ?_; intro w hM) | (refine kstw hM ?_; intro w hM)) | ((with_reducible apply is_st); refine su ?_) | ((with_reducible apply is_gd); first | refine gt ?_ | refine gf ?_ | refine gu ?_) | ((with_reducible apply is_en); refine en ?_) | (with_reducible apply c_region) | refine ws ?_ | refine x_block_other (by decide) ?_)
  refine c_cond rfl (fun hj => ?_) (fun hj => ?_)
  · repeat (first | ((with_reducible apply is_ld); first | refine kld hM ?_ | refine kldw hM ?_ | refine kle hM ?_ | refine klew hM ?_ | refine kldh hM ?_ | refine kld hM ?_ (hv := by first | exact hs_get _ _ _ | exact hs_get1 _ _ _ _)) | ((with_reducible apply is_sto); first | (refine kst hM ?_; intro w hM) | (refine kstw hM ?_; intro w hM)) | ((with_reducible apply is_st); refine su ?_) | ((with_reducible apply is_gd); first | refine gt ?_ | refine gf ?_ | refine gu ?_) | ((with_reducible apply is_en); refine en ?_) | (with_reducible apply c_region) | refine ws ?_ | refine x_block_other (by decide) ?_)
    refine kix hR (fun b o x hx hA => ?_)
    rw [Int.toNat_natCast] at hx
    refine katr hM hA ?_
    refine kal hM (fun w b5 hM => ?_)
    refine kstw (vs := eSt.f x) hM (fun w hM => ?_) (h1 := eSt.h1 x)
    obtain ⟨A8, c8, hv8, _⟩ := (hM.row0 (v := v') (by (repeat constructor))).form
    subst hv8
    repeat (first | ((with_reducible apply is_ld); first | refine kld hM ?_ | refine kldw hM ?_ | refine kle hM ?_ | refine klew hM ?_ | refine kldh hM ?_ | refine kld hM ?_ (hv := by first | exact hs_get _ _ _ | exact hs_get1 _ _ _ _)) | ((with_reducible apply is_sto); first | (refine kst hM ?_; intro w hM) | (refine kstw hM ?_; intro w hM)) | ((with_reducible apply is_st); refine su ?_) | ((with_reducible apply is_gd); first | refine gt ?_ | refine gf ?_ | refine gu ?_) | ((with_reducible apply is_en); refine en ?_) | (with_reducible apply c_region) | refine ws ?_ | refine x_block_other (by decide) ?_)
    refine kpu x hM (fun _ v'' w hM => ?_) (hb := by simp; omega) (h63 := by simp; omega)
    obtain ⟨A9, c9, hv9, _⟩ := (hM.row0 (v := v'') (by (repeat constructor))).form
    subst hv9
    repeat (first | ((with_reducible apply is_ld); first | refine kld hM ?_ | refine kldw hM ?_ | refine kle hM ?_ | refine klew hM ?_ | refine kldh hM ?_ | refine kld hM ?_ (hv := by first | exact hs_get _ _ _ | exact hs_get1 _ _ _ _)) | ((with_reducible apply is_sto); first | (refine kst hM ?_; intro w hM) | (refine kstw hM ?_; intro w hM)) | ((with_reducible apply is_st); refine su ?_) | ((with_reducible apply is_gd); first | refine gt ?_ | refine gf ?_ | refine gu ?_) | ((with_reducible apply is_en); refine en ?_) | (with_reducible apply c_region) | refine ws ?_ | refine x_block_other (by decide) ?_)
    refine x_goes (n - 1) rfl (by omega) ⟨j + 1, .slice A9 (st.take j ++ [x]).length c9, exj rfl, by omega, ?_⟩
    rw [show st.take (j + 1) = st.take j ++ [x] by rw [List.take_add_one, hx]; rfl]
    exact hM.sub (by (repeat constructor))
  · rw [List.take_of_length_le (by omega)] at hM
    obtain ⟨A8, c8, hv8, _⟩ := (hM.row0 (v := v') (by (repeat constructor))).form
    subst hv8
    repeat (first | ((with_reducible apply is_ld); first | refine kld hM ?_ | refine kldw hM ?_ | refine kle hM ?_ | refine klew hM ?_ | refine kldh hM ?_ | refine kld hM ?_ (hv := by first | exact hs_get _ _ _ | exact hs_get1 _ _ _ _)) | ((with_reducible apply is_sto); first | (refine kst hM ?_; intro w hM) | (refine kstw hM ?_; intro w hM)) | ((with_reducible apply is_st); refine su ?_) | ((with_reducible apply is_gd); first | refine gt ?_ | refine gf ?_ | refine gu ?_) | ((with_reducible apply is_en); refine en ?_) | (with_reducible apply c_region) | refine ws ?_ | refine x_block_other (by decide) ?_)
    refine kstw (vs := pC (.slice A8 st.length c8) lf k v) hM (fun w hM => ?_) (h1 := by
      intro u hu
      simp only [List.mem_cons, List.mem_append] at hu
      rcases hu with rfl | rfl | hu | hu
      · rfl
      · rfl
      · exact one_u8 u hu
      · exact one_u8 u hu)
    repeat (first | ((with_reducible apply is_ld); first | refine kld hM ?_ | refine kldw hM ?_ | refine kle hM ?_ | refine klew hM ?_ | refine kldh hM ?_ | refine kld hM ?_ (hv := by first | exact hs_get _ _ _ | exact hs_get1 _ _ _ _)) | ((with_reducible apply is_sto); first | (refine kst hM ?_; intro w hM) | (refine kstw hM ?_; intro w hM)) | ((with_reducible apply is_st); refine su ?_) | ((with_reducible apply is_gd); first | refine gt ?_ | refine gf ?_ | refine gu ?_) | ((with_reducible apply is_en); refine en ?_) | (with_reducible apply c_region) | refine ws ?_ | refine x_block_other (by decide) ?_)
    exact koc hM rfl ⟨_, rfl, hM.sub (by (repeat constructor))⟩
set_option maxHeartbeats 16000000 in
theorem receiptValues_any (size : Int) (lg mp : Hs) (k : List UInt8) (sp : Value) (lf : Bool) (pk pv : Hs) (st : List (Int × Hs)) (w0 : World) (hK : Laid w0) (hR : (Ty.enc eSt).Rd [] w0 sp st) :
    Calls Tryd.prog 6 #[.agg (dC size lg mp).toArray, .string (bst k), .agg (pC sp lf pk pv).toArray] w0 (Ret fun u w' => u = .bool true ∧ Ch [] w0 w') := by
  have hM := Mem.start w0
  have hle := hR.le
  obtain ⟨A1, c1, rfl⟩ := hR.form
  refine enter [.agg (dC size lg mp).toArray, .string (bst k), .agg (pC (.slice A1 st.length c1) lf pk pv).toArray, undef, undef, undef, undef, undef, undef, undef, undef, undef, undef, undef, undef, undef, undef, undef, undef, undef, undef, undef, undef, undef, undef, undef, undef, undef, undef, undef, undef, undef, undef, undef, undef, undef, undef, undef, undef, undef, undef, undef, undef, undef, undef, undef, undef, undef, undef, undef, undef, undef, undef, undef, undef, undef] Tryd.func6 rfl rfl ?_
  repeat (first | ((with_reducible apply is_ld); first | refine kld hM ?_ | refine kldw hM ?_ | refine kle hM ?_ | refine klew hM ?_) | ((with_reducible apply is_sto); first | (refine kst hM ?_; intro w hM) | (refine kstw hM ?_; intro w hM)) | ((with_reducible apply is_st); refine su ?_) | ((with_reducible apply is_gd); first | refine gt ?_ | refine gf ?_ | refine gu ?_) | ((with_reducible apply is_en); refine en ?_) | (with_reducible apply c_region) | refine ws ?_ | refine x_block_other (by decide) ?_)
  refine kbx hM (fun w b3 hM => ?_)
  refine kbx hM (fun w b5 hM => ?_)
  have hM : Mem [] w0 w [.cell b5 (pC (.slice A1 st.length c1) lf pk pv) 54, .cell b3 (dC size lg mp) 30] := hM
  have out_ : ∀ {w : World} {L : List As}, Mem [] w0 w L → Laid w := fun hM => hK.ch hM.ch (by simp)
  repeat (first | ((with_reducible apply is_ld); first | refine kld hM ?_ | refine klrec hM ?_ | refine kllog hM ?_ | refine klmap hM ?_ | refine kldlog hM ?_ | refine kldw hM ?_ (hn := tC_len _ _ _ _ _ _ _ _ _ _) | refine kldw hM ?_ (hn := dC_len _ _ _) | refine kldw hM ?_ | refine kle hM ?_ | refine klew hM ?_) | ((with_reducible apply is_sto); first | (refine kst hM ?_; intro w hM) | (refine kstw hM ?_; intro w hM)) | ((with_reducible apply is_st); refine su ?_) | ((with_reducible apply is_gd); first | refine gt ?_ | refine gf ?_ | refine gu ?_) | ((with_reducible apply is_en); refine en ?_) | (with_reducible apply c_region) | refine ws ?_ | refine x_block_other (by decide) ?_)
  have hks := bst_size k
  by_cases q0 : (300 : Int) < ((bst k).size : Int)
  · rw [decide_eq_true q0]
    repeat (first | ((with_reducible apply is_ld); first | refine kld hM ?_ | refine klrec hM ?_ | refine kllog hM ?_ | refine klmap hM ?_ | refine kldlog hM ?_ | refine kldw hM ?_ (hn := tC_len _ _ _ _ _ _ _ _ _ _) | refine kldw hM ?_ (hn := dC_len _ _ _) | refine kldw hM ?_ | refine kle hM ?_ | refine klew hM ?_) | ((with_reducible apply is_sto); first | (refine kst hM ?_; intro w hM) | (refine kstw hM ?_; intro w hM)) | ((with_reducible apply is_st); refine su ?_) | ((with_reducible apply is_gd); first | refine gt ?_ | refine gf ?_ | refine gu ?_) | ((with_reducible apply is_en); refine en ?_) | (with_reducible apply c_region) | refine ws ?_ | refine x_block_other (by decide) ?_)
    refine c_condb rfl (fun _ => ?_) (fun h => by cases h)
    repeat (first | ((with_reducible apply is_ld); first | refine kld hM ?_ | refine klrec hM ?_ | refine kllog hM ?_ | refine klmap hM ?_ | refine kldlog hM ?_ | refine kldw hM ?_ (hn := tC_len _ _ _ _ _ _ _ _ _ _) | refine kldw hM ?_ (hn := dC_len _ _ _) | refine kldw hM ?_ | refine kle hM ?_ | refine klew hM ?_) | ((with_reducible apply is_sto); first | (refine kst hM ?_; intro w hM) | (refine kstw hM ?_; intro w hM)) | ((with_reducible apply is_st); refine su ?_) | ((with_reducible apply is_gd); first | refine gt ?_ | refine gf ?_ | refine gu ?_) | ((with_reducible apply is_en); refine en ?_) | (with_reducible apply c_region) | refine ws ?_ | refine x_block_other (by decide) ?_)
    refine kca hM (lives17_any w (out_ hM)) (fun w hM => ?_)
    repeat (first | ((with_reducible apply is_ld); first | refine kld hM ?_ | refine klrec hM ?_ | refine kllog hM ?_ | refine klmap hM ?_ | refine kldlog hM ?_ | refine kldw hM ?_ (hn := tC_len _ _ _ _ _ _ _ _ _ _) | refine kldw hM ?_ (hn := dC_len _ _ _) | refine kldw hM ?_ | refine kle hM ?_ | refine klew hM ?_) | ((with_reducible apply is_sto); first | (refine kst hM ?_; intro w hM) | (refine kstw hM ?_; intro w hM)) | ((with_reducible apply is_st); refine su ?_) | ((with_reducible apply is_gd); first | refine gt ?_ | refine gf ?_ | refine gu ?_) | ((with_reducible apply is_en); refine en ?_) | (with_reducible apply c_region) | refine ws ?_ | refine x_block_other (by decide) ?_)
    exact out1 rfl ⟨rfl, hM.ch⟩
  rw [decide_eq_false q0]
  repeat (first | ((with_reducible apply is_ld); first | refine kld hM ?_ | refine klrec hM ?_ | refine kllog hM ?_ | refine klmap hM ?_ | refine kldlog hM ?_ | refine kldw hM ?_ (hn := tC_len _ _ _ _ _ _ _ _ _ _) | refine kldw hM ?_ (hn := dC_len _ _ _) | refine kldw hM ?_ | refine kle hM ?_ | refine klew hM ?_) | ((with_reducible apply is_sto); first | (refine kst hM ?_; intro w hM) | (refine kstw hM ?_; intro w hM)) | ((with_reducible apply is_st); refine su ?_) | ((with_reducible apply is_gd); first | refine gt ?_ | refine gf ?_ | refine gu ?_) | ((with_reducible apply is_en); refine en ?_) | (with_reducible apply c_region) | refine ws ?_ | refine x_block_other (by decide) ?_)
  by_cases q1 : (300 : Int) < (st.length : Int)
  · rw [decide_eq_true q1]
    repeat (first | ((with_reducible apply is_ld); first | refine kld hM ?_ | refine klrec hM ?_ | refine kllog hM ?_ | refine klmap hM ?_ | refine kldlog hM ?_ | refine kldw hM ?_ (hn := tC_len _ _ _ _ _ _ _ _ _ _) | refine kldw hM ?_ (hn := dC_len _ _ _) | refine kldw hM ?_ | refine kle hM ?_ | refine klew hM ?_) | ((with_reducible apply is_sto); first | (refine kst hM ?_; intro w hM) | (refine kstw hM ?_; intro w hM)) | ((with_reducible apply is_st); refine su ?_) | ((with_reducible apply is_gd); first | refine gt ?_ | refine gf ?_ | refine gu ?_) | ((with_reducible apply is_en); refine en ?_) | (with_reducible apply c_region) | refine ws ?_ | refine x_block_other (by decide) ?_)
    refine c_condb rfl (fun _ => ?_) (fun h => by cases h)
    repeat (first | ((with_reducible apply is_ld); first | refine kld hM ?_ | refine klrec hM ?_ | refine kllog hM ?_ | refine klmap hM ?_ | refine kldlog hM ?_ | refine kldw hM ?_ (hn := tC_len _ _ _ _ _ _ _ _ _ _) | refine kldw hM ?_ (hn := dC_len _ _ _) | refine kldw hM ?_ | refine kle hM ?_ | refine klew hM ?_) | ((with_reducible apply is_sto); first | (refine kst hM ?_; intro w hM) | (refine kstw hM ?_; intro w hM)) | ((with_reducible apply is_st); refine su ?_) | ((with_reducible apply is_gd); first | refine gt ?_ | refine gf ?_ | refine gu ?_) | ((with_reducible apply is_en); refine en ?_) | (with_reducible apply c_region) | refine ws ?_ | refine x_block_other (by decide) ?_)
    refine kca hM (lives17_any w (out_ hM)) (fun w hM => ?_)
    repeat (first | ((with_reducible apply is_ld); first | refine kld hM ?_ | refine klrec hM ?_ | refine kllog hM ?_ | refine klmap hM ?_ | refine kldlog hM ?_ | refine kldw hM ?_ (hn := tC_len _ _ _ _ _ _ _ _ _ _) | refine kldw hM ?_ (hn := dC_len _ _ _) | refine kldw hM ?_ | refine kle hM ?_ | refine klew hM ?_) | ((with_reducible apply is_sto); first | (refine kst hM ?_; intro w hM) | (refine kstw hM ?_; intro w hM)) | ((with_reducible apply is_st); refine su ?_) | ((with_reducible apply is_gd); first | refine gt ?_ | refine gf ?_ | refine gu ?_) | ((with_reducible apply is_en); refine en ?_) | (with_reducible apply c_region) | refine ws ?_ | refine x_block_other (by decide) ?_)
    exact out1 rfl ⟨rfl, hM.ch⟩
  rw [decide_eq_false q1]
  repeat (first | ((with_reducible apply is_ld); first | refine kld hM ?_ | refine klrec hM ?_ | refine kllog hM ?_ | refine klmap hM ?_ | refine kldlog hM ?_ | refine kldw hM ?_ (hn := tC_len _ _ _ _ _ _ _ _ _ _) | refine kldw hM ?_ (hn := dC_len _ _ _) | refine kldw hM ?_ | refine kle hM ?_ | refine klew hM ?_) | ((with_reducible apply is_sto); first | (refine kst hM ?_; intro w hM) | (refine kstw hM ?_; intro w hM)) | ((with_reducible apply is_st); refine su ?_) | ((with_reducible apply is_gd); first | refine gt ?_ | refine gf ?_ | refine gu ?_) | ((with_reducible apply is_en); refine en ?_) | (with_reducible apply c_region) | refine ws ?_ | refine x_block_other (by decide) ?_)
  refine c_condb rfl (fun h => by cases h) (fun _ => ?_)
  repeat (first | ((with_reducible apply is_ld); first | refine kld hM ?_ | refine klrec hM ?_ | refine kllog hM ?_ | refine klmap hM ?_ | refine kldlog hM ?_ | refine kldw hM ?_ (hn := tC_len _ _ _ _ _ _ _ _ _ _) | refine kldw hM ?_ (hn := dC_len _ _ _) | refine kldw hM ?_ | refine kle hM ?_ | refine klew hM ?_) | ((with_reducible apply is_sto); first | (refine kst hM ?_; intro w hM) | (refine kstw hM ?_; intro w hM)) | ((with_reducible apply is_st); refine su ?_) | ((with_reducible apply is_gd); first | refine gt ?_ | refine gf ?_ | refine gu ?_) | ((with_reducible apply is_en); refine en ?_) | (with_reducible apply c_region) | refine ws ?_ | refine x_block_other (by decide) ?_)
  refine kca hM (tvalue_any size lg mp k _ lf pk pv st w (out_ hM) (by omega) (hR.ch hM.ch)) (fun w hM => ?_)
  have hv1 : ∀ (b : Nat) (v : Value) (w : World), (Ty.enc eSt).Rd [] w v st → Calls Tryd.prog 25 #[.agg (dC size lg mp).toArray, .string (bst k), .agg (pC v lf pk pv).toArray] w (Ret fun u w' => u = chkT (chkP mp (keyH k) st lf pk pv) ∧ Ch [] w w') := fun _ v w h => rvalue_any size lg mp k v lf pk pv st w trivial (by omega) h
  generalize chkP mp (keyH k) st lf pk pv = z at hM hv1 ⊢
  unfold chkT at hM hv1 ⊢
  repeat (first | ((with_reducible apply is_ld); first | refine kld hM ?_ | refine klrec hM ?_ | refine kllog hM ?_ | refine klmap hM ?_ | refine kldlog hM ?_ | refine kldw hM ?_ (hn := tC_len _ _ _ _ _ _ _ _ _ _) | refine kldw hM ?_ (hn := dC_len _ _ _) | refine kldw hM ?_ | refine kle hM ?_ | refine klew hM ?_) | ((with_reducible apply is_sto); first | (refine kst hM ?_; intro w hM) | (refine kstw hM ?_; intro w hM)) | ((with_reducible apply is_st); refine su ?_) | ((with_reducible apply is_gd); first | refine gt ?_ | refine gf ?_ | refine gu ?_) | ((with_reducible apply is_en); refine en ?_) | (with_reducible apply c_region) | refine ws ?_ | refine x_block_other (by decide) ?_)
  refine kal hM (fun w b7 hM => ?_)
  have hM : Mem [] w0 w [.cell b7 (zeroH.1.map u8v) 28, .cell b5 (pC (.slice A1 st.length c1) lf pk pv) 54, .cell b3 (dC size lg mp) 30] := hM
  refine kstw (vs := z.1.1.map u8v) hM (fun w hM => ?_)
  repeat (first | ((with_reducible apply is_ld); first | refine kld hM ?_ | refine klrec hM ?_ | refine kllog hM ?_ | refine klmap hM ?_ | refine kldlog hM ?_ | refine kldw hM ?_ (hn := tC_len _ _ _ _ _ _ _ _ _ _) | refine kldw hM ?_ (hn := dC_len _ _ _) | refine kldw hM ?_ | refine kle hM ?_ | refine klew hM ?_) | ((with_reducible apply is_sto); first | (refine kst hM ?_; intro w hM) | (refine kstw hM ?_; intro w hM)) | ((with_reducible apply is_st); refine su ?_) | ((with_reducible apply is_gd); first | refine gt ?_ | refine gf ?_ | refine gu ?_) | ((with_reducible apply is_en); refine en ?_) | refine ws ?_ | refine x_block_other (by decide) ?_)
  refine c_ordY ([], []) [] (by kernel_rfl) (by kernel_rfl) (by kernel_rfl) (fun w hc hs => ?_)
  have hM := hM.call hc
  have hl3 := Blk.lt (hM.blk (b := b3) (by (repeat constructor)))
  have hlp := Blk.lt (hM.blk (b := b5) (by (repeat constructor)))
  refine ynlr 0 rfl (hM.blk (b := b3) (by (repeat constructor))) (by omega) (by simp) rfl (ds := dC size lg mp) (by rw [List.drop_zero]; exact List.take_of_length_le (by rw [dC_len]; omega)) (dC_len _ _ _) ?_
  (first | refine yn 1 rfl ?_ | refine ynt 1 rfl ?_ | refine ynff 1 rfl ?_)
  refine ynlr 2 rfl (hM.blk (b := b5) (by (repeat constructor))) (by omega) (by simp) rfl (ds := pC (.slice A1 st.length c1) lf pk pv) (by rw [List.drop_zero]; exact List.take_of_length_le (by rw [pC_len']; omega)) (pC_len' _ _ _ _) ?_
  refine wy_cont (X := Value × Nat) (fun x N w => N ≤ x.2 ∧ Mem [] w0 w [.cell x.2 (zeroH.1.map u8v) 28, .cell b7 (z.1.1.map u8v) 28])
    (fun x l => ((((((l.set 35 (.agg (pC x.1 lf pk pv).toArray)).set 36 (.tuple #[hv z.1.1, .bool z.2.1, .bool z.2.2])).set 31 (.tuple #[hv z.1.1, .bool z.2.1, .bool z.2.2])).set 37 (hv z.1.1)).set 38 (.bool z.2.1)).set 39 (.bool z.2.2)).set 10 (.pointer (some ⟨x.2, 0, none⟩))) #[true, true, true, true, true, true, true, true, true, true, false, false, false] (fuel := 3) (fun hk => ?_) ?_
  · skip
    refine yk2 3 9 hM (by kernel_rfl) rfl rfl (fun w h0 hM => ?_) (fun w h0 hM => ?_)
    · skip
      refine ca (plain17_any (.slice A1 st.length c1) lf pk pv st w (hR.ch hM.ch) (by omega)) ?_
      rintro _ w4 ⟨u1, rfl, hN4⟩
      have hc := hN4.ch
      have hM := hM.join hN4 (by simp [As.plain])
      simp only [List.cons_append, List.nil_append] at hM
      refine x_wy (.inl (hc.gy h0)) rfl ?_
      refine yk2 4 9 hM (by kernel_rfl) rfl rfl (fun w h0 hM => ?_) (fun w h0 hM => ?_)
      · skip
        refine ca (hv1 0 u1 w (hM.rowRdO (en := eSt) (v := u1) (by (repeat constructor)))) ?_
        rintro _ w5 ⟨rfl, hc⟩
        have hM := hM.call hc
        refine x_wy (.inl (hc.gy h0)) rfl ?_
        (first | refine yn 5 rfl ?_ | refine ynt 5 rfl ?_ | refine ynff 5 rfl ?_)
        (first | refine yn 6 rfl ?_ | refine ynt 6 rfl ?_ | refine ynff 6 rfl ?_)
        (first | refine yn 7 rfl ?_ | refine ynt 7 rfl ?_ | refine ynff 7 rfl ?_)
        (first | refine yn 8 rfl ?_ | refine ynt 8 rfl ?_ | refine ynff 8 rfl ?_)
        refine yk1 9 hM (by kernel_rfl) rfl (fun w h0 hM => ?_)
        refine kalN hM (fun w bb hbb hc hM => ?_)
        have hbb := Nat.le_trans h0 hbb
        refine x_wy (.inl (hc.gy h0)) rfl ?_
        exact hk (u1, bb) _ _ _ (by kernel_rfl) rfl ⟨hbb, hM.sub (by (repeat constructor))⟩
      · skip
        refine kalN hM (fun w bb hbb hc hM => ?_)
        have hbb := Nat.le_trans h0 hbb
        refine x_wy (.inl (hc.gy h0)) rfl ?_
        refine yk1 4 hM (by kernel_rfl) rfl (fun w h0 hM => ?_)
        refine ca (hv1 0 u1 w (hM.rowRdO (en := eSt) (v := u1) (by (repeat constructor)))) ?_
        rintro _ w5 ⟨rfl, hc⟩
        have hM := hM.call hc
        refine x_wy (.inl (hc.gy h0)) rfl ?_
        (first | refine yn 5 rfl ?_ | refine ynt 5 rfl ?_ | refine ynff 5 rfl ?_)
        (first | refine yn 6 rfl ?_ | refine ynt 6 rfl ?_ | refine ynff 6 rfl ?_)
        (first | refine yn 7 rfl ?_ | refine ynt 7 rfl ?_ | refine ynff 7 rfl ?_)
        (first | refine yn 8 rfl ?_ | refine ynt 8 rfl ?_ | refine ynff 8 rfl ?_)
        exact hk (u1, bb) _ _ _ (by kernel_rfl) rfl ⟨hbb, hM.sub (by (repeat constructor))⟩
    · skip
      refine kalN hM (fun w bb hbb hc hM => ?_)
      have hbb := Nat.le_trans h0 hbb
      refine x_wy (.inl (hc.gy h0)) rfl ?_
      refine yk1 3 hM (by kernel_rfl) rfl (fun w h0 hM => ?_)
      refine ca (plain17_any (.slice A1 st.length c1) lf pk pv st w (hR.ch hM.ch) (by omega)) ?_
      rintro _ w4 ⟨u1, rfl, hN4⟩
      have hc := hN4.ch
      have hM := hM.join hN4 (by simp [As.plain])
      simp only [List.cons_append, List.nil_append] at hM
      refine x_wy (.inl (hc.gy h0)) rfl ?_
      refine yk1 4 hM (by kernel_rfl) rfl (fun w h0 hM => ?_)
      refine ca (hv1 0 u1 w (hM.rowRdO (en := eSt) (v := u1) (by (repeat constructor)))) ?_
      rintro _ w5 ⟨rfl, hc⟩
      have hM := hM.call hc
      refine x_wy (.inl (hc.gy h0)) rfl ?_
      (first | refine yn 5 rfl ?_ | refine ynt 5 rfl ?_ | refine ynff 5 rfl ?_)
      (first | refine yn 6 rfl ?_ | refine ynt 6 rfl ?_ | refine ynff 6 rfl ?_)
      (first | refine yn 7 rfl ?_ | refine ynt 7 rfl ?_ | refine ynff 7 rfl ?_)
      (first | refine yn 8 rfl ?_ | refine ynt 8 rfl ?_ | refine ynff 8 rfl ?_)
      exact hk (u1, bb) _ _ _ (by kernel_rfl) rfl ⟨hbb, hM.sub (by (repeat constructor))⟩
  clear hM
  rintro ⟨u1, b9⟩ w ⟨hbb, hM⟩
  simp only at hbb hM
  refine wy_nf ?_
  refine yst (n := 32) (vs := z.1.1.map u8v) 10 (by kernel_rfl) rfl (hM.blk (b := b9) (by (repeat constructor))) (.inl hbb) rfl rfl (h32 _) (by simp) one_u8 (fun w hB hc => ?_)
  have hM := hM.cellSet hB hc
  (first | refine yn 11 rfl ?_ | refine ynt 11 rfl ?_ | refine ynff 11 rfl ?_); (first | refine yn 12 rfl ?_ | refine ynt 12 rfl ?_ | refine ynff 12 rfl ?_)
  refine wy_done (by kernel_rfl) (fun w hc => ?_)
  have hM := hM.call hc
  repeat (first | ((with_reducible apply is_ld); first | refine kld hM ?_ | refine klrec hM ?_ | refine kllog hM ?_ | refine klmap hM ?_ | refine kldlog hM ?_ | refine kldw hM ?_ (hn := tC_len _ _ _ _ _ _ _ _ _ _) | refine kldw hM ?_ (hn := dC_len _ _ _) | refine kldw hM ?_ | refine kle hM ?_ | refine klew hM ?_) | ((with_reducible apply is_sto); first | (refine kst hM ?_; intro w hM) | (refine kstw hM ?_; intro w hM)) | ((with_reducible apply is_st); refine su ?_) | ((with_reducible apply is_gd); first | refine gt ?_ | refine gf ?_ | refine gu ?_) | ((with_reducible apply is_en); refine en ?_) | (with_reducible apply c_region) | refine ws ?_ | refine x_block_other (by decide) ?_)
  (try ((with_reducible apply is_gd); first | refine gt ?_ | refine gf ?_ | refine gu ?_)); refine wl_val (r_eql8 (a := z.1.1) (b := z.1.1) (by kernel_rfl) rfl rfl z.1.2 z.1.2) ?_
  rw [decide_eq_true rfl]
  repeat (first | ((with_reducible apply is_ld); first | refine kld hM ?_ | refine klrec hM ?_ | refine kllog hM ?_ | refine klmap hM ?_ | refine kldlog hM ?_ | refine kldw hM ?_ (hn := tC_len _ _ _ _ _ _ _ _ _ _) | refine kldw hM ?_ (hn := dC_len _ _ _) | refine kldw hM ?_ | refine kle hM ?_ | refine klew hM ?_) | ((with_reducible apply is_sto); first | (refine kst hM ?_; intro w hM) | (refine kstw hM ?_; intro w hM)) | ((with_reducible apply is_st); refine su ?_) | ((with_reducible apply is_gd); first | refine gt ?_ | refine gf ?_ | refine gu ?_) | ((with_reducible apply is_en); refine en ?_) | (with_reducible apply c_region) | refine ws ?_ | refine x_block_other (by decide) ?_)
  (try ((with_reducible apply is_gd); first | refine gt ?_ | refine gf ?_ | refine gu ?_)); refine wl_val (r_eqbs (a := z.2.1) rfl rfl) ?_
  repeat (first | ((with_reducible apply is_ld); first | refine kld hM ?_ | refine klrec hM ?_ | refine kllog hM ?_ | refine klmap hM ?_ | refine kldlog hM ?_ | refine kldw hM ?_ (hn := tC_len _ _ _ _ _ _ _ _ _ _) | refine kldw hM ?_ (hn := dC_len _ _ _) | refine kldw hM ?_ | refine kle hM ?_ | refine klew hM ?_) | ((with_reducible apply is_sto); first | (refine kst hM ?_; intro w hM) | (refine kstw hM ?_; intro w hM)) | ((with_reducible apply is_st); refine su ?_) | ((with_reducible apply is_gd); first | refine gt ?_ | refine gf ?_ | refine gu ?_) | ((with_reducible apply is_en); refine en ?_) | (with_reducible apply c_region) | refine ws ?_ | refine x_block_other (by decide) ?_)
  (try ((with_reducible apply is_gd); first | refine gt ?_ | refine gf ?_ | refine gu ?_)); refine wl_val (r_eqbs (a := z.2.2) rfl rfl) ?_
  repeat (first | ((with_reducible apply is_ld); first | refine kld hM ?_ | refine klrec hM ?_ | refine kllog hM ?_ | refine klmap hM ?_ | refine kldlog hM ?_ | refine kldw hM ?_ (hn := tC_len _ _ _ _ _ _ _ _ _ _) | refine kldw hM ?_ (hn := dC_len _ _ _) | refine kldw hM ?_ | refine kle hM ?_ | refine klew hM ?_) | ((with_reducible apply is_sto); first | (refine kst hM ?_; intro w hM) | (refine kstw hM ?_; intro w hM)) | ((with_reducible apply is_st); refine su ?_) | ((with_reducible apply is_gd); first | refine gt ?_ | refine gf ?_ | refine gu ?_) | ((with_reducible apply is_en); refine en ?_) | (with_reducible apply c_region) | refine ws ?_ | refine x_block_other (by decide) ?_)
  refine kca hM (lives17_any w (out_ hM)) (fun w hM => ?_)
  repeat (first | ((with_reducible apply is_ld); first | refine kld hM ?_ | refine klrec hM ?_ | refine kllog hM ?_ | refine klmap hM ?_ | refine kldlog hM ?_ | refine kldw hM ?_ (hn := tC_len _ _ _ _ _ _ _ _ _ _) | refine kldw hM ?_ (hn := dC_len _ _ _) | refine kldw hM ?_ | refine kle hM ?_ | refine klew hM ?_) | ((with_reducible apply is_sto); first | (refine kst hM ?_; intro w hM) | (refine kstw hM ?_; intro w hM)) | ((with_reducible apply is_st); refine su ?_) | ((with_reducible apply is_gd); first | refine gt ?_ | refine gf ?_ | refine gu ?_) | ((with_reducible apply is_en); refine en ?_) | (with_reducible apply c_region) | refine ws ?_ | refine x_block_other (by decide) ?_)
  exact out1 rfl ⟨rfl, hM.ch⟩
end Go.Proofs.YtkpkfplcoakfcaaDoor

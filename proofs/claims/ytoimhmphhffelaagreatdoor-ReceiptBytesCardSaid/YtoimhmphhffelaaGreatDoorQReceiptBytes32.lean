/- Walks of law 17: what receipt.Read takes: a number, a hash. -/
import Derived.Test.YtoimhmphhffelaaGreatDoorQReceiptBytes30
import Derived.Test.YtoimhmphhffelaaGreatDoorQReceiptBytes31
set_option linter.unusedVariables false
set_option linter.unusedSimpArgs false
namespace Go.Proofs.E
open Go Go.RowKit
theorem Mem.take2 {b c : Nat} {cs ds : List Value} {E F : TypeId} {w0 : World} (hB : Blk w0 b cs E) (hC : Blk w0 c ds F) (hne : b ≠ c) : Mem [b, c] w0 w0 [.cell b cs E, .cell c ds F] := by
  refine ⟨Ch.refl _ _, fun a ha => ?_, fun a ha k hk => ?_, ?_⟩
  · rcases List.mem_cons.1 ha with rfl | ha
    · exact hB
    · rcases List.mem_cons.1 ha with rfl | ha
      · exact hC
      · cases ha
  · rcases List.mem_cons.1 ha with rfl | ha
    · exact .inr (by simp [show k = b from hk])
    · rcases List.mem_cons.1 ha with rfl | ha
      · exact .inr (by simp [show k = c from hk])
      · cases ha
  · refine List.pairwise_cons.2 ⟨fun a ha k hk hk' => ?_, by simp⟩
    rcases List.mem_cons.1 ha with rfl | ha
    · exact hne ((show k = b from hk).symm.trans hk')
    · cases ha
theorem Mem.set2 {O : List Nat} {w0 w w' : World} {L : List As} {b c : Nat} {cs cs' ds ds' : List Value} {E F : TypeId} (h : Mem O w0 w (.cell b cs E :: .cell c ds F :: L)) (hB : Blk w' b cs' E) (hC : Blk w' c ds' F) (hc : Ch [b, c] w w') : Mem O w0 w' (.cell b cs' E :: .cell c ds' F :: L) := by
  obtain ⟨h1, h2⟩ := List.pairwise_cons.1 h.dis
  obtain ⟨h3, h4⟩ := List.pairwise_cons.1 h2
  have hnb : w0.heap.size ≤ b ∨ b ∈ O := h.new (.cell b cs E) (by simp) b rfl
  have hnc : w0.heap.size ≤ c ∨ c ∈ O := h.new (.cell c ds F) (by simp) c rfl
  refine ⟨h.ch.trans hc (fun _ _ h => h) (fun x hx hm => ?_), fun a ha => ?_, fun a ha k hk => ?_, List.pairwise_cons.2 ⟨fun a ha k hk hk' => ?_, List.pairwise_cons.2 ⟨fun a ha k hk hk' => ?_, h4⟩⟩⟩
  · simp only [List.mem_cons, List.not_mem_nil, or_false] at hm
    rcases hm with rfl | rfl
    · exact hnb.resolve_left (by omega)
    · exact hnc.resolve_left (by omega)
  · rcases List.mem_cons.1 ha with rfl | ha
    · exact hB
    rcases List.mem_cons.1 ha with rfl | hL
    · exact hC
    refine As.st a hc (fun k hk => ?_) (h.all a (List.mem_cons_of_mem _ (List.mem_cons_of_mem _ hL)))
    simp only [List.mem_cons, List.not_mem_nil, or_false] at hk
    rcases hk with rfl | rfl
    · exact ⟨hnb, h1 a (List.mem_cons_of_mem _ hL) _ rfl⟩
    · exact ⟨hnc, h3 a hL _ rfl⟩
  · rcases List.mem_cons.1 ha with rfl | ha
    · exact (show k = b from hk) ▸ hnb
    rcases List.mem_cons.1 ha with rfl | ha
    · exact (show k = c from hk) ▸ hnc
    exact h.new a (by simp [ha]) k hk
  · rcases List.mem_cons.1 ha with rfl | ha
    · exact h1 (.cell c ds F) (by simp) k hk hk'
    · exact h1 a (by simp [ha]) k hk hk'
  · exact h3 a ha k hk hk'
section
variable {P : Program} {ops : Array Oper} {N : Nat} {S : List Nat} {Q : Exit → Act → World → Prop} {z : List Nat × List Nat} {fuel : Nat} {listed : Array Bool} {l : List Value} {w : World} {T : TypeId} {pos : String} {after : Array Edge}
theorem yn_cut_low {α : Type} {ty : Ty α} {d : Nat} {x : Operand} {t e : TypeId} {zv : Value} {m by_ : Nat} [hu : Und P t (.slice e)] [hi : Inf P e zv m by_] {v : Value} {xs : List α} {y : Operand} {k1 : IntKind} {i : Int} (k : Nat) (ho : ops[k]? = some { dst := some d, op := .slice t x (some y) none none, type := T, pos := pos, after := after, guard := none })
    {S' : List Nat} {wx : World} (hR : ty.Rd S' wx v xs) (hx : ev l x = v) (hm : ty.n = m) (hy : ev l y = .int k1 i) (h0 : 0 ≤ i) (h1 : i ≤ xs.length)
    (h : ∀ v', ty.Rd S' wx v' (xs.drop i.toNat) → WY P ops N S Q z fuel (listed.setIfInBounds k true) (fr (l.set d v')) w) (hr : (Region.ready .any ops listed).contains k = true := by kernel_rfl) (hf : Region.free .any ops listed k = true := by kernel_rfl) : WY P ops N S Q z (fuel + 1) listed (fr l) w := by
  subst hm
  obtain ⟨A, c, rfl⟩ := hR.form
  have hc : xs.length ≤ c := by obtain ⟨_, _, _, hv, h, _⟩ := hR; injection hv; omega
  have := hR.cut (L := i.toNat) (H := xs.length) (M := c) (by omega) (Nat.le_refl _) hc
  rw [List.take_of_length_le (Nat.le_refl _)] at this
  refine ynp k ho hr hf (fun w1 => ?_) rfl (h _ this)
  simp [exec, execOp, hx, hy, run_cut (hi := hi) (bnd_lo (b := true) h0 h1)]
end
end Go.Proofs.E
namespace Go.Proofs.YtoimhmphhffelaaGreatDoor
open Go Go.RowKit Go.Proofs.E
attribute [local irreducible] Go.wpList Go.Code.wp Go.Proofs.E.exec Go.Proofs.E.wpLexG
def Took2 (bb bd : Nat) (wx w w' : World) (s : Sr) : Prop := ∃ vb, Ch [bb, bd] w w' ∧ Blk w' bb [vb] 33 ∧ Blk w' bd [.bool s.2] 4 ∧ tU8.Rd [] wx vb s.1
theorem numT_bad {most : Nat} {s : Sr} (h : s.2 = true) : numT most s = (0, (s.1, true)) := by
  have e : ∀ n ok, gotSt s n ok = (false, (s.1, true)) := fun n ok => if_pos (.inl h)
  unfold numT
  rw [e]
  rfl
theorem numT_no {most : Nat} {bs : Bs} {n k : Nat} {ok : Bool} (hg : getNum bs = (n, k, ok)) (h : ok = false ∨ most < n) : numT most (bs, false) = (0, (bs, true)) := by
  have e : gotSt (bs, false) k (ok && decide (n ≤ most)) = (false, (bs, true)) := if_pos (.inr (by rcases h with h | h; simp [h]; simp; omega))
  unfold numT
  simp only [hg]
  rw [e]
  rfl
theorem numT_ok {most : Nat} {bs : Bs} {n k : Nat} (hg : getNum bs = (n, k, true)) (h : n ≤ most) : numT most (bs, false) = (n, (bs.drop k, false)) := by
  have e : gotSt (bs, false) k (true && decide (n ≤ most)) = (true, (bs.drop k, false)) := gotSt_mk rfl (by simp [h])
  unfold numT
  simp only [hg]
  rw [e]
  rfl
set_option maxHeartbeats 8000000 in
theorem cnum_any (bb bd : Nat) (vb : Value) (s : Sr) (most : Nat) (wx w0 : World) (hB : Blk w0 bb [vb] 33) (hD : Blk w0 bd [.bool s.2] 4) (hne : bb ≠ bd) (hR : tU8.Rd [] w0 vb s.1) (hx : tU8.Rd [] wx vb s.1) (hm : most ≤ 9223372036854775807) :
    Calls Tryz.prog 39 #[.int .u64 (most : Int), .pointer (some ⟨bb, 0, none⟩), .pointer (some ⟨bd, 0, none⟩)] w0 (Ret fun u w' => u = .int .i64 ((numT most s).1 : Int) ∧ Took2 bb bd wx w0 w' (numT most s).2) := by
  obtain ⟨A, c, rfl⟩ := hx.form
  obtain ⟨bs, bad⟩ := s
  simp only at hB hD hx hR ⊢
  have hM := Mem.take2 hB hD hne
  refine enter [.int .u64 (most : Int), .pointer (some ⟨bb, 0, none⟩), .pointer (some ⟨bd, 0, none⟩), undef, undef, undef, undef, undef, undef, undef, undef, undef, undef, undef, undef, undef, undef, undef, undef, undef, undef, undef, undef, undef, undef, undef, undef, undef, undef, undef] Tryz.func39 rfl rfl ?_
  repeat (first | refine gw ?_ | (refine ks ?_; intro w hM))
  refine kca hM (getNum_any _ _ hR) (fun w hM => ?_)
  have hk := getNum_k bs
  obtain ⟨n, k, ok, hg⟩ : ∃ n k ok, getNum bs = (n, k, ok) := ⟨_, _, _, rfl⟩
  rw [hg] at hk ⊢
  simp only at hk
  repeat (first | refine gw ?_ | (refine ks ?_; intro w hM))
  cases bad with
  | true =>
    repeat (first | refine gw ?_ | (refine ks ?_; intro w hM))
    refine c_condb rfl (fun _ => ?_) (fun h => by cases h)
    repeat (first | refine gw ?_ | (refine ks ?_; intro w hM))
    rw [numT_bad rfl]
    exact out1 rfl ⟨rfl, _, hM.ch, hM.blk (b := bb) (by (repeat constructor)), hM.blk (b := bd) (by (repeat constructor)), hx⟩
  | false =>
  repeat (first | refine gw ?_ | (refine ks ?_; intro w hM))
  cases ok with
  | false =>
    repeat (first | refine gw ?_ | (refine ks ?_; intro w hM))
    refine c_condb rfl (fun _ => ?_) (fun h => by cases h)
    repeat (first | refine gw ?_ | (refine ks ?_; intro w hM))
    rw [numT_no hg (.inl rfl)]
    exact out1 rfl ⟨rfl, _, hM.ch, hM.blk (b := bb) (by (repeat constructor)), hM.blk (b := bd) (by (repeat constructor)), hx⟩
  | true =>
  repeat (first | refine gw ?_ | (refine ks ?_; intro w hM))
  by_cases q : most < n
  · rw [decide_eq_true (by omega : (most : Int) < (n : Int))] at hM ⊢
    repeat (first | refine gw ?_ | (refine ks ?_; intro w hM))
    refine c_condb rfl (fun _ => ?_) (fun h => by cases h)
    repeat (first | refine gw ?_ | (refine ks ?_; intro w hM))
    rw [numT_no hg (.inr q)]
    exact out1 rfl ⟨rfl, _, hM.ch, hM.blk (b := bb) (by (repeat constructor)), hM.blk (b := bd) (by (repeat constructor)), hx⟩
  rw [decide_eq_false (by omega : ¬ (most : Int) < (n : Int))] at hM ⊢
  repeat (first | refine gw ?_ | (refine ks ?_; intro w hM))
  refine c_condb rfl (fun h => by cases h) (fun _ => ?_)
  repeat (first | refine gw ?_ | (refine ks ?_; intro w hM))
  refine kcutl hx (i := (k : Int)) (fun v28 hV => ?_)
  rw [Int.toNat_natCast] at hV
  obtain ⟨A28, c28, rfl⟩ := hV.form
  repeat ((fail_if_success (with_reducible apply Go.Proofs.E.is_dst (d := 29))); first | ((with_reducible apply is_ld); first | refine kld hM ?_ | refine kldw hM ?_ | refine kle hM ?_ | refine klew hM ?_) | ((with_reducible apply is_sto); first | (refine kst hM ?_; intro w hM) | (refine kstw hM ?_; intro w hM)) | ((with_reducible apply is_st); refine su ?_) | ((with_reducible apply is_gd); first | refine gt ?_ | refine gf ?_ | refine gu ?_) | ((with_reducible apply is_en); refine en ?_) | (with_reducible apply c_region) | refine ws ?_ | refine x_block_other (by decide) ?_)
  (try ((with_reducible apply is_gd); first | refine gt ?_ | refine gf ?_ | refine gu ?_)); refine wl_val (r_convw (a := (n : Int)) (k := .i64) rfl rfl (by omega) (by omega)) ?_
  repeat (first | refine gw ?_ | (refine ks ?_; intro w hM))
  rw [numT_ok hg (by omega)]
  exact out1 rfl ⟨rfl, _, hM.ch, hM.blk (b := bb) (by (repeat constructor)), hM.blk (b := bd) (by (repeat constructor)), hV⟩
theorem hashT_no {s : Sr} (h : s.2 = true ∨ s.1.length < 32) : hashT s = (zeroH, (s.1, true)) := dif_pos h
theorem hashT_ok {bs : Bs} (h : ¬ bs.length < 32) : (hashT (bs, false)).1.1 = bs.take 32 ∧ (hashT (bs, false)).2 = (bs.drop 32, false) := by
  unfold hashT
  rw [dif_neg (by simp; omega)]
  exact ⟨rfl, rfl⟩
set_option maxHeartbeats 8000000 in
theorem chash_any (bb bd : Nat) (vb : Value) (s : Sr) (wx w0 : World) (hB : Blk w0 bb [vb] 33) (hD : Blk w0 bd [.bool s.2] 4) (hne : bb ≠ bd) (hR : tU8.Rd [bb, bd] w0 vb s.1) (hx : tU8.Rd [] wx vb s.1) :
    Calls Tryz.prog 41 #[.pointer (some ⟨bd, 0, none⟩), .pointer (some ⟨bb, 0, none⟩)] w0 (Ret fun u w' => u = hv (hashT s).1.1 ∧ Took2 bb bd wx w0 w' (hashT s).2) := by
  obtain ⟨A, c, rfl⟩ := hx.form
  obtain ⟨bs, bad⟩ := s
  simp only at hB hD hx hR ⊢
  have hM := Mem.take2 hB hD hne
  refine enter [.pointer (some ⟨bd, 0, none⟩), .pointer (some ⟨bb, 0, none⟩), undef, undef, undef, undef, undef, undef, undef, undef, undef, undef, undef, undef, undef, undef, undef] Tryz.func41 rfl rfl ?_
  repeat (first | refine gw ?_ | (refine ks ?_; intro w hM))
  refine kalN hM (fun w b2 hb2 hc2 hM => ?_)
  have hM : Mem [bb, bd] w0 w [.cell b2 (zeroH.1.map u8v) 28, .cell bb [.slice A bs.length c] 33, .cell bd [.bool bad] 4] := hM
  repeat (first | refine gw ?_ | (refine ks ?_; intro w hM))
  cases bad with
  | true =>
    repeat (first | refine gw ?_ | (refine ks ?_; intro w hM))
    refine c_condb rfl (fun h => by cases h) (fun _ => ?_)
    repeat (first | ((with_reducible apply is_ld); first | refine kld hM ?_ | refine kldw hM ?_ | refine kle hM ?_ | refine klew hM ?_ | refine kldh hM ?_ | refine kld hM ?_ (hv := by first | exact hs_get _ _ _ | exact hs_get1 _ _ _ _)) | ((with_reducible apply is_sto); first | (refine kst hM ?_; intro w hM) | (refine kstw hM ?_; intro w hM)) | ((with_reducible apply is_st); refine su ?_) | ((with_reducible apply is_gd); first | refine gt ?_ | refine gf ?_ | refine gu ?_) | ((with_reducible apply is_en); refine en ?_) | (with_reducible apply c_region) | refine ws ?_ | refine x_block_other (by decide) ?_)
    rw [hashT_no (.inl rfl)]
    exact koc hM rfl ⟨rfl, _, hM.ch, hM.blk (b := bb) (by (repeat constructor)), hM.blk (b := bd) (by (repeat constructor)), hx⟩
  | false =>
  repeat (first | refine gw ?_ | (refine ks ?_; intro w hM))
  by_cases q : bs.length < 32
  · rw [decide_eq_true (by omega : (bs.length : Int) < 32)] at hM ⊢
    repeat (first | refine gw ?_ | (refine ks ?_; intro w hM))
    refine c_condb rfl (fun h => by cases h) (fun _ => ?_)
    repeat (first | ((with_reducible apply is_ld); first | refine kld hM ?_ | refine kldw hM ?_ | refine kle hM ?_ | refine klew hM ?_ | refine kldh hM ?_ | refine kld hM ?_ (hv := by first | exact hs_get _ _ _ | exact hs_get1 _ _ _ _)) | ((with_reducible apply is_sto); first | (refine kst hM ?_; intro w hM) | (refine kstw hM ?_; intro w hM)) | ((with_reducible apply is_st); refine su ?_) | ((with_reducible apply is_gd); first | refine gt ?_ | refine gf ?_ | refine gu ?_) | ((with_reducible apply is_en); refine en ?_) | (with_reducible apply c_region) | refine ws ?_ | refine x_block_other (by decide) ?_)
    rw [hashT_no (.inr q)]
    exact koc hM rfl ⟨rfl, _, hM.ch, hM.blk (b := bb) (by (repeat constructor)), hM.blk (b := bd) (by (repeat constructor)), hx⟩
  rw [decide_eq_false (by omega : ¬ (bs.length : Int) < 32)] at hM ⊢
  repeat (first | refine gw ?_ | (refine ks ?_; intro w hM))
  refine c_condb rfl (fun _ => ?_) (fun h => by cases h)
  repeat (first | refine gwb ?_ | (refine ks ?_; intro w hM))
  refine c_ordY ([5], []) [b2] (by kernel_rfl) (by kernel_rfl) (by kernel_rfl) (fun w hc hs => ?_)
  have hM := hM.call hc
  have hl2 := Blk.lt (hM.blk (b := b2) (by (repeat constructor)))
  have hlb := Blk.lt (hM.blk (b := bb) (by (repeat constructor)))
  refine ynl 0 rfl (hM.blk (b := bb) (by (repeat constructor))) (by omega) (hM.nin (b := b2) (c := bb) (by (repeat constructor)) (by (repeat constructor))) rfl rfl ?_
  refine ynp 1 rfl (by kernel_rfl) (by kernel_rfl) (fun _ => r_cut_arr0 rfl) rfl ?_
  refine ynl 2 rfl (hM.blk (b := bb) (by (repeat constructor))) (by omega) (hM.nin (b := b2) (c := bb) (by (repeat constructor)) (by (repeat constructor))) rfl rfl ?_
  have hcl : ((bs.take 32).map u8v).length = 32 := by rw [List.length_map, List.length_take]; omega
  have hbn : bs ≠ [] := fun h => by rw [h] at q; simp at q
  refine yk1 3 hM (by kernel_rfl) rfl (fun w h0 hM => ?_)
  obtain ⟨bD, oD, cD, hvD, _, _, hrD⟩ := row8 (hR.mv hM.ch (fun _ _ h => h)) hbn
  obtain ⟨rfl, rfl⟩ : A = some ⟨bD, oD, none⟩ ∧ c = cD := by injection hvD with h1 h2 h3; exact ⟨h1, h3⟩
  refine cpb rfl rfl (hM.blk (b := b2) (by (repeat constructor))) (cs := (bs.take 32).map u8v) (by rw [hcl]; show 32 = min _ _; omega) (fun j v hj => hrD j v (by
    rw [List.map_take, List.getElem?_take] at hj
    split at hj
    · exact hj
    · cases hj)) (by rw [hcl, h32]; omega) one_u8 (fun w hB hc hs => ?_)
  have hM := hM.cellSet hB hc
  rw [show spl (zeroH.1.map u8v) 0 ((bs.take 32).map u8v) = (bs.take 32).map u8v by unfold spl; rw [hcl, List.take_zero, List.nil_append, List.drop_of_length_le (by rw [h32]; omega), List.append_nil], hcl] at *
  refine x_wy (.inl (hc.bwn h0 (.inr (by simp)))) rfl ?_
  refine yn_cut_low 4 rfl hx rfl rfl rfl (by omega) (by omega) (fun v15 hV => ?_)
  obtain ⟨A15, c15, rfl⟩ := hV.form
  refine yk1 5 hM (by kernel_rfl) rfl (fun w h0 hM => ?_)
  refine kstC hM (fun w hc hM => ?_)
  refine x_wy (.inr ⟨by decide, Nat.le_trans h0 hc.size⟩) rfl ?_
  refine wy_done (by kernel_rfl) (fun w hc => ?_)
  have hM := hM.call hc
  rw [← (hashT_ok q).1] at hM
  have hM : Mem [bb, bd] w0 _ [.cell b2 ((hashT (bs, false)).1.1.map u8v) 28, .cell bb [.slice A15 (bs.drop 32).length c15] 33, .cell bd [.bool false] 4] := hM.sub (by (repeat constructor))
  repeat (first | ((with_reducible apply is_ld); first | refine kld hM ?_ | refine kldw hM ?_ | refine kle hM ?_ | refine klew hM ?_ | refine kldh hM ?_ | refine kld hM ?_ (hv := by first | exact hs_get _ _ _ | exact hs_get1 _ _ _ _)) | ((with_reducible apply is_sto); first | (refine kst hM ?_; intro w hM) | (refine kstw hM ?_; intro w hM)) | ((with_reducible apply is_st); refine su ?_) | ((with_reducible apply is_gd); first | refine gt ?_ | refine gf ?_ | refine gu ?_) | ((with_reducible apply is_en); refine en ?_) | (with_reducible apply c_region) | refine ws ?_ | refine x_block_other (by decide) ?_)
  refine koc hM rfl ⟨rfl, ?_⟩
  rw [(hashT_ok q).2]
  exact ⟨_, hM.ch, hM.blk (b := bb) (by (repeat constructor)), hM.blk (b := bd) (by (repeat constructor)), hV⟩
end Go.Proofs.YtoimhmphhffelaaGreatDoor

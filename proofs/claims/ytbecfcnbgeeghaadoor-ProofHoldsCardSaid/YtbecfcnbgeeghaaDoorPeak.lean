/- Walks: peaks that may be, the program's and the reference's.
   Walks: one leaf more, the program's.
   Walks: the root of peaks, the program's and the reference's.
   Walks: one leaf more, the reference's.
   Walks: the peaks of leaves, the program's and the reference's; the very same hashes? -/
import Derived.Test.YtbecfcnbgeeghaaDoorCnt
import Derived.Test.YtbecfcnbgeeghaaDoorPk
import Derived.Test.YtbecfcnbgeeghaaDoorZ
import Derived.Test.YtbecfcnbgeeghaaDoorLives
import Derived.Test.YtbecfcnbgeeghaaDoorRoot
import Derived.Test.YtbecfcnbgeeghaaDoorRRoot
import Derived.Test.YtbecfcnbgeeghaaDoorRef
set_option linter.unusedVariables false
set_option linter.unusedSimpArgs false
namespace Go.Proofs.YtbecfcnbgeeghaaDoor
open Go Go.RowKit Go.Proofs.E
attribute [local irreducible] Go.wpList Go.Code.wp Go.Proofs.E.exec Go.Proofs.E.wpLexG
/-- Peaks as a value. -/
def pkV (n : Int) (v : Value) : Value := .agg #[.int .i64 n, v]
def goodZ (n : Int) (k : Nat) : Bool := decide (0 ≤ n) && decide (n ≤ 1099511627776) && decide (k = popN n.toNat)
set_option maxHeartbeats 4000000 in
theorem good_any (n : Int) (v : Value) (ts : List Hs) (w : World) (hR : (Ty.enc eH).Rd [] w v ts) :
    Calls Tryd.prog 43 #[pkV n v] w (Ret fun u w' => u = .bool (goodZ n ts.length) ∧ Ch [] w w') := by
  refine enter [pkV n v, undef, undef, undef, undef, undef, undef, undef, undef, undef, undef, undef, undef, undef, undef, undef, undef, undef, undef, undef, undef] Tryd.func43 rfl rfl ?_
  have hle := hR.le
  obtain ⟨A, cap, rfl⟩ := hR.form
  repeat (first | ((with_reducible apply is_st); refine su ?_) | ((with_reducible apply is_gd); first | refine gt ?_ | refine gf ?_ | refine gu ?_) | ((with_reducible apply is_en); refine en ?_) | (with_reducible first | apply x_then | apply wp_seq | apply c_region | apply wp_block | apply wp_skip | apply wp_exit | apply wp_ret | apply wp_label | apply wp_scope_straight | apply x_ng | apply x_ng_ret | apply x_ng_exit | apply x_then_ret | apply x_then_exit | apply x_block | apply x_block_ret | apply x_block_exit | refine x_block_other (by decide) ?_))
  refine wl_box rfl (fun w1 b hb => ?_)
  have hB : Blk w1 b [.int .i64 n, .slice A ts.length cap] 51 := hb.blk
  repeat (first | ((with_reducible apply is_st); refine su ?_) | ((with_reducible apply is_gd); first | refine gt ?_ | refine gf ?_ | refine gu ?_) | ((with_reducible apply is_en); refine en ?_) | (with_reducible first | apply x_then | apply wp_seq | apply c_region | apply wp_block | apply wp_skip | apply wp_exit | apply wp_ret | apply wp_label | apply wp_scope_straight | apply x_ng | apply x_ng_ret | apply x_ng_exit | apply x_then_ret | apply x_then_exit | apply x_block | apply x_block_ret | apply x_block_exit | refine x_block_other (by decide) ?_))
  refine c_draw [] (by kernel_rfl) (by kernel_rfl) (fun w2 hc2 hs2 => ?_)
  have hB2 := hB.ch hc2 (by simp)
  repeat (first | ((with_reducible apply is_sg); refine sgu ?_) | ((with_reducible apply is_gg); first | refine gtg ?_ | refine gfg ?_ | refine gug ?_) | ((with_reducible apply is_eg); refine eg ?_))
  refine ldbg hB2 (by simp) rfl rfl ?_
  by_cases h0 : 0 ≤ n
  · repeat (first | ((with_reducible apply is_sg); refine sgu ?_) | ((with_reducible apply is_gg); first | refine gtg ?_ | refine gfg ?_ | refine gug ?_) | ((with_reducible apply is_eg); refine eg ?_))
    refine ldbg hB2 (by simp) rfl rfl ?_
    by_cases h1 : n ≤ 1099511627776
    · obtain ⟨m, rfl⟩ := Int.eq_ofNat_of_zero_le h0
      repeat (first | ((with_reducible apply is_sg); refine sgu ?_) | ((with_reducible apply is_gg); first | refine gtg ?_ | refine gfg ?_ | refine gug ?_) | ((with_reducible apply is_eg); refine eg ?_))
      refine ldbg hB2 (by simp) rfl rfl ?_
      repeat (first | ((with_reducible apply is_sg); refine sgu ?_) | ((with_reducible apply is_gg); first | refine gtg ?_ | refine gfg ?_ | refine gug ?_) | ((with_reducible apply is_eg); refine eg ?_))
      refine ldbg hB2 (by simp) rfl rfl ?_
      repeat (first | ((with_reducible apply is_sg); refine sgu ?_) | ((with_reducible apply is_gg); first | refine gtg ?_ | refine gfg ?_ | refine gug ?_) | ((with_reducible apply is_eg); refine eg ?_))
      (try ((with_reducible apply is_gg); first | refine gtg ?_ | refine gfg ?_ | refine gug ?_)); refine cag (fun w3 hc3 => same_ch (ones_any m (by omega) w3)) ?_
      repeat (first | ((with_reducible apply is_sg); refine sgu ?_) | ((with_reducible apply is_gg); first | refine gtg ?_ | refine gfg ?_ | refine gug ?_) | ((with_reducible apply is_eg); refine eg ?_))
      intro w3 hc3
      repeat (first | ((with_reducible apply is_st); refine su ?_) | ((with_reducible apply is_gd); first | refine gt ?_ | refine gf ?_ | refine gu ?_) | ((with_reducible apply is_en); refine en ?_) | (with_reducible first | apply x_then | apply wp_seq | apply c_region | apply wp_block | apply wp_skip | apply wp_exit | apply wp_ret | apply wp_label | apply wp_scope_straight | apply x_ng | apply x_ng_ret | apply x_ng_exit | apply x_then_ret | apply x_then_exit | apply x_block | apply x_block_ret | apply x_block_exit | refine x_block_other (by decide) ?_))
      refine out1 rfl ⟨?_, (hb.ch.then hc2).then hc3⟩
      show Value.bool _ = _
      congr 1
      unfold goodZ
      rw [decide_eq_true h0, decide_eq_true h1, Int.toNat_natCast, Bool.true_and, Bool.true_and, decide_eq_decide]
      omega
    · repeat (first | ((with_reducible apply is_sg); refine sgu ?_) | ((with_reducible apply is_gg); first | refine gtg ?_ | refine gfg ?_ | refine gug ?_) | ((with_reducible apply is_eg); refine eg ?_))
      intro w3 hc3
      repeat (first | ((with_reducible apply is_st); refine su ?_) | ((with_reducible apply is_gd); first | refine gt ?_ | refine gf ?_ | refine gu ?_) | ((with_reducible apply is_en); refine en ?_) | (with_reducible first | apply x_then | apply wp_seq | apply c_region | apply wp_block | apply wp_skip | apply wp_exit | apply wp_ret | apply wp_label | apply wp_scope_straight | apply x_ng | apply x_ng_ret | apply x_ng_exit | apply x_then_ret | apply x_then_exit | apply x_block | apply x_block_ret | apply x_block_exit | refine x_block_other (by decide) ?_))
      refine out1 rfl ⟨?_, (hb.ch.then hc2).then hc3⟩
      show Value.bool _ = _
      congr 1
      unfold goodZ
      rw [decide_eq_false h1, Bool.and_false, Bool.false_and]
  · repeat (first | ((with_reducible apply is_sg); refine sgu ?_) | ((with_reducible apply is_gg); first | refine gtg ?_ | refine gfg ?_ | refine gug ?_) | ((with_reducible apply is_eg); refine eg ?_))
    intro w3 hc3
    repeat (first | ((with_reducible apply is_st); refine su ?_) | ((with_reducible apply is_gd); first | refine gt ?_ | refine gf ?_ | refine gu ?_) | ((with_reducible apply is_en); refine en ?_) | (with_reducible first | apply x_then | apply wp_seq | apply c_region | apply wp_block | apply wp_skip | apply wp_exit | apply wp_ret | apply wp_label | apply wp_scope_straight | apply x_ng | apply x_ng_ret | apply x_ng_exit | apply x_then_ret | apply x_then_exit | apply x_block | apply x_block_ret | apply x_block_exit | refine x_block_other (by decide) ?_))
    refine out1 rfl ⟨?_, (hb.ch.then hc2).then hc3⟩
    show Value.bool _ = _
    congr 1
    unfold goodZ
    rw [decide_eq_false h0, Bool.false_and, Bool.false_and]
set_option maxHeartbeats 4000000 in
theorem rgood_any (n : Int) (v : Value) (ts : List Hs) (w : World) (hR : (Ty.enc eH).Rd [] w v ts) :
    Calls Tryd.prog 44 #[pkV n v] w (Ret fun u w' => u = .bool (goodZ n ts.length) ∧ Ch [] w w') := by
  refine enter [pkV n v, undef, undef, undef, undef, undef, undef, undef, undef, undef, undef, undef, undef, undef, undef, undef, undef, undef, undef, undef, undef] Tryd.func44 rfl rfl ?_
  have hle := hR.le
  obtain ⟨A, cap, rfl⟩ := hR.form
  repeat (first | ((with_reducible apply is_st); refine su ?_) | ((with_reducible apply is_gd); first | refine gt ?_ | refine gf ?_ | refine gu ?_) | ((with_reducible apply is_en); refine en ?_) | (with_reducible first | apply x_then | apply wp_seq | apply c_region | apply wp_block | apply wp_skip | apply wp_exit | apply wp_ret | apply wp_label | apply wp_scope_straight | apply x_ng | apply x_ng_ret | apply x_ng_exit | apply x_then_ret | apply x_then_exit | apply x_block | apply x_block_ret | apply x_block_exit | refine x_block_other (by decide) ?_))
  refine wl_box rfl (fun w1 b hb => ?_)
  have hB : Blk w1 b [.int .i64 n, .slice A ts.length cap] 52 := hb.blk
  repeat (first | ((with_reducible apply is_st); refine su ?_) | ((with_reducible apply is_gd); first | refine gt ?_ | refine gf ?_ | refine gu ?_) | ((with_reducible apply is_en); refine en ?_) | (with_reducible first | apply x_then | apply wp_seq | apply c_region | apply wp_block | apply wp_skip | apply wp_exit | apply wp_ret | apply wp_label | apply wp_scope_straight | apply x_ng | apply x_ng_ret | apply x_ng_exit | apply x_then_ret | apply x_then_exit | apply x_block | apply x_block_ret | apply x_block_exit | refine x_block_other (by decide) ?_))
  refine c_draw [] (by kernel_rfl) (by kernel_rfl) (fun w2 hc2 hs2 => ?_)
  have hB2 := hB.ch hc2 (by simp)
  repeat (first | ((with_reducible apply is_sg); refine sgu ?_) | ((with_reducible apply is_gg); first | refine gtg ?_ | refine gfg ?_ | refine gug ?_) | ((with_reducible apply is_eg); refine eg ?_))
  refine ldbg hB2 (by simp) rfl rfl ?_
  by_cases h0 : 0 ≤ n
  · repeat (first | ((with_reducible apply is_sg); refine sgu ?_) | ((with_reducible apply is_gg); first | refine gtg ?_ | refine gfg ?_ | refine gug ?_) | ((with_reducible apply is_eg); refine eg ?_))
    refine ldbg hB2 (by simp) rfl rfl ?_
    by_cases h1 : n ≤ 1099511627776
    · obtain ⟨m, rfl⟩ := Int.eq_ofNat_of_zero_le h0
      repeat (first | ((with_reducible apply is_sg); refine sgu ?_) | ((with_reducible apply is_gg); first | refine gtg ?_ | refine gfg ?_ | refine gug ?_) | ((with_reducible apply is_eg); refine eg ?_))
      refine ldbg hB2 (by simp) rfl rfl ?_
      repeat (first | ((with_reducible apply is_sg); refine sgu ?_) | ((with_reducible apply is_gg); first | refine gtg ?_ | refine gfg ?_ | refine gug ?_) | ((with_reducible apply is_eg); refine eg ?_))
      refine ldbg hB2 (by simp) rfl rfl ?_
      refine lastg rfl (by kernel_rfl) (fun w3 hc3 => ?_)
      (try ((with_reducible apply is_gd); first | refine gt ?_ | refine gf ?_ | refine gu ?_)); refine ca (rbits_any (m : Int) (by omega) w3) ?_
      rintro u w4 ⟨hc4, hO⟩
      obtain ⟨A', cap', rfl, _⟩ := hO.form
      refine x_mid rfl hc4 ?_
      have hlen := bitsDown_len m 63
      repeat (first | ((with_reducible apply is_sg); refine sgu ?_) | ((with_reducible apply is_gg); first | refine gtg ?_ | refine gfg ?_ | refine gug ?_) | ((with_reducible apply is_eg); refine eg ?_))
      intro w5 hc5
      repeat (first | ((with_reducible apply is_st); refine su ?_) | ((with_reducible apply is_gd); first | refine gt ?_ | refine gf ?_ | refine gu ?_) | ((with_reducible apply is_en); refine en ?_) | (with_reducible first | apply x_then | apply wp_seq | apply c_region | apply wp_block | apply wp_skip | apply wp_exit | apply wp_ret | apply wp_label | apply wp_scope_straight | apply x_ng | apply x_ng_ret | apply x_ng_exit | apply x_then_ret | apply x_then_exit | apply x_block | apply x_block_ret | apply x_block_exit | refine x_block_other (by decide) ?_))
      refine out1 rfl ⟨?_, (((hb.ch.then hc2).then hc3).then hc4).then hc5⟩
      show Value.bool _ = _
      congr 1
      unfold goodZ popN
      rw [decide_eq_true h0, decide_eq_true h1, Int.toNat_natCast, Bool.true_and, Bool.true_and, decide_eq_decide]
      omega
    · repeat (first | ((with_reducible apply is_sg); refine sgu ?_) | ((with_reducible apply is_gg); first | refine gtg ?_ | refine gfg ?_ | refine gug ?_) | ((with_reducible apply is_eg); refine eg ?_))
      intro w3 hc3
      repeat (first | ((with_reducible apply is_st); refine su ?_) | ((with_reducible apply is_gd); first | refine gt ?_ | refine gf ?_ | refine gu ?_) | ((with_reducible apply is_en); refine en ?_) | (with_reducible first | apply x_then | apply wp_seq | apply c_region | apply wp_block | apply wp_skip | apply wp_exit | apply wp_ret | apply wp_label | apply wp_scope_straight | apply x_ng | apply x_ng_ret | apply x_ng_exit | apply x_then_ret | apply x_then_exit | apply x_block | apply x_block_ret | apply x_block_exit | refine x_block_other (by decide) ?_))
      refine out1 rfl ⟨?_, (hb.ch.then hc2).then hc3⟩
      show Value.bool _ = _
      congr 1
      unfold goodZ
      rw [decide_eq_false h1, Bool.and_false, Bool.false_and]
  · repeat (first | ((with_reducible apply is_sg); refine sgu ?_) | ((with_reducible apply is_gg); first | refine gtg ?_ | refine gfg ?_ | refine gug ?_) | ((with_reducible apply is_eg); refine eg ?_))
    intro w3 hc3
    repeat (first | ((with_reducible apply is_st); refine su ?_) | ((with_reducible apply is_gd); first | refine gt ?_ | refine gf ?_ | refine gu ?_) | ((with_reducible apply is_en); refine en ?_) | (with_reducible first | apply x_then | apply wp_seq | apply c_region | apply wp_block | apply wp_skip | apply wp_exit | apply wp_ret | apply wp_label | apply wp_scope_straight | apply x_ng | apply x_ng_ret | apply x_ng_exit | apply x_then_ret | apply x_then_exit | apply x_block | apply x_block_ret | apply x_block_exit | refine x_block_other (by decide) ?_))
    refine out1 rfl ⟨?_, (hb.ch.then hc2).then hc3⟩
    show Value.bool _ = _
    congr 1
    unfold goodZ
    rw [decide_eq_false h0, Bool.false_and, Bool.false_and]
end Go.Proofs.YtbecfcnbgeeghaaDoor
set_option linter.unusedVariables false
set_option linter.unusedSimpArgs false
namespace Go.Proofs.E
open Go Go.RowKit
/-- A slice of a block of one's own that begins with what is known. -/
theorem Blk.rdP {α : Type} {en : En α} {w : World} {S : List Nat} {b m cap : Nat} {cells : List Value} {ys : List α} {E : TypeId} (hB : Blk w b cells E) (hS : b ∉ S) (hc : cells.take (m * en.n) = ys.flatMap en.f) (hm : ys.length = m) (hle : m ≤ cap) (hb : m ≤ 9223372036854775807) : (Ty.enc en).Rd S w (.slice (some ⟨b, 0, none⟩) m cap) ys := by
  subst hm
  refine ⟨hb, _, cap, rfl, hle, fun _ => ⟨b, 0, rfl, hB.lt, hS, fun i x hx => ⟨hB.lt, hS, _, rfl, fun j v hv => ?_⟩⟩⟩
  refine hB.cell ?_
  have := flatMap_at en.hl ys i x hx j v hv
  rw [← hc, List.getElem?_take] at this
  split at this
  · show cells[0 + i * en.n + j]? = _
    rwa [Nat.zero_add]
  · cases this
end Go.Proofs.E
namespace Go.Proofs.YtbecfcnbgeeghaaDoor
open Go Go.RowKit Go.Proofs.E
attribute [local irreducible] Go.wpList Go.Code.wp Go.Proofs.E.exec Go.Proofs.E.wpLexG
theorem one_pk {n : Int} {A : Option Addr} {k c : Nat} : ∀ u ∈ [Value.int .i64 n, Value.slice A k c], u.oneCell' = true := by
  intro u hu
  simp at hu
  rcases hu with rfl | rfl <;> rfl
def okZ (n : Int) (k : Nat) : Bool := goodZ n k && !decide (n = 1099511627776)
theorem goodZ_of {n : Int} {k : Nat} (h : goodZ n k = true) : 0 ≤ n ∧ n ≤ 1099511627776 ∧ k = popN n.toNat := by
  unfold goodZ at h
  simp only [Bool.and_eq_true, decide_eq_true_eq] at h
  exact ⟨h.1.1, h.1.2, h.2⟩
theorem spl_take {cs vs : List Value} {o : Nat} (h : o + vs.length ≤ cs.length) : (spl cs o vs).take (o + vs.length) = cs.take o ++ vs := by
  unfold spl
  exact List.take_left' (by rw [List.length_append, List.length_take]; omega)
theorem spl_keep {cs vs : List Value} {o : Nat} (h : o + vs.length ≤ cs.length) : (spl cs o vs).take o = cs.take o := by
  unfold spl
  rw [List.append_assoc, List.take_append_of_le_length (by rw [List.length_take]; omega), List.take_take, Nat.min_self]
/-- What the row of tops is on its way. -/
def FA (bd L M : Nat) (pre : List Hs) (h : Hs) (i : Nat) (w : World) : Prop := match i with
  | 0 => ∃ cs, Blk w bd cs 26 ∧ cs.length = L ∧ cs.take (M * 32) = pre.flatMap eH.f
  | _ => ∃ cs, Blk w bd cs 26 ∧ cs.length = L ∧ cs.take ((M + 1) * 32) = (pre ++ [h]).flatMap eH.f
theorem stab_FA {bd L M : Nat} {pre : List Hs} {h : Hs} : Stab (FA bd L M pre h) := fun i a b hc hf => by
  cases i with
  | zero => obtain ⟨cs, h1, h2, h3⟩ := hf; exact ⟨cs, h1.ch hc (by simp), h2, h3⟩
  | succ i => obtain ⟨cs, h1, h2, h3⟩ := hf; exact ⟨cs, h1.ch hc (by simp), h2, h3⟩
set_option maxHeartbeats 8000000 in
theorem padd_any (n : Int) (v : Value) (ts : List Hs) (h : Hs) (w : World) (hK : Laid w) (hL : LaidB w) (hR : (Ty.enc eH).Rd [] w v ts) (hlen : ts.length ≤ 1000) :
    Calls Tryd.prog 41 #[pkV n v, hv h.1] w (Ret fun u w' => Ch [] w w' ∧
      ((okZ n ts.length = true ∧ ∃ v', u = .tuple #[pkV (n + 1) v', .bool true] ∧ ∀ S, (∀ x ∈ S, x < w.heap.size) → (Ty.enc eH).Rd S w' v' (addH (tones n.toNat) ts h)) ∨ (okZ n ts.length = false ∧ u = .tuple #[pkV n v, .bool false]))) := by
  refine enter [pkV n v, hv h.1, undef, undef, undef, undef, undef, undef, undef, undef, undef, undef, undef, undef, undef, undef, undef, undef, undef, undef, undef, undef, undef, undef, undef, undef, undef, undef, undef, undef, undef, undef, undef, undef, undef, undef, undef, undef, undef, undef, undef, undef, undef, undef, undef, undef, undef, undef, undef, undef, undef, undef, undef, undef, undef, undef, undef] Tryd.func41 rfl rfl ?_
  obtain ⟨A, cap, rfl⟩ := hR.form
  repeat (first | ((with_reducible apply is_st); refine su ?_) | ((with_reducible apply is_gd); first | refine gt ?_ | refine gf ?_ | refine gu ?_) | ((with_reducible apply is_en); refine en ?_) | (with_reducible first | apply x_then | apply wp_seq | apply c_region | apply wp_block | apply wp_skip | apply wp_exit | apply wp_ret | apply wp_label | apply wp_scope_straight | apply x_ng | apply x_ng_ret | apply x_ng_exit | apply x_then_ret | apply x_then_exit | apply x_block | apply x_block_ret | apply x_block_exit | refine x_block_other (by decide) ?_))
  refine wl_box rfl (fun w1 b2 hb2 => ?_)
  repeat (first | ((with_reducible apply is_st); refine su ?_) | ((with_reducible apply is_gd); first | refine gt ?_ | refine gf ?_ | refine gu ?_) | ((with_reducible apply is_en); refine en ?_) | (with_reducible first | apply x_then | apply wp_seq | apply c_region | apply wp_block | apply wp_skip | apply wp_exit | apply wp_ret | apply wp_label | apply wp_scope_straight | apply x_ng | apply x_ng_ret | apply x_ng_exit | apply x_then_ret | apply x_then_exit | apply x_block | apply x_block_ret | apply x_block_exit | refine x_block_other (by decide) ?_))
  refine wl_box rfl (fun w2 b3 hb3 => ?_)
  repeat (first | ((with_reducible apply is_st); refine su ?_) | ((with_reducible apply is_gd); first | refine gt ?_ | refine gf ?_ | refine gu ?_) | ((with_reducible apply is_en); refine en ?_) | (with_reducible first | apply x_then | apply wp_seq | apply c_region | apply wp_block | apply wp_skip | apply wp_exit | apply wp_ret | apply wp_label | apply wp_scope_straight | apply x_ng | apply x_ng_ret | apply x_ng_exit | apply x_then_ret | apply x_then_exit | apply x_block | apply x_block_ret | apply x_block_exit | refine x_block_other (by decide) ?_))
  refine wl_alloc (fun w3 b4 hb4 => ?_)
  have hB4 : Blk w3 b4 [.int .i64 0, .slice none 0 0] 51 := hb4.blk
  have hB3 : Blk w3 b3 (h.1.map u8v) 26 := Blk.ch (show Blk w2 b3 (h.1.map u8v) 26 from hb3.blk) hb4.ch (by simp)
  have hB2 : Blk w3 b2 [.int .i64 n, .slice A ts.length cap] 51 := (Blk.ch (show Blk w1 b2 [.int .i64 n, .slice A ts.length cap] 51 from hb2.blk) hb3.ch (by simp)).ch hb4.ch (by simp)
  have e2 := hb2.at_
  have e3 := hb3.at_
  have e4 := hb4.at_
  have s2 := hb2.size
  have s3 := hb3.size
  have s4 := hb4.size
  have hc3 : Ch [] w w3 := (hb2.ch.then hb3.ch).then hb4.ch
  repeat (first | ((with_reducible apply is_st); refine su ?_) | ((with_reducible apply is_gd); first | refine gt ?_ | refine gf ?_ | refine gu ?_) | ((with_reducible apply is_en); refine en ?_) | (with_reducible first | apply x_then | apply wp_seq | apply c_region | apply wp_block | apply wp_skip | apply wp_exit | apply wp_ret | apply wp_label | apply wp_scope_straight | apply x_ng | apply x_ng_ret | apply x_ng_exit | apply x_then_ret | apply x_then_exit | apply x_block | apply x_block_ret | apply x_block_exit | refine x_block_other (by decide) ?_))
  refine ldbr (n := 2) hB2 rfl rfl rfl ?_
  repeat (first | ((with_reducible apply is_st); refine su ?_) | ((with_reducible apply is_gd); first | refine gt ?_ | refine gf ?_ | refine gu ?_) | ((with_reducible apply is_en); refine en ?_) | (with_reducible first | apply x_then | apply wp_seq | apply c_region | apply wp_block | apply wp_skip | apply wp_exit | apply wp_ret | apply wp_label | apply wp_scope_straight | apply x_ng | apply x_ng_ret | apply x_ng_exit | apply x_then_ret | apply x_then_exit | apply x_block | apply x_block_ret | apply x_block_exit | refine x_block_other (by decide) ?_))
  (try ((with_reducible apply is_gd); first | refine gt ?_ | refine gf ?_ | refine gu ?_)); refine ca (good_any n (.slice A ts.length cap) ts w3 (hR.ch hc3)) ?_
  rintro _ w4 ⟨rfl, hc4⟩
  have hB2 := hB2.ch hc4 (by simp)
  have hB3 := hB3.ch hc4 (by simp)
  have hB4 := hB4.ch hc4 (by simp)
  have hz34 := hc4.size
  have hc4 : Ch [] w w4 := hc3.then hc4
  have hz4 := hc4.size
  cases hg : goodZ n ts.length
  · repeat (first | ((with_reducible apply is_st); refine su ?_) | ((with_reducible apply is_gd); first | refine gt ?_ | refine gf ?_ | refine gu ?_) | ((with_reducible apply is_en); refine en ?_) | (with_reducible first | apply x_then | apply wp_seq | apply c_region | apply wp_block | apply wp_skip | apply wp_exit | apply wp_ret | apply wp_label | apply wp_scope_straight | apply x_ng | apply x_ng_ret | apply x_ng_exit | apply x_then_ret | apply x_then_exit | apply x_block | apply x_block_ret | apply x_block_exit | refine x_block_other (by decide) ?_))
    refine c_condb rfl (fun _ => ?_) (fun h => by cases h)
    repeat (first | ((with_reducible apply is_st); refine su ?_) | ((with_reducible apply is_gd); first | refine gt ?_ | refine gf ?_ | refine gu ?_) | ((with_reducible apply is_en); refine en ?_) | (with_reducible first | apply x_then | apply wp_seq | apply c_region | apply wp_block | apply wp_skip | apply wp_exit | apply wp_ret | apply wp_label | apply wp_scope_straight | apply x_ng | apply x_ng_ret | apply x_ng_exit | apply x_then_ret | apply x_then_exit | apply x_block | apply x_block_ret | apply x_block_exit | refine x_block_other (by decide) ?_))
    refine ldbr (n := 2) hB2 rfl rfl rfl ?_
    repeat (first | ((with_reducible apply is_st); refine su ?_) | ((with_reducible apply is_gd); first | refine gt ?_ | refine gf ?_ | refine gu ?_) | ((with_reducible apply is_en); refine en ?_) | (with_reducible first | apply x_then | apply wp_seq | apply c_region | apply wp_block | apply wp_skip | apply wp_exit | apply wp_ret | apply wp_label | apply wp_scope_straight | apply x_ng | apply x_ng_ret | apply x_ng_exit | apply x_then_ret | apply x_then_exit | apply x_block | apply x_block_ret | apply x_block_exit | refine x_block_other (by decide) ?_))
    refine stbw (n := 2) hB4 rfl rfl rfl rfl one_pk (fun w5 hB5 hch5 hs5 => ?_)
    repeat (first | ((with_reducible apply is_st); refine su ?_) | ((with_reducible apply is_gd); first | refine gt ?_ | refine gf ?_ | refine gu ?_) | ((with_reducible apply is_en); refine en ?_) | (with_reducible first | apply x_then | apply wp_seq | apply c_region | apply wp_block | apply wp_skip | apply wp_exit | apply wp_ret | apply wp_label | apply wp_scope_straight | apply x_ng | apply x_ng_ret | apply x_ng_exit | apply x_then_ret | apply x_then_exit | apply x_block | apply x_block_ret | apply x_block_exit | refine x_block_other (by decide) ?_))
    exact outc2 rfl rfl (hB5.row (n := 2) (o := 0) rfl) rfl ⟨hc4.own hch5 (by omega), .inr ⟨by simp [okZ, hg], rfl⟩⟩
  · obtain ⟨g1, g2, g3⟩ := goodZ_of hg
    obtain ⟨m, rfl⟩ := Int.eq_ofNat_of_zero_le g1
    rw [Int.toNat_natCast] at g3 ⊢
    repeat (first | ((with_reducible apply is_st); refine su ?_) | ((with_reducible apply is_gd); first | refine gt ?_ | refine gf ?_ | refine gu ?_) | ((with_reducible apply is_en); refine en ?_) | (with_reducible first | apply x_then | apply wp_seq | apply c_region | apply wp_block | apply wp_skip | apply wp_exit | apply wp_ret | apply wp_label | apply wp_scope_straight | apply x_ng | apply x_ng_ret | apply x_ng_exit | apply x_then_ret | apply x_then_exit | apply x_block | apply x_block_ret | apply x_block_exit | refine x_block_other (by decide) ?_))
    refine ldb hB2 rfl rfl ?_
    by_cases hmax : (m : Int) = 1099511627776
    · repeat (first | ((with_reducible apply is_st); refine su ?_) | ((with_reducible apply is_gd); first | refine gt ?_ | refine gf ?_ | refine gu ?_) | ((with_reducible apply is_en); refine en ?_) | (with_reducible first | apply x_then | apply wp_seq | apply c_region | apply wp_block | apply wp_skip | apply wp_exit | apply wp_ret | apply wp_label | apply wp_scope_straight | apply x_ng | apply x_ng_ret | apply x_ng_exit | apply x_then_ret | apply x_then_exit | apply x_block | apply x_block_ret | apply x_block_exit | refine x_block_other (by decide) ?_))
      refine c_condb rfl (fun _ => ?_) (fun h => absurd hmax (of_decide_eq_false h))
      repeat (first | ((with_reducible apply is_st); refine su ?_) | ((with_reducible apply is_gd); first | refine gt ?_ | refine gf ?_ | refine gu ?_) | ((with_reducible apply is_en); refine en ?_) | (with_reducible first | apply x_then | apply wp_seq | apply c_region | apply wp_block | apply wp_skip | apply wp_exit | apply wp_ret | apply wp_label | apply wp_scope_straight | apply x_ng | apply x_ng_ret | apply x_ng_exit | apply x_then_ret | apply x_then_exit | apply x_block | apply x_block_ret | apply x_block_exit | refine x_block_other (by decide) ?_))
      refine ldbr (n := 2) hB2 rfl rfl rfl ?_
      repeat (first | ((with_reducible apply is_st); refine su ?_) | ((with_reducible apply is_gd); first | refine gt ?_ | refine gf ?_ | refine gu ?_) | ((with_reducible apply is_en); refine en ?_) | (with_reducible first | apply x_then | apply wp_seq | apply c_region | apply wp_block | apply wp_skip | apply wp_exit | apply wp_ret | apply wp_label | apply wp_scope_straight | apply x_ng | apply x_ng_ret | apply x_ng_exit | apply x_then_ret | apply x_then_exit | apply x_block | apply x_block_ret | apply x_block_exit | refine x_block_other (by decide) ?_))
      refine stbw (n := 2) hB4 rfl rfl rfl rfl one_pk (fun w5 hB5 hch5 hs5 => ?_)
      repeat (first | ((with_reducible apply is_st); refine su ?_) | ((with_reducible apply is_gd); first | refine gt ?_ | refine gf ?_ | refine gu ?_) | ((with_reducible apply is_en); refine en ?_) | (with_reducible first | apply x_then | apply wp_seq | apply c_region | apply wp_block | apply wp_skip | apply wp_exit | apply wp_ret | apply wp_label | apply wp_scope_straight | apply x_ng | apply x_ng_ret | apply x_ng_exit | apply x_then_ret | apply x_then_exit | apply x_block | apply x_block_ret | apply x_block_exit | refine x_block_other (by decide) ?_))
      exact outc2 rfl rfl (hB5.row (n := 2) (o := 0) rfl) rfl ⟨hc4.own hch5 (by omega), .inr ⟨by simp [okZ, hmax], rfl⟩⟩
    · have hok : okZ (m : Int) ts.length = true := by unfold okZ; rw [hg, decide_eq_false hmax]; rfl
      have htl := (tones_le (n := m) (by omega)).1
      repeat (first | ((with_reducible apply is_st); refine su ?_) | ((with_reducible apply is_gd); first | refine gt ?_ | refine gf ?_ | refine gu ?_) | ((with_reducible apply is_en); refine en ?_) | (with_reducible first | apply x_then | apply wp_seq | apply c_region | apply wp_block | apply wp_skip | apply wp_exit | apply wp_ret | apply wp_label | apply wp_scope_straight | apply x_ng | apply x_ng_ret | apply x_ng_exit | apply x_then_ret | apply x_then_exit | apply x_block | apply x_block_ret | apply x_block_exit | refine x_block_other (by decide) ?_))
      refine c_condb rfl (fun h => absurd (of_decide_eq_true h) hmax) (fun _ => ?_)
      repeat (first | ((with_reducible apply is_st); refine su ?_) | ((with_reducible apply is_gd); first | refine gt ?_ | refine gf ?_ | refine gu ?_) | ((with_reducible apply is_en); refine en ?_) | (with_reducible first | apply x_then | apply wp_seq | apply c_region | apply wp_block | apply wp_skip | apply wp_exit | apply wp_ret | apply wp_label | apply wp_scope_straight | apply x_ng | apply x_ng_ret | apply x_ng_exit | apply x_then_ret | apply x_then_exit | apply x_block | apply x_block_ret | apply x_block_exit | refine x_block_other (by decide) ?_))
      refine ldb hB2 rfl rfl ?_
      repeat (first | ((with_reducible apply is_st); refine su ?_) | ((with_reducible apply is_gd); first | refine gt ?_ | refine gf ?_ | refine gu ?_) | ((with_reducible apply is_en); refine en ?_) | (with_reducible first | apply x_then | apply wp_seq | apply c_region | apply wp_block | apply wp_skip | apply wp_exit | apply wp_ret | apply wp_label | apply wp_scope_straight | apply x_ng | apply x_ng_ret | apply x_ng_exit | apply x_then_ret | apply x_then_exit | apply x_block | apply x_block_ret | apply x_block_exit | refine x_block_other (by decide) ?_))
      refine ldb hB2 rfl rfl ?_
      repeat (first | ((with_reducible apply is_st); refine su ?_) | ((with_reducible apply is_gd); first | refine gt ?_ | refine gf ?_ | refine gu ?_) | ((with_reducible apply is_en); refine en ?_) | (with_reducible first | apply x_then | apply wp_seq | apply c_region | apply wp_block | apply wp_skip | apply wp_exit | apply wp_ret | apply wp_label | apply wp_scope_straight | apply x_ng | apply x_ng_ret | apply x_ng_exit | apply x_then_ret | apply x_then_exit | apply x_block | apply x_block_ret | apply x_block_exit | refine x_block_other (by decide) ?_))
      refine wl_make (n := ts.length) (c := ts.length + 1) rfl rfl (by omega) (by omega) (by omega) (fun w5 bd cs hbd hcs => ?_)
      have ed := hbd.at_
      have sd := hbd.size
      repeat (first | ((with_reducible apply is_st); refine su ?_) | ((with_reducible apply is_gd); first | refine gt ?_ | refine gf ?_ | refine gu ?_) | ((with_reducible apply is_en); refine en ?_) | (with_reducible first | apply x_then | apply wp_seq | apply c_region | apply wp_block | apply wp_skip | apply wp_exit | apply wp_ret | apply wp_label | apply wp_scope_straight | apply x_ng | apply x_ng_ret | apply x_ng_exit | apply x_then_ret | apply x_then_exit | apply x_block | apply x_block_ret | apply x_block_exit | refine x_block_other (by decide) ?_))
      refine ldb (hB2.ch hbd.ch (by simp)) rfl rfl ?_
      refine cpE (en := eH) (m := 32) (xs := ts) rfl rfl rfl hbd.blk (hR.ch (hc4.then hbd.ch)) (by omega) (fun _ w6 hBd hch6 hs6 => ?_)
      have hc6 : Ch [] w w6 := (hc4.then hbd.ch).own hch6 (by omega)
      have hB2 := (hB2.ch hbd.ch (by simp)).ch hch6 (by simp; omega)
      have hB3 := (hB3.ch hbd.ch (by simp)).ch hch6 (by simp; omega)
      have hB4 := (hB4.ch hbd.ch (by simp)).ch hch6 (by simp; omega)
      have hdl : (cs.drop (ts.length * 32)).length = 32 := by rw [List.length_drop, hcs]; omega
      generalize cs.drop (ts.length * 32) = rest at hBd hdl
      have hfl := flatMap_len eH.hl ts
      have hfl : (ts.flatMap eH.f).length = ts.length * 32 := hfl
      repeat (first | ((with_reducible apply is_st); refine su ?_) | ((with_reducible apply is_gd); first | refine gt ?_ | refine gf ?_ | refine gu ?_) | ((with_reducible apply is_en); refine en ?_) | (with_reducible first | apply x_then | apply wp_seq | apply c_region | apply wp_block | apply wp_skip | apply wp_exit | apply wp_ret | apply wp_label | apply wp_scope_straight | apply x_ng | apply x_ng_ret | apply x_ng_exit | apply x_then_ret | apply x_then_exit | apply x_block | apply x_block_ret | apply x_block_exit | refine x_block_other (by decide) ?_))
      refine ldb hB2 rfl rfl ?_
      repeat (first | ((with_reducible apply is_st); refine su ?_) | ((with_reducible apply is_gd); first | refine gt ?_ | refine gf ?_ | refine gu ?_) | ((with_reducible apply is_en); refine en ?_) | (with_reducible first | apply x_then | apply wp_seq | apply c_region | apply wp_block | apply wp_skip | apply wp_exit | apply wp_ret | apply wp_label | apply wp_scope_straight | apply x_ng | apply x_ng_ret | apply x_ng_exit | apply x_then_ret | apply x_then_exit | apply x_block | apply x_block_ret | apply x_block_exit | refine x_block_other (by decide) ?_))
      (try ((with_reducible apply is_gd); first | refine gt ?_ | refine gf ?_ | refine gu ?_)); refine wl_val (r_complN (a := m) rfl (by omega)) ?_
      (try ((with_reducible apply is_gd); first | refine gt ?_ | refine gf ?_ | refine gu ?_)); refine ca (tz_any m (by omega) w6 (hL.ch hc6 (by simp))) ?_
      rintro _ w7 ⟨rfl, hw7⟩
      subst hw7
      generalize ht : tones m = t at htl ⊢
      repeat (first | ((with_reducible apply is_st); refine su ?_) | ((with_reducible apply is_gd); first | refine gt ?_ | refine gf ?_ | refine gu ?_) | ((with_reducible apply is_en); refine en ?_) | (with_reducible first | apply x_then | apply wp_seq | apply c_region | apply wp_block | apply wp_skip | apply wp_exit | apply wp_ret | apply wp_label | apply wp_scope_straight | apply x_ng | apply x_ng_ret | apply x_ng_exit | apply x_then_ret | apply x_then_exit | apply x_block | apply x_block_ret | apply x_block_exit | refine x_block_other (by decide) ?_))
      
      refine c_loop (fun k l w' => ∃ (i : Nat), (∃ jj : Nat → Value, l = [jj 0, jj 1, .pointer (some ⟨b2, 0, none⟩), .pointer (some ⟨b3, 0, none⟩), .pointer (some ⟨b4, 0, none⟩), jj 5, .slice (some ⟨bd, 0, none⟩) (ts.length - i) (ts.length + 1), jj 7, jj 8, jj 9, jj 10, jj 11, jj 12, jj 13, jj 14, jj 15, jj 16, jj 17, jj 18, jj 19, jj 20, jj 21, jj 22, jj 23, jj 24, jj 25, jj 26, jj 27, jj 28, jj 29, jj 30, jj 31, jj 32, .int .i64 (t : Int), .int .i64 (i : Int), jj 35, jj 36, jj 37, jj 38, jj 39, jj 40, jj 41, jj 42, jj 43, jj 44, jj 45, jj 46, jj 47, jj 48, jj 49, jj 50, jj 51, jj 52, jj 53, jj 54, jj 55, jj 56]) ∧ k + i = t ∧ Ch [] w w' ∧ Blk w' b2 [.int .i64 (m : Int), .slice A ts.length cap] 51 ∧ Blk w' b3 (((ts.drop (ts.length - i)).foldr nodeH h).1.map u8v) 26 ∧ Blk w' b4 [.int .i64 0, .slice none 0 0] 51 ∧ Blk w' bd (ts.flatMap eH.f ++ rest) 26) t
        ⟨0, exj rfl, rfl, hc6, hB2, by simpa using hB3, hB4, hBd⟩ ?_
      rintro k l w7 ⟨i, ⟨jj, rfl⟩, hki, hc7, hB2, hB3, hB4, hBd⟩
      have hz7 := hBd.lt
      generalize hfd : (ts.drop (ts.length - i)).foldr nodeH h = hx at hB3
      repeat (first | ((with_reducible apply is_st); refine su ?_) | ((with_reducible apply is_gd); first | refine gt ?_ | refine gf ?_ | refine gu ?_) | ((with_reducible apply is_en); refine en ?_) | (with_reducible first | apply x_then | apply wp_seq | apply c_region | apply wp_block | apply wp_skip | apply wp_exit | apply wp_ret | apply wp_label | apply wp_scope_straight | apply x_ng | apply x_ng_ret | apply x_ng_exit | apply x_then_ret | apply x_then_exit | apply x_block | apply x_block_ret | apply x_block_exit | refine x_block_other (by decide) ?_))
      refine c_cond rfl (fun hi => ?_) (fun hi => ?_)
      · repeat (first | ((with_reducible apply is_st); refine su ?_) | ((with_reducible apply is_gd); first | refine gt ?_ | refine gf ?_ | refine gu ?_) | ((with_reducible apply is_en); refine en ?_) | (with_reducible first | apply x_then | apply wp_seq | apply c_region | apply wp_block | apply wp_skip | apply wp_exit | apply wp_ret | apply wp_label | apply wp_scope_straight | apply x_ng | apply x_ng_ret | apply x_ng_exit | apply x_then_ret | apply x_then_exit | apply x_block | apply x_block_ret | apply x_block_exit | refine x_block_other (by decide) ?_))
        refine c_drawl 6 [] (by kernel_rfl) (by kernel_rfl) (by kernel_rfl) (fun w8 hc8 hs8 => ?_)
        have hRd : (Ty.enc eH).Rd [] w8 (.slice (some ⟨bd, 0, none⟩) (ts.length - i) (ts.length + 1)) (ts.take (ts.length - i)) :=
          (hBd.ch hc8 (by simp)).rdP (by simp) (by rw [List.take_append_of_le_length (by rw [hfl]; exact Nat.mul_le_mul_right 32 (Nat.sub_le _ _)), flatMap_take eH.hl]) (by rw [List.length_take]; omega) (by omega) (by omega)
        have htk : (ts.take (ts.length - i)).length = ts.length - i := by rw [List.length_take]; omega
        repeat (first | ((with_reducible apply is_sg); refine sgu ?_) | ((with_reducible apply is_gg); first | refine gtg ?_ | refine gfg ?_ | refine gug ?_) | ((with_reducible apply is_eg); refine eg ?_))
        (try ((with_reducible apply is_gg); first | refine gtg ?_ | refine gfg ?_ | refine gug ?_)); refine ixg hRd (fun b1 o1 x1 hx1 hA1 => ?_)
        rw [List.getElem?_take, if_pos (by omega)] at hx1
        (try ((with_reducible apply is_gg); first | refine gtg ?_ | refine gfg ?_ | refine gug ?_)); refine ldrg hA1 ?_
        refine ldbrg (n := 32) (hB3.ch hc8 (by simp)) (by simp) rfl (ds := hx.1.map u8v) (by simp [List.take_of_length_le, hx.2]) (by simp [hx.2]) ?_
        (try ((with_reducible apply is_gg); first | refine gtg ?_ | refine gfg ?_ | refine gug ?_)); refine cag (fun w9 hc9 => node_any x1.1 hx.1 x1.2 hx.2 w9 (((hK.ch hc7 (by simp)).ch hc8 (by simp)).ch hc9 (by simp))) ?_
        refine lastg rfl (by kernel_rfl) (fun w9 hc9 => ?_)
        refine stbw (n := 32) ((hB3.ch hc8 (by simp)).ch hc9 (by simp)) rfl rfl (hv_len (nodeOf_len _ _)) (by simp [hx.2]) one_u8 (fun w10 hB10 hch10 hs10 => ?_)
        refine x_last rfl rfl (fun w11 hc11 => ?_)
        have hc711 : Ch [b3] w7 w11 := (((Ch.some hc8).add hc9).then hch10).add hc11
        repeat (first | ((with_reducible apply is_st); refine su ?_) | ((with_reducible apply is_gd); first | refine gt ?_ | refine gf ?_ | refine gu ?_) | ((with_reducible apply is_en); refine en ?_) | (with_reducible first | apply x_then | apply wp_seq | apply c_region | apply wp_block | apply wp_skip | apply wp_exit | apply wp_ret | apply wp_label | apply wp_scope_straight | apply x_ng | apply x_ng_ret | apply x_ng_exit | apply x_then_ret | apply x_then_exit | apply x_block | apply x_block_ret | apply x_block_exit | refine x_block_other (by decide) ?_))
        refine wl_val (r_cut_own rfl rfl (by omega) (by omega)) ?_
        repeat (first | ((with_reducible apply is_st); refine su ?_) | ((with_reducible apply is_gd); first | refine gt ?_ | refine gf ?_ | refine gu ?_) | ((with_reducible apply is_en); refine en ?_) | (with_reducible first | apply x_then | apply wp_seq | apply c_region | apply wp_block | apply wp_skip | apply wp_exit | apply wp_ret | apply wp_label | apply wp_scope_straight | apply x_ng | apply x_ng_ret | apply x_ng_exit | apply x_then_ret | apply x_then_exit | apply x_block | apply x_block_ret | apply x_block_exit | refine x_block_other (by decide) ?_))
        have hdrop : (ts.drop (ts.length - (i + 1))).foldr nodeH h = nodeH x1 hx := by
          have hlt : ts.length - (i + 1) < ts.length := by omega
          rw [List.drop_eq_getElem_cons hlt, List.foldr_cons, show ts.length - (i + 1) + 1 = ts.length - i by omega, hfd]
          congr 1
          rw [show (((ts.length - i : Nat) : Int) - 1).toNat = ts.length - (i + 1) by omega, List.getElem?_eq_getElem hlt] at hx1
          exact Option.some.inj hx1
        refine x_goes (k - 1) rfl (by omega) ⟨i + 1, exj (by rw [show (((ts.length - i : Nat) : Int) - 1).toNat = ts.length - (i + 1) by omega]; rfl), by omega, hc7.own hc711 (by omega), hB2.ch hc711 (by simp; omega), ?_, hB4.ch hc711 (by simp; omega), hBd.ch hc711 (by simp; omega)⟩
        rw [hdrop]
        exact hB10.ch hc11 (by simp)
      · repeat (first | ((with_reducible apply is_st); refine su ?_) | ((with_reducible apply is_gd); first | refine gt ?_ | refine gf ?_ | refine gu ?_) | ((with_reducible apply is_en); refine en ?_) | (with_reducible first | apply x_then | apply wp_seq | apply c_region | apply wp_block | apply wp_skip | apply wp_exit | apply wp_ret | apply wp_label | apply wp_scope_straight | apply x_ng | apply x_ng_ret | apply x_ng_exit | apply x_then_ret | apply x_then_exit | apply x_block | apply x_block_ret | apply x_block_exit | refine x_block_other (by decide) ?_))
        have hit : i = t := by omega
        subst hit
        have hadd : addH i ts h = ts.take (ts.length - i) ++ [hx] := by rw [← hfd]; rfl
        have hdL : ((ts.flatMap eH.f) ++ rest).length = (ts.length + 1) * 32 := by rw [List.length_append, hfl, hdl]; omega
        refine c_ordl 8 [bd] (FA bd ((ts.length + 1) * 32) (ts.length - i) (ts.take (ts.length - i)) hx) (by kernel_rfl) (by kernel_rfl) (by kernel_rfl) (fun w8 hc8 hs8 => ?_)
        have hB2 := hB2.ch hc8 (by simp)
        have hB3 := hB3.ch hc8 (by simp)
        have hB4 := hB4.ch hc8 (by simp)
        have hBd := hBd.ch hc8 (by simp)
        have hbdl := hBd.lt
        have hpre : (ts.flatMap eH.f ++ rest).take ((ts.length - i) * 32) = (ts.take (ts.length - i)).flatMap eH.f := by
          rw [List.take_append_of_le_length (by rw [hfl]; exact Nat.mul_le_mul_right 32 (Nat.sub_le _ _)), flatMap_take eH.hl]
        have hF0 : FA bd ((ts.length + 1) * 32) (ts.length - i) (ts.take (ts.length - i)) hx 0 w8 := ⟨_, hBd, hdL, hpre⟩
        (first | refine on 0 rfl ?_ | refine ont 0 rfl ?_ | refine onff 0 rfl ?_)
        refine onl 1 rfl hB2 (by simp; omega) rfl rfl ?_
        (first | refine on 2 rfl ?_ | refine ont 2 rfl ?_ | refine onff 2 rfl ?_); (first | refine on 3 rfl ?_ | refine ont 3 rfl ?_ | refine onff 3 rfl ?_)
        refine onlr 4 rfl (n := 32) hB3 (by simp; omega) rfl (ds := hx.1.map u8v) (by simp [List.take_of_length_le, hx.2]) (by simp [hx.2]) ?_
        refine on1 5 (by kernel_rfl) rfl (fun w9 hG9 => ?_)
        refine wl_buildSlice (parts := [(0, .tmp 53)]) (vs := [hv hx.1]) rfl rfl (by simp [hv, Value.cells, hx.2]) (by omega) (fun w10 bs hbs => ?_)
        refine x_wa (.inl (Gr.new stab_FA hbs.ch)) rfl ?_
        refine on1 6 (by kernel_rfl) rfl (fun w11 hG11 => ?_)
        obtain ⟨cs1, hCs, hCl, hCt⟩ := hG11.fin 0 (stab_FA 0 _ _ hbs.ch (hG9.fin 0 hF0))
        have hz9 := hG9.ch.size
        have ebs := hbs.at_
        have hbs11 := hbs.blk.ch hG11.ch (by simp; omega)
        have hroom : (ts.length - i) * 32 + ([hx].flatMap eH.f).length ≤ cs1.length := by
          rw [flatMap_len eH.hl, hCl]
          simp
          omega
        refine wl_append_room (en := eH) (n := 32) (m := ts.length - i) (ys := [hx]) rfl rfl hCs rfl (hbs11.row (n := 32) (o := 0) (ds := [hx].flatMap eH.f) (by simp [hv, Value.cells, List.take_of_length_le, hx.2])) (by simp) (by rw [hCl]; simp; omega) (fun w12 hD12 hch12 hs12 => ?_)
        have hFF : ∀ q, FA bd ((ts.length + 1) * 32) (ts.length - i) (ts.take (ts.length - i)) hx q w12 := by
          intro q
          cases q with
          | zero => exact ⟨_, hD12, by rw [spl_length hroom, hCl], by rw [spl_keep hroom, hCt]⟩
          | succ q =>
            refine ⟨_, hD12, by rw [spl_length hroom, hCl], ?_⟩
            have h1 := spl_take hroom
            have h2 : ([hx].flatMap eH.f).length = 32 := flatMap_len eH.hl [hx]
            rw [h2, hCt, ← Nat.succ_mul] at h1
            rw [h1, List.flatMap_append]
        refine x_wa (.inl (Gr.of hch12 hFF)) rfl ?_
        refine onv 7 rfl (by kernel_rfl) (by kernel_rfl) (fun w1 _ => r_build2 Tryd.underlying51 rfl rfl rfl rfl rfl rfl rfl rfl rfl rfl) rfl ?_
        refine on1 8 (by kernel_rfl) rfl (fun w13 hG13 => ?_)
        have hcc : Ch [bd] w8 w13 := (((hG9.ch.add hbs.ch).then hG11.ch).then hch12).then hG13.ch
        refine stbw (n := 2) (vs := [.int .i64 ((m : Int) + 1), .slice (some ⟨bd, 0, none⟩) (ts.length - i + 1) (ts.length + 1)]) (hB4.ch hcc (by simp; omega)) rfl rfl rfl rfl one_pk (fun w14 hB14 hch14 hs14 => ?_)
        refine x_wa (.inr rfl) rfl ?_
        (first | refine on 9 rfl ?_ | refine ont 9 rfl ?_ | refine onff 9 rfl ?_)
        refine wa_done (by kernel_rfl) (fun w15 hG15 => ?_)
        have hF13 := hG13.fin 1 (hFF 1)
        have hF14 : FA bd ((ts.length + 1) * 32) (ts.length - i) (ts.take (ts.length - i)) hx 1 w14 := by
          obtain ⟨cs2, h1, h2, h3⟩ := hF13
          exact ⟨cs2, h1.ch hch14 (by simp; omega), h2, h3⟩
        obtain ⟨cs3, hD, hDl, hDt⟩ := hG15.fin 1 hF14
        have hcw : Ch [] w w15 := (((hc7.then hc8).own hcc (by omega)).own hch14 (by omega)).own hG15.ch (by omega)
        repeat (first | ((with_reducible apply is_st); refine su ?_) | ((with_reducible apply is_gd); first | refine gt ?_ | refine gf ?_ | refine gu ?_) | ((with_reducible apply is_en); refine en ?_) | (with_reducible first | apply x_then | apply wp_seq | apply c_region | apply wp_block | apply wp_skip | apply wp_exit | apply wp_ret | apply wp_label | apply wp_scope_straight | apply x_ng | apply x_ng_ret | apply x_ng_exit | apply x_then_ret | apply x_then_exit | apply x_block | apply x_block_ret | apply x_block_exit | refine x_block_other (by decide) ?_))
        refine outc2 rfl rfl ((hB14.ch hG15.ch (by simp; omega)).row (n := 2) (o := 0) rfl) rfl ⟨hcw, .inl ⟨hok, _, rfl, fun S hS => ?_⟩⟩
        rw [hadd]
        exact hD.rdP (fun hm => by have := hS _ hm; have := hc4.size; omega) hDt (by rw [List.length_append, List.length_take]; simp) (by omega) (by omega)
end Go.Proofs.YtbecfcnbgeeghaaDoor
set_option linter.unusedVariables false
set_option linter.unusedSimpArgs false
namespace Go.Proofs.YtbecfcnbgeeghaaDoor
open Go Go.RowKit Go.Proofs.E
attribute [local irreducible] Go.wpList Go.Code.wp Go.Proofs.E.exec Go.Proofs.E.wpLexG
def rootPk (n : Int) (ts : List Hs) : Hs := if (goodZ n ts.length && !decide (n = 0)) = true then topH ts else emptyH
theorem popN_pos {n : Nat} (h0 : 0 < n) (h : n < 2 ^ 63) : 0 < popN n := by
  obtain ⟨k, hk, h1, h3, h4⟩ := bitLen_spec (u := n) h0 (by omega)
  have hk63 : k < 63 := by
    rcases Nat.lt_or_ge k 63 with h | h
    · exact h
    · have : 2 ^ 63 ≤ 2 ^ k := Nat.pow_le_pow_right (by omega) h
      omega
  unfold popN
  rw [bitsDown_top h1 h3 hk63]
  simp
theorem topH_last {ts : List Hs} {t : Hs} {k : Nat} (h : ts[k]? = some t) (hk : ts.length = k + 1) : (ts.take k).foldr nodeH t = topH ts := by
  have : ts = ts.take k ++ [t] := by
    conv => lhs; rw [← List.take_append_drop k ts]
    congr 1
    rw [List.drop_eq_getElem_cons (by omega), List.drop_of_length_le (by omega)]
    rw [List.getElem?_eq_getElem (by omega)] at h
    rw [Option.some.inj h]
  unfold topH
  conv => rhs; rw [this]
  exact (topG_snoc _).symm
theorem fold_step {ts : List Hs} {t x : Hs} {k i : Nat} (hi : i < k) (hk : k ≤ ts.length) (hx : ts[i]? = some x) : ((ts.take k).drop i).foldr nodeH t = nodeH x (((ts.take k).drop (i + 1)).foldr nodeH t) := by
  have hlt : i < (ts.take k).length := by rw [List.length_take]; omega
  rw [List.drop_eq_getElem_cons hlt, List.foldr_cons]
  congr 1
  rw [List.getElem_take]
  rw [List.getElem?_eq_getElem (by omega)] at hx
  exact Option.some.inj hx
set_option maxHeartbeats 8000000 in
theorem proot_any (n : Int) (v : Value) (ts : List Hs) (w : World) (hK : Laid w) (hR : (Ty.enc eH).Rd [] w v ts) (hlen : ts.length ≤ 1000) :
    Calls Tryd.prog 45 #[pkV n v] w (Ret fun u w' => u = hv (rootPk n ts).1 ∧ Ch [] w w') := by
  refine enter [pkV n v, undef, undef, undef, undef, undef, undef, undef, undef, undef, undef, undef, undef, undef, undef, undef, undef, undef, undef, undef, undef, undef, undef, undef, undef, undef, undef, undef, undef, undef, undef, undef, undef, undef, undef, undef, undef] Tryd.func45 rfl rfl ?_
  obtain ⟨A, cap, rfl⟩ := hR.form
  repeat (first | ((with_reducible apply is_st); refine su ?_) | ((with_reducible apply is_gd); first | refine gt ?_ | refine gf ?_ | refine gu ?_) | ((with_reducible apply is_en); refine en ?_) | (with_reducible first | apply x_then | apply wp_seq | apply c_region | apply wp_block | apply wp_skip | apply wp_exit | apply wp_ret | apply wp_label | apply wp_scope_straight | apply x_ng | apply x_ng_ret | apply x_ng_exit | apply x_then_ret | apply x_then_exit | apply x_block | apply x_block_ret | apply x_block_exit | refine x_block_other (by decide) ?_))
  refine wl_box rfl (fun w1 b1 hb1 => ?_)
  repeat (first | ((with_reducible apply is_st); refine su ?_) | ((with_reducible apply is_gd); first | refine gt ?_ | refine gf ?_ | refine gu ?_) | ((with_reducible apply is_en); refine en ?_) | (with_reducible first | apply x_then | apply wp_seq | apply c_region | apply wp_block | apply wp_skip | apply wp_exit | apply wp_ret | apply wp_label | apply wp_scope_straight | apply x_ng | apply x_ng_ret | apply x_ng_exit | apply x_then_ret | apply x_then_exit | apply x_block | apply x_block_ret | apply x_block_exit | refine x_block_other (by decide) ?_))
  refine wl_alloc (fun w2 b2 hb2 => ?_)
  have hB2 : Blk w2 b2 ((List.replicate 32 (0 : UInt8)).map u8v) 26 := hb2.blk
  have hB1 : Blk w2 b1 [.int .i64 n, .slice A ts.length cap] 51 := Blk.ch (show Blk w1 b1 [.int .i64 n, .slice A ts.length cap] 51 from hb1.blk) hb2.ch (by simp)
  have e1 := hb1.at_
  have e2 := hb2.at_
  have s1 := hb1.size
  have s2 := hb2.size
  have hc2 : Ch [] w w2 := hb1.ch.then hb2.ch
  repeat (first | ((with_reducible apply is_st); refine su ?_) | ((with_reducible apply is_gd); first | refine gt ?_ | refine gf ?_ | refine gu ?_) | ((with_reducible apply is_en); refine en ?_) | (with_reducible first | apply x_then | apply wp_seq | apply c_region | apply wp_block | apply wp_skip | apply wp_exit | apply wp_ret | apply wp_label | apply wp_scope_straight | apply x_ng | apply x_ng_ret | apply x_ng_exit | apply x_then_ret | apply x_then_exit | apply x_block | apply x_block_ret | apply x_block_exit | refine x_block_other (by decide) ?_))
  refine ldbr (n := 2) hB1 rfl rfl rfl ?_
  repeat (first | ((with_reducible apply is_st); refine su ?_) | ((with_reducible apply is_gd); first | refine gt ?_ | refine gf ?_ | refine gu ?_) | ((with_reducible apply is_en); refine en ?_) | (with_reducible first | apply x_then | apply wp_seq | apply c_region | apply wp_block | apply wp_skip | apply wp_exit | apply wp_ret | apply wp_label | apply wp_scope_straight | apply x_ng | apply x_ng_ret | apply x_ng_exit | apply x_then_ret | apply x_then_exit | apply x_block | apply x_block_ret | apply x_block_exit | refine x_block_other (by decide) ?_))
  (try ((with_reducible apply is_gd); first | refine gt ?_ | refine gf ?_ | refine gu ?_)); refine ca (good_any n (.slice A ts.length cap) ts w2 (hR.ch hc2)) ?_
  rintro _ w4 ⟨rfl, hc4⟩
  have hB1 := hB1.ch hc4 (by simp)
  have hB2 := hB2.ch hc4 (by simp)
  have hz4 := hc4.size
  have hc4 : Ch [] w w4 := hc2.then hc4
  have hempty : ∀ {w5 : World}, Ch [] w w5 → Laid w5 := fun h => hK.ch h (by simp)
  have hls := shaOf_len []
  cases hg : goodZ n ts.length
  · repeat (first | ((with_reducible apply is_st); refine su ?_) | ((with_reducible apply is_gd); first | refine gt ?_ | refine gf ?_ | refine gu ?_) | ((with_reducible apply is_en); refine en ?_) | (with_reducible first | apply x_then | apply wp_seq | apply c_region | apply wp_block | apply wp_skip | apply wp_exit | apply wp_ret | apply wp_label | apply wp_scope_straight | apply x_ng | apply x_ng_ret | apply x_ng_exit | apply x_then_ret | apply x_then_exit | apply x_block | apply x_block_ret | apply x_block_exit | refine x_block_other (by decide) ?_))
    refine c_condb rfl (fun _ => ?_) (fun h => by cases h)
    repeat (first | ((with_reducible apply is_st); refine su ?_) | ((with_reducible apply is_gd); first | refine gt ?_ | refine gf ?_ | refine gu ?_) | ((with_reducible apply is_en); refine en ?_) | (with_reducible first | apply x_then | apply wp_seq | apply c_region | apply wp_block | apply wp_skip | apply wp_exit | apply wp_ret | apply wp_label | apply wp_scope_straight | apply x_ng | apply x_ng_ret | apply x_ng_exit | apply x_then_ret | apply x_then_exit | apply x_block | apply x_block_ret | apply x_block_exit | refine x_block_other (by decide) ?_))
    (try ((with_reducible apply is_gd); first | refine gt ?_ | refine gf ?_ | refine gu ?_)); refine ca (empty_any w4 (hempty hc4)) ?_
    rintro _ w5 ⟨rfl, hc5⟩
    repeat (first | ((with_reducible apply is_st); refine su ?_) | ((with_reducible apply is_gd); first | refine gt ?_ | refine gf ?_ | refine gu ?_) | ((with_reducible apply is_en); refine en ?_) | (with_reducible first | apply x_then | apply wp_seq | apply c_region | apply wp_block | apply wp_skip | apply wp_exit | apply wp_ret | apply wp_label | apply wp_scope_straight | apply x_ng | apply x_ng_ret | apply x_ng_exit | apply x_then_ret | apply x_then_exit | apply x_block | apply x_block_ret | apply x_block_exit | refine x_block_other (by decide) ?_))
    refine stbw (n := 32) (hB2.ch hc5 (by simp)) rfl rfl (hv_len hls) (by simp) one_u8 (fun w6 hB6 hch6 hs6 => ?_)
    repeat (first | ((with_reducible apply is_st); refine su ?_) | ((with_reducible apply is_gd); first | refine gt ?_ | refine gf ?_ | refine gu ?_) | ((with_reducible apply is_en); refine en ?_) | (with_reducible first | apply x_then | apply wp_seq | apply c_region | apply wp_block | apply wp_skip | apply wp_exit | apply wp_ret | apply wp_label | apply wp_scope_straight | apply x_ng | apply x_ng_ret | apply x_ng_exit | apply x_then_ret | apply x_then_exit | apply x_block | apply x_block_ret | apply x_block_exit | refine x_block_other (by decide) ?_))
    refine outc rfl rfl (hB6.row (n := 32) (o := 0) (ds := emptyOf.map u8v) (by simp [emptyOf, List.take_of_length_le, hls])) (by simp [emptyOf, hls]) ⟨?_, (hc4.then hc5).own hch6 (by omega)⟩
    unfold rootPk
    rw [hg]
    rfl
  · obtain ⟨g1, g2, g3⟩ := goodZ_of hg
    repeat (first | ((with_reducible apply is_st); refine su ?_) | ((with_reducible apply is_gd); first | refine gt ?_ | refine gf ?_ | refine gu ?_) | ((with_reducible apply is_en); refine en ?_) | (with_reducible first | apply x_then | apply wp_seq | apply c_region | apply wp_block | apply wp_skip | apply wp_exit | apply wp_ret | apply wp_label | apply wp_scope_straight | apply x_ng | apply x_ng_ret | apply x_ng_exit | apply x_then_ret | apply x_then_exit | apply x_block | apply x_block_ret | apply x_block_exit | refine x_block_other (by decide) ?_))
    refine ldb hB1 rfl rfl ?_
    by_cases hn0 : n = 0
    · repeat (first | ((with_reducible apply is_st); refine su ?_) | ((with_reducible apply is_gd); first | refine gt ?_ | refine gf ?_ | refine gu ?_) | ((with_reducible apply is_en); refine en ?_) | (with_reducible first | apply x_then | apply wp_seq | apply c_region | apply wp_block | apply wp_skip | apply wp_exit | apply wp_ret | apply wp_label | apply wp_scope_straight | apply x_ng | apply x_ng_ret | apply x_ng_exit | apply x_then_ret | apply x_then_exit | apply x_block | apply x_block_ret | apply x_block_exit | refine x_block_other (by decide) ?_))
      refine c_condb rfl (fun _ => ?_) (fun h => absurd hn0 (of_decide_eq_false h))
      repeat (first | ((with_reducible apply is_st); refine su ?_) | ((with_reducible apply is_gd); first | refine gt ?_ | refine gf ?_ | refine gu ?_) | ((with_reducible apply is_en); refine en ?_) | (with_reducible first | apply x_then | apply wp_seq | apply c_region | apply wp_block | apply wp_skip | apply wp_exit | apply wp_ret | apply wp_label | apply wp_scope_straight | apply x_ng | apply x_ng_ret | apply x_ng_exit | apply x_then_ret | apply x_then_exit | apply x_block | apply x_block_ret | apply x_block_exit | refine x_block_other (by decide) ?_))
      (try ((with_reducible apply is_gd); first | refine gt ?_ | refine gf ?_ | refine gu ?_)); refine ca (empty_any w4 (hempty hc4)) ?_
      rintro _ w5 ⟨rfl, hc5⟩
      repeat (first | ((with_reducible apply is_st); refine su ?_) | ((with_reducible apply is_gd); first | refine gt ?_ | refine gf ?_ | refine gu ?_) | ((with_reducible apply is_en); refine en ?_) | (with_reducible first | apply x_then | apply wp_seq | apply c_region | apply wp_block | apply wp_skip | apply wp_exit | apply wp_ret | apply wp_label | apply wp_scope_straight | apply x_ng | apply x_ng_ret | apply x_ng_exit | apply x_then_ret | apply x_then_exit | apply x_block | apply x_block_ret | apply x_block_exit | refine x_block_other (by decide) ?_))
      refine stbw (n := 32) (hB2.ch hc5 (by simp)) rfl rfl (hv_len hls) (by simp) one_u8 (fun w6 hB6 hch6 hs6 => ?_)
      repeat (first | ((with_reducible apply is_st); refine su ?_) | ((with_reducible apply is_gd); first | refine gt ?_ | refine gf ?_ | refine gu ?_) | ((with_reducible apply is_en); refine en ?_) | (with_reducible first | apply x_then | apply wp_seq | apply c_region | apply wp_block | apply wp_skip | apply wp_exit | apply wp_ret | apply wp_label | apply wp_scope_straight | apply x_ng | apply x_ng_ret | apply x_ng_exit | apply x_then_ret | apply x_then_exit | apply x_block | apply x_block_ret | apply x_block_exit | refine x_block_other (by decide) ?_))
      refine outc rfl rfl (hB6.row (n := 32) (o := 0) (ds := emptyOf.map u8v) (by simp [emptyOf, List.take_of_length_le, hls])) (by simp [emptyOf, hls]) ⟨?_, (hc4.then hc5).own hch6 (by omega)⟩
      unfold rootPk
      rw [decide_eq_true hn0, Bool.not_true, Bool.and_false]
      rfl
    · have hpos := popN_pos (n := n.toNat) (by omega) (by omega)
      have hroot : rootPk n ts = topH ts := by unfold rootPk; rw [hg, decide_eq_false hn0]; rfl
      rw [hroot]
      repeat (first | ((with_reducible apply is_st); refine su ?_) | ((with_reducible apply is_gd); first | refine gt ?_ | refine gf ?_ | refine gu ?_) | ((with_reducible apply is_en); refine en ?_) | (with_reducible first | apply x_then | apply wp_seq | apply c_region | apply wp_block | apply wp_skip | apply wp_exit | apply wp_ret | apply wp_label | apply wp_scope_straight | apply x_ng | apply x_ng_ret | apply x_ng_exit | apply x_then_ret | apply x_then_exit | apply x_block | apply x_block_ret | apply x_block_exit | refine x_block_other (by decide) ?_))
      refine c_condb rfl (fun h => absurd (of_decide_eq_true h) hn0) (fun _ => ?_)
      repeat (first | ((with_reducible apply is_st); refine su ?_) | ((with_reducible apply is_gd); first | refine gt ?_ | refine gf ?_ | refine gu ?_) | ((with_reducible apply is_en); refine en ?_) | (with_reducible first | apply x_then | apply wp_seq | apply c_region | apply wp_block | apply wp_skip | apply wp_exit | apply wp_ret | apply wp_label | apply wp_scope_straight | apply x_ng | apply x_ng_ret | apply x_ng_exit | apply x_then_ret | apply x_then_exit | apply x_block | apply x_block_ret | apply x_block_exit | refine x_block_other (by decide) ?_))
      refine ldb hB1 rfl rfl ?_
      repeat (first | ((with_reducible apply is_st); refine su ?_) | ((with_reducible apply is_gd); first | refine gt ?_ | refine gf ?_ | refine gu ?_) | ((with_reducible apply is_en); refine en ?_) | (with_reducible first | apply x_then | apply wp_seq | apply c_region | apply wp_block | apply wp_skip | apply wp_exit | apply wp_ret | apply wp_label | apply wp_scope_straight | apply x_ng | apply x_ng_ret | apply x_ng_exit | apply x_then_ret | apply x_then_exit | apply x_block | apply x_block_ret | apply x_block_exit | refine x_block_other (by decide) ?_))
      refine ldb hB1 rfl rfl ?_
      repeat (first | ((with_reducible apply is_st); refine su ?_) | ((with_reducible apply is_gd); first | refine gt ?_ | refine gf ?_ | refine gu ?_) | ((with_reducible apply is_en); refine en ?_) | (with_reducible first | apply x_then | apply wp_seq | apply c_region | apply wp_block | apply wp_skip | apply wp_exit | apply wp_ret | apply wp_label | apply wp_scope_straight | apply x_ng | apply x_ng_ret | apply x_ng_exit | apply x_then_ret | apply x_then_exit | apply x_block | apply x_block_ret | apply x_block_exit | refine x_block_other (by decide) ?_))
      (try ((with_reducible apply is_gd); first | refine gt ?_ | refine gf ?_ | refine gu ?_)); refine ix (hR.ch hc4) (fun b5 o5 x5 hx5 hA5 => ?_)
      rw [show ((ts.length : Int) - 1).toNat = ts.length - 1 by omega] at hx5
      (try ((with_reducible apply is_gd); first | refine gt ?_ | refine gf ?_ | refine gu ?_)); refine ldr hA5 ?_
      repeat (first | ((with_reducible apply is_st); refine su ?_) | ((with_reducible apply is_gd); first | refine gt ?_ | refine gf ?_ | refine gu ?_) | ((with_reducible apply is_en); refine en ?_) | (with_reducible first | apply x_then | apply wp_seq | apply c_region | apply wp_block | apply wp_skip | apply wp_exit | apply wp_ret | apply wp_label | apply wp_scope_straight | apply x_ng | apply x_ng_ret | apply x_ng_exit | apply x_then_ret | apply x_then_exit | apply x_block | apply x_block_ret | apply x_block_exit | refine x_block_other (by decide) ?_))
      refine wl_alloc (fun w5 b3 hb3 => ?_)
      have e3 := hb3.at_
      refine stbw (n := 32) (cs := (List.replicate 32 (0 : UInt8)).map u8v) hb3.blk rfl rfl (hv_len x5.2) (by simp) one_u8 (fun w6 hB3 hch6 hs6 => ?_)
      have hc6 : Ch [] w w6 := (hc4.then hb3.ch).own hch6 (by omega)
      have hB1 := (hB1.ch hb3.ch (by simp)).ch hch6 (by simp; omega)
      have hB2 := (hB2.ch hb3.ch (by simp)).ch hch6 (by simp; omega)
      repeat (first | ((with_reducible apply is_st); refine su ?_) | ((with_reducible apply is_gd); first | refine gt ?_ | refine gf ?_ | refine gu ?_) | ((with_reducible apply is_en); refine en ?_) | (with_reducible first | apply x_then | apply wp_seq | apply c_region | apply wp_block | apply wp_skip | apply wp_exit | apply wp_ret | apply wp_label | apply wp_scope_straight | apply x_ng | apply x_ng_ret | apply x_ng_exit | apply x_then_ret | apply x_then_exit | apply x_block | apply x_block_ret | apply x_block_exit | refine x_block_other (by decide) ?_))
      
      refine c_loop (fun k l w' => ∃ (i : Nat), (∃ jj : Nat → Value, l = [jj 0, .pointer (some ⟨b1, 0, none⟩), .pointer (some ⟨b2, 0, none⟩), .int .i64 ((i : Int) - 1), .pointer (some ⟨b3, 0, none⟩), jj 5, jj 6, jj 7, jj 8, jj 9, jj 10, jj 11, jj 12, jj 13, jj 14, jj 15, jj 16, jj 17, jj 18, jj 19, jj 20, jj 21, jj 22, jj 23, jj 24, jj 25, jj 26, jj 27, jj 28, jj 29, jj 30, jj 31, jj 32, jj 33, jj 34, jj 35, jj 36]) ∧ k = i ∧ i + 1 ≤ ts.length ∧ Ch [] w w' ∧ Blk w' b1 [.int .i64 n, .slice A ts.length cap] 51 ∧ Blk w' b2 ((List.replicate 32 (0 : UInt8)).map u8v) 26 ∧ Blk w' b3 ((((ts.take (ts.length - 1)).drop i).foldr nodeH x5).1.map u8v) 26) (ts.length - 1)
        ⟨ts.length - 1, exj (by rw [show ((ts.length - 1 : Nat) : Int) - 1 = (ts.length : Int) - 1 - 1 by omega]; rfl), rfl, by omega, hc6, hB1, hB2, by rw [List.drop_of_length_le (by rw [List.length_take]; omega)]; exact hB3⟩ ?_
      rintro k l w7 ⟨i, ⟨jj, rfl⟩, rfl, hi1, hc7, hB1, hB2, hB3⟩
      generalize hfd : ((ts.take (ts.length - 1)).drop k).foldr nodeH x5 = hx at hB3
      have hz7 := hB3.lt
      repeat (first | ((with_reducible apply is_st); refine su ?_) | ((with_reducible apply is_gd); first | refine gt ?_ | refine gf ?_ | refine gu ?_) | ((with_reducible apply is_en); refine en ?_) | (with_reducible first | apply x_then | apply wp_seq | apply c_region | apply wp_block | apply wp_skip | apply wp_exit | apply wp_ret | apply wp_label | apply wp_scope_straight | apply x_ng | apply x_ng_ret | apply x_ng_exit | apply x_then_ret | apply x_then_exit | apply x_block | apply x_block_ret | apply x_block_exit | refine x_block_other (by decide) ?_))
      refine c_cond rfl (fun hi => ?_) (fun hi => ?_)
      · repeat (first | ((with_reducible apply is_st); refine su ?_) | ((with_reducible apply is_gd); first | refine gt ?_ | refine gf ?_ | refine gu ?_) | ((with_reducible apply is_en); refine en ?_) | (with_reducible first | apply x_then | apply wp_seq | apply c_region | apply wp_block | apply wp_skip | apply wp_exit | apply wp_ret | apply wp_label | apply wp_scope_straight | apply x_ng | apply x_ng_ret | apply x_ng_exit | apply x_then_ret | apply x_then_exit | apply x_block | apply x_block_ret | apply x_block_exit | refine x_block_other (by decide) ?_))
        refine c_drawl 7 [] (by kernel_rfl) (by kernel_rfl) (by kernel_rfl) (fun w8 hc8 hs8 => ?_)
        have hR8 := (hR.ch hc7).ch hc8
        repeat (first | ((with_reducible apply is_sg); refine sgu ?_) | ((with_reducible apply is_gg); first | refine gtg ?_ | refine gfg ?_ | refine gug ?_) | ((with_reducible apply is_eg); refine eg ?_))
        refine ldbg (hB1.ch hc8 (by simp)) (by simp) rfl rfl ?_
        repeat (first | ((with_reducible apply is_sg); refine sgu ?_) | ((with_reducible apply is_gg); first | refine gtg ?_ | refine gfg ?_ | refine gug ?_) | ((with_reducible apply is_eg); refine eg ?_))
        (try ((with_reducible apply is_gg); first | refine gtg ?_ | refine gfg ?_ | refine gug ?_)); refine ixg hR8 (fun b6 o6 x6 hx6 hA6 => ?_)
        rw [show ((k : Int) - 1).toNat = k - 1 by omega] at hx6
        (try ((with_reducible apply is_gg); first | refine gtg ?_ | refine gfg ?_ | refine gug ?_)); refine ldrg hA6 ?_
        refine ldbrg (n := 32) (hB3.ch hc8 (by simp)) (by simp) rfl (ds := hx.1.map u8v) (by simp [List.take_of_length_le, hx.2]) (by simp [hx.2]) ?_
        (try ((with_reducible apply is_gg); first | refine gtg ?_ | refine gfg ?_ | refine gug ?_)); refine cag (fun w9 hc9 => node_any x6.1 hx.1 x6.2 hx.2 w9 (((hK.ch hc7 (by simp)).ch hc8 (by simp)).ch hc9 (by simp))) ?_
        refine lastg rfl (by kernel_rfl) (fun w9 hc9 => ?_)
        refine stbw (n := 32) ((hB3.ch hc8 (by simp)).ch hc9 (by simp)) rfl rfl (hv_len (nodeOf_len _ _)) (by simp [hx.2]) one_u8 (fun w10 hB10 hch10 hs10 => ?_)
        refine x_last rfl rfl (fun w11 hc11 => ?_)
        have hc711 : Ch [b3] w7 w11 := (((Ch.some hc8).add hc9).then hch10).add hc11
        repeat (first | ((with_reducible apply is_st); refine su ?_) | ((with_reducible apply is_gd); first | refine gt ?_ | refine gf ?_ | refine gu ?_) | ((with_reducible apply is_en); refine en ?_) | (with_reducible first | apply x_then | apply wp_seq | apply c_region | apply wp_block | apply wp_skip | apply wp_exit | apply wp_ret | apply wp_label | apply wp_scope_straight | apply x_ng | apply x_ng_ret | apply x_ng_exit | apply x_then_ret | apply x_then_exit | apply x_block | apply x_block_ret | apply x_block_exit | refine x_block_other (by decide) ?_))
        refine x_goes (k - 1) rfl (by omega) ⟨k - 1, exj (by rw [show ((k - 1 : Nat) : Int) - 1 = (k : Int) - 1 - 1 by omega]; rfl), rfl, by omega, hc7.own hc711 (by omega), hB1.ch hc711 (by simp; omega), hB2.ch hc711 (by simp; omega), ?_⟩
        rw [fold_step (k := ts.length - 1) (i := k - 1) (by omega) (by omega) hx6, show k - 1 + 1 = k by omega, hfd]
        exact hB10.ch hc11 (by simp)
      · repeat (first | ((with_reducible apply is_st); refine su ?_) | ((with_reducible apply is_gd); first | refine gt ?_ | refine gf ?_ | refine gu ?_) | ((with_reducible apply is_en); refine en ?_) | (with_reducible first | apply x_then | apply wp_seq | apply c_region | apply wp_block | apply wp_skip | apply wp_exit | apply wp_ret | apply wp_label | apply wp_scope_straight | apply x_ng | apply x_ng_ret | apply x_ng_exit | apply x_then_ret | apply x_then_exit | apply x_block | apply x_block_ret | apply x_block_exit | refine x_block_other (by decide) ?_))
        have hk0 : k = 0 := by omega
        subst hk0
        rw [List.drop_zero, topH_last hx5 (by omega)] at hfd
        subst hfd
        refine ldbr (n := 32) hB3 rfl (ds := (topH ts).1.map u8v) (by simp [List.take_of_length_le, (topH ts).2]) (by simp [(topH ts).2]) ?_
        refine stbw (n := 32) hB2 rfl rfl (hv_len (topH ts).2) (by simp) one_u8 (fun w10 hB10 hch10 hs10 => ?_)
        repeat (first | ((with_reducible apply is_st); refine su ?_) | ((with_reducible apply is_gd); first | refine gt ?_ | refine gf ?_ | refine gu ?_) | ((with_reducible apply is_en); refine en ?_) | (with_reducible first | apply x_then | apply wp_seq | apply c_region | apply wp_block | apply wp_skip | apply wp_exit | apply wp_ret | apply wp_label | apply wp_scope_straight | apply x_ng | apply x_ng_ret | apply x_ng_exit | apply x_then_ret | apply x_then_exit | apply x_block | apply x_block_ret | apply x_block_exit | refine x_block_other (by decide) ?_))
        exact outc rfl rfl (hB10.row (n := 32) (o := 0) (ds := (topH ts).1.map u8v) (by simp [List.take_of_length_le, (topH ts).2])) (by simp [(topH ts).2]) ⟨rfl, hc7.own hch10 (by omega)⟩
set_option maxHeartbeats 8000000 in
theorem rproot_any (n : Int) (v : Value) (ts : List Hs) (w : World) (hR : (Ty.enc eH).Rd [] w v ts) (hlen : ts.length ≤ 1000) :
    Calls Tryd.prog 46 #[pkV n v] w (Ret fun u w' => u = hv (rootPk n ts).1 ∧ Ch [] w w') := by
  refine enter [pkV n v, undef, undef, undef, undef, undef, undef, undef, undef, undef, undef, undef, undef, undef, undef, undef, undef, undef, undef, undef, undef, undef, undef, undef, undef, undef, undef, undef, undef, undef, undef, undef, undef, undef, undef, undef, undef, undef] Tryd.func46 rfl rfl ?_
  obtain ⟨A, cap, rfl⟩ := hR.form
  repeat (first | ((with_reducible apply is_st); refine su ?_) | ((with_reducible apply is_gd); first | refine gt ?_ | refine gf ?_ | refine gu ?_) | ((with_reducible apply is_en); refine en ?_) | (with_reducible first | apply x_then | apply wp_seq | apply c_region | apply wp_block | apply wp_skip | apply wp_exit | apply wp_ret | apply wp_label | apply wp_scope_straight | apply x_ng | apply x_ng_ret | apply x_ng_exit | apply x_then_ret | apply x_then_exit | apply x_block | apply x_block_ret | apply x_block_exit | refine x_block_other (by decide) ?_))
  refine wl_box rfl (fun w1 b1 hb1 => ?_)
  repeat (first | ((with_reducible apply is_st); refine su ?_) | ((with_reducible apply is_gd); first | refine gt ?_ | refine gf ?_ | refine gu ?_) | ((with_reducible apply is_en); refine en ?_) | (with_reducible first | apply x_then | apply wp_seq | apply c_region | apply wp_block | apply wp_skip | apply wp_exit | apply wp_ret | apply wp_label | apply wp_scope_straight | apply x_ng | apply x_ng_ret | apply x_ng_exit | apply x_then_ret | apply x_then_exit | apply x_block | apply x_block_ret | apply x_block_exit | refine x_block_other (by decide) ?_))
  refine wl_alloc (fun w2 b2 hb2 => ?_)
  have hB2 : Blk w2 b2 ((List.replicate 32 (0 : UInt8)).map u8v) 26 := hb2.blk
  have hB1 : Blk w2 b1 [.int .i64 n, .slice A ts.length cap] 52 := Blk.ch (show Blk w1 b1 [.int .i64 n, .slice A ts.length cap] 52 from hb1.blk) hb2.ch (by simp)
  have e1 := hb1.at_
  have e2 := hb2.at_
  have s1 := hb1.size
  have s2 := hb2.size
  have hc2 : Ch [] w w2 := hb1.ch.then hb2.ch
  repeat (first | ((with_reducible apply is_st); refine su ?_) | ((with_reducible apply is_gd); first | refine gt ?_ | refine gf ?_ | refine gu ?_) | ((with_reducible apply is_en); refine en ?_) | (with_reducible first | apply x_then | apply wp_seq | apply c_region | apply wp_block | apply wp_skip | apply wp_exit | apply wp_ret | apply wp_label | apply wp_scope_straight | apply x_ng | apply x_ng_ret | apply x_ng_exit | apply x_then_ret | apply x_then_exit | apply x_block | apply x_block_ret | apply x_block_exit | refine x_block_other (by decide) ?_))
  refine ldbr (n := 2) hB1 rfl rfl rfl ?_
  repeat (first | ((with_reducible apply is_st); refine su ?_) | ((with_reducible apply is_gd); first | refine gt ?_ | refine gf ?_ | refine gu ?_) | ((with_reducible apply is_en); refine en ?_) | (with_reducible first | apply x_then | apply wp_seq | apply c_region | apply wp_block | apply wp_skip | apply wp_exit | apply wp_ret | apply wp_label | apply wp_scope_straight | apply x_ng | apply x_ng_ret | apply x_ng_exit | apply x_then_ret | apply x_then_exit | apply x_block | apply x_block_ret | apply x_block_exit | refine x_block_other (by decide) ?_))
  (try ((with_reducible apply is_gd); first | refine gt ?_ | refine gf ?_ | refine gu ?_)); refine ca (rgood_any n (.slice A ts.length cap) ts w2 (hR.ch hc2)) ?_
  rintro _ w4 ⟨rfl, hc4⟩
  have hB1 := hB1.ch hc4 (by simp)
  have hB2 := hB2.ch hc4 (by simp)
  have hz4 := hc4.size
  have hc4 : Ch [] w w4 := hc2.then hc4
  have hls := shaOf_len []
  cases hg : goodZ n ts.length
  · repeat (first | ((with_reducible apply is_st); refine su ?_) | ((with_reducible apply is_gd); first | refine gt ?_ | refine gf ?_ | refine gu ?_) | ((with_reducible apply is_en); refine en ?_) | (with_reducible first | apply x_then | apply wp_seq | apply c_region | apply wp_block | apply wp_skip | apply wp_exit | apply wp_ret | apply wp_label | apply wp_scope_straight | apply x_ng | apply x_ng_ret | apply x_ng_exit | apply x_then_ret | apply x_then_exit | apply x_block | apply x_block_ret | apply x_block_exit | refine x_block_other (by decide) ?_))
    refine c_condb rfl (fun _ => ?_) (fun h => by cases h)
    repeat (first | ((with_reducible apply is_st); refine su ?_) | ((with_reducible apply is_gd); first | refine gt ?_ | refine gf ?_ | refine gu ?_) | ((with_reducible apply is_en); refine en ?_) | (with_reducible first | apply x_then | apply wp_seq | apply c_region | apply wp_block | apply wp_skip | apply wp_exit | apply wp_ret | apply wp_label | apply wp_scope_straight | apply x_ng | apply x_ng_ret | apply x_ng_exit | apply x_then_ret | apply x_then_exit | apply x_block | apply x_block_ret | apply x_block_exit | refine x_block_other (by decide) ?_))
    (try ((with_reducible apply is_gd); first | refine gt ?_ | refine gf ?_ | refine gu ?_)); refine ca (rempty_any w4) ?_
    rintro _ w5 ⟨rfl, hc5⟩
    repeat (first | ((with_reducible apply is_st); refine su ?_) | ((with_reducible apply is_gd); first | refine gt ?_ | refine gf ?_ | refine gu ?_) | ((with_reducible apply is_en); refine en ?_) | (with_reducible first | apply x_then | apply wp_seq | apply c_region | apply wp_block | apply wp_skip | apply wp_exit | apply wp_ret | apply wp_label | apply wp_scope_straight | apply x_ng | apply x_ng_ret | apply x_ng_exit | apply x_then_ret | apply x_then_exit | apply x_block | apply x_block_ret | apply x_block_exit | refine x_block_other (by decide) ?_))
    refine stbw (n := 32) (hB2.ch hc5 (by simp)) rfl rfl (hv_len hls) (by simp) one_u8 (fun w6 hB6 hch6 hs6 => ?_)
    repeat (first | ((with_reducible apply is_st); refine su ?_) | ((with_reducible apply is_gd); first | refine gt ?_ | refine gf ?_ | refine gu ?_) | ((with_reducible apply is_en); refine en ?_) | (with_reducible first | apply x_then | apply wp_seq | apply c_region | apply wp_block | apply wp_skip | apply wp_exit | apply wp_ret | apply wp_label | apply wp_scope_straight | apply x_ng | apply x_ng_ret | apply x_ng_exit | apply x_then_ret | apply x_then_exit | apply x_block | apply x_block_ret | apply x_block_exit | refine x_block_other (by decide) ?_))
    refine outc rfl rfl (hB6.row (n := 32) (o := 0) (ds := emptyOf.map u8v) (by simp [emptyOf, List.take_of_length_le, hls])) (by simp [emptyOf, hls]) ⟨?_, (hc4.then hc5).own hch6 (by omega)⟩
    unfold rootPk
    rw [hg]
    rfl
  · obtain ⟨g1, g2, g3⟩ := goodZ_of hg
    repeat (first | ((with_reducible apply is_st); refine su ?_) | ((with_reducible apply is_gd); first | refine gt ?_ | refine gf ?_ | refine gu ?_) | ((with_reducible apply is_en); refine en ?_) | (with_reducible first | apply x_then | apply wp_seq | apply c_region | apply wp_block | apply wp_skip | apply wp_exit | apply wp_ret | apply wp_label | apply wp_scope_straight | apply x_ng | apply x_ng_ret | apply x_ng_exit | apply x_then_ret | apply x_then_exit | apply x_block | apply x_block_ret | apply x_block_exit | refine x_block_other (by decide) ?_))
    refine ldb hB1 rfl rfl ?_
    by_cases hn0 : n = 0
    · repeat (first | ((with_reducible apply is_st); refine su ?_) | ((with_reducible apply is_gd); first | refine gt ?_ | refine gf ?_ | refine gu ?_) | ((with_reducible apply is_en); refine en ?_) | (with_reducible first | apply x_then | apply wp_seq | apply c_region | apply wp_block | apply wp_skip | apply wp_exit | apply wp_ret | apply wp_label | apply wp_scope_straight | apply x_ng | apply x_ng_ret | apply x_ng_exit | apply x_then_ret | apply x_then_exit | apply x_block | apply x_block_ret | apply x_block_exit | refine x_block_other (by decide) ?_))
      refine c_condb rfl (fun _ => ?_) (fun h => absurd hn0 (of_decide_eq_false h))
      repeat (first | ((with_reducible apply is_st); refine su ?_) | ((with_reducible apply is_gd); first | refine gt ?_ | refine gf ?_ | refine gu ?_) | ((with_reducible apply is_en); refine en ?_) | (with_reducible first | apply x_then | apply wp_seq | apply c_region | apply wp_block | apply wp_skip | apply wp_exit | apply wp_ret | apply wp_label | apply wp_scope_straight | apply x_ng | apply x_ng_ret | apply x_ng_exit | apply x_then_ret | apply x_then_exit | apply x_block | apply x_block_ret | apply x_block_exit | refine x_block_other (by decide) ?_))
      (try ((with_reducible apply is_gd); first | refine gt ?_ | refine gf ?_ | refine gu ?_)); refine ca (rempty_any w4) ?_
      rintro _ w5 ⟨rfl, hc5⟩
      repeat (first | ((with_reducible apply is_st); refine su ?_) | ((with_reducible apply is_gd); first | refine gt ?_ | refine gf ?_ | refine gu ?_) | ((with_reducible apply is_en); refine en ?_) | (with_reducible first | apply x_then | apply wp_seq | apply c_region | apply wp_block | apply wp_skip | apply wp_exit | apply wp_ret | apply wp_label | apply wp_scope_straight | apply x_ng | apply x_ng_ret | apply x_ng_exit | apply x_then_ret | apply x_then_exit | apply x_block | apply x_block_ret | apply x_block_exit | refine x_block_other (by decide) ?_))
      refine stbw (n := 32) (hB2.ch hc5 (by simp)) rfl rfl (hv_len hls) (by simp) one_u8 (fun w6 hB6 hch6 hs6 => ?_)
      repeat (first | ((with_reducible apply is_st); refine su ?_) | ((with_reducible apply is_gd); first | refine gt ?_ | refine gf ?_ | refine gu ?_) | ((with_reducible apply is_en); refine en ?_) | (with_reducible first | apply x_then | apply wp_seq | apply c_region | apply wp_block | apply wp_skip | apply wp_exit | apply wp_ret | apply wp_label | apply wp_scope_straight | apply x_ng | apply x_ng_ret | apply x_ng_exit | apply x_then_ret | apply x_then_exit | apply x_block | apply x_block_ret | apply x_block_exit | refine x_block_other (by decide) ?_))
      refine outc rfl rfl (hB6.row (n := 32) (o := 0) (ds := emptyOf.map u8v) (by simp [emptyOf, List.take_of_length_le, hls])) (by simp [emptyOf, hls]) ⟨?_, (hc4.then hc5).own hch6 (by omega)⟩
      unfold rootPk
      rw [decide_eq_true hn0, Bool.not_true, Bool.and_false]
      rfl
    · have hpos := popN_pos (n := n.toNat) (by omega) (by omega)
      have hroot : rootPk n ts = topH ts := by unfold rootPk; rw [hg, decide_eq_false hn0]; rfl
      rw [hroot]
      repeat (first | ((with_reducible apply is_st); refine su ?_) | ((with_reducible apply is_gd); first | refine gt ?_ | refine gf ?_ | refine gu ?_) | ((with_reducible apply is_en); refine en ?_) | (with_reducible first | apply x_then | apply wp_seq | apply c_region | apply wp_block | apply wp_skip | apply wp_exit | apply wp_ret | apply wp_label | apply wp_scope_straight | apply x_ng | apply x_ng_ret | apply x_ng_exit | apply x_then_ret | apply x_then_exit | apply x_block | apply x_block_ret | apply x_block_exit | refine x_block_other (by decide) ?_))
      refine c_condb rfl (fun h => absurd (of_decide_eq_true h) hn0) (fun _ => ?_)
      repeat (first | ((with_reducible apply is_st); refine su ?_) | ((with_reducible apply is_gd); first | refine gt ?_ | refine gf ?_ | refine gu ?_) | ((with_reducible apply is_en); refine en ?_) | (with_reducible first | apply x_then | apply wp_seq | apply c_region | apply wp_block | apply wp_skip | apply wp_exit | apply wp_ret | apply wp_label | apply wp_scope_straight | apply x_ng | apply x_ng_ret | apply x_ng_exit | apply x_then_ret | apply x_then_exit | apply x_block | apply x_block_ret | apply x_block_exit | refine x_block_other (by decide) ?_))
      refine ldb hB1 rfl rfl ?_
      repeat (first | ((with_reducible apply is_st); refine su ?_) | ((with_reducible apply is_gd); first | refine gt ?_ | refine gf ?_ | refine gu ?_) | ((with_reducible apply is_en); refine en ?_) | (with_reducible first | apply x_then | apply wp_seq | apply c_region | apply wp_block | apply wp_skip | apply wp_exit | apply wp_ret | apply wp_label | apply wp_scope_straight | apply x_ng | apply x_ng_ret | apply x_ng_exit | apply x_then_ret | apply x_then_exit | apply x_block | apply x_block_ret | apply x_block_exit | refine x_block_other (by decide) ?_))
      refine ldb hB1 rfl rfl ?_
      repeat (first | ((with_reducible apply is_st); refine su ?_) | ((with_reducible apply is_gd); first | refine gt ?_ | refine gf ?_ | refine gu ?_) | ((with_reducible apply is_en); refine en ?_) | (with_reducible first | apply x_then | apply wp_seq | apply c_region | apply wp_block | apply wp_skip | apply wp_exit | apply wp_ret | apply wp_label | apply wp_scope_straight | apply x_ng | apply x_ng_ret | apply x_ng_exit | apply x_then_ret | apply x_then_exit | apply x_block | apply x_block_ret | apply x_block_exit | refine x_block_other (by decide) ?_))
      (try ((with_reducible apply is_gd); first | refine gt ?_ | refine gf ?_ | refine gu ?_)); refine ix (hR.ch hc4) (fun b5 o5 x5 hx5 hA5 => ?_)
      rw [show ((ts.length : Int) - 1).toNat = ts.length - 1 by omega] at hx5
      (try ((with_reducible apply is_gd); first | refine gt ?_ | refine gf ?_ | refine gu ?_)); refine ldr hA5 ?_
      repeat (first | ((with_reducible apply is_st); refine su ?_) | ((with_reducible apply is_gd); first | refine gt ?_ | refine gf ?_ | refine gu ?_) | ((with_reducible apply is_en); refine en ?_) | (with_reducible first | apply x_then | apply wp_seq | apply c_region | apply wp_block | apply wp_skip | apply wp_exit | apply wp_ret | apply wp_label | apply wp_scope_straight | apply x_ng | apply x_ng_ret | apply x_ng_exit | apply x_then_ret | apply x_then_exit | apply x_block | apply x_block_ret | apply x_block_exit | refine x_block_other (by decide) ?_))
      refine wl_alloc (fun w5 b3 hb3 => ?_)
      have e3 := hb3.at_
      refine stbw (n := 32) (cs := (List.replicate 32 (0 : UInt8)).map u8v) hb3.blk rfl rfl (hv_len x5.2) (by simp) one_u8 (fun w6 hB3 hch6 hs6 => ?_)
      have hc6 : Ch [] w w6 := (hc4.then hb3.ch).own hch6 (by omega)
      have hB1 := (hB1.ch hb3.ch (by simp)).ch hch6 (by simp; omega)
      have hB2 := (hB2.ch hb3.ch (by simp)).ch hch6 (by simp; omega)
      repeat (first | ((with_reducible apply is_st); refine su ?_) | ((with_reducible apply is_gd); first | refine gt ?_ | refine gf ?_ | refine gu ?_) | ((with_reducible apply is_en); refine en ?_) | (with_reducible first | apply x_then | apply wp_seq | apply c_region | apply wp_block | apply wp_skip | apply wp_exit | apply wp_ret | apply wp_label | apply wp_scope_straight | apply x_ng | apply x_ng_ret | apply x_ng_exit | apply x_then_ret | apply x_then_exit | apply x_block | apply x_block_ret | apply x_block_exit | refine x_block_other (by decide) ?_))
      refine ldb hB1 rfl rfl ?_
      repeat (first | ((with_reducible apply is_st); refine su ?_) | ((with_reducible apply is_gd); first | refine gt ?_ | refine gf ?_ | refine gu ?_) | ((with_reducible apply is_en); refine en ?_) | (with_reducible first | apply x_then | apply wp_seq | apply c_region | apply wp_block | apply wp_skip | apply wp_exit | apply wp_ret | apply wp_label | apply wp_scope_straight | apply x_ng | apply x_ng_ret | apply x_ng_exit | apply x_then_ret | apply x_then_exit | apply x_block | apply x_block_ret | apply x_block_exit | refine x_block_other (by decide) ?_))
      
      refine c_loop (fun k l w' => ∃ (i : Nat), (∃ jj : Nat → Value, l = [jj 0, .pointer (some ⟨b1, 0, none⟩), .pointer (some ⟨b2, 0, none⟩), .pointer (some ⟨b3, 0, none⟩), .int .i64 ((i : Int) - 1), jj 5, jj 6, jj 7, jj 8, jj 9, jj 10, jj 11, jj 12, jj 13, jj 14, jj 15, jj 16, jj 17, jj 18, jj 19, jj 20, jj 21, jj 22, jj 23, jj 24, jj 25, jj 26, jj 27, jj 28, jj 29, jj 30, jj 31, jj 32, jj 33, jj 34, jj 35, jj 36, jj 37]) ∧ k = i ∧ i + 1 ≤ ts.length ∧ Ch [] w w' ∧ Blk w' b1 [.int .i64 n, .slice A ts.length cap] 52 ∧ Blk w' b2 ((List.replicate 32 (0 : UInt8)).map u8v) 26 ∧ Blk w' b3 ((((ts.take (ts.length - 1)).drop i).foldr nodeH x5).1.map u8v) 26) (ts.length - 1)
        ⟨ts.length - 1, exj (by rw [show ((ts.length - 1 : Nat) : Int) - 1 = (ts.length : Int) - 2 by omega]; rfl), rfl, by omega, hc6, hB1, hB2, by rw [List.drop_of_length_le (by rw [List.length_take]; omega)]; exact hB3⟩ ?_
      rintro k l w7 ⟨i, ⟨jj, rfl⟩, rfl, hi1, hc7, hB1, hB2, hB3⟩
      generalize hfd : ((ts.take (ts.length - 1)).drop k).foldr nodeH x5 = hx at hB3
      have hz7 := hB3.lt
      repeat (first | ((with_reducible apply is_st); refine su ?_) | ((with_reducible apply is_gd); first | refine gt ?_ | refine gf ?_ | refine gu ?_) | ((with_reducible apply is_en); refine en ?_) | (with_reducible first | apply x_then | apply wp_seq | apply c_region | apply wp_block | apply wp_skip | apply wp_exit | apply wp_ret | apply wp_label | apply wp_scope_straight | apply x_ng | apply x_ng_ret | apply x_ng_exit | apply x_then_ret | apply x_then_exit | apply x_block | apply x_block_ret | apply x_block_exit | refine x_block_other (by decide) ?_))
      refine c_cond rfl (fun hi => ?_) (fun hi => ?_)
      · repeat (first | ((with_reducible apply is_st); refine su ?_) | ((with_reducible apply is_gd); first | refine gt ?_ | refine gf ?_ | refine gu ?_) | ((with_reducible apply is_en); refine en ?_) | (with_reducible first | apply x_then | apply wp_seq | apply c_region | apply wp_block | apply wp_skip | apply wp_exit | apply wp_ret | apply wp_label | apply wp_scope_straight | apply x_ng | apply x_ng_ret | apply x_ng_exit | apply x_then_ret | apply x_then_exit | apply x_block | apply x_block_ret | apply x_block_exit | refine x_block_other (by decide) ?_))
        refine c_drawl 7 [] (by kernel_rfl) (by kernel_rfl) (by kernel_rfl) (fun w8 hc8 hs8 => ?_)
        have hR8 := (hR.ch hc7).ch hc8
        repeat (first | ((with_reducible apply is_sg); refine sgu ?_) | ((with_reducible apply is_gg); first | refine gtg ?_ | refine gfg ?_ | refine gug ?_) | ((with_reducible apply is_eg); refine eg ?_))
        refine ldbg (hB1.ch hc8 (by simp)) (by simp) rfl rfl ?_
        repeat (first | ((with_reducible apply is_sg); refine sgu ?_) | ((with_reducible apply is_gg); first | refine gtg ?_ | refine gfg ?_ | refine gug ?_) | ((with_reducible apply is_eg); refine eg ?_))
        (try ((with_reducible apply is_gg); first | refine gtg ?_ | refine gfg ?_ | refine gug ?_)); refine ixg hR8 (fun b6 o6 x6 hx6 hA6 => ?_)
        rw [show ((k : Int) - 1).toNat = k - 1 by omega] at hx6
        (try ((with_reducible apply is_gg); first | refine gtg ?_ | refine gfg ?_ | refine gug ?_)); refine ldrg hA6 ?_
        refine ldbrg (n := 32) (hB3.ch hc8 (by simp)) (by simp) rfl (ds := hx.1.map u8v) (by simp [List.take_of_length_le, hx.2]) (by simp [hx.2]) ?_
        (try ((with_reducible apply is_gg); first | refine gtg ?_ | refine gfg ?_ | refine gug ?_)); refine cag (fun w9 hc9 => rnode_any x6.1 hx.1 x6.2 hx.2 w9) ?_
        refine lastg rfl (by kernel_rfl) (fun w9 hc9 => ?_)
        refine stbw (n := 32) ((hB3.ch hc8 (by simp)).ch hc9 (by simp)) rfl rfl (hv_len (nodeOf_len _ _)) (by simp [hx.2]) one_u8 (fun w10 hB10 hch10 hs10 => ?_)
        refine x_last rfl rfl (fun w11 hc11 => ?_)
        have hc711 : Ch [b3] w7 w11 := (((Ch.some hc8).add hc9).then hch10).add hc11
        repeat (first | ((with_reducible apply is_st); refine su ?_) | ((with_reducible apply is_gd); first | refine gt ?_ | refine gf ?_ | refine gu ?_) | ((with_reducible apply is_en); refine en ?_) | (with_reducible first | apply x_then | apply wp_seq | apply c_region | apply wp_block | apply wp_skip | apply wp_exit | apply wp_ret | apply wp_label | apply wp_scope_straight | apply x_ng | apply x_ng_ret | apply x_ng_exit | apply x_then_ret | apply x_then_exit | apply x_block | apply x_block_ret | apply x_block_exit | refine x_block_other (by decide) ?_))
        refine x_goes (k - 1) rfl (by omega) ⟨k - 1, exj (by rw [show ((k - 1 : Nat) : Int) - 1 = (k : Int) - 1 - 1 by omega]; rfl), rfl, by omega, hc7.own hc711 (by omega), hB1.ch hc711 (by simp; omega), hB2.ch hc711 (by simp; omega), ?_⟩
        rw [fold_step (k := ts.length - 1) (i := k - 1) (by omega) (by omega) hx6, show k - 1 + 1 = k by omega, hfd]
        exact hB10.ch hc11 (by simp)
      · repeat (first | ((with_reducible apply is_st); refine su ?_) | ((with_reducible apply is_gd); first | refine gt ?_ | refine gf ?_ | refine gu ?_) | ((with_reducible apply is_en); refine en ?_) | (with_reducible first | apply x_then | apply wp_seq | apply c_region | apply wp_block | apply wp_skip | apply wp_exit | apply wp_ret | apply wp_label | apply wp_scope_straight | apply x_ng | apply x_ng_ret | apply x_ng_exit | apply x_then_ret | apply x_then_exit | apply x_block | apply x_block_ret | apply x_block_exit | refine x_block_other (by decide) ?_))
        have hk0 : k = 0 := by omega
        subst hk0
        rw [List.drop_zero, topH_last hx5 (by omega)] at hfd
        subst hfd
        refine ldbr (n := 32) hB3 rfl (ds := (topH ts).1.map u8v) (by simp [List.take_of_length_le, (topH ts).2]) (by simp [(topH ts).2]) ?_
        refine stbw (n := 32) hB2 rfl rfl (hv_len (topH ts).2) (by simp) one_u8 (fun w10 hB10 hch10 hs10 => ?_)
        repeat (first | ((with_reducible apply is_st); refine su ?_) | ((with_reducible apply is_gd); first | refine gt ?_ | refine gf ?_ | refine gu ?_) | ((with_reducible apply is_en); refine en ?_) | (with_reducible first | apply x_then | apply wp_seq | apply c_region | apply wp_block | apply wp_skip | apply wp_exit | apply wp_ret | apply wp_label | apply wp_scope_straight | apply x_ng | apply x_ng_ret | apply x_ng_exit | apply x_then_ret | apply x_then_exit | apply x_block | apply x_block_ret | apply x_block_exit | refine x_block_other (by decide) ?_))
        exact outc rfl rfl (hB10.row (n := 32) (o := 0) (ds := (topH ts).1.map u8v) (by simp [List.take_of_length_le, (topH ts).2])) (by simp [(topH ts).2]) ⟨rfl, hc7.own hch10 (by omega)⟩
end Go.Proofs.YtbecfcnbgeeghaaDoor
set_option linter.unusedVariables false
set_option linter.unusedSimpArgs false
namespace Go.Proofs.E
open Go Go.RowKit
section
variable {P : Program} {ops : Array Oper} {Q : Exit → Act → World → Prop} {rest : List Oper} {l : List Value} {w : World} {op : Op} {T : TypeId} {pos : String} {after : Array Edge}
/-- append([]T{}, ys...). -/
theorem wl_append_e {α : Type} {en : En α} {n by_ : Nat} {d : Nat} {x y : Operand} {t e : TypeId} {z yv : Value} {S : List Nat} [hu : Und P t (.slice e)] [hi : Inf P e z n by_] (hm : en.n = n) (hz : z.cells.size = n)
    {base g : Nat} {ys : List α} (hx : ev l x = .slice (some ⟨g, 0, none⟩) 0 0) (hB : Blk w g [] e) (hbase : base ≤ g) (hy : ev l y = yv) (hR : (Ty.enc en).Rd S w yv ys) (hb : ys.length * by_ ≤ 140737488355328) (h63 : ys.length ≤ 281474976710656)
    (h : ∀ v' w', Own en w' base e v' ys → Ch [] w w' → wpList P ops Q rest (fr (l.set d v')) w') :
    wpList P ops Q ({ dst := some d, op := .call { callee := .builtin .append, args := #[x, y], argTypes := #[t, t] }, type := T, pos := pos, after := after, guard := none } :: rest) (fr l) w := by
  have hO : Own en w base e (.slice (some ⟨g, 0, none⟩) 0 0) ([] : List α) := ⟨by simp, .inr ⟨g, 0, #[], rfl, hbase, hB, Nat.le_refl _, by simp [maxLen], by simp, by simp⟩⟩
  by_cases hne : ys = []
  · subst hne
    obtain ⟨A, c, rfl⟩ := hR.form
    exact wl_append0 hx hO hy (h _ w hO (Ch.refl _ _))
  · obtain ⟨b, o, cap, rfl, hb1, hS, hrow⟩ := rowE hR hne
    exact wl_append_full (en := en) (xs := []) (S := []) hm hz hx (hO.rd (by simp) (by simp)) (fun _ => ⟨g, rfl⟩) (Nat.le_trans hbase (Nat.le_of_lt hB.lt)) hne hy hrow (by simpa using hb) (by simpa using h63) (fun v' w' k1 k2 _ => h v' w' (by simpa using k1) k2)
/-- x[:j:q] of a slice whose block is known. -/
theorem r_cut_own_hm {x y q : Operand} {t e : TypeId} {z : Value} {m by_ n c b o : Nat} {k k' : IntKind} {j i : Int} [hu : Und P t (.slice e)] [hi : Inf P e z m by_] (hx : ev l x = .slice (some ⟨b, o, none⟩) n c) (hy : ev l y = .int k j) (hq : ev l q = .int k' i) (h0 : 0 ≤ j) (h2 : j ≤ i) (h1 : i ≤ c) :
    (exec (ev l) (.slice t x none (some y) (some q)) T).run P w = .ok (.value (.slice (some ⟨b, o, none⟩) j.toNat i.toNat)) w := by
  have := run_cut (P := P) (w := w) (t := t) (e := e) (hu := hu) (hi := hi) (A := some ⟨b, o, none⟩) (bnd_hm (b := true) (n := n) (c := c) (k := k) (k' := k') h0 h2 h1)
  simp [exec, execOp, hx, hy, hq, this, Addr.add]
end
theorem rem2 {q : Nat} : (q : Int).tmod 2 = ((q % 2 : Nat) : Int) := by
  rw [Int.tmod_eq_emod_of_nonneg (by omega)]
  omega
theorem quo2 {q : Nat} (h : q < 2 ^ 62) : IntKind.i64.wrap ((q : Int).tdiv 2) = ((q / 2 : Nat) : Int) := by
  rw [Int.tdiv_eq_ediv_of_nonneg (by omega)]
  exact (wrap_i64 (by omega)).trans (by omega)
theorem Own.some_ {α : Type} {en : En α} {w : World} {base : Nat} {E : TypeId} {v : Value} {xs : List α} (h : Own en w base E v xs) (hne : xs ≠ []) : ∃ g cap cs, v = .slice (some ⟨g, 0, none⟩) xs.length cap ∧ base ≤ g ∧ xs.length ≤ cap ∧ Blk w g cs E ∧ cs.take (xs.length * en.n) = xs.flatMap en.f := by
  rcases h.2 with ⟨rfl, h0⟩ | ⟨g, cap, cur, rfl, hg, hh, hc1, hc2, hc3, hc4⟩
  · exact absurd (List.eq_nil_of_length_eq_zero h0) hne
  · exact ⟨g, cap, cur.toList, rfl, hg, hc1, by unfold Blk; rw [Array.toArray_toList]; exact hh, hc4⟩
end Go.Proofs.E
namespace Go.Proofs.YtbecfcnbgeeghaaDoor
open Go Go.RowKit Go.Proofs.E
attribute [local irreducible] Go.wpList Go.Code.wp Go.Proofs.E.exec Go.Proofs.E.wpLexG
theorem addH_step {ts : List Hs} {h a b : Hs} {i : Nat} (hi : i < ts.length) (ha : (addH i ts h)[ts.length - i - 1]? = some a) (hb : (addH i ts h)[ts.length - i]? = some b) : (addH i ts h).take (ts.length - i - 1) ++ [nodeH a b] = addH (i + 1) ts h := by
  unfold addH addG at *
  have hl : (ts.take (ts.length - i)).length = ts.length - i := by rw [List.length_take]; omega
  rw [List.getElem?_append_left (by omega), List.getElem?_take, if_pos (by omega)] at ha
  rw [List.getElem?_append_right (by omega), hl, Nat.sub_self, List.getElem?_cons_zero] at hb
  rw [← Option.some.inj hb, List.take_append_of_le_length (by omega), List.take_take, Nat.min_eq_left (by omega), show ts.length - (i + 1) = ts.length - i - 1 by omega]
  have hlt : ts.length - i - 1 < ts.length := by omega
  rw [List.getElem?_eq_getElem hlt] at ha
  conv => rhs; rw [List.drop_eq_getElem_cons hlt]
  rw [List.foldr_cons, Option.some.inj ha, show ts.length - i - 1 + 1 = ts.length - i by omega]
set_option maxHeartbeats 8000000 in
theorem radd_any (n : Int) (v : Value) (ts : List Hs) (h : Hs) (w : World) (hR : (Ty.enc eH).Rd [] w v ts) (hlen : ts.length ≤ 1000) :
    Calls Tryd.prog 42 #[pkV n v, hv h.1] w (Ret fun u w' => Ch [] w w' ∧
      ((okZ n ts.length = true ∧ ∃ v', u = .tuple #[pkV (n + 1) v', .bool true] ∧ ∀ S, (∀ x ∈ S, x < w.heap.size) → (Ty.enc eH).Rd S w' v' (addH (tones n.toNat) ts h)) ∨ (okZ n ts.length = false ∧ u = .tuple #[pkV n v, .bool false]))) := by
  refine enter [pkV n v, hv h.1, undef, undef, undef, undef, undef, undef, undef, undef, undef, undef, undef, undef, undef, undef, undef, undef, undef, undef, undef, undef, undef, undef, undef, undef, undef, undef, undef, undef, undef, undef, undef, undef, undef, undef, undef, undef, undef, undef, undef, undef, undef, undef, undef, undef, undef, undef, undef, undef, undef, undef, undef, undef, undef, undef] Tryd.func42 rfl rfl ?_
  obtain ⟨A, cap, rfl⟩ := hR.form
  repeat (first | ((with_reducible apply is_st); refine su ?_) | ((with_reducible apply is_gd); first | refine gt ?_ | refine gf ?_ | refine gu ?_) | ((with_reducible apply is_en); refine en ?_) | (with_reducible first | apply x_then | apply wp_seq | apply c_region | apply wp_block | apply wp_skip | apply wp_exit | apply wp_ret | apply wp_label | apply wp_scope_straight | apply x_ng | apply x_ng_ret | apply x_ng_exit | apply x_then_ret | apply x_then_exit | apply x_block | apply x_block_ret | apply x_block_exit | refine x_block_other (by decide) ?_))
  refine wl_box rfl (fun w1 b2 hb2 => ?_)
  repeat (first | ((with_reducible apply is_st); refine su ?_) | ((with_reducible apply is_gd); first | refine gt ?_ | refine gf ?_ | refine gu ?_) | ((with_reducible apply is_en); refine en ?_) | (with_reducible first | apply x_then | apply wp_seq | apply c_region | apply wp_block | apply wp_skip | apply wp_exit | apply wp_ret | apply wp_label | apply wp_scope_straight | apply x_ng | apply x_ng_ret | apply x_ng_exit | apply x_then_ret | apply x_then_exit | apply x_block | apply x_block_ret | apply x_block_exit | refine x_block_other (by decide) ?_))
  refine wl_box rfl (fun w2 b3 hb3 => ?_)
  repeat (first | ((with_reducible apply is_st); refine su ?_) | ((with_reducible apply is_gd); first | refine gt ?_ | refine gf ?_ | refine gu ?_) | ((with_reducible apply is_en); refine en ?_) | (with_reducible first | apply x_then | apply wp_seq | apply c_region | apply wp_block | apply wp_skip | apply wp_exit | apply wp_ret | apply wp_label | apply wp_scope_straight | apply x_ng | apply x_ng_ret | apply x_ng_exit | apply x_then_ret | apply x_then_exit | apply x_block | apply x_block_ret | apply x_block_exit | refine x_block_other (by decide) ?_))
  refine wl_alloc (fun w3 b4 hb4 => ?_)
  have hB4 : Blk w3 b4 [.int .i64 0, .slice none 0 0] 52 := hb4.blk
  have hB3 : Blk w3 b3 (h.1.map u8v) 26 := Blk.ch (show Blk w2 b3 (h.1.map u8v) 26 from hb3.blk) hb4.ch (by simp)
  have hB2 : Blk w3 b2 [.int .i64 n, .slice A ts.length cap] 52 := (Blk.ch (show Blk w1 b2 [.int .i64 n, .slice A ts.length cap] 52 from hb2.blk) hb3.ch (by simp)).ch hb4.ch (by simp)
  have e2 := hb2.at_
  have e3 := hb3.at_
  have e4 := hb4.at_
  have s2 := hb2.size
  have s3 := hb3.size
  have s4 := hb4.size
  have hc3 : Ch [] w w3 := (hb2.ch.then hb3.ch).then hb4.ch
  repeat (first | ((with_reducible apply is_st); refine su ?_) | ((with_reducible apply is_gd); first | refine gt ?_ | refine gf ?_ | refine gu ?_) | ((with_reducible apply is_en); refine en ?_) | (with_reducible first | apply x_then | apply wp_seq | apply c_region | apply wp_block | apply wp_skip | apply wp_exit | apply wp_ret | apply wp_label | apply wp_scope_straight | apply x_ng | apply x_ng_ret | apply x_ng_exit | apply x_then_ret | apply x_then_exit | apply x_block | apply x_block_ret | apply x_block_exit | refine x_block_other (by decide) ?_))
  refine ldbr (n := 2) hB2 rfl rfl rfl ?_
  repeat (first | ((with_reducible apply is_st); refine su ?_) | ((with_reducible apply is_gd); first | refine gt ?_ | refine gf ?_ | refine gu ?_) | ((with_reducible apply is_en); refine en ?_) | (with_reducible first | apply x_then | apply wp_seq | apply c_region | apply wp_block | apply wp_skip | apply wp_exit | apply wp_ret | apply wp_label | apply wp_scope_straight | apply x_ng | apply x_ng_ret | apply x_ng_exit | apply x_then_ret | apply x_then_exit | apply x_block | apply x_block_ret | apply x_block_exit | refine x_block_other (by decide) ?_))
  (try ((with_reducible apply is_gd); first | refine gt ?_ | refine gf ?_ | refine gu ?_)); refine ca (rgood_any n (.slice A ts.length cap) ts w3 (hR.ch hc3)) ?_
  rintro _ w4 ⟨rfl, hc4⟩
  have hB2 := hB2.ch hc4 (by simp)
  have hB3 := hB3.ch hc4 (by simp)
  have hB4 := hB4.ch hc4 (by simp)
  have hz34 := hc4.size
  have hc4 : Ch [] w w4 := hc3.then hc4
  have hz4 := hc4.size
  cases hg : goodZ n ts.length
  · repeat (first | ((with_reducible apply is_st); refine su ?_) | ((with_reducible apply is_gd); first | refine gt ?_ | refine gf ?_ | refine gu ?_) | ((with_reducible apply is_en); refine en ?_) | (with_reducible first | apply x_then | apply wp_seq | apply c_region | apply wp_block | apply wp_skip | apply wp_exit | apply wp_ret | apply wp_label | apply wp_scope_straight | apply x_ng | apply x_ng_ret | apply x_ng_exit | apply x_then_ret | apply x_then_exit | apply x_block | apply x_block_ret | apply x_block_exit | refine x_block_other (by decide) ?_))
    refine c_condb rfl (fun _ => ?_) (fun h => by cases h)
    repeat (first | ((with_reducible apply is_st); refine su ?_) | ((with_reducible apply is_gd); first | refine gt ?_ | refine gf ?_ | refine gu ?_) | ((with_reducible apply is_en); refine en ?_) | (with_reducible first | apply x_then | apply wp_seq | apply c_region | apply wp_block | apply wp_skip | apply wp_exit | apply wp_ret | apply wp_label | apply wp_scope_straight | apply x_ng | apply x_ng_ret | apply x_ng_exit | apply x_then_ret | apply x_then_exit | apply x_block | apply x_block_ret | apply x_block_exit | refine x_block_other (by decide) ?_))
    refine ldbr (n := 2) hB2 rfl rfl rfl ?_
    repeat (first | ((with_reducible apply is_st); refine su ?_) | ((with_reducible apply is_gd); first | refine gt ?_ | refine gf ?_ | refine gu ?_) | ((with_reducible apply is_en); refine en ?_) | (with_reducible first | apply x_then | apply wp_seq | apply c_region | apply wp_block | apply wp_skip | apply wp_exit | apply wp_ret | apply wp_label | apply wp_scope_straight | apply x_ng | apply x_ng_ret | apply x_ng_exit | apply x_then_ret | apply x_then_exit | apply x_block | apply x_block_ret | apply x_block_exit | refine x_block_other (by decide) ?_))
    refine stbw (n := 2) hB4 rfl rfl rfl rfl one_pk (fun w5 hB5 hch5 hs5 => ?_)
    repeat (first | ((with_reducible apply is_st); refine su ?_) | ((with_reducible apply is_gd); first | refine gt ?_ | refine gf ?_ | refine gu ?_) | ((with_reducible apply is_en); refine en ?_) | (with_reducible first | apply x_then | apply wp_seq | apply c_region | apply wp_block | apply wp_skip | apply wp_exit | apply wp_ret | apply wp_label | apply wp_scope_straight | apply x_ng | apply x_ng_ret | apply x_ng_exit | apply x_then_ret | apply x_then_exit | apply x_block | apply x_block_ret | apply x_block_exit | refine x_block_other (by decide) ?_))
    exact outc2 rfl rfl (hB5.row (n := 2) (o := 0) rfl) rfl ⟨hc4.own hch5 (by omega), .inr ⟨by simp [okZ, hg], rfl⟩⟩
  · obtain ⟨g1, g2, g3⟩ := goodZ_of hg
    obtain ⟨m, rfl⟩ := Int.eq_ofNat_of_zero_le g1
    rw [Int.toNat_natCast] at g3 ⊢
    repeat (first | ((with_reducible apply is_st); refine su ?_) | ((with_reducible apply is_gd); first | refine gt ?_ | refine gf ?_ | refine gu ?_) | ((with_reducible apply is_en); refine en ?_) | (with_reducible first | apply x_then | apply wp_seq | apply c_region | apply wp_block | apply wp_skip | apply wp_exit | apply wp_ret | apply wp_label | apply wp_scope_straight | apply x_ng | apply x_ng_ret | apply x_ng_exit | apply x_then_ret | apply x_then_exit | apply x_block | apply x_block_ret | apply x_block_exit | refine x_block_other (by decide) ?_))
    refine ldb hB2 rfl rfl ?_
    by_cases hmax : (m : Int) = 1099511627776
    · repeat (first | ((with_reducible apply is_st); refine su ?_) | ((with_reducible apply is_gd); first | refine gt ?_ | refine gf ?_ | refine gu ?_) | ((with_reducible apply is_en); refine en ?_) | (with_reducible first | apply x_then | apply wp_seq | apply c_region | apply wp_block | apply wp_skip | apply wp_exit | apply wp_ret | apply wp_label | apply wp_scope_straight | apply x_ng | apply x_ng_ret | apply x_ng_exit | apply x_then_ret | apply x_then_exit | apply x_block | apply x_block_ret | apply x_block_exit | refine x_block_other (by decide) ?_))
      refine c_condb rfl (fun _ => ?_) (fun h => absurd hmax (of_decide_eq_false h))
      repeat (first | ((with_reducible apply is_st); refine su ?_) | ((with_reducible apply is_gd); first | refine gt ?_ | refine gf ?_ | refine gu ?_) | ((with_reducible apply is_en); refine en ?_) | (with_reducible first | apply x_then | apply wp_seq | apply c_region | apply wp_block | apply wp_skip | apply wp_exit | apply wp_ret | apply wp_label | apply wp_scope_straight | apply x_ng | apply x_ng_ret | apply x_ng_exit | apply x_then_ret | apply x_then_exit | apply x_block | apply x_block_ret | apply x_block_exit | refine x_block_other (by decide) ?_))
      refine ldbr (n := 2) hB2 rfl rfl rfl ?_
      repeat (first | ((with_reducible apply is_st); refine su ?_) | ((with_reducible apply is_gd); first | refine gt ?_ | refine gf ?_ | refine gu ?_) | ((with_reducible apply is_en); refine en ?_) | (with_reducible first | apply x_then | apply wp_seq | apply c_region | apply wp_block | apply wp_skip | apply wp_exit | apply wp_ret | apply wp_label | apply wp_scope_straight | apply x_ng | apply x_ng_ret | apply x_ng_exit | apply x_then_ret | apply x_then_exit | apply x_block | apply x_block_ret | apply x_block_exit | refine x_block_other (by decide) ?_))
      refine stbw (n := 2) hB4 rfl rfl rfl rfl one_pk (fun w5 hB5 hch5 hs5 => ?_)
      repeat (first | ((with_reducible apply is_st); refine su ?_) | ((with_reducible apply is_gd); first | refine gt ?_ | refine gf ?_ | refine gu ?_) | ((with_reducible apply is_en); refine en ?_) | (with_reducible first | apply x_then | apply wp_seq | apply c_region | apply wp_block | apply wp_skip | apply wp_exit | apply wp_ret | apply wp_label | apply wp_scope_straight | apply x_ng | apply x_ng_ret | apply x_ng_exit | apply x_then_ret | apply x_then_exit | apply x_block | apply x_block_ret | apply x_block_exit | refine x_block_other (by decide) ?_))
      exact outc2 rfl rfl (hB5.row (n := 2) (o := 0) rfl) rfl ⟨hc4.own hch5 (by omega), .inr ⟨by simp [okZ, hmax], rfl⟩⟩
    · have hok : okZ (m : Int) ts.length = true := by unfold okZ; rw [hg, decide_eq_false hmax]; rfl
      have htl := (tones_le (n := m) (by omega)).1
      repeat (first | ((with_reducible apply is_st); refine su ?_) | ((with_reducible apply is_gd); first | refine gt ?_ | refine gf ?_ | refine gu ?_) | ((with_reducible apply is_en); refine en ?_) | (with_reducible first | apply x_then | apply wp_seq | apply c_region | apply wp_block | apply wp_skip | apply wp_exit | apply wp_ret | apply wp_label | apply wp_scope_straight | apply x_ng | apply x_ng_ret | apply x_ng_exit | apply x_then_ret | apply x_then_exit | apply x_block | apply x_block_ret | apply x_block_exit | refine x_block_other (by decide) ?_))
      refine c_condb rfl (fun h => absurd (of_decide_eq_true h) hmax) (fun _ => ?_)
      repeat (first | ((with_reducible apply is_st); refine su ?_) | ((with_reducible apply is_gd); first | refine gt ?_ | refine gf ?_ | refine gu ?_) | ((with_reducible apply is_en); refine en ?_) | (with_reducible first | apply x_then | apply wp_seq | apply c_region | apply wp_block | apply wp_skip | apply wp_exit | apply wp_ret | apply wp_label | apply wp_scope_straight | apply x_ng | apply x_ng_ret | apply x_ng_exit | apply x_then_ret | apply x_then_exit | apply x_block | apply x_block_ret | apply x_block_exit | refine x_block_other (by decide) ?_))
      
      refine Code.wp_mono (Q := fun e a w' => e = .normal ∧ ∃ (l : List Value) (v2 : Value), a = fr l ∧ (∃ jj : Nat → Value, l = [jj 0, jj 1, .pointer (some ⟨b2, 0, none⟩), .pointer (some ⟨b3, 0, none⟩), .pointer (some ⟨b4, 0, none⟩), jj 5, v2, jj 7, jj 8, jj 9, jj 10, jj 11, jj 12, jj 13, jj 14, jj 15, jj 16, jj 17, jj 18, jj 19, jj 20, jj 21, jj 22, jj 23, jj 24, jj 25, jj 26, jj 27, jj 28, jj 29, jj 30, jj 31, jj 32, jj 33, jj 34, jj 35, jj 36, jj 37, jj 38, jj 39, jj 40, jj 41, jj 42, jj 43, jj 44, jj 45, jj 46, jj 47, jj 48, jj 49, jj 50, jj 51, jj 52, jj 53, jj 54, jj 55]) ∧ Ch [] w4 w' ∧ Own eH w' w4.heap.size 26 v2 (ts ++ [h])) ?_ ?_
      rotate_left
      · refine c_ordl 6 [] Tru (by kernel_rfl) (by kernel_rfl) (by kernel_rfl) (fun w5 hc5 hs5 => ?_)
        have hB2' := hB2.ch hc5 (by simp)
        have hB3' := hB3.ch hc5 (by simp)
        have hc05 : Ch [] w4 w5 := hc5
        (first | refine on 1 rfl ?_ | refine ont 1 rfl ?_ | refine onff 1 rfl ?_)
        refine onl 2 rfl hB2' (by simp) rfl rfl ?_
        refine onlr 4 rfl (n := 32) hB3' (by simp) rfl (ds := h.1.map u8v) (by simp [List.take_of_length_le, h.2]) (by simp [h.2]) ?_
        refine on2 0 5 (by kernel_rfl) rfl rfl (fun w6 hG6 => ?_) (fun w6 hG6 => ?_)
        · refine wl_buildSlice (parts := []) (vs := []) rfl rfl (by simp) (by omega) (fun w7 ba hba0 => ?_)
          refine x_wa (.inl (Gr.new stab_tru hba0.ch)) rfl ?_
          have hc7 : Ch [] w4 w7 := (hc05.then hG6.ch).then hba0.ch
          have hle : w4.heap.size ≤ ba := by rw [hba0.at_]; exact (hc05.then hG6.ch).size
          refine on2 3 5 (by kernel_rfl) rfl rfl (fun w8 hG8 => ?_) (fun w8 hG8 => ?_)
          · refine wl_append_e (en := eH) (n := 32) (base := w4.heap.size) rfl rfl rfl (Blk.ch (show Blk w7 ba [] 26 from hba0.blk) hG8.ch (by simp)) hle rfl ((hR.ch hc4).ch (hc7.then hG8.ch)) (by omega) (by omega) (fun vv w9 hO0 hch0 => ?_)
            refine x_wa (.inl (Gr.new stab_tru hch0)) rfl ?_
            have hc9 : Ch [] w4 w9 := (hc7.then hG8.ch).then hch0
            refine on1 5 (by kernel_rfl) rfl (fun w10 hG10 => ?_)
            refine wl_buildSlice (parts := [(0, .tmp 22)]) (vs := [hv h.1]) rfl rfl (by simp [hv, Value.cells, h.2]) (by omega) (fun w11 bs hbs0 => ?_)
            refine x_wa (.inl (Gr.new stab_tru hbs0.ch)) rfl ?_
            have hcX : Ch [] w4 w11 := (hc9.then hG10.ch).then hbs0.ch
            have hO := hO0.ch (hG10.ch.then hbs0.ch) (by simp)
            have hbs := hbs0.blk
            refine on1 6 (by kernel_rfl) rfl (fun wa hGa => ?_)
            have hOa := hO.ch hGa.ch (by simp)
            have hBa := hbs.ch hGa.ch (by simp)
            have hlo : ∀ x, x ∈ vv.ownBlock.toList → w4.heap.size ≤ x := fun x hx => (hOa.lt (by simpa using hx)).1
            refine wl_append (en := eH) (n := 32) (ys := [h]) rfl rfl (by decide) rfl hOa (Nat.le_trans hcX.size hGa.ch.size) rfl (hBa.row (n := 32) (o := 0) (ds := [h].flatMap eH.f) (by simp [hv, Value.cells, List.take_of_length_le, h.2])) (by simp; omega) (by simp; omega) (fun v2 wb hOb hchb hatb => ?_)
            have hcb : Ch [] w4 wb := (hcX.then hGa.ch).trans hchb (by simp) (fun x hx hm => by have := hlo x hm; omega)
            refine x_wa (.inr rfl) rfl ?_
            (first | refine on 7 rfl ?_ | refine ont 7 rfl ?_ | refine onff 7 rfl ?_)
            exact wa_done (by kernel_rfl) (fun wc hGc => ⟨rfl, _, v2, rfl, exj rfl, hcb.then hGc.ch, hOb.ch hGc.ch (by simp)⟩)
          · refine wl_buildSlice (parts := [(0, .tmp 22)]) (vs := [hv h.1]) rfl rfl (by simp [hv, Value.cells, h.2]) (by omega) (fun w9 bs hbs0 => ?_)
            refine x_wa (.inl (Gr.new stab_tru hbs0.ch)) rfl ?_
            have hc9 : Ch [] w4 w9 := (hc7.then hG8.ch).then hbs0.ch
            refine on1 3 (by kernel_rfl) rfl (fun w10 hG10 => ?_)
            refine wl_append_e (en := eH) (n := 32) (base := w4.heap.size) rfl rfl rfl (((Blk.ch (show Blk w7 ba [] 26 from hba0.blk) hG8.ch (by simp)).ch hbs0.ch (by simp)).ch hG10.ch (by simp)) hle rfl ((hR.ch hc4).ch (hc9.then hG10.ch)) (by omega) (by omega) (fun vv w11 hO0 hch0 => ?_)
            refine x_wa (.inl (Gr.new stab_tru hch0)) rfl ?_
            have hcX : Ch [] w4 w11 := (hc9.then hG10.ch).then hch0
            have hO := hO0
            have hbs := hbs0.blk.ch (hG10.ch.then hch0) (by simp)
            refine on1 6 (by kernel_rfl) rfl (fun wa hGa => ?_)
            have hOa := hO.ch hGa.ch (by simp)
            have hBa := hbs.ch hGa.ch (by simp)
            have hlo : ∀ x, x ∈ vv.ownBlock.toList → w4.heap.size ≤ x := fun x hx => (hOa.lt (by simpa using hx)).1
            refine wl_append (en := eH) (n := 32) (ys := [h]) rfl rfl (by decide) rfl hOa (Nat.le_trans hcX.size hGa.ch.size) rfl (hBa.row (n := 32) (o := 0) (ds := [h].flatMap eH.f) (by simp [hv, Value.cells, List.take_of_length_le, h.2])) (by simp; omega) (by simp; omega) (fun v2 wb hOb hchb hatb => ?_)
            have hcb : Ch [] w4 wb := (hcX.then hGa.ch).trans hchb (by simp) (fun x hx hm => by have := hlo x hm; omega)
            refine x_wa (.inr rfl) rfl ?_
            (first | refine on 7 rfl ?_ | refine ont 7 rfl ?_ | refine onff 7 rfl ?_)
            exact wa_done (by kernel_rfl) (fun wc hGc => ⟨rfl, _, v2, rfl, exj rfl, hcb.then hGc.ch, hOb.ch hGc.ch (by simp)⟩)
        · refine wl_buildSlice (parts := [(0, .tmp 22)]) (vs := [hv h.1]) rfl rfl (by simp [hv, Value.cells, h.2]) (by omega) (fun w7 bs hbs0 => ?_)
          refine x_wa (.inl (Gr.new stab_tru hbs0.ch)) rfl ?_
          have hc7 : Ch [] w4 w7 := (hc05.then hG6.ch).then hbs0.ch
          refine on1 0 (by kernel_rfl) rfl (fun w8 hG8 => ?_)
          refine wl_buildSlice (parts := []) (vs := []) rfl rfl (by simp) (by omega) (fun w9 ba hba0 => ?_)
          refine x_wa (.inl (Gr.new stab_tru hba0.ch)) rfl ?_
          have hc9 : Ch [] w4 w9 := (hc7.then hG8.ch).then hba0.ch
          have hle : w4.heap.size ≤ ba := by rw [hba0.at_]; exact (hc7.then hG8.ch).size
          refine on1 3 (by kernel_rfl) rfl (fun w10 hG10 => ?_)
          refine wl_append_e (en := eH) (n := 32) (base := w4.heap.size) rfl rfl rfl (Blk.ch (show Blk w9 ba [] 26 from hba0.blk) hG10.ch (by simp)) hle rfl ((hR.ch hc4).ch (hc9.then hG10.ch)) (by omega) (by omega) (fun vv w11 hO0 hch0 => ?_)
          refine x_wa (.inl (Gr.new stab_tru hch0)) rfl ?_
          have hcX : Ch [] w4 w11 := (hc9.then hG10.ch).then hch0
          have hO := hO0
          have hbs := hbs0.blk.ch (((hG8.ch.then hba0.ch).then hG10.ch).then hch0) (by simp)
          refine on1 6 (by kernel_rfl) rfl (fun wa hGa => ?_)
          have hOa := hO.ch hGa.ch (by simp)
          have hBa := hbs.ch hGa.ch (by simp)
          have hlo : ∀ x, x ∈ vv.ownBlock.toList → w4.heap.size ≤ x := fun x hx => (hOa.lt (by simpa using hx)).1
          refine wl_append (en := eH) (n := 32) (ys := [h]) rfl rfl (by decide) rfl hOa (Nat.le_trans hcX.size hGa.ch.size) rfl (hBa.row (n := 32) (o := 0) (ds := [h].flatMap eH.f) (by simp [hv, Value.cells, List.take_of_length_le, h.2])) (by simp; omega) (by simp; omega) (fun v2 wb hOb hchb hatb => ?_)
          have hcb : Ch [] w4 wb := (hcX.then hGa.ch).trans hchb (by simp) (fun x hx hm => by have := hlo x hm; omega)
          refine x_wa (.inr rfl) rfl ?_
          (first | refine on 7 rfl ?_ | refine ont 7 rfl ?_ | refine onff 7 rfl ?_)
          exact wa_done (by kernel_rfl) (fun wc hGc => ⟨rfl, _, v2, rfl, exj rfl, hcb.then hGc.ch, hOb.ch hGc.ch (by simp)⟩)
      have hB20 := hB2
      have hB40 := hB4
      rintro e a w5 ⟨rfl, l, v2, rfl, ⟨jj, rfl⟩, hc5, hO⟩
      have hB2 := hB2.ch hc5 (by simp)
      have hB4 := hB4.ch hc5 (by simp)
      repeat (first | ((with_reducible apply is_st); refine su ?_) | ((with_reducible apply is_gd); first | refine gt ?_ | refine gf ?_ | refine gu ?_) | ((with_reducible apply is_en); refine en ?_) | (with_reducible first | apply x_then | apply wp_seq | apply c_region | apply wp_block | apply wp_skip | apply wp_exit | apply wp_ret | apply wp_label | apply wp_scope_straight | apply x_ng | apply x_ng_ret | apply x_ng_exit | apply x_then_ret | apply x_then_exit | apply x_block | apply x_block_ret | apply x_block_exit | refine x_block_other (by decide) ?_))
      refine ldb hB2 rfl rfl ?_
      repeat (first | ((with_reducible apply is_st); refine su ?_) | ((with_reducible apply is_gd); first | refine gt ?_ | refine gf ?_ | refine gu ?_) | ((with_reducible apply is_en); refine en ?_) | (with_reducible first | apply x_then | apply wp_seq | apply c_region | apply wp_block | apply wp_skip | apply wp_exit | apply wp_ret | apply wp_label | apply wp_scope_straight | apply x_ng | apply x_ng_ret | apply x_ng_exit | apply x_then_ret | apply x_then_exit | apply x_block | apply x_block_ret | apply x_block_exit | refine x_block_other (by decide) ?_))
      
      refine c_loop (fun k l w' => ∃ (i q : Nat) (vl : Value), (∃ jj : Nat → Value, l = [jj 0, jj 1, .pointer (some ⟨b2, 0, none⟩), .pointer (some ⟨b3, 0, none⟩), .pointer (some ⟨b4, 0, none⟩), jj 5, vl, .int .i64 (q : Int), jj 8, jj 9, jj 10, jj 11, jj 12, jj 13, jj 14, jj 15, jj 16, jj 17, jj 18, jj 19, jj 20, jj 21, jj 22, jj 23, jj 24, jj 25, jj 26, jj 27, jj 28, jj 29, jj 30, jj 31, jj 32, jj 33, jj 34, jj 35, jj 36, jj 37, jj 38, jj 39, jj 40, jj 41, jj 42, jj 43, jj 44, jj 45, jj 46, jj 47, jj 48, jj 49, jj 50, jj 51, jj 52, jj 53, jj 54, jj 55]) ∧ k = tones q ∧ tones m = i + tones q ∧ q < 2 ^ 62 ∧ Ch [] w4 w' ∧ Own eH w' w4.heap.size 26 vl (addH i ts h)) (tones m)
        ⟨0, m, _, exj rfl, rfl, by omega, by omega, hc5, by unfold addH addG; rw [Nat.sub_zero, List.take_length, List.drop_length]; exact hO⟩ ?_
      rintro k l w6 ⟨i, q, vl, ⟨jj, rfl⟩, rfl, hmi, hq, hc6, hO⟩
      have hal : (addH i ts h).length = ts.length - i + 1 := addG_len
      obtain ⟨g, cp, cells, rfl, hgb, hcp, hBg, hgt⟩ := hO.some_ (fun e => by rw [e] at hal; simp at hal)
      repeat (first | ((with_reducible apply is_st); refine su ?_) | ((with_reducible apply is_gd); first | refine gt ?_ | refine gf ?_ | refine gu ?_) | ((with_reducible apply is_en); refine en ?_) | (with_reducible first | apply x_then | apply wp_seq | apply c_region | apply wp_block | apply wp_skip | apply wp_exit | apply wp_ret | apply wp_label | apply wp_scope_straight | apply x_ng | apply x_ng_ret | apply x_ng_exit | apply x_then_ret | apply x_then_exit | apply x_block | apply x_block_ret | apply x_block_exit | refine x_block_other (by decide) ?_))
      rw [rem2]
      refine c_cond rfl (fun ho => ?_) (fun ho => ?_)
      · have hto := tones_odd hq (by omega)
        repeat (first | ((with_reducible apply is_st); refine su ?_) | ((with_reducible apply is_gd); first | refine gt ?_ | refine gf ?_ | refine gu ?_) | ((with_reducible apply is_en); refine en ?_) | (with_reducible first | apply x_then | apply wp_seq | apply c_region | apply wp_block | apply wp_skip | apply wp_exit | apply wp_ret | apply wp_label | apply wp_scope_straight | apply x_ng | apply x_ng_ret | apply x_ng_exit | apply x_then_ret | apply x_then_exit | apply x_block | apply x_block_ret | apply x_block_exit | refine x_block_other (by decide) ?_))
        refine c_drawl 15 [] (by kernel_rfl) (by kernel_rfl) (by kernel_rfl) (fun w8 hc8 hs8 => ?_)
        have hRd : (Ty.enc eH).Rd [] w8 (.slice (some ⟨g, 0, none⟩) (addH i ts h).length cp) (addH i ts h) := (hO.rd (S := []) (by simp) (by omega)).ch hc8
        repeat (first | ((with_reducible apply is_sg); refine sgu ?_) | ((with_reducible apply is_gg); first | refine gtg ?_ | refine gfg ?_ | refine gug ?_) | ((with_reducible apply is_eg); refine eg ?_))
        refine wg_val (fun _ _ => r_cut_own_hm rfl rfl rfl (by omega) (by omega) (by omega)) ?_
        repeat (first | ((with_reducible apply is_sg); refine sgu ?_) | ((with_reducible apply is_gg); first | refine gtg ?_ | refine gfg ?_ | refine gug ?_) | ((with_reducible apply is_eg); refine eg ?_))
        (try ((with_reducible apply is_gg); first | refine gtg ?_ | refine gfg ?_ | refine gug ?_)); refine ixg hRd (fun b1 o1 x1 hx1 hA1 => ?_)
        (try ((with_reducible apply is_gg); first | refine gtg ?_ | refine gfg ?_ | refine gug ?_)); refine ldrg hA1 ?_
        repeat (first | ((with_reducible apply is_sg); refine sgu ?_) | ((with_reducible apply is_gg); first | refine gtg ?_ | refine gfg ?_ | refine gug ?_) | ((with_reducible apply is_eg); refine eg ?_))
        (try ((with_reducible apply is_gg); first | refine gtg ?_ | refine gfg ?_ | refine gug ?_)); refine ixg hRd (fun b2' o2 x2 hx2 hA2 => ?_)
        (try ((with_reducible apply is_gg); first | refine gtg ?_ | refine gfg ?_ | refine gug ?_)); refine ldrg hA2 ?_
        (try ((with_reducible apply is_gg); first | refine gtg ?_ | refine gfg ?_ | refine gug ?_)); refine cag (fun w9 hc9 => rnode_any x1.1 x2.1 x1.2 x2.2 w9) ?_
        refine lastg rfl (by kernel_rfl) (fun w9 hc9 => ?_)
        refine wl_buildSlice (parts := [(0, .tmp 48)]) (vs := [hv (nodeH x1 x2).1]) rfl rfl (by simp [hv, Value.cells, (nodeH x1 x2).2]) (by omega) (fun w10 bs hbs => ?_)
        refine x_mid rfl hbs.ch ?_
        refine lastg rfl (by kernel_rfl) (fun w11 hc11 => ?_)
        have hi1 : i + 1 ≤ ts.length := by omega
        rw [show (((addH i ts h).length : Int) - 2).toNat = ts.length - i - 1 by omega] at hx1
        rw [show (((addH i ts h).length : Int) - 2 + 1).toNat = ts.length - i by omega] at hx2
        have hstep := addH_step (by omega) hx1 hx2
        have hc811 : Ch [] w6 w11 := ((hc8.then hc9).then hbs.ch).then hc11
        have hcl : ((addH i ts h).take (ts.length - i - 1)).length = ts.length - i - 1 := by rw [List.length_take]; omega
        have hcut : (Ty.enc eH).Rd [] w11 (.slice (some ⟨g, 0, none⟩) (ts.length - i - 1) (ts.length - i - 1)) ((addH i ts h).take (ts.length - i - 1)) := by
          refine (hBg.ch hc811 (by simp)).rdP (by simp) ?_ hcl (Nat.le_refl _) (by omega)
          have h1 : cells.take ((addH i ts h).length * 32) = (addH i ts h).flatMap eH.f := hgt
          rw [← flatMap_take eH.hl, ← h1, List.take_take, Nat.min_eq_left (Nat.mul_le_mul_right 32 (by omega))]
        rw [show (((addH i ts h).length : Int) - 2).toNat = ts.length - i - 1 by omega]
        refine wl_append_full (en := eH) (n := 32) (S := []) (xs := (addH i ts h).take (ts.length - i - 1)) (ys := [nodeH x1 x2]) rfl rfl (by rw [hcl]; rfl) (by rw [hcl]; exact hcut) (fun _ => ⟨g, rfl⟩) (Nat.le_trans hc6.size hc811.size) (by simp) rfl ((hbs.blk.ch hc11 (by simp)).row (n := 32) (o := 0) (ds := [nodeH x1 x2].flatMap eH.f) (by simp [hv, Value.cells, List.take_of_length_le, (nodeH x1 x2).2])) (by rw [hcl]; simp; omega) (by rw [hcl]; simp; omega) (fun v3 w12 hO3 hch12 _ => ?_)
        refine x_late rfl rfl ?_
        repeat (first | ((with_reducible apply is_sg); refine sgu ?_) | ((with_reducible apply is_gg); first | refine gtg ?_ | refine gfg ?_ | refine gug ?_) | ((with_reducible apply is_eg); refine eg ?_))
        intro w13 hc13
        repeat (first | ((with_reducible apply is_st); refine su ?_) | ((with_reducible apply is_gd); first | refine gt ?_ | refine gf ?_ | refine gu ?_) | ((with_reducible apply is_en); refine en ?_) | (with_reducible first | apply x_then | apply wp_seq | apply c_region | apply wp_block | apply wp_skip | apply wp_exit | apply wp_ret | apply wp_label | apply wp_scope_straight | apply x_ng | apply x_ng_ret | apply x_ng_exit | apply x_then_ret | apply x_then_exit | apply x_block | apply x_block_ret | apply x_block_exit | refine x_block_other (by decide) ?_))
        rw [quo2 hq]
        refine x_goes (tones (q / 2)) rfl (by omega) ⟨i + 1, q / 2, v3, exj rfl, rfl, by omega, by omega, ((hc6.then hc811).then hch12).then hc13, ?_⟩
        rw [← hstep]
        exact hO3.ch hc13 (by simp)
      · have hte := tones_even (n := q) (by omega)
        have hit : i = tones m := by omega
        have hB2 := hB20.ch hc6 (by simp)
        have hB4 := hB40.ch hc6 (by simp)
        repeat (first | ((with_reducible apply is_st); refine su ?_) | ((with_reducible apply is_gd); first | refine gt ?_ | refine gf ?_ | refine gu ?_) | ((with_reducible apply is_en); refine en ?_) | (with_reducible first | apply x_then | apply wp_seq | apply c_region | apply wp_block | apply wp_skip | apply wp_exit | apply wp_ret | apply wp_label | apply wp_scope_straight | apply x_ng | apply x_ng_ret | apply x_ng_exit | apply x_then_ret | apply x_then_exit | apply x_block | apply x_block_ret | apply x_block_exit | refine x_block_other (by decide) ?_))
        refine ldb hB2 rfl rfl ?_
        repeat (first | ((with_reducible apply is_st); refine su ?_) | ((with_reducible apply is_gd); first | refine gt ?_ | refine gf ?_ | refine gu ?_) | ((with_reducible apply is_en); refine en ?_) | (with_reducible first | apply x_then | apply wp_seq | apply c_region | apply wp_block | apply wp_skip | apply wp_exit | apply wp_ret | apply wp_label | apply wp_scope_straight | apply x_ng | apply x_ng_ret | apply x_ng_exit | apply x_then_ret | apply x_then_exit | apply x_block | apply x_block_ret | apply x_block_exit | refine x_block_other (by decide) ?_))
        (try ((with_reducible apply is_gd); first | refine gt ?_ | refine gf ?_ | refine gu ?_)); refine wl_val (r_build2 Tryd.underlying52 rfl rfl rfl rfl rfl rfl rfl rfl rfl rfl) ?_
        refine stbw (n := 2) (vs := [.int .i64 ((m : Int) + 1), .slice (some ⟨g, 0, none⟩) (addH i ts h).length cp]) hB4 rfl rfl rfl rfl one_pk (fun w7 hB7 hch7 hs7 => ?_)
        repeat (first | ((with_reducible apply is_st); refine su ?_) | ((with_reducible apply is_gd); first | refine gt ?_ | refine gf ?_ | refine gu ?_) | ((with_reducible apply is_en); refine en ?_) | (with_reducible first | apply x_then | apply wp_seq | apply c_region | apply wp_block | apply wp_skip | apply wp_exit | apply wp_ret | apply wp_label | apply wp_scope_straight | apply x_ng | apply x_ng_ret | apply x_ng_exit | apply x_then_ret | apply x_then_exit | apply x_block | apply x_block_ret | apply x_block_exit | refine x_block_other (by decide) ?_))
        refine outc2 rfl rfl (hB7.row (n := 2) (o := 0) rfl) rfl ⟨(hc4.then hc6).own hch7 (by omega), .inl ⟨hok, _, rfl, fun S hS => ?_⟩⟩
        rw [← hit]
        have hr := hO.rd (S := b4 :: S) (fun k hk => by
          simp only [Value.ownBlock, Option.some.injEq] at hk
          intro hm
          rcases List.mem_cons.1 hm with hm | hm
          · omega
          · have := hS _ hm
            omega) (by omega)
        exact (hr.ch (hch7.mono (fun x _ hm => by simp at hm; simp [hm]))).mv (Ch.refl S w7) (fun k _ h => List.mem_cons_of_mem _ h)
end Go.Proofs.YtbecfcnbgeeghaaDoor
set_option linter.unusedVariables false
set_option linter.unusedSimpArgs false
namespace Go.Proofs.YtbecfcnbgeeghaaDoor
open Go Go.RowKit Go.Proofs.E
attribute [local irreducible] Go.wpList Go.Code.wp Go.Proofs.E.exec Go.Proofs.E.wpLexG
theorem popN_small {n : Nat} (h : n ≤ 60) : okZ (n : Int) (popN n) = true := by
  unfold okZ goodZ
  rw [Int.toNat_natCast, decide_eq_true (by omega : (0 : Int) ≤ (n : Int)), decide_eq_true (by omega : (n : Int) ≤ 1099511627776), decide_eq_false (by omega : ¬ (n : Int) = 1099511627776), decide_eq_true rfl]
  rfl
theorem pkH_step {lv : List Hs} {i : Nat} {x : Hs} (hx : lv[i]? = some x) (h : lv.length ≤ 60) : addH (tones i) (pkH (lv.take i)) x = pkH (lv.take (i + 1)) := by
  have hi := (List.getElem?_eq_some_iff.1 hx).1
  have hl : (lv.take i).length = i := by rw [List.length_take]; omega
  have := add_pk (nd := nodeH) (em := emptyH) i (lv.take i) x hl (by omega)
  rw [hl] at this
  unfold addH pkH
  rw [this, List.take_add_one, hx]
  rfl
theorem pkH_len (l : List Hs) : (pkH l).length = popN l.length := pkG_len l
set_option maxHeartbeats 8000000 in
theorem pof_any (v : Value) (lv : List Hs) (w : World) (hK : Laid w) (hL : LaidB w) (hR : (Ty.enc eH).Rd [] w v lv) (hlen : lv.length ≤ 60) :
    Calls Tryd.prog 49 #[v] w (Ret fun u w' => Ch [] w w' ∧ ∃ v', u = pkV (lv.length : Int) v' ∧ ∀ S, (∀ x ∈ S, x < w.heap.size) → (Ty.enc eH).Rd S w' v' (pkH lv)) := by
  refine enter [v, undef, undef, undef, undef, undef, undef, undef, undef, undef, undef, undef, undef, undef, undef, undef, undef, undef, undef, undef] Tryd.func49 rfl rfl ?_
  obtain ⟨A, cap, rfl⟩ := hR.form
  repeat (first | ((with_reducible apply is_st); refine su ?_) | ((with_reducible apply is_gd); first | refine gt ?_ | refine gf ?_ | refine gu ?_) | ((with_reducible apply is_en); refine en ?_) | (with_reducible first | apply x_then | apply wp_seq | apply c_region | apply wp_block | apply wp_skip | apply wp_exit | apply wp_ret | apply wp_label | apply wp_scope_straight | apply x_ng | apply x_ng_ret | apply x_ng_exit | apply x_then_ret | apply x_then_exit | apply x_block | apply x_block_ret | apply x_block_exit | refine x_block_other (by decide) ?_))
  refine wl_alloc (fun w1 b1 hb1 => ?_)
  repeat (first | ((with_reducible apply is_st); refine su ?_) | ((with_reducible apply is_gd); first | refine gt ?_ | refine gf ?_ | refine gu ?_) | ((with_reducible apply is_en); refine en ?_) | (with_reducible first | apply x_then | apply wp_seq | apply c_region | apply wp_block | apply wp_skip | apply wp_exit | apply wp_ret | apply wp_label | apply wp_scope_straight | apply x_ng | apply x_ng_ret | apply x_ng_exit | apply x_then_ret | apply x_then_exit | apply x_block | apply x_block_ret | apply x_block_exit | refine x_block_other (by decide) ?_))
  refine wl_alloc (fun w2 b2 hb2 => ?_)
  have hB2 : Blk w2 b2 [.int .i64 0, .slice none 0 0] 51 := hb2.blk
  have hB1 : Blk w2 b1 [.int .i64 0, .slice none 0 0] 51 := Blk.ch (show Blk w1 b1 [.int .i64 0, .slice none 0 0] 51 from hb1.blk) hb2.ch (by simp)
  have e1 := hb1.at_
  have e2 := hb2.at_
  have s1 := hb1.size
  have s2 := hb2.size
  have hc2 : Ch [] w w2 := hb1.ch.then hb2.ch
  repeat (first | ((with_reducible apply is_st); refine su ?_) | ((with_reducible apply is_gd); first | refine gt ?_ | refine gf ?_ | refine gu ?_) | ((with_reducible apply is_en); refine en ?_) | (with_reducible first | apply x_then | apply wp_seq | apply c_region | apply wp_block | apply wp_skip | apply wp_exit | apply wp_ret | apply wp_label | apply wp_scope_straight | apply x_ng | apply x_ng_ret | apply x_ng_exit | apply x_then_ret | apply x_then_exit | apply x_block | apply x_block_ret | apply x_block_exit | refine x_block_other (by decide) ?_))
  
  refine c_loop (fun k l w' => ∃ (i : Nat) (vp : Value), (∃ jj : Nat → Value, l = [jj 0, jj 1, .pointer (some ⟨b1, 0, none⟩), .pointer (some ⟨b2, 0, none⟩), jj 4, jj 5, .slice A lv.length cap, .int .i64 (lv.length : Int), .int .i64 (i : Int), jj 9, jj 10, jj 11, jj 12, jj 13, jj 14, jj 15, jj 16, jj 17, jj 18, jj 19]) ∧ k + i = lv.length ∧ Ch [] w w' ∧ w2.heap.size ≤ w'.heap.size ∧ Blk w' b1 [.int .i64 0, .slice none 0 0] 51 ∧ Blk w' b2 [.int .i64 (i : Int), vp] 51 ∧ ∀ S, (∀ x ∈ S, x < w2.heap.size) → (Ty.enc eH).Rd S w' vp (pkH (lv.take i))) lv.length
    ⟨0, _, exj rfl, rfl, hc2, Nat.le_refl _, hB1, hB2, fun S hS => by rw [List.take_zero, show pkH [] = [] from pkG_nil]; exact Ty.Rd.nil _ _ _ _ _⟩ ?_
  rintro k l w3 ⟨i, vp, ⟨jj, rfl⟩, hki, hc3, hz3, hB1, hB2, hP⟩
  have hpl := pkH_len (lv.take i)
  obtain ⟨Ap, cp, rfl⟩ := (hP [] (by simp)).form
  repeat (first | ((with_reducible apply is_st); refine su ?_) | ((with_reducible apply is_gd); first | refine gt ?_ | refine gf ?_ | refine gu ?_) | ((with_reducible apply is_en); refine en ?_) | (with_reducible first | apply x_then | apply wp_seq | apply c_region | apply wp_block | apply wp_skip | apply wp_exit | apply wp_ret | apply wp_label | apply wp_scope_straight | apply x_ng | apply x_ng_ret | apply x_ng_exit | apply x_then_ret | apply x_then_exit | apply x_block | apply x_block_ret | apply x_block_exit | refine x_block_other (by decide) ?_))
  refine c_cond rfl (fun hi => ?_) (fun hi => ?_)
  · have hil : (lv.take i).length = i := by rw [List.length_take]; omega
    rw [hil] at hpl
    have hbl := bitsDown_len i 63
    have hpop : popN i ≤ 63 := hbl
    repeat (first | ((with_reducible apply is_st); refine su ?_) | ((with_reducible apply is_gd); first | refine gt ?_ | refine gf ?_ | refine gu ?_) | ((with_reducible apply is_en); refine en ?_) | (with_reducible first | apply x_then | apply wp_seq | apply c_region | apply wp_block | apply wp_skip | apply wp_exit | apply wp_ret | apply wp_label | apply wp_scope_straight | apply x_ng | apply x_ng_ret | apply x_ng_exit | apply x_then_ret | apply x_then_exit | apply x_block | apply x_block_ret | apply x_block_exit | refine x_block_other (by decide) ?_))
    (try ((with_reducible apply is_gd); first | refine gt ?_ | refine gf ?_ | refine gu ?_)); refine ix (hR.ch hc3) (fun b5 o5 x5 hx5 hA5 => ?_)
    rw [Int.toNat_natCast] at hx5
    (try ((with_reducible apply is_gd); first | refine gt ?_ | refine gf ?_ | refine gu ?_)); refine ldr hA5 ?_
    repeat (first | ((with_reducible apply is_st); refine su ?_) | ((with_reducible apply is_gd); first | refine gt ?_ | refine gf ?_ | refine gu ?_) | ((with_reducible apply is_en); refine en ?_) | (with_reducible first | apply x_then | apply wp_seq | apply c_region | apply wp_block | apply wp_skip | apply wp_exit | apply wp_ret | apply wp_label | apply wp_scope_straight | apply x_ng | apply x_ng_ret | apply x_ng_exit | apply x_then_ret | apply x_then_exit | apply x_block | apply x_block_ret | apply x_block_exit | refine x_block_other (by decide) ?_))
    refine wl_alloc (fun w4 b3 hb3 => ?_)
    have e3 := hb3.at_
    refine stbw (n := 32) (cs := (List.replicate 32 (0 : UInt8)).map u8v) hb3.blk rfl rfl (hv_len x5.2) (by simp) one_u8 (fun w5 hB5 hch5 hs5 => ?_)
    have hz4 := hb3.ch.size
    have hc35 : Ch [] w3 w5 := hb3.ch.own hch5 (by omega)
    have hB1 := hB1.ch hc35 (by simp)
    have hB2 := hB2.ch hc35 (by simp)
    repeat (first | ((with_reducible apply is_st); refine su ?_) | ((with_reducible apply is_gd); first | refine gt ?_ | refine gf ?_ | refine gu ?_) | ((with_reducible apply is_en); refine en ?_) | (with_reducible first | apply x_then | apply wp_seq | apply c_region | apply wp_block | apply wp_skip | apply wp_exit | apply wp_ret | apply wp_label | apply wp_scope_straight | apply x_ng | apply x_ng_ret | apply x_ng_exit | apply x_then_ret | apply x_then_exit | apply x_block | apply x_block_ret | apply x_block_exit | refine x_block_other (by decide) ?_))
    refine ldbr (n := 2) hB2 rfl rfl rfl ?_
    refine ldbr (n := 32) hB5 rfl (ds := x5.1.map u8v) (by simp [List.take_of_length_le, x5.2]) (by simp [x5.2]) ?_
    (try ((with_reducible apply is_gd); first | refine gt ?_ | refine gf ?_ | refine gu ?_)); refine ca (padd_any (i : Int) (.slice Ap (pkH (lv.take i)).length cp) (pkH (lv.take i)) x5 w5 ((hK.ch hc3 (by simp)).ch hc35 (by simp)) ((hL.ch hc3 (by simp)).ch hc35 (by simp)) ((hP [] (by simp)).ch hc35) (by omega)) ?_
    rintro u w6 ⟨hc6, hu⟩
    rw [hpl, popN_small (by omega), Int.toNat_natCast, pkH_step hx5 hlen] at hu
    rcases hu with ⟨_, v6, rfl, hP6⟩ | ⟨hu, _⟩
    · have hpl6 := pkH_len (lv.take (i + 1))
      have hz5 := hc35.size
      have hz6 := hc6.size
      obtain ⟨A6, c6, rfl⟩ := (hP6 [] (by simp)).form
      repeat (first | ((with_reducible apply is_st); refine su ?_) | ((with_reducible apply is_gd); first | refine gt ?_ | refine gf ?_ | refine gu ?_) | ((with_reducible apply is_en); refine en ?_) | (with_reducible first | apply x_then | apply wp_seq | apply c_region | apply wp_block | apply wp_skip | apply wp_exit | apply wp_ret | apply wp_label | apply wp_scope_straight | apply x_ng | apply x_ng_ret | apply x_ng_exit | apply x_then_ret | apply x_then_exit | apply x_block | apply x_block_ret | apply x_block_exit | refine x_block_other (by decide) ?_))
      refine stbw (n := 2) (vs := [.int .i64 ((i + 1 : Nat) : Int), .slice A6 (pkH (lv.take (i + 1))).length c6]) (hB2.ch hc6 (by simp)) rfl rfl rfl rfl one_pk (fun w7 hB7 hch7 hs7 => ?_)
      repeat (first | ((with_reducible apply is_st); refine su ?_) | ((with_reducible apply is_gd); first | refine gt ?_ | refine gf ?_ | refine gu ?_) | ((with_reducible apply is_en); refine en ?_) | (with_reducible first | apply x_then | apply wp_seq | apply c_region | apply wp_block | apply wp_skip | apply wp_exit | apply wp_ret | apply wp_label | apply wp_scope_straight | apply x_ng | apply x_ng_ret | apply x_ng_exit | apply x_then_ret | apply x_then_exit | apply x_block | apply x_block_ret | apply x_block_exit | refine x_block_other (by decide) ?_))
      have hc37 : Ch [b2] w3 w7 := (((Ch.some hc35).add hc6).then hch7)
      refine x_goes (k - 1) rfl (by omega) ⟨i + 1, _, exj rfl, by omega, hc3.own hc37 (by omega), by omega, (hB1.ch hc6 (by simp)).ch hch7 (by simp; omega), hB7, fun S hS => ?_⟩
      have hr := hP6 (b2 :: S) (fun x hx => by
        rcases List.mem_cons.1 hx with hx | hx
        · omega
        · have := hS x hx
          omega)
      exact (hr.ch (hch7.mono (fun x _ hm => by simp at hm; simp [hm]))).mv (Ch.refl S w7) (fun k _ h => List.mem_cons_of_mem _ h)
    · cases hu
  · have hil : i = lv.length := by omega
    subst hil
    rw [List.take_length] at hP hB2
    repeat (first | ((with_reducible apply is_st); refine su ?_) | ((with_reducible apply is_gd); first | refine gt ?_ | refine gf ?_ | refine gu ?_) | ((with_reducible apply is_en); refine en ?_) | (with_reducible first | apply x_then | apply wp_seq | apply c_region | apply wp_block | apply wp_skip | apply wp_exit | apply wp_ret | apply wp_label | apply wp_scope_straight | apply x_ng | apply x_ng_ret | apply x_ng_exit | apply x_then_ret | apply x_then_exit | apply x_block | apply x_block_ret | apply x_block_exit | refine x_block_other (by decide) ?_))
    refine ldbr (n := 2) hB2 rfl rfl rfl ?_
    refine stbw (n := 2) (vs := [.int .i64 (lv.length : Int), .slice Ap (pkH lv).length cp]) hB1 rfl rfl rfl rfl one_pk (fun w7 hB7 hch7 hs7 => ?_)
    repeat (first | ((with_reducible apply is_st); refine su ?_) | ((with_reducible apply is_gd); first | refine gt ?_ | refine gf ?_ | refine gu ?_) | ((with_reducible apply is_en); refine en ?_) | (with_reducible first | apply x_then | apply wp_seq | apply c_region | apply wp_block | apply wp_skip | apply wp_exit | apply wp_ret | apply wp_label | apply wp_scope_straight | apply x_ng | apply x_ng_ret | apply x_ng_exit | apply x_then_ret | apply x_then_exit | apply x_block | apply x_block_ret | apply x_block_exit | refine x_block_other (by decide) ?_))
    refine outc rfl rfl (hB7.row (n := 2) (o := 0) rfl) rfl ⟨hc3.own hch7 (by omega), _, rfl, fun S hS => ?_⟩
    have hr := hP (b1 :: S) (fun x hx => by
      rcases List.mem_cons.1 hx with hx | hx
      · omega
      · have := hS x hx
        omega)
    exact (hr.ch (hch7.mono (fun x _ hm => by simp at hm; simp [hm]))).mv (Ch.refl S w7) (fun k _ h => List.mem_cons_of_mem _ h)
set_option maxHeartbeats 8000000 in
theorem rof9_any (v : Value) (lv : List Hs) (w : World) (hR : (Ty.enc eH).Rd [] w v lv) (hlen : lv.length ≤ 60) :
    Calls Tryd.prog 50 #[v] w (Ret fun u w' => Ch [] w w' ∧ ∃ v', u = pkV (lv.length : Int) v' ∧ ∀ S, (∀ x ∈ S, x < w.heap.size) → (Ty.enc eH).Rd S w' v' (pkH lv)) := by
  refine enter [v, undef, undef, undef, undef, undef, undef, undef, undef, undef, undef, undef, undef, undef, undef, undef, undef, undef, undef, undef, undef] Tryd.func50 rfl rfl ?_
  obtain ⟨A, cap, rfl⟩ := hR.form
  repeat (first | ((with_reducible apply is_st); refine su ?_) | ((with_reducible apply is_gd); first | refine gt ?_ | refine gf ?_ | refine gu ?_) | ((with_reducible apply is_en); refine en ?_) | (with_reducible first | apply x_then | apply wp_seq | apply c_region | apply wp_block | apply wp_skip | apply wp_exit | apply wp_ret | apply wp_label | apply wp_scope_straight | apply x_ng | apply x_ng_ret | apply x_ng_exit | apply x_then_ret | apply x_then_exit | apply x_block | apply x_block_ret | apply x_block_exit | refine x_block_other (by decide) ?_))
  refine wl_alloc (fun w1 b1 hb1 => ?_)
  repeat (first | ((with_reducible apply is_st); refine su ?_) | ((with_reducible apply is_gd); first | refine gt ?_ | refine gf ?_ | refine gu ?_) | ((with_reducible apply is_en); refine en ?_) | (with_reducible first | apply x_then | apply wp_seq | apply c_region | apply wp_block | apply wp_skip | apply wp_exit | apply wp_ret | apply wp_label | apply wp_scope_straight | apply x_ng | apply x_ng_ret | apply x_ng_exit | apply x_then_ret | apply x_then_exit | apply x_block | apply x_block_ret | apply x_block_exit | refine x_block_other (by decide) ?_))
  (try ((with_reducible apply is_gd); first | refine gt ?_ | refine gf ?_ | refine gu ?_)); refine wl_val (r_build0 Tryd.underlying52 rfl rfl) ?_
  refine wl_alloc (fun w2 b2 hb2 => ?_)
  refine stbw (n := 2) (vs := [.int .i64 0, .slice none 0 0]) hb2.blk rfl rfl rfl rfl one_pk (fun w2' hB2 hch2 hs2 => ?_)
  have hB1 : Blk w2' b1 [.int .i64 0, .slice none 0 0] 52 := (Blk.ch (show Blk w1 b1 [.int .i64 0, .slice none 0 0] 52 from hb1.blk) hb2.ch (by simp)).ch hch2 (by simp; have := hb2.at_; have := hb1.size; omega)
  have e1 := hb1.at_
  have e2 := hb2.at_
  have s1 := hb1.size
  have s2 := hb2.size
  have hc2 : Ch [] w w2' := (hb1.ch.then hb2.ch).own hch2 (by omega)
  repeat (first | ((with_reducible apply is_st); refine su ?_) | ((with_reducible apply is_gd); first | refine gt ?_ | refine gf ?_ | refine gu ?_) | ((with_reducible apply is_en); refine en ?_) | (with_reducible first | apply x_then | apply wp_seq | apply c_region | apply wp_block | apply wp_skip | apply wp_exit | apply wp_ret | apply wp_label | apply wp_scope_straight | apply x_ng | apply x_ng_ret | apply x_ng_exit | apply x_then_ret | apply x_then_exit | apply x_block | apply x_block_ret | apply x_block_exit | refine x_block_other (by decide) ?_))
  
  refine c_loop (fun k l w' => ∃ (i : Nat) (vp : Value), (∃ jj : Nat → Value, l = [jj 0, jj 1, .pointer (some ⟨b1, 0, none⟩), .pointer (some ⟨b2, 0, none⟩), jj 4, jj 5, jj 6, .slice A lv.length cap, .int .i64 (lv.length : Int), .int .i64 (i : Int), jj 10, jj 11, jj 12, jj 13, jj 14, jj 15, jj 16, jj 17, jj 18, jj 19, jj 20]) ∧ k + i = lv.length ∧ Ch [] w w' ∧ w2'.heap.size ≤ w'.heap.size ∧ Blk w' b1 [.int .i64 0, .slice none 0 0] 52 ∧ Blk w' b2 [.int .i64 (i : Int), vp] 52 ∧ ∀ S, (∀ x ∈ S, x < w2'.heap.size) → (Ty.enc eH).Rd S w' vp (pkH (lv.take i))) lv.length
    ⟨0, _, exj rfl, rfl, hc2, Nat.le_refl _, hB1, hB2, fun S hS => by rw [List.take_zero, show pkH [] = [] from pkG_nil]; exact Ty.Rd.nil _ _ _ _ _⟩ ?_
  rintro k l w3 ⟨i, vp, ⟨jj, rfl⟩, hki, hc3, hz3, hB1, hB2, hP⟩
  have hpl := pkH_len (lv.take i)
  obtain ⟨Ap, cp, rfl⟩ := (hP [] (by simp)).form
  repeat (first | ((with_reducible apply is_st); refine su ?_) | ((with_reducible apply is_gd); first | refine gt ?_ | refine gf ?_ | refine gu ?_) | ((with_reducible apply is_en); refine en ?_) | (with_reducible first | apply x_then | apply wp_seq | apply c_region | apply wp_block | apply wp_skip | apply wp_exit | apply wp_ret | apply wp_label | apply wp_scope_straight | apply x_ng | apply x_ng_ret | apply x_ng_exit | apply x_then_ret | apply x_then_exit | apply x_block | apply x_block_ret | apply x_block_exit | refine x_block_other (by decide) ?_))
  refine c_cond rfl (fun hi => ?_) (fun hi => ?_)
  · have hil : (lv.take i).length = i := by rw [List.length_take]; omega
    rw [hil] at hpl
    have hbl := bitsDown_len i 63
    have hpop : popN i ≤ 63 := hbl
    repeat (first | ((with_reducible apply is_st); refine su ?_) | ((with_reducible apply is_gd); first | refine gt ?_ | refine gf ?_ | refine gu ?_) | ((with_reducible apply is_en); refine en ?_) | (with_reducible first | apply x_then | apply wp_seq | apply c_region | apply wp_block | apply wp_skip | apply wp_exit | apply wp_ret | apply wp_label | apply wp_scope_straight | apply x_ng | apply x_ng_ret | apply x_ng_exit | apply x_then_ret | apply x_then_exit | apply x_block | apply x_block_ret | apply x_block_exit | refine x_block_other (by decide) ?_))
    (try ((with_reducible apply is_gd); first | refine gt ?_ | refine gf ?_ | refine gu ?_)); refine ix (hR.ch hc3) (fun b5 o5 x5 hx5 hA5 => ?_)
    rw [Int.toNat_natCast] at hx5
    (try ((with_reducible apply is_gd); first | refine gt ?_ | refine gf ?_ | refine gu ?_)); refine ldr hA5 ?_
    repeat (first | ((with_reducible apply is_st); refine su ?_) | ((with_reducible apply is_gd); first | refine gt ?_ | refine gf ?_ | refine gu ?_) | ((with_reducible apply is_en); refine en ?_) | (with_reducible first | apply x_then | apply wp_seq | apply c_region | apply wp_block | apply wp_skip | apply wp_exit | apply wp_ret | apply wp_label | apply wp_scope_straight | apply x_ng | apply x_ng_ret | apply x_ng_exit | apply x_then_ret | apply x_then_exit | apply x_block | apply x_block_ret | apply x_block_exit | refine x_block_other (by decide) ?_))
    refine wl_alloc (fun w4 b3 hb3 => ?_)
    have e3 := hb3.at_
    refine stbw (n := 32) (cs := (List.replicate 32 (0 : UInt8)).map u8v) hb3.blk rfl rfl (hv_len x5.2) (by simp) one_u8 (fun w5 hB5 hch5 hs5 => ?_)
    have hz4 := hb3.ch.size
    have hc35 : Ch [] w3 w5 := hb3.ch.own hch5 (by omega)
    have hB1 := hB1.ch hc35 (by simp)
    have hB2 := hB2.ch hc35 (by simp)
    repeat (first | ((with_reducible apply is_st); refine su ?_) | ((with_reducible apply is_gd); first | refine gt ?_ | refine gf ?_ | refine gu ?_) | ((with_reducible apply is_en); refine en ?_) | (with_reducible first | apply x_then | apply wp_seq | apply c_region | apply wp_block | apply wp_skip | apply wp_exit | apply wp_ret | apply wp_label | apply wp_scope_straight | apply x_ng | apply x_ng_ret | apply x_ng_exit | apply x_then_ret | apply x_then_exit | apply x_block | apply x_block_ret | apply x_block_exit | refine x_block_other (by decide) ?_))
    refine ldbr (n := 2) hB2 rfl rfl rfl ?_
    refine ldbr (n := 32) hB5 rfl (ds := x5.1.map u8v) (by simp [List.take_of_length_le, x5.2]) (by simp [x5.2]) ?_
    (try ((with_reducible apply is_gd); first | refine gt ?_ | refine gf ?_ | refine gu ?_)); refine ca (radd_any (i : Int) (.slice Ap (pkH (lv.take i)).length cp) (pkH (lv.take i)) x5 w5 ((hP [] (by simp)).ch hc35) (by omega)) ?_
    rintro u w6 ⟨hc6, hu⟩
    rw [hpl, popN_small (by omega), Int.toNat_natCast, pkH_step hx5 hlen] at hu
    rcases hu with ⟨_, v6, rfl, hP6⟩ | ⟨hu, _⟩
    · have hpl6 := pkH_len (lv.take (i + 1))
      have hz5 := hc35.size
      have hz6 := hc6.size
      obtain ⟨A6, c6, rfl⟩ := (hP6 [] (by simp)).form
      repeat (first | ((with_reducible apply is_st); refine su ?_) | ((with_reducible apply is_gd); first | refine gt ?_ | refine gf ?_ | refine gu ?_) | ((with_reducible apply is_en); refine en ?_) | (with_reducible first | apply x_then | apply wp_seq | apply c_region | apply wp_block | apply wp_skip | apply wp_exit | apply wp_ret | apply wp_label | apply wp_scope_straight | apply x_ng | apply x_ng_ret | apply x_ng_exit | apply x_then_ret | apply x_then_exit | apply x_block | apply x_block_ret | apply x_block_exit | refine x_block_other (by decide) ?_))
      refine stbw (n := 2) (vs := [.int .i64 ((i + 1 : Nat) : Int), .slice A6 (pkH (lv.take (i + 1))).length c6]) (hB2.ch hc6 (by simp)) rfl rfl rfl rfl one_pk (fun w7 hB7 hch7 hs7 => ?_)
      repeat (first | ((with_reducible apply is_st); refine su ?_) | ((with_reducible apply is_gd); first | refine gt ?_ | refine gf ?_ | refine gu ?_) | ((with_reducible apply is_en); refine en ?_) | (with_reducible first | apply x_then | apply wp_seq | apply c_region | apply wp_block | apply wp_skip | apply wp_exit | apply wp_ret | apply wp_label | apply wp_scope_straight | apply x_ng | apply x_ng_ret | apply x_ng_exit | apply x_then_ret | apply x_then_exit | apply x_block | apply x_block_ret | apply x_block_exit | refine x_block_other (by decide) ?_))
      have hc37 : Ch [b2] w3 w7 := (((Ch.some hc35).add hc6).then hch7)
      refine x_goes (k - 1) rfl (by omega) ⟨i + 1, _, exj rfl, by omega, hc3.own hc37 (by omega), by omega, (hB1.ch hc6 (by simp)).ch hch7 (by simp; omega), hB7, fun S hS => ?_⟩
      have hr := hP6 (b2 :: S) (fun x hx => by
        rcases List.mem_cons.1 hx with hx | hx
        · omega
        · have := hS x hx
          omega)
      exact (hr.ch (hch7.mono (fun x _ hm => by simp at hm; simp [hm]))).mv (Ch.refl S w7) (fun k _ h => List.mem_cons_of_mem _ h)
    · cases hu
  · have hil : i = lv.length := by omega
    subst hil
    rw [List.take_length] at hP hB2
    repeat (first | ((with_reducible apply is_st); refine su ?_) | ((with_reducible apply is_gd); first | refine gt ?_ | refine gf ?_ | refine gu ?_) | ((with_reducible apply is_en); refine en ?_) | (with_reducible first | apply x_then | apply wp_seq | apply c_region | apply wp_block | apply wp_skip | apply wp_exit | apply wp_ret | apply wp_label | apply wp_scope_straight | apply x_ng | apply x_ng_ret | apply x_ng_exit | apply x_then_ret | apply x_then_exit | apply x_block | apply x_block_ret | apply x_block_exit | refine x_block_other (by decide) ?_))
    refine ldbr (n := 2) hB2 rfl rfl rfl ?_
    refine stbw (n := 2) (vs := [.int .i64 (lv.length : Int), .slice Ap (pkH lv).length cp]) hB1 rfl rfl rfl rfl one_pk (fun w7 hB7 hch7 hs7 => ?_)
    repeat (first | ((with_reducible apply is_st); refine su ?_) | ((with_reducible apply is_gd); first | refine gt ?_ | refine gf ?_ | refine gu ?_) | ((with_reducible apply is_en); refine en ?_) | (with_reducible first | apply x_then | apply wp_seq | apply c_region | apply wp_block | apply wp_skip | apply wp_exit | apply wp_ret | apply wp_label | apply wp_scope_straight | apply x_ng | apply x_ng_ret | apply x_ng_exit | apply x_then_ret | apply x_then_exit | apply x_block | apply x_block_ret | apply x_block_exit | refine x_block_other (by decide) ?_))
    refine outc rfl rfl (hB7.row (n := 2) (o := 0) rfl) rfl ⟨hc3.own hch7 (by omega), _, rfl, fun S hS => ?_⟩
    have hr := hP (b1 :: S) (fun x hx => by
      rcases List.mem_cons.1 hx with hx | hx
      · omega
      · have := hS x hx
        omega)
    exact (hr.ch (hch7.mono (fun x _ hm => by simp at hm; simp [hm]))).mv (Ch.refl S w7) (fun k _ h => List.mem_cons_of_mem _ h)
/-! ### The very same hashes? -/
set_option maxHeartbeats 8000000 in
theorem same_any (v1 v2 : Value) (xs ys : List Hs) (w : World) (hR1 : (Ty.enc eH).Rd [] w v1 xs) (hR2 : (Ty.enc eH).Rd [] w v2 ys) :
    Calls Tryd.prog 31 #[v1, v2] w (Ret fun u w' => u = .bool (decide (xs = ys)) ∧ Ch [] w w') := by
  refine enter [v1, v2, undef, undef, undef, undef, undef, undef, undef, undef, undef, undef, undef, undef, undef, undef, undef, undef, undef, undef, undef, undef, undef, undef, undef, undef] Tryd.func31 rfl rfl ?_
  have hle1 := hR1.le
  have hle2 := hR2.le
  obtain ⟨A1, c1, rfl⟩ := hR1.form
  obtain ⟨A2, c2, rfl⟩ := hR2.form
  repeat (first | ((with_reducible apply is_st); refine su ?_) | ((with_reducible apply is_gd); first | refine gt ?_ | refine gf ?_ | refine gu ?_) | ((with_reducible apply is_en); refine en ?_) | (with_reducible first | apply x_then | apply wp_seq | apply c_region | apply wp_block | apply wp_skip | apply wp_exit | apply wp_ret | apply wp_label | apply wp_scope_straight | apply x_ng | apply x_ng_ret | apply x_ng_exit | apply x_then_ret | apply x_then_exit | apply x_block | apply x_block_ret | apply x_block_exit | refine x_block_other (by decide) ?_))
  refine c_cond rfl (fun hne => ?_) (fun heq => ?_)
  · repeat (first | ((with_reducible apply is_st); refine su ?_) | ((with_reducible apply is_gd); first | refine gt ?_ | refine gf ?_ | refine gu ?_) | ((with_reducible apply is_en); refine en ?_) | (with_reducible first | apply x_then | apply wp_seq | apply c_region | apply wp_block | apply wp_skip | apply wp_exit | apply wp_ret | apply wp_label | apply wp_scope_straight | apply x_ng | apply x_ng_ret | apply x_ng_exit | apply x_then_ret | apply x_then_exit | apply x_block | apply x_block_ret | apply x_block_exit | refine x_block_other (by decide) ?_))
    have hf : ¬ xs = ys := fun e => hne (by rw [e])
    refine out1 rfl ⟨?_, Ch.refl _ _⟩
    rw [decide_eq_false hf]
    rfl
  · have hll : xs.length = ys.length := by omega
    repeat (first | ((with_reducible apply is_st); refine su ?_) | ((with_reducible apply is_gd); first | refine gt ?_ | refine gf ?_ | refine gu ?_) | ((with_reducible apply is_en); refine en ?_) | (with_reducible first | apply x_then | apply wp_seq | apply c_region | apply wp_block | apply wp_skip | apply wp_exit | apply wp_ret | apply wp_label | apply wp_scope_straight | apply x_ng | apply x_ng_ret | apply x_ng_exit | apply x_then_ret | apply x_then_exit | apply x_block | apply x_block_ret | apply x_block_exit | refine x_block_other (by decide) ?_))
    
    refine c_loop (fun k l w' => ∃ (i : Nat), (∃ jj : Nat → Value, l = [.slice A1 xs.length c1, .slice A2 ys.length c2, jj 2, jj 3, jj 4, jj 5, jj 6, jj 7, jj 8, jj 9, jj 10, jj 11, .int .i64 (xs.length : Int), .int .i64 (i : Int), jj 14, jj 15, jj 16, jj 17, jj 18, jj 19, jj 20, jj 21, jj 22, jj 23, jj 24, jj 25]) ∧ k + i = xs.length ∧ Ch [] w w' ∧ xs.take i = ys.take i) xs.length
      ⟨0, exj rfl, rfl, Ch.refl _ _, rfl⟩ ?_
    rintro k l w1 ⟨i, ⟨jj, rfl⟩, hki, hc1, htk⟩
    repeat (first | ((with_reducible apply is_st); refine su ?_) | ((with_reducible apply is_gd); first | refine gt ?_ | refine gf ?_ | refine gu ?_) | ((with_reducible apply is_en); refine en ?_) | (with_reducible first | apply x_then | apply wp_seq | apply c_region | apply wp_block | apply wp_skip | apply wp_exit | apply wp_ret | apply wp_label | apply wp_scope_straight | apply x_ng | apply x_ng_ret | apply x_ng_exit | apply x_then_ret | apply x_then_exit | apply x_block | apply x_block_ret | apply x_block_exit | refine x_block_other (by decide) ?_))
    refine c_cond rfl (fun hi => ?_) (fun hi => ?_)
    · repeat (first | ((with_reducible apply is_st); refine su ?_) | ((with_reducible apply is_gd); first | refine gt ?_ | refine gf ?_ | refine gu ?_) | ((with_reducible apply is_en); refine en ?_) | (with_reducible first | apply x_then | apply wp_seq | apply c_region | apply wp_block | apply wp_skip | apply wp_exit | apply wp_ret | apply wp_label | apply wp_scope_straight | apply x_ng | apply x_ng_ret | apply x_ng_exit | apply x_then_ret | apply x_then_exit | apply x_block | apply x_block_ret | apply x_block_exit | refine x_block_other (by decide) ?_))
      refine c_draw [] (by kernel_rfl) (by kernel_rfl) (fun w4 hc4 hs4 => ?_)
      repeat (first | ((with_reducible apply is_sg); refine sgu ?_) | ((with_reducible apply is_gg); first | refine gtg ?_ | refine gfg ?_ | refine gug ?_) | ((with_reducible apply is_eg); refine eg ?_))
      (try ((with_reducible apply is_gg); first | refine gtg ?_ | refine gfg ?_ | refine gug ?_)); refine ixg ((hR1.ch hc1).ch hc4) (fun b5 o5 x5 hx5 hA5 => ?_)
      rw [Int.toNat_natCast] at hx5
      (try ((with_reducible apply is_gg); first | refine gtg ?_ | refine gfg ?_ | refine gug ?_)); refine ldrg hA5 ?_
      repeat (first | ((with_reducible apply is_sg); refine sgu ?_) | ((with_reducible apply is_gg); first | refine gtg ?_ | refine gfg ?_ | refine gug ?_) | ((with_reducible apply is_eg); refine eg ?_))
      (try ((with_reducible apply is_gg); first | refine gtg ?_ | refine gfg ?_ | refine gug ?_)); refine ixg ((hR2.ch hc1).ch hc4) (fun b6 o6 x6 hx6 hA6 => ?_)
      rw [Int.toNat_natCast] at hx6
      (try ((with_reducible apply is_gg); first | refine gtg ?_ | refine gfg ?_ | refine gug ?_)); refine ldrg hA6 ?_
      refine wg_val (fun _ _ => r_neq8 (n := 32) (a := x5.1) (b := x6.1) Tryd.eqGuardType26 rfl rfl x5.2 x6.2) ?_
      repeat (first | ((with_reducible apply is_sg); refine sgu ?_) | ((with_reducible apply is_gg); first | refine gtg ?_ | refine gfg ?_ | refine gug ?_) | ((with_reducible apply is_eg); refine eg ?_))
      intro w5 hc5
      repeat (first | ((with_reducible apply is_st); refine su ?_) | ((with_reducible apply is_gd); first | refine gt ?_ | refine gf ?_ | refine gu ?_) | ((with_reducible apply is_en); refine en ?_) | (with_reducible first | apply x_then | apply wp_seq | apply c_region | apply wp_block | apply wp_skip | apply wp_exit | apply wp_ret | apply wp_label | apply wp_scope_straight | apply x_ng | apply x_ng_ret | apply x_ng_exit | apply x_then_ret | apply x_then_exit | apply x_block | apply x_block_ret | apply x_block_exit | refine x_block_other (by decide) ?_))
      refine c_condb rfl (fun hb => ?_) (fun hb => ?_)
      · repeat (first | ((with_reducible apply is_st); refine su ?_) | ((with_reducible apply is_gd); first | refine gt ?_ | refine gf ?_ | refine gu ?_) | ((with_reducible apply is_en); refine en ?_) | (with_reducible first | apply x_then | apply wp_seq | apply c_region | apply wp_block | apply wp_skip | apply wp_exit | apply wp_ret | apply wp_label | apply wp_scope_straight | apply x_ng | apply x_ng_ret | apply x_ng_exit | apply x_then_ret | apply x_then_exit | apply x_block | apply x_block_ret | apply x_block_exit | refine x_block_other (by decide) ?_))
        refine out1 rfl ⟨?_, (hc1.then hc4).then hc5⟩
        have hne : x5 ≠ x6 := fun e => by
          rw [e] at hb
          simp at hb
        have hf : ¬ xs = ys := fun e => hne (by
          rw [e, hx6] at hx5
          exact (Option.some.inj hx5).symm)
        rw [decide_eq_false hf]
        rfl
      · have hx56 : x5 = x6 := by
          have : x5.1 = x6.1 := by simpa using hb
          exact Subtype.ext this
        repeat (first | ((with_reducible apply is_st); refine su ?_) | ((with_reducible apply is_gd); first | refine gt ?_ | refine gf ?_ | refine gu ?_) | ((with_reducible apply is_en); refine en ?_) | (with_reducible first | apply x_then | apply wp_seq | apply c_region | apply wp_block | apply wp_skip | apply wp_exit | apply wp_ret | apply wp_label | apply wp_scope_straight | apply x_ng | apply x_ng_ret | apply x_ng_exit | apply x_then_ret | apply x_then_exit | apply x_block | apply x_block_ret | apply x_block_exit | refine x_block_other (by decide) ?_))
        refine x_goes (k - 1) rfl (by omega) ⟨i + 1, exj rfl, by omega, (hc1.then hc4).then hc5, ?_⟩
        rw [List.take_add_one, List.take_add_one, htk, hx5, hx6, hx56]
    · repeat (first | ((with_reducible apply is_st); refine su ?_) | ((with_reducible apply is_gd); first | refine gt ?_ | refine gf ?_ | refine gu ?_) | ((with_reducible apply is_en); refine en ?_) | (with_reducible first | apply x_then | apply wp_seq | apply c_region | apply wp_block | apply wp_skip | apply wp_exit | apply wp_ret | apply wp_label | apply wp_scope_straight | apply x_ng | apply x_ng_ret | apply x_ng_exit | apply x_then_ret | apply x_then_exit | apply x_block | apply x_block_ret | apply x_block_exit | refine x_block_other (by decide) ?_))
      refine out1 rfl ⟨?_, hc1⟩
      have hxy : xs = ys := by
        rw [List.take_of_length_le (by omega), List.take_of_length_le (by omega)] at htk
        exact htk
      rw [decide_eq_true hxy]
      rfl
end Go.Proofs.YtbecfcnbgeeghaaDoor

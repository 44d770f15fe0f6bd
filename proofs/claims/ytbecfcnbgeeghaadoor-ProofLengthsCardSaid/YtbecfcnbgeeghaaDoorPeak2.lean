/- Walks: one leaf more, the program's. -/
import Derived.Test.YtbecfcnbgeeghaaDoorPeak1
import Derived.Test.YtbecfcnbgeeghaaDoorRoot
set_option linter.unusedVariables false
set_option linter.unusedSimpArgs false
namespace Go.Proofs.E
open Go Go.RowKit
/-- A slice of a block of one's own that begins with what is known. -/
theorem Blk.rdP {α : Type} {en : En α} {w : World} {S : List Nat} {b m cap : Nat} {cells : List Value} {ys : List α} {E : TypeId} (hB : Blk w b cells E) (hS : b ∉ S) (hc : cells.take (m * en.n) = ys.flatMap en.f) (hm : ys.length = m) (hle : m ≤ cap) (hb : m ≤ 9223372036854775807) : (Ty.enc en).Rd S w (.slice (some ⟨b, 0, none⟩) m cap) ys := by
  subst hm
  refine ⟨hb, _, cap, rfl, hle, fun _ => ⟨b, 0, rfl, hB.lt, hS, fun i x hx => ⟨hB.lt, hS, _, rfl, fun j v hv => ?_⟩⟩⟩
  refine hB.cell ?_
  have := flatMap_at en.hl ys i x hx j v hv
  rw [← hc, List.getElem?_take] at this
  split at this
  · show cells[0 + i * en.n + j]? = _
    rwa [Nat.zero_add]
  · cases this
end Go.Proofs.E
namespace Go.Proofs.YtbecfcnbgeeghaaDoor
open Go Go.RowKit Go.Proofs.E
attribute [local irreducible] Go.wpList Go.Code.wp Go.Proofs.E.exec Go.Proofs.E.wpLexG
theorem one_pk {n : Int} {A : Option Addr} {k c : Nat} : ∀ u ∈ [Value.int .i64 n, Value.slice A k c], u.oneCell' = true := by
  intro u hu
  simp at hu
  rcases hu with rfl | rfl <;> rfl
def okZ (n : Int) (k : Nat) : Bool := goodZ n k && !decide (n = 1099511627776)
theorem goodZ_of {n : Int} {k : Nat} (h : goodZ n k = true) : 0 ≤ n ∧ n ≤ 1099511627776 ∧ k = popN n.toNat := by
  unfold goodZ at h
  simp only [Bool.and_eq_true, decide_eq_true_eq] at h
  exact ⟨h.1.1, h.1.2, h.2⟩
theorem spl_take {cs vs : List Value} {o : Nat} (h : o + vs.length ≤ cs.length) : (spl cs o vs).take (o + vs.length) = cs.take o ++ vs := by
  unfold spl
  exact List.take_left' (by rw [List.length_append, List.length_take]; omega)
theorem spl_keep {cs vs : List Value} {o : Nat} (h : o + vs.length ≤ cs.length) : (spl cs o vs).take o = cs.take o := by
  unfold spl
  rw [List.append_assoc, List.take_append_of_le_length (by rw [List.length_take]; omega), List.take_take, Nat.min_self]
/-- What the row of tops is on its way. -/
def FA (bd L M : Nat) (pre : List Hs) (h : Hs) (i : Nat) (w : World) : Prop := match i with
  | 0 => ∃ cs, Blk w bd cs 26 ∧ cs.length = L ∧ cs.take (M * 32) = pre.flatMap eH.f
  | _ => ∃ cs, Blk w bd cs 26 ∧ cs.length = L ∧ cs.take ((M + 1) * 32) = (pre ++ [h]).flatMap eH.f
theorem stab_FA {bd L M : Nat} {pre : List Hs} {h : Hs} : Stab (FA bd L M pre h) := fun i a b hc hf => by
  cases i with
  | zero => obtain ⟨cs, h1, h2, h3⟩ := hf; exact ⟨cs, h1.ch hc (by simp), h2, h3⟩
  | succ i => obtain ⟨cs, h1, h2, h3⟩ := hf; exact ⟨cs, h1.ch hc (by simp), h2, h3⟩
set_option maxHeartbeats 8000000 in
theorem padd_any (n : Int) (v : Value) (ts : List Hs) (h : Hs) (w : World) (hK : Laid w) (hL : LaidB w) (hR : (Ty.enc eH).Rd [] w v ts) (hlen : ts.length ≤ 1000) :
    Calls Tryd.prog 41 #[pkV n v, hv h.1] w (Ret fun u w' => Ch [] w w' ∧
      ((okZ n ts.length = true ∧ ∃ v', u = .tuple #[pkV (n + 1) v', .bool true] ∧ ∀ S, (∀ x ∈ S, x < w.heap.size) → (Ty.enc eH).Rd S w' v' (addH (tones n.toNat) ts h)) ∨ (okZ n ts.length = false ∧ u = .tuple #[pkV n v, .bool false]))) := by
  refine enter [pkV n v, hv h.1, undef, undef, undef, undef, undef, undef, undef, undef, undef, undef, undef, undef, undef, undef, undef, undef, undef, undef, undef, undef, undef, undef, undef, undef, undef, undef, undef, undef, undef, undef, undef, undef, undef, undef, undef, undef, undef, undef, undef, undef, undef, undef, undef, undef, undef, undef, undef, undef, undef, undef, undef, undef, undef, undef, undef] Tryd.func41 rfl rfl ?_
  obtain ⟨A, cap, rfl⟩ := hR.form
  repeat (first | ((with_reducible apply is_st); refine su ?_) | ((with_reducible apply is_gd); first | refine gt ?_ | refine gf ?_ | refine gu ?_) | ((with_reducible apply is_en); refine en ?_) | (with_reducible first | apply x_then | apply wp_seq | apply c_region | apply wp_block | apply wp_skip | apply wp_exit | apply wp_ret | apply wp_label | apply wp_scope_straight | apply x_ng | apply x_ng_ret | apply x_ng_exit | apply x_then_ret | apply x_then_exit | apply x_block | apply x_block_ret | apply x_block_exit | refine x_block_other (by decide) ?_))
  refine wl_box rfl (fun w1 b2 hb2 => ?_)
  repeat (first | ((with_reducible apply is_st); refine su ?_) | ((with_reducible apply is_gd); first | refine gt ?_ | refine gf ?_ | refine gu ?_) | ((with_reducible apply is_en); refine en ?_) | (with_reducible first | apply x_then | apply wp_seq | apply c_region | apply wp_block | apply wp_skip | apply wp_exit | apply wp_ret | apply wp_label | apply wp_scope_straight | apply x_ng | apply x_ng_ret | apply x_ng_exit | apply x_then_ret | apply x_then_exit | apply x_block | apply x_block_ret | apply x_block_exit | refine x_block_other (by decide) ?_))
  refine wl_box rfl (fun w2 b3 hb3 => ?_)
  repeat (first | ((with_reducible apply is_st); refine su ?_) | ((with_reducible apply is_gd); first | refine gt ?_ | refine gf ?_ | refine gu ?_) | ((with_reducible apply is_en); refine en ?_) | (with_reducible first | apply x_then | apply wp_seq | apply c_region | apply wp_block | apply wp_skip | apply wp_exit | apply wp_ret | apply wp_label | apply wp_scope_straight | apply x_ng | apply x_ng_ret | apply x_ng_exit | apply x_then_ret | apply x_then_exit | apply x_block | apply x_block_ret | apply x_block_exit | refine x_block_other (by decide) ?_))
  refine wl_alloc (fun w3 b4 hb4 => ?_)
  have hB4 : Blk w3 b4 [.int .i64 0, .slice none 0 0] 51 := hb4.blk
  have hB3 : Blk w3 b3 (h.1.map u8v) 26 := Blk.ch (show Blk w2 b3 (h.1.map u8v) 26 from hb3.blk) hb4.ch (by simp)
  have hB2 : Blk w3 b2 [.int .i64 n, .slice A ts.length cap] 51 := (Blk.ch (show Blk w1 b2 [.int .i64 n, .slice A ts.length cap] 51 from hb2.blk) hb3.ch (by simp)).ch hb4.ch (by simp)
  have e2 := hb2.at_
  have e3 := hb3.at_
  have e4 := hb4.at_
  have s2 := hb2.size
  have s3 := hb3.size
  have s4 := hb4.size
  have hc3 : Ch [] w w3 := (hb2.ch.then hb3.ch).then hb4.ch
  repeat (first | ((with_reducible apply is_st); refine su ?_) | ((with_reducible apply is_gd); first | refine gt ?_ | refine gf ?_ | refine gu ?_) | ((with_reducible apply is_en); refine en ?_) | (with_reducible first | apply x_then | apply wp_seq | apply c_region | apply wp_block | apply wp_skip | apply wp_exit | apply wp_ret | apply wp_label | apply wp_scope_straight | apply x_ng | apply x_ng_ret | apply x_ng_exit | apply x_then_ret | apply x_then_exit | apply x_block | apply x_block_ret | apply x_block_exit | refine x_block_other (by decide) ?_))
  refine ldbr (n := 2) hB2 rfl rfl rfl ?_
  repeat (first | ((with_reducible apply is_st); refine su ?_) | ((with_reducible apply is_gd); first | refine gt ?_ | refine gf ?_ | refine gu ?_) | ((with_reducible apply is_en); refine en ?_) | (with_reducible first | apply x_then | apply wp_seq | apply c_region | apply wp_block | apply wp_skip | apply wp_exit | apply wp_ret | apply wp_label | apply wp_scope_straight | apply x_ng | apply x_ng_ret | apply x_ng_exit | apply x_then_ret | apply x_then_exit | apply x_block | apply x_block_ret | apply x_block_exit | refine x_block_other (by decide) ?_))
  (try ((with_reducible apply is_gd); first | refine gt ?_ | refine gf ?_ | refine gu ?_)); refine ca (good_any n (.slice A ts.length cap) ts w3 (hR.ch hc3)) ?_
  rintro _ w4 ⟨rfl, hc4⟩
  have hB2 := hB2.ch hc4 (by simp)
  have hB3 := hB3.ch hc4 (by simp)
  have hB4 := hB4.ch hc4 (by simp)
  have hz34 := hc4.size
  have hc4 : Ch [] w w4 := hc3.then hc4
  have hz4 := hc4.size
  cases hg : goodZ n ts.length
  · repeat (first | ((with_reducible apply is_st); refine su ?_) | ((with_reducible apply is_gd); first | refine gt ?_ | refine gf ?_ | refine gu ?_) | ((with_reducible apply is_en); refine en ?_) | (with_reducible first | apply x_then | apply wp_seq | apply c_region | apply wp_block | apply wp_skip | apply wp_exit | apply wp_ret | apply wp_label | apply wp_scope_straight | apply x_ng | apply x_ng_ret | apply x_ng_exit | apply x_then_ret | apply x_then_exit | apply x_block | apply x_block_ret | apply x_block_exit | refine x_block_other (by decide) ?_))
    refine c_condb rfl (fun _ => ?_) (fun h => by cases h)
    repeat (first | ((with_reducible apply is_st); refine su ?_) | ((with_reducible apply is_gd); first | refine gt ?_ | refine gf ?_ | refine gu ?_) | ((with_reducible apply is_en); refine en ?_) | (with_reducible first | apply x_then | apply wp_seq | apply c_region | apply wp_block | apply wp_skip | apply wp_exit | apply wp_ret | apply wp_label | apply wp_scope_straight | apply x_ng | apply x_ng_ret | apply x_ng_exit | apply x_then_ret | apply x_then_exit | apply x_block | apply x_block_ret | apply x_block_exit | refine x_block_other (by decide) ?_))
    refine ldbr (n := 2) hB2 rfl rfl rfl ?_
    repeat (first | ((with_reducible apply is_st); refine su ?_) | ((with_reducible apply is_gd); first | refine gt ?_ | refine gf ?_ | refine gu ?_) | ((with_reducible apply is_en); refine en ?_) | (with_reducible first | apply x_then | apply wp_seq | apply c_region | apply wp_block | apply wp_skip | apply wp_exit | apply wp_ret | apply wp_label | apply wp_scope_straight | apply x_ng | apply x_ng_ret | apply x_ng_exit | apply x_then_ret | apply x_then_exit | apply x_block | apply x_block_ret | apply x_block_exit | refine x_block_other (by decide) ?_))
    refine stbw (n := 2) hB4 rfl rfl rfl rfl one_pk (fun w5 hB5 hch5 hs5 => ?_)
    repeat (first | ((with_reducible apply is_st); refine su ?_) | ((with_reducible apply is_gd); first | refine gt ?_ | refine gf ?_ | refine gu ?_) | ((with_reducible apply is_en); refine en ?_) | (with_reducible first | apply x_then | apply wp_seq | apply c_region | apply wp_block | apply wp_skip | apply wp_exit | apply wp_ret | apply wp_label | apply wp_scope_straight | apply x_ng | apply x_ng_ret | apply x_ng_exit | apply x_then_ret | apply x_then_exit | apply x_block | apply x_block_ret | apply x_block_exit | refine x_block_other (by decide) ?_))
    exact outc2 rfl rfl (hB5.row (n := 2) (o := 0) rfl) rfl ⟨hc4.own hch5 (by omega), .inr ⟨by simp [okZ, hg], rfl⟩⟩
  · obtain ⟨g1, g2, g3⟩ := goodZ_of hg
    obtain ⟨m, rfl⟩ := Int.eq_ofNat_of_zero_le g1
    rw [Int.toNat_natCast] at g3 ⊢
    repeat (first | ((with_reducible apply is_st); refine su ?_) | ((with_reducible apply is_gd); first | refine gt ?_ | refine gf ?_ | refine gu ?_) | ((with_reducible apply is_en); refine en ?_) | (with_reducible first | apply x_then | apply wp_seq | apply c_region | apply wp_block | apply wp_skip | apply wp_exit | apply wp_ret | apply wp_label | apply wp_scope_straight | apply x_ng | apply x_ng_ret | apply x_ng_exit | apply x_then_ret | apply x_then_exit | apply x_block | apply x_block_ret | apply x_block_exit | refine x_block_other (by decide) ?_))
    refine ldb hB2 rfl rfl ?_
    by_cases hmax : (m : Int) = 1099511627776
    · repeat (first | ((with_reducible apply is_st); refine su ?_) | ((with_reducible apply is_gd); first | refine gt ?_ | refine gf ?_ | refine gu ?_) | ((with_reducible apply is_en); refine en ?_) | (with_reducible first | apply x_then | apply wp_seq | apply c_region | apply wp_block | apply wp_skip | apply wp_exit | apply wp_ret | apply wp_label | apply wp_scope_straight | apply x_ng | apply x_ng_ret | apply x_ng_exit | apply x_then_ret | apply x_then_exit | apply x_block | apply x_block_ret | apply x_block_exit | refine x_block_other (by decide) ?_))
      refine c_condb rfl (fun _ => ?_) (fun h => absurd hmax (of_decide_eq_false h))
      repeat (first | ((with_reducible apply is_st); refine su ?_) | ((with_reducible apply is_gd); first | refine gt ?_ | refine gf ?_ | refine gu ?_) | ((with_reducible apply is_en); refine en ?_) | (with_reducible first | apply x_then | apply wp_seq | apply c_region | apply wp_block | apply wp_skip | apply wp_exit | apply wp_ret | apply wp_label | apply wp_scope_straight | apply x_ng | apply x_ng_ret | apply x_ng_exit | apply x_then_ret | apply x_then_exit | apply x_block | apply x_block_ret | apply x_block_exit | refine x_block_other (by decide) ?_))
      refine ldbr (n := 2) hB2 rfl rfl rfl ?_
      repeat (first | ((with_reducible apply is_st); refine su ?_) | ((with_reducible apply is_gd); first | refine gt ?_ | refine gf ?_ | refine gu ?_) | ((with_reducible apply is_en); refine en ?_) | (with_reducible first | apply x_then | apply wp_seq | apply c_region | apply wp_block | apply wp_skip | apply wp_exit | apply wp_ret | apply wp_label | apply wp_scope_straight | apply x_ng | apply x_ng_ret | apply x_ng_exit | apply x_then_ret | apply x_then_exit | apply x_block | apply x_block_ret | apply x_block_exit | refine x_block_other (by decide) ?_))
      refine stbw (n := 2) hB4 rfl rfl rfl rfl one_pk (fun w5 hB5 hch5 hs5 => ?_)
      repeat (first | ((with_reducible apply is_st); refine su ?_) | ((with_reducible apply is_gd); first | refine gt ?_ | refine gf ?_ | refine gu ?_) | ((with_reducible apply is_en); refine en ?_) | (with_reducible first | apply x_then | apply wp_seq | apply c_region | apply wp_block | apply wp_skip | apply wp_exit | apply wp_ret | apply wp_label | apply wp_scope_straight | apply x_ng | apply x_ng_ret | apply x_ng_exit | apply x_then_ret | apply x_then_exit | apply x_block | apply x_block_ret | apply x_block_exit | refine x_block_other (by decide) ?_))
      exact outc2 rfl rfl (hB5.row (n := 2) (o := 0) rfl) rfl ⟨hc4.own hch5 (by omega), .inr ⟨by simp [okZ, hmax], rfl⟩⟩
    · have hok : okZ (m : Int) ts.length = true := by unfold okZ; rw [hg, decide_eq_false hmax]; rfl
      have htl := (tones_le (n := m) (by omega)).1
      repeat (first | ((with_reducible apply is_st); refine su ?_) | ((with_reducible apply is_gd); first | refine gt ?_ | refine gf ?_ | refine gu ?_) | ((with_reducible apply is_en); refine en ?_) | (with_reducible first | apply x_then | apply wp_seq | apply c_region | apply wp_block | apply wp_skip | apply wp_exit | apply wp_ret | apply wp_label | apply wp_scope_straight | apply x_ng | apply x_ng_ret | apply x_ng_exit | apply x_then_ret | apply x_then_exit | apply x_block | apply x_block_ret | apply x_block_exit | refine x_block_other (by decide) ?_))
      refine c_condb rfl (fun h => absurd (of_decide_eq_true h) hmax) (fun _ => ?_)
      repeat (first | ((with_reducible apply is_st); refine su ?_) | ((with_reducible apply is_gd); first | refine gt ?_ | refine gf ?_ | refine gu ?_) | ((with_reducible apply is_en); refine en ?_) | (with_reducible first | apply x_then | apply wp_seq | apply c_region | apply wp_block | apply wp_skip | apply wp_exit | apply wp_ret | apply wp_label | apply wp_scope_straight | apply x_ng | apply x_ng_ret | apply x_ng_exit | apply x_then_ret | apply x_then_exit | apply x_block | apply x_block_ret | apply x_block_exit | refine x_block_other (by decide) ?_))
      refine ldb hB2 rfl rfl ?_
      repeat (first | ((with_reducible apply is_st); refine su ?_) | ((with_reducible apply is_gd); first | refine gt ?_ | refine gf ?_ | refine gu ?_) | ((with_reducible apply is_en); refine en ?_) | (with_reducible first | apply x_then | apply wp_seq | apply c_region | apply wp_block | apply wp_skip | apply wp_exit | apply wp_ret | apply wp_label | apply wp_scope_straight | apply x_ng | apply x_ng_ret | apply x_ng_exit | apply x_then_ret | apply x_then_exit | apply x_block | apply x_block_ret | apply x_block_exit | refine x_block_other (by decide) ?_))
      refine ldb hB2 rfl rfl ?_
      repeat (first | ((with_reducible apply is_st); refine su ?_) | ((with_reducible apply is_gd); first | refine gt ?_ | refine gf ?_ | refine gu ?_) | ((with_reducible apply is_en); refine en ?_) | (with_reducible first | apply x_then | apply wp_seq | apply c_region | apply wp_block | apply wp_skip | apply wp_exit | apply wp_ret | apply wp_label | apply wp_scope_straight | apply x_ng | apply x_ng_ret | apply x_ng_exit | apply x_then_ret | apply x_then_exit | apply x_block | apply x_block_ret | apply x_block_exit | refine x_block_other (by decide) ?_))
      refine wl_make (n := ts.length) (c := ts.length + 1) rfl rfl (by omega) (by omega) (by omega) (fun w5 bd cs hbd hcs => ?_)
      have ed := hbd.at_
      have sd := hbd.size
      repeat (first | ((with_reducible apply is_st); refine su ?_) | ((with_reducible apply is_gd); first | refine gt ?_ | refine gf ?_ | refine gu ?_) | ((with_reducible apply is_en); refine en ?_) | (with_reducible first | apply x_then | apply wp_seq | apply c_region | apply wp_block | apply wp_skip | apply wp_exit | apply wp_ret | apply wp_label | apply wp_scope_straight | apply x_ng | apply x_ng_ret | apply x_ng_exit | apply x_then_ret | apply x_then_exit | apply x_block | apply x_block_ret | apply x_block_exit | refine x_block_other (by decide) ?_))
      refine ldb (hB2.ch hbd.ch (by simp)) rfl rfl ?_
      refine cpE (en := eH) (m := 32) (xs := ts) rfl rfl rfl hbd.blk (hR.ch (hc4.then hbd.ch)) (by omega) (fun _ w6 hBd hch6 hs6 => ?_)
      have hc6 : Ch [] w w6 := (hc4.then hbd.ch).own hch6 (by omega)
      have hB2 := (hB2.ch hbd.ch (by simp)).ch hch6 (by simp; omega)
      have hB3 := (hB3.ch hbd.ch (by simp)).ch hch6 (by simp; omega)
      have hB4 := (hB4.ch hbd.ch (by simp)).ch hch6 (by simp; omega)
      have hdl : (cs.drop (ts.length * 32)).length = 32 := by rw [List.length_drop, hcs]; omega
      generalize cs.drop (ts.length * 32) = rest at hBd hdl
      have hfl := flatMap_len eH.hl ts
      have hfl : (ts.flatMap eH.f).length = ts.length * 32 := hfl
      repeat (first | ((with_reducible apply is_st); refine su ?_) | ((with_reducible apply is_gd); first | refine gt ?_ | refine gf ?_ | refine gu ?_) | ((with_reducible apply is_en); refine en ?_) | (with_reducible first | apply x_then | apply wp_seq | apply c_region | apply wp_block | apply wp_skip | apply wp_exit | apply wp_ret | apply wp_label | apply wp_scope_straight | apply x_ng | apply x_ng_ret | apply x_ng_exit | apply x_then_ret | apply x_then_exit | apply x_block | apply x_block_ret | apply x_block_exit | refine x_block_other (by decide) ?_))
      refine ldb hB2 rfl rfl ?_
      repeat (first | ((with_reducible apply is_st); refine su ?_) | ((with_reducible apply is_gd); first | refine gt ?_ | refine gf ?_ | refine gu ?_) | ((with_reducible apply is_en); refine en ?_) | (with_reducible first | apply x_then | apply wp_seq | apply c_region | apply wp_block | apply wp_skip | apply wp_exit | apply wp_ret | apply wp_label | apply wp_scope_straight | apply x_ng | apply x_ng_ret | apply x_ng_exit | apply x_then_ret | apply x_then_exit | apply x_block | apply x_block_ret | apply x_block_exit | refine x_block_other (by decide) ?_))
      (try ((with_reducible apply is_gd); first | refine gt ?_ | refine gf ?_ | refine gu ?_)); refine wl_val (r_complN (a := m) rfl (by omega)) ?_
      (try ((with_reducible apply is_gd); first | refine gt ?_ | refine gf ?_ | refine gu ?_)); refine ca (tz_any m (by omega) w6 (hL.ch hc6 (by simp))) ?_
      rintro _ w7 ⟨rfl, hw7⟩
      subst hw7
      generalize ht : tones m = t at htl ⊢
      repeat (first | ((with_reducible apply is_st); refine su ?_) | ((with_reducible apply is_gd); first | refine gt ?_ | refine gf ?_ | refine gu ?_) | ((with_reducible apply is_en); refine en ?_) | (with_reducible first | apply x_then | apply wp_seq | apply c_region | apply wp_block | apply wp_skip | apply wp_exit | apply wp_ret | apply wp_label | apply wp_scope_straight | apply x_ng | apply x_ng_ret | apply x_ng_exit | apply x_then_ret | apply x_then_exit | apply x_block | apply x_block_ret | apply x_block_exit | refine x_block_other (by decide) ?_))
      
      refine c_loop (fun k l w' => ∃ (i : Nat), (∃ jj : Nat → Value, l = [jj 0, jj 1, .pointer (some ⟨b2, 0, none⟩), .pointer (some ⟨b3, 0, none⟩), .pointer (some ⟨b4, 0, none⟩), jj 5, .slice (some ⟨bd, 0, none⟩) (ts.length - i) (ts.length + 1), jj 7, jj 8, jj 9, jj 10, jj 11, jj 12, jj 13, jj 14, jj 15, jj 16, jj 17, jj 18, jj 19, jj 20, jj 21, jj 22, jj 23, jj 24, jj 25, jj 26, jj 27, jj 28, jj 29, jj 30, jj 31, jj 32, .int .i64 (t : Int), .int .i64 (i : Int), jj 35, jj 36, jj 37, jj 38, jj 39, jj 40, jj 41, jj 42, jj 43, jj 44, jj 45, jj 46, jj 47, jj 48, jj 49, jj 50, jj 51, jj 52, jj 53, jj 54, jj 55, jj 56]) ∧ k + i = t ∧ Ch [] w w' ∧ Blk w' b2 [.int .i64 (m : Int), .slice A ts.length cap] 51 ∧ Blk w' b3 (((ts.drop (ts.length - i)).foldr nodeH h).1.map u8v) 26 ∧ Blk w' b4 [.int .i64 0, .slice none 0 0] 51 ∧ Blk w' bd (ts.flatMap eH.f ++ rest) 26) t
        ⟨0, exj rfl, rfl, hc6, hB2, by simpa using hB3, hB4, hBd⟩ ?_
      rintro k l w7 ⟨i, ⟨jj, rfl⟩, hki, hc7, hB2, hB3, hB4, hBd⟩
      have hz7 := hBd.lt
      generalize hfd : (ts.drop (ts.length - i)).foldr nodeH h = hx at hB3
      repeat (first | ((with_reducible apply is_st); refine su ?_) | ((with_reducible apply is_gd); first | refine gt ?_ | refine gf ?_ | refine gu ?_) | ((with_reducible apply is_en); refine en ?_) | (with_reducible first | apply x_then | apply wp_seq | apply c_region | apply wp_block | apply wp_skip | apply wp_exit | apply wp_ret | apply wp_label | apply wp_scope_straight | apply x_ng | apply x_ng_ret | apply x_ng_exit | apply x_then_ret | apply x_then_exit | apply x_block | apply x_block_ret | apply x_block_exit | refine x_block_other (by decide) ?_))
      refine c_cond rfl (fun hi => ?_) (fun hi => ?_)
      · repeat (first | ((with_reducible apply is_st); refine su ?_) | ((with_reducible apply is_gd); first | refine gt ?_ | refine gf ?_ | refine gu ?_) | ((with_reducible apply is_en); refine en ?_) | (with_reducible first | apply x_then | apply wp_seq | apply c_region | apply wp_block | apply wp_skip | apply wp_exit | apply wp_ret | apply wp_label | apply wp_scope_straight | apply x_ng | apply x_ng_ret | apply x_ng_exit | apply x_then_ret | apply x_then_exit | apply x_block | apply x_block_ret | apply x_block_exit | refine x_block_other (by decide) ?_))
        refine c_drawl 6 [] (by kernel_rfl) (by kernel_rfl) (by kernel_rfl) (fun w8 hc8 hs8 => ?_)
        have hRd : (Ty.enc eH).Rd [] w8 (.slice (some ⟨bd, 0, none⟩) (ts.length - i) (ts.length + 1)) (ts.take (ts.length - i)) :=
          (hBd.ch hc8 (by simp)).rdP (by simp) (by rw [List.take_append_of_le_length (by rw [hfl]; exact Nat.mul_le_mul_right 32 (Nat.sub_le _ _)), flatMap_take eH.hl]) (by rw [List.length_take]; omega) (by omega) (by omega)
        have htk : (ts.take (ts.length - i)).length = ts.length - i := by rw [List.length_take]; omega
        repeat (first | ((with_reducible apply is_sg); refine sgu ?_) | ((with_reducible apply is_gg); first | refine gtg ?_ | refine gfg ?_ | refine gug ?_) | ((with_reducible apply is_eg); refine eg ?_))
        (try ((with_reducible apply is_gg); first | refine gtg ?_ | refine gfg ?_ | refine gug ?_)); refine ixg hRd (fun b1 o1 x1 hx1 hA1 => ?_)
        rw [List.getElem?_take, if_pos (by omega)] at hx1
        (try ((with_reducible apply is_gg); first | refine gtg ?_ | refine gfg ?_ | refine gug ?_)); refine ldrg hA1 ?_
        refine ldbrg (n := 32) (hB3.ch hc8 (by simp)) (by simp) rfl (ds := hx.1.map u8v) (by simp [List.take_of_length_le, hx.2]) (by simp [hx.2]) ?_
        (try ((with_reducible apply is_gg); first | refine gtg ?_ | refine gfg ?_ | refine gug ?_)); refine cag (fun w9 hc9 => node_any x1.1 hx.1 x1.2 hx.2 w9 (((hK.ch hc7 (by simp)).ch hc8 (by simp)).ch hc9 (by simp))) ?_
        refine lastg rfl (by kernel_rfl) (fun w9 hc9 => ?_)
        refine stbw (n := 32) ((hB3.ch hc8 (by simp)).ch hc9 (by simp)) rfl rfl (hv_len (nodeOf_len _ _)) (by simp [hx.2]) one_u8 (fun w10 hB10 hch10 hs10 => ?_)
        refine x_last rfl rfl (fun w11 hc11 => ?_)
        have hc711 : Ch [b3] w7 w11 := (((Ch.some hc8).add hc9).then hch10).add hc11
        repeat (first | ((with_reducible apply is_st); refine su ?_) | ((with_reducible apply is_gd); first | refine gt ?_ | refine gf ?_ | refine gu ?_) | ((with_reducible apply is_en); refine en ?_) | (with_reducible first | apply x_then | apply wp_seq | apply c_region | apply wp_block | apply wp_skip | apply wp_exit | apply wp_ret | apply wp_label | apply wp_scope_straight | apply x_ng | apply x_ng_ret | apply x_ng_exit | apply x_then_ret | apply x_then_exit | apply x_block | apply x_block_ret | apply x_block_exit | refine x_block_other (by decide) ?_))
        refine wl_val (r_cut_own rfl rfl (by omega) (by omega)) ?_
        repeat (first | ((with_reducible apply is_st); refine su ?_) | ((with_reducible apply is_gd); first | refine gt ?_ | refine gf ?_ | refine gu ?_) | ((with_reducible apply is_en); refine en ?_) | (with_reducible first | apply x_then | apply wp_seq | apply c_region | apply wp_block | apply wp_skip | apply wp_exit | apply wp_ret | apply wp_label | apply wp_scope_straight | apply x_ng | apply x_ng_ret | apply x_ng_exit | apply x_then_ret | apply x_then_exit | apply x_block | apply x_block_ret | apply x_block_exit | refine x_block_other (by decide) ?_))
        have hdrop : (ts.drop (ts.length - (i + 1))).foldr nodeH h = nodeH x1 hx := by
          have hlt : ts.length - (i + 1) < ts.length := by omega
          rw [List.drop_eq_getElem_cons hlt, List.foldr_cons, show ts.length - (i + 1) + 1 = ts.length - i by omega, hfd]
          congr 1
          rw [show (((ts.length - i : Nat) : Int) - 1).toNat = ts.length - (i + 1) by omega, List.getElem?_eq_getElem hlt] at hx1
          exact Option.some.inj hx1
        refine x_goes (k - 1) rfl (by omega) ⟨i + 1, exj (by rw [show (((ts.length - i : Nat) : Int) - 1).toNat = ts.length - (i + 1) by omega]; rfl), by omega, hc7.own hc711 (by omega), hB2.ch hc711 (by simp; omega), ?_, hB4.ch hc711 (by simp; omega), hBd.ch hc711 (by simp; omega)⟩
        rw [hdrop]
        exact hB10.ch hc11 (by simp)
      · repeat (first | ((with_reducible apply is_st); refine su ?_) | ((with_reducible apply is_gd); first | refine gt ?_ | refine gf ?_ | refine gu ?_) | ((with_reducible apply is_en); refine en ?_) | (with_reducible first | apply x_then | apply wp_seq | apply c_region | apply wp_block | apply wp_skip | apply wp_exit | apply wp_ret | apply wp_label | apply wp_scope_straight | apply x_ng | apply x_ng_ret | apply x_ng_exit | apply x_then_ret | apply x_then_exit | apply x_block | apply x_block_ret | apply x_block_exit | refine x_block_other (by decide) ?_))
        have hit : i = t := by omega
        subst hit
        have hadd : addH i ts h = ts.take (ts.length - i) ++ [hx] := by rw [← hfd]; rfl
        have hdL : ((ts.flatMap eH.f) ++ rest).length = (ts.length + 1) * 32 := by rw [List.length_append, hfl, hdl]; omega
        refine c_ordl 8 [bd] (FA bd ((ts.length + 1) * 32) (ts.length - i) (ts.take (ts.length - i)) hx) (by kernel_rfl) (by kernel_rfl) (by kernel_rfl) (fun w8 hc8 hs8 => ?_)
        have hB2 := hB2.ch hc8 (by simp)
        have hB3 := hB3.ch hc8 (by simp)
        have hB4 := hB4.ch hc8 (by simp)
        have hBd := hBd.ch hc8 (by simp)
        have hbdl := hBd.lt
        have hpre : (ts.flatMap eH.f ++ rest).take ((ts.length - i) * 32) = (ts.take (ts.length - i)).flatMap eH.f := by
          rw [List.take_append_of_le_length (by rw [hfl]; exact Nat.mul_le_mul_right 32 (Nat.sub_le _ _)), flatMap_take eH.hl]
        have hF0 : FA bd ((ts.length + 1) * 32) (ts.length - i) (ts.take (ts.length - i)) hx 0 w8 := ⟨_, hBd, hdL, hpre⟩
        (first | refine on 0 rfl ?_ | refine ont 0 rfl ?_ | refine onff 0 rfl ?_)
        refine onl 1 rfl hB2 (by simp; omega) rfl rfl ?_
        (first | refine on 2 rfl ?_ | refine ont 2 rfl ?_ | refine onff 2 rfl ?_); (first | refine on 3 rfl ?_ | refine ont 3 rfl ?_ | refine onff 3 rfl ?_)
        refine onlr 4 rfl (n := 32) hB3 (by simp; omega) rfl (ds := hx.1.map u8v) (by simp [List.take_of_length_le, hx.2]) (by simp [hx.2]) ?_
        refine on1 5 (by kernel_rfl) rfl (fun w9 hG9 => ?_)
        refine wl_buildSlice (parts := [(0, .tmp 53)]) (vs := [hv hx.1]) rfl rfl (by simp [hv, Value.cells, hx.2]) (by omega) (fun w10 bs hbs => ?_)
        refine x_wa (.inl (Gr.new stab_FA hbs.ch)) rfl ?_
        refine on1 6 (by kernel_rfl) rfl (fun w11 hG11 => ?_)
        obtain ⟨cs1, hCs, hCl, hCt⟩ := hG11.fin 0 (stab_FA 0 _ _ hbs.ch (hG9.fin 0 hF0))
        have hz9 := hG9.ch.size
        have ebs := hbs.at_
        have hbs11 := hbs.blk.ch hG11.ch (by simp; omega)
        have hroom : (ts.length - i) * 32 + ([hx].flatMap eH.f).length ≤ cs1.length := by
          rw [flatMap_len eH.hl, hCl]
          simp
          omega
        refine wl_append_room (en := eH) (n := 32) (m := ts.length - i) (ys := [hx]) rfl rfl hCs rfl (hbs11.row (n := 32) (o := 0) (ds := [hx].flatMap eH.f) (by simp [hv, Value.cells, List.take_of_length_le, hx.2])) (by simp) (by rw [hCl]; simp; omega) (fun w12 hD12 hch12 hs12 => ?_)
        have hFF : ∀ q, FA bd ((ts.length + 1) * 32) (ts.length - i) (ts.take (ts.length - i)) hx q w12 := by
          intro q
          cases q with
          | zero => exact ⟨_, hD12, by rw [spl_length hroom, hCl], by rw [spl_keep hroom, hCt]⟩
          | succ q =>
            refine ⟨_, hD12, by rw [spl_length hroom, hCl], ?_⟩
            have h1 := spl_take hroom
            have h2 : ([hx].flatMap eH.f).length = 32 := flatMap_len eH.hl [hx]
            rw [h2, hCt, ← Nat.succ_mul] at h1
            rw [h1, List.flatMap_append]
        refine x_wa (.inl (Gr.of hch12 hFF)) rfl ?_
        refine onv 7 rfl (by kernel_rfl) (by kernel_rfl) (fun w1 _ => r_build2 Tryd.underlying51 rfl rfl rfl rfl rfl rfl rfl rfl rfl rfl) rfl ?_
        refine on1 8 (by kernel_rfl) rfl (fun w13 hG13 => ?_)
        have hcc : Ch [bd] w8 w13 := (((hG9.ch.add hbs.ch).then hG11.ch).then hch12).then hG13.ch
        refine stbw (n := 2) (vs := [.int .i64 ((m : Int) + 1), .slice (some ⟨bd, 0, none⟩) (ts.length - i + 1) (ts.length + 1)]) (hB4.ch hcc (by simp; omega)) rfl rfl rfl rfl one_pk (fun w14 hB14 hch14 hs14 => ?_)
        refine x_wa (.inr rfl) rfl ?_
        (first | refine on 9 rfl ?_ | refine ont 9 rfl ?_ | refine onff 9 rfl ?_)
        refine wa_done (by kernel_rfl) (fun w15 hG15 => ?_)
        have hF13 := hG13.fin 1 (hFF 1)
        have hF14 : FA bd ((ts.length + 1) * 32) (ts.length - i) (ts.take (ts.length - i)) hx 1 w14 := by
          obtain ⟨cs2, h1, h2, h3⟩ := hF13
          exact ⟨cs2, h1.ch hch14 (by simp; omega), h2, h3⟩
        obtain ⟨cs3, hD, hDl, hDt⟩ := hG15.fin 1 hF14
        have hcw : Ch [] w w15 := (((hc7.then hc8).own hcc (by omega)).own hch14 (by omega)).own hG15.ch (by omega)
        repeat (first | ((with_reducible apply is_st); refine su ?_) | ((with_reducible apply is_gd); first | refine gt ?_ | refine gf ?_ | refine gu ?_) | ((with_reducible apply is_en); refine en ?_) | (with_reducible first | apply x_then | apply wp_seq | apply c_region | apply wp_block | apply wp_skip | apply wp_exit | apply wp_ret | apply wp_label | apply wp_scope_straight | apply x_ng | apply x_ng_ret | apply x_ng_exit | apply x_then_ret | apply x_then_exit | apply x_block | apply x_block_ret | apply x_block_exit | refine x_block_other (by decide) ?_))
        refine outc2 rfl rfl ((hB14.ch hG15.ch (by simp; omega)).row (n := 2) (o := 0) rfl) rfl ⟨hcw, .inl ⟨hok, _, rfl, fun S hS => ?_⟩⟩
        rw [hadd]
        exact hD.rdP (fun hm => by have := hS _ hm; have := hc4.size; omega) hDt (by rw [List.length_append, List.length_take]; simp) (by omega) (by omega)
end Go.Proofs.YtbecfcnbgeeghaaDoor
